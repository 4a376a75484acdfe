import Derived.Test.YteahajcgbogjkaaGreatG4
import Derived.Shelf.Spec.SlicesInsertGrow
import Derived.Shelf.Slices.Delete
import Derived.Test.YteahajcgbogjkaaGreatG3
import Derived.Lib.AppendZerosOnto
/- Calls that are put off: what a function does that puts calls off, and its run. -/
namespace Go.Proofs.YteahajcgbogjkaaGreat.AL
set_option linter.unusedVariables false
set_option linter.unusedSimpArgs false
open Go

variable {G : Rnd} {ρ ρ' : Env} {h h' : AHeap} {w w' : World} {P : Program}

/-- A call that is put off: whom, with what. -/
abbrev ADef := Nat × List AVal
/-- A call that was put off, made: it returns, and the frame below goes on returning. -/
def ACallsD (P : Program) (f : FuncId) (args : List AVal) (h : AHeap) (R : AHeap → Prop) : Prop :=
  ∀ (ρ : Env) (w : World) (us : Array Value), Rel ρ h w → VRs ρ h w args us →
    CallsDIn (FW none) 0 P f us .returning w fun e u' w' => u' = .returning ∧ ∃ ρ' h', (∃ u, e = .returned u) ∧ Evo ρ h w ρ' h' w' ∧ Rel ρ' h' w' ∧ R h'
theorem ACallsD.mono {f : FuncId} {args : List AVal} {R R' : AHeap → Prop} (hc : ACallsD P f args h R) (hr : ∀ g, R g → R' g) : ACallsD P f args h R' :=
  fun ρ w us hR hv => (hc ρ w us hR hv).mono fun _ _ _ ⟨h0, ρ', h', h1, h2, h3, h4⟩ => ⟨h0, ρ', h', h1, h2, h3, hr _ h4⟩
def DefR (P : Program) (ρ : Env) (h : AHeap) (w : World) (x : ADef) (d : Deferred) : Prop :=
  ∃ xs us, d = { target := .fn (.func x.1) xs, args := us } ∧ callable P x.1 = true ∧ VRs ρ h w x.2 (us ++ xs)
/-- All that was put off: marks, and calls. -/
def DL (P : Program) (lo : Nat) (ρ : Env) (h : AHeap) (w : World) : List ADef → List Deferred → Prop
  | ads, [] => ads = []
  | ads, d :: ds => (d ∉ ds ∧ (∃ c, d = mkD c ∧ lo ≤ c ∧ w.heap[c]? = some (.deferred (some [])) ∧ ¬ Owned ρ h c) ∧ DL P lo ρ h w ads ds) ∨
      (∃ x xs, ads = x :: xs ∧ DefR P ρ h w x d ∧ DL P lo ρ h w xs ds)
theorem DL.evo {lo : Nat} (e : Evo ρ h w ρ' h' w') : ∀ {ds : List Deferred} {ads : List ADef}, DL P lo ρ h w ads ds → DL P lo ρ' h' w' ads ds
  | [], _, hd => hd
  | d :: ds, ads, hd => by
    rcases hd with ⟨h1, ⟨c, h2, h3, h4, h5⟩, h6⟩ | ⟨x, xs, h1, ⟨ys, us, h2, h3, h4⟩, h5⟩
    · obtain ⟨h7, h8⟩ := e.keep c (lt_of_get h4) h5
      exact .inl ⟨h1, ⟨c, h2, h3, h7.trans h4, h8⟩, DL.evo e h6⟩
    · exact .inr ⟨x, xs, h1, ⟨ys, us, h2, h3, h4.evo e⟩, DL.evo e h5⟩
theorem DL.shut {lo lo' c : Nat} (hs : Shut lo' ρ h w (w.putObj c (.deferred none))) : ∀ {ds : List Deferred} {ads : List ADef}, mkD c ∉ ds → DL P lo ρ h w ads ds → DL P lo ρ h (w.putObj c (.deferred none)) ads ds
  | [], _, _, hd => hd
  | d :: ds, ads, hn, hd => by
    have hn' : mkD c ∉ ds := fun hm => hn (List.mem_cons_of_mem _ hm)
    rcases hd with ⟨h1, ⟨c', h2, h3, h4, h5⟩, h6⟩ | ⟨x, xs, h1, ⟨ys, us, h2, h3, h4⟩, h5⟩
    · have hne : c' ≠ c := fun e => by subst e; subst h2; exact hn (List.mem_cons_self ..)
      exact .inl ⟨h1, ⟨c', h2, h3, (World.putObj_heap_other hne).trans h4, h5⟩, DL.shut hs hn' h6⟩
    · exact .inr ⟨x, xs, h1, ⟨ys, us, h2, h3, ⟨h4.1, fun i hi => hs.vr (h4.2 i hi)⟩⟩, DL.shut hs hn' h5⟩
theorem DL.front {lo : Nat} {base : List Deferred} {ads : List ADef} (hb : DL P lo ρ h w ads base) : ∀ (ms : List Deferred), ms.Nodup →
    (∀ d ∈ ms, d ∉ base ∧ ∃ c, d = mkD c ∧ lo ≤ c ∧ w.heap[c]? = some (.deferred (some [])) ∧ ¬ Owned ρ h c) → DL P lo ρ h w ads (ms ++ base)
  | [], _, _ => hb
  | d :: ms, hn, hm => .inl ⟨fun hd => (List.mem_append.1 hd).elim (List.nodup_cons.1 hn).1 (hm d (List.mem_cons_self ..)).1, (hm d (List.mem_cons_self ..)).2,
      DL.front hb ms (List.nodup_cons.1 hn).2 fun d hd => hm d (List.mem_cons_of_mem _ hd)⟩
theorem DL.old {lo : Nat} : ∀ {ds : List Deferred} {ads : List ADef}, DL P lo ρ h w ads ds → ∀ c, mkD c ∈ ds → c < w.heap.size
  | [], _, _, c, hc => by simp at hc
  | d :: ds, ads, hd, c, hc => by
    rcases List.mem_cons.1 hc with rfl | hc
    · rcases hd with ⟨h1, ⟨c', h2, h3, h4, h5⟩, h6⟩ | ⟨x, xs, h1, ⟨ys, us, h2, h3, h4⟩, h5⟩
      · simp only [mkD, Deferred.mk.injEq, Target.collected.injEq, and_true] at h2
        subst h2; exact lt_of_get h4
      · simp [mkD] at h2
    · rcases hd with ⟨h1, _, h6⟩ | ⟨x, xs, h1, _, h5⟩
      · exact DL.old h6 c hc
      · exact DL.old h5 c hc

/-- How a body leaves: what was put off is done, the latest first; then the results are read. -/
def ALeave (P : Program) (fn : Func) (h0 : AHeap) (R : AEnd → AHeap → Prop) : List ADef → List AVal → AHeap → Prop
  | [], a, h => aResults P fn a h fun v => ABody.AEnds h0 h (.ret v) R
  | x :: xs, a, h => ACallsD P x.1 x.2 h fun h' => h.length ≤ h'.length → ALeave P fn h0 R xs a h'
theorem run_put_off {i : FuncId} {us xs : Array Value} {w : World} (hc : callable P i = true) : (invoke (.fn (.func i) xs) us).run P w = .ok (.enter i (us ++ xs)) w := by
  unfold callable at hc
  cases hfn : P.funcs[i]? with
  | none => rw [hfn] at hc; simp at hc
  | some fn =>
    rw [hfn] at hc
    simp only [Bool.and_eq_true, Bool.not_eq_true'] at hc
    obtain ⟨h1, h2⟩ := hc
    have h3 : fn.body.isNone = false := by cases hb : fn.body <;> simp_all
    simp only [invoke, callFunc, Sem.run_bind, run_program, Result.andThen_ok, hfn, h1, h3, Bool.false_eq_true, if_false, Sem.run_pure]
theorem shut_mark {lo c : Nat} (hlo : lo ≤ c) (ho : ¬ Owned ρ h c) (hc : w.heap[c]? = some (.deferred (some []))) : Shut lo ρ h w (w.putObj c (.deferred none)) := by
  refine ⟨⟨rfl, rfl, rfl⟩, by simp, fun k => ?_⟩
  by_cases hkc : k = c
  · subst hkc; exact .inr ⟨hlo, ho, _, _, hc, World.putObj_heap_same (lt_of_get hc)⟩
  · exact .inl (World.putObj_heap_other hkc)
theorem leavesD {fn : Func} {tmps : Array Value} {a : List AVal} {R : AEnd → AHeap → Prop} {ρ0 : Env} {h0 : AHeap} {w0 : World} : ∀ (ds : List Deferred) (ads : List ADef) (ρ : Env) (h : AHeap) (w : World), Evo ρ0 h0 w0 ρ h w → Rel ρ h w →
    a.length = tmps.size → (∀ (i : Nat) (hi : i < a.length), VR ρ h w a[i] (tmps.getD i undef)) → DL P w0.heap.size ρ h w ads ds → ALeave P fn h0 R ads a h →
    LeavesInM (FW none) 0 P fn tmps (fun e w' => ∃ ρ' h' e', Evo ρ0 h0 w0 ρ' h' w' ∧ Rel ρ' h' w' ∧ EndR ρ' h' w' e' e ∧ R e' h') ds .returning w
  | [], ads, ρ, h, w, ev, hR, hl, hs, hd, hA => by
    have hd' : ads = [] := hd
    subst hd'
    have ha2 : AR ⟨none, 0, []⟩ ρ h w a { tmps := tmps, defers := [] } := ⟨hl, hs, ARest.start _ _ _ _ (Nat.zero_le _)⟩
    obtain ⟨u, v, h1, h2, h3⟩ := aResults_sound (P := P) hR ha2 hA
    obtain ⟨g, e2, hl2, hr, hh⟩ := h3
    obtain ⟨g1, g2, g3⟩ := hh ρ w _ hR (.ret v u h2)
    exact ⟨u, h1, ρ, g, e2, ev.fewer g1 hl2, g2, g3, hr⟩
  | d :: ds, ads, ρ, h, w, ev, hR, hl, hs, hd, hA => by
    refine ⟨by simp, ?_⟩
    rcases hd with ⟨h1, ⟨c, rfl, hlo, hc, ho⟩, h6⟩ | ⟨x, xs, rfl, ⟨ys, us, rfl, hcal, hv⟩, h5⟩
    · have hs' := shut_mark (ρ := ρ) (h := h) hlo ho hc
      exact .inl ⟨c, _, rfl, run_takeDeferred hc, leavesD ds ads ρ h _ (hs'.evo (Nat.le_refl _) ev) (hs'.rel hR) hl (fun i hi => hs'.vr (hs i hi)) (h6.shut hs' h1) hA⟩
    · refine .inr ⟨fun hh => by simp at hh, .func x.1, ys, x.1, us ++ ys, rfl, run_put_off hcal, fun g hg => trivial, ?_⟩
      refine (hA ρ w _ hR hv).mono ?_
      rintro e u' w' ⟨rfl, ρ', h', ⟨u, rfl⟩, ev', hR', hA'⟩
      exact leavesD ds xs ρ' h' w' (ev.trans ev') hR' hl (fun i hi => (hs i hi).evo ev') (h5.evo ev') (hA' ev'.ids)

/-! ### A function that is called behind another's end -/
theorem marks_steps {fn : FuncId} {lo : Nat} (ho : (FW none).fn fn) {cs : List Frame} : ∀ (ds : List Deferred) (w : World) (fr : Frame), fr.mode = .returning → fr.defers = ds → fr.fn = fn → (FW none).room (cs.length + 1 + 0) → ds.Nodup →
    (∀ d ∈ ds, ∃ c, d = { target := .collected c, args := #[] } ∧ lo ≤ c ∧ w.heap[c]? = some (.deferred (some [])) ∧ ¬ Owned ρ h c) →
    ∃ w', Shut lo ρ h w w' ∧ StepsIn (Machine.fenced P (FW none)) P (lone fr cs w) (lone { fr with defers := [] } cs w')
  | [], w, fr, hm, hd, hf, hr, _, _ => ⟨w, .refl lo w, by
      have : ({ fr with defers := [] } : Frame) = fr := by cases fr; simp only at hd; subst hd; rfl
      rw [this]; exact StepsIn.refl _⟩
  | d :: ds, w, fr, hm, hd, hf, hr, hn, hk => by
    obtain ⟨c, rfl, hlo, hc, hno⟩ := hk d (List.mem_cons_self ..)
    have hn' := List.nodup_cons.1 hn
    have hs := shut_mark (ρ := ρ) (h := h) hlo hno hc
    have h1 := step_collected (P := P) (cs := cs) (fr := fr) (hm ▸ (by simp)) hd rfl (run_takeDeferred hc)
    have i1 : (lone fr cs w).fenced P (FW none) := fenced_out (n := 0) (F := FW none) (hf ▸ ho) hr (hm ▸ (by simp)) hd (fun g hg => trivial)
    obtain ⟨w', h2, h3⟩ := marks_steps (lo := lo) ho ds (w.putObj c (.deferred none)) { fr with defers := [] ++ ds } hm rfl hf hr hn'.2 fun d' hm' => by
      obtain ⟨c', rfl, g1, g2, g3⟩ := hk d' (List.mem_cons_of_mem _ hm')
      have hne : c' ≠ c := fun e => by subst e; exact hn'.1 hm'
      exact ⟨c', rfl, g1, (World.putObj_heap_other hne).trans g2, g3⟩
    exact ⟨w', hs.trans h2, .head i1 h1 h3⟩
theorem acallsD_body {f : FuncId} {fn : Func} {c : Code} {args : List AVal} {R : AHeap → Prop} (hf : P.funcs[f]? = some fn) (hb : fn.body = some c)
    (hc : AWp P c (ABody P fn h (fun e g => (∃ v, e = .ret v) ∧ R g)) (args ++ List.replicate (fn.ntmps - args.length) .any) h) : ACallsD P f args h R := by
  intro ρ w us hR hv
  refine ⟨trivial, fun c₀ cs hu hr => ?_⟩
  let b : Frame := { (default : Frame) with fn := f, kind := .deferred, roundOf := none }
  have henter : Frame.enter P f us .deferred = b.atR { tmps := us ++ Array.replicate (fn.ntmps - us.size) undef, defers := [] } [.code c] := by
    simp [Frame.enter, Frame.atR, hf, hb, b]
  have hc0 : ({ c₀ with mode := .returning } : Frame) = c₀ := by rw [← hu]
  have har : AR ⟨none, w.heap.size, []⟩ ρ h w (args ++ List.replicate (fn.ntmps - args.length) .any) { tmps := us ++ Array.replicate (fn.ntmps - us.size) undef, defers := [] } := by
    refine ⟨by simp [hv.1], fun i hi => ?_, ARest.start _ _ _ _ (Nat.le_refl _)⟩
    rcases Nat.lt_or_ge i args.length with h1 | h1
    · rw [List.getElem_append_left h1]
      have := hv.2 i h1
      have h2 : i < us.size := by rw [← hv.1]; exact h1
      have h3 : i < (us ++ Array.replicate (fn.ntmps - us.size) undef).size := by simp; omega
      simp only [Array.getD, h2, h3, dif_pos] at this ⊢
      show VR ρ h w _ ((us ++ Array.replicate (fn.ntmps - us.size) undef)[i])
      rw [Array.getElem_append_left h2]
      exact this
    · rw [List.getElem_append_right h1, List.getElem_replicate]; exact .any _
  obtain ⟨e, a', w', ⟨ρ', h', av, ev, hR', ha', hq⟩, harr⟩ := hc ⟨none, w.heap.size, []⟩ ρ w _ hR har b [] (c₀ :: cs) rfl trivial hr
  rw [← henter] at harr
  obtain ⟨hnd, hmk⟩ := ha'.plain.marked rfl
  have fin : aResults P fn av h' (fun v => ABody.AEnds h h' (.ret v) (fun e g => (∃ v, e = .ret v) ∧ R g)) → ∀ todo, StepsIn (Machine.fenced P (FW none)) P (lone (Frame.enter P f us .deferred) (c₀ :: cs) w) (lone { b.atR a' todo with mode := .returning } (c₀ :: cs) w') →
      ∃ e u' w' fr, (u' = .returning ∧ ∃ ρ' h', (∃ u, e = .returned u) ∧ Evo ρ h w ρ' h' w' ∧ Rel ρ' h' w' ∧ R h') ∧ ComesIn (Machine.fenced P (FW none)) P (lone (Frame.enter P f us .deferred) (c₀ :: cs) w) (lone fr ({ c₀ with mode := u' } :: cs) w') e ∧ fr.kind = .deferred ∧ fr.fn = f ∧ fr.going P w' e := by
    intro hq todo hs
    obtain ⟨w2, hsh, hst⟩ := marks_steps (P := P) (fn := f) (lo := w.heap.size) (cs := c₀ :: cs) trivial a'.defers w' { b.atR a' todo with mode := .returning } rfl rfl rfl hr hnd hmk
    have ha2 : AR ⟨none, 0, []⟩ ρ' h' w2 av { tmps := a'.tmps, defers := [] } := ⟨ha'.size, fun i hi => hsh.vr (ha'.slot i hi), ARest.start _ _ _ _ (Nat.zero_le _)⟩
    obtain ⟨u, v, h1, h2, h3⟩ := aResults_sound (P := P) (hsh.rel hR') ha2 hq
    obtain ⟨g, e2, hl2, ⟨_, hr2⟩, hh⟩ := h3
    obtain ⟨g1, g2, g3⟩ := hh ρ' w2 _ (hsh.rel hR') (.ret v u h2)
    refine ⟨.returned u, .returning, w2, { b.atR a' todo with mode := .returning, defers := [] }, ⟨rfl, ρ', g, ⟨u, rfl⟩, (hsh.evo (Nat.le_refl _) ev).fewer g1 hl2, g2, hr2⟩, ?_, rfl, rfl, rfl, rfl, fn, hf, h1⟩
    rw [hc0]
    exact StepsIn.trans hs hst
  cases e with
  | normal => exact fin hq [] (StepsIn.trans harr (.one (fenced_calm (F := FW none) (n := 0) (fr := b.atR a' []) trivial hr rfl) (stepR_end rfl)))
  | ret =>
    obtain ⟨todo, hs⟩ := harr.1 rfl
    exact fin hq todo hs
  | panic ch =>
    obtain ⟨g, e2, _, ⟨⟨v, rfl⟩, _⟩, hh⟩ := hq
    obtain ⟨_, _, g3⟩ := hh ρ' w' (.panicked ch) hR' (.panic ch)
    cases g3
  | exit id => exact hq.elim
  | goto l => exact hq.elim
  | outgrown => exact hq.elim

/-! ### Code that puts calls off -/
abbrev AQD := Exit → List ADef → List AVal → AHeap → Prop
def AWpD (P : Program) (c : Code) (Q : AQD) (ds : List ADef) (a : List AVal) (h : AHeap) : Prop :=
  ∀ (G : Rnd) (ρ : Env) (w : World) (ca : Act), G.ro = none → Rel ρ h w → AR G ρ h w a ca → DL P G.lo ρ h w ds G.base →
    c.wpIn (FW none) 0 P (fun e ca' w' => ∃ G' ρ' h' a' ds', G'.ro = none ∧ G'.lo = G.lo ∧ Evo ρ h w ρ' h' w' ∧ Rel ρ' h' w' ∧ AR G' ρ' h' w' a' ca' ∧ DL P G.lo ρ' h' w' ds' G'.base ∧ Q e ds' a' h') ca w
section rules
variable {Q Q' : AQD} {a : List AVal} {ds : List ADef}
theorem awpD_mono {c : Code} (hc : AWpD P c Q ds a h) (hq : ∀ e ds a h, Q e ds a h → Q' e ds a h) : AWpD P c Q' ds a h :=
  fun G ρ w ca h0 hR ha hd => wpIn_mono (hc G ρ w ca h0 hR ha hd) fun _ _ _ ⟨G', ρ', h', a', ds', h1, h2, h3, h4, h5, h6, h7⟩ => ⟨G', ρ', h', a', ds', h1, h2, h3, h4, h5, h6, hq _ _ _ _ h7⟩
theorem awpD_lift {c : Code} (hc : AWp P c (fun e a' h' => Q e ds a' h') a h) : AWpD P c Q ds a h := by
  intro G ρ w ca h0 hR ha hd
  have := hc G ρ w ca hR ha
  rw [h0] at this
  exact wpIn_mono this fun _ _ _ ⟨ρ', h', a', h1, h2, h3, h4⟩ => ⟨G, ρ', h', a', ds, h0, rfl, h1, h2, h3, hd.evo h1, h4⟩
theorem awpD_weak {c : Code} {b : List AVal} (hw : Weak a b) (hc : AWpD P c Q ds b h) : AWpD P c Q ds a h :=
  fun G ρ w ca h0 hR ha hd => hc G ρ w ca h0 hR (ha.weak hw) hd
def AThenD (next : List ADef → List AVal → AHeap → Prop) (Q : AQD) : AQD
  | .normal, ds, a, h => next ds a h
  | e, ds, a, h => Q e ds a h
theorem awpD_seq {x y : Code} (hx : AWpD P x (AThenD (AWpD P y Q) Q) ds a h) : AWpD P (.seq x y) Q ds a h := by
  intro G ρ w ca h0 hR ha hd
  refine wpIn_seq (wpIn_mono (hx G ρ w ca h0 hR ha hd) ?_)
  rintro e ca' w' ⟨G', ρ', h', a', ds', g1, g2, he, hR', ha', hd', hq⟩
  cases e with
  | normal => exact wpIn_mono (hq G' ρ' w' ca' g1 hR' ha' (g2 ▸ hd')) fun _ _ _ ⟨G2, ρ2, h2, a2, ds2, i1, i2, e2, r2, s2, d2, q2⟩ => ⟨G2, ρ2, h2, a2, ds2, i1, i2.trans g2, he.trans e2, r2, s2, g2 ▸ d2, q2⟩
  | exit id => exact ⟨G', ρ', h', a', ds', g1, g2, he, hR', ha', hd', hq⟩
  | goto l => exact ⟨G', ρ', h', a', ds', g1, g2, he, hR', ha', hd', hq⟩
  | ret => exact ⟨G', ρ', h', a', ds', g1, g2, he, hR', ha', hd', hq⟩
  | panic c => exact ⟨G', ρ', h', a', ds', g1, g2, he, hR', ha', hd', hq⟩
  | outgrown => exact ⟨G', ρ', h', a', ds', g1, g2, he, hR', ha', hd', hq⟩
def AInBlockD (id : Nat) (Q : AQD) : AQD
  | .exit id', ds, a, h => if id' = id then Q .normal ds a h else Q (.exit id') ds a h
  | e, ds, a, h => Q e ds a h
theorem awpD_block {id : Nat} {c : Code} (hc : AWpD P c (AInBlockD id Q) ds a h) : AWpD P (.block id c) Q ds a h := by
  intro G ρ w ca h0 hR ha hd
  refine wpIn_block (wpIn_mono (hc G ρ w ca h0 hR ha hd) ?_)
  rintro e ca' w' ⟨G', ρ', h', a', ds', g1, g2, he, hR', ha', hd', hq⟩
  cases e with
  | exit id' =>
    simp only [Exit.inBlock]
    by_cases hid : id' = id
    · simp only [AInBlockD, hid, if_true] at hq ⊢; exact ⟨G', ρ', h', a', ds', g1, g2, he, hR', ha', hd', hq⟩
    · simp only [AInBlockD, hid, if_false] at hq ⊢; exact ⟨G', ρ', h', a', ds', g1, g2, he, hR', ha', hd', hq⟩
  | normal => exact ⟨G', ρ', h', a', ds', g1, g2, he, hR', ha', hd', hq⟩
  | goto l => exact ⟨G', ρ', h', a', ds', g1, g2, he, hR', ha', hd', hq⟩
  | ret => exact ⟨G', ρ', h', a', ds', g1, g2, he, hR', ha', hd', hq⟩
  | panic c => exact ⟨G', ρ', h', a', ds', g1, g2, he, hR', ha', hd', hq⟩
  | outgrown => exact ⟨G', ρ', h', a', ds', g1, g2, he, hR', ha', hd', hq⟩
theorem awpD_cond {c : Operand} {x y : Code} {b : Bool} (hc : aEval a c = .lit (.bool b)) (ht : b = true → AWpD P x Q ds a h) (hf : b = false → AWpD P y Q ds a h) : AWpD P (.cond c x y) Q ds a h := by
  intro G ρ w ca h0 hR ha hd
  have hv := ha.eval c
  rw [hc] at hv
  generalize hu : ca.eval c = u at hv
  cases hv
  exact wpIn_cond_split hu (fun h1 => ht h1 G ρ w ca h0 hR ha hd) (fun h1 => hf h1 G ρ w ca h0 hR ha hd)
/-- Some of a region's operations, in order; then the others. -/
theorem wOps_then {ops : Array Oper} {Q : AQ} {QC : Exit → Act → World → Prop} {rest : List Oper} : ∀ (l : List Oper) (k : Nat) (a : List AVal) (h : AHeap) (ρ : Env) (w : World) (ca : Act), ops.toList.drop k = l ++ rest → Rel ρ h w → AR G ρ h w a ca → WOps P ops Q l a h →
    (∀ ρ' h' w' a' ca', Evo ρ h w ρ' h' w' → Rel ρ' h' w' → AR G ρ' h' w' a' ca' → Q .normal a' h' → wpOpsIn (FW G.ro) 0 P ops QC (List.range' (k + l.length) (ops.size - (k + l.length))) ca' w') →
    wpOpsIn (FW G.ro) 0 P ops QC (List.range' k (ops.size - k)) ca w
  | [], k, a, h, ρ, w, ca, hd, hR, ha, hA, hk => by
    obtain ⟨b, hwk, hA⟩ := hA
    exact hk ρ h w b ca (.refl ..) hR (ha.weak hwk) hA
  | o :: l, k, a, h, ρ, w, ca, hd, hR, ha, hA, hk => by
    have hlt : k < ops.size := by
      have := congrArg List.length hd
      simp at this; omega
    have hd2 : ops.toList.drop k = ops[k] :: ops.toList.drop (k + 1) := by
      rw [List.drop_eq_getElem_cons (by simpa using hlt)]; simp
    rw [hd2] at hd
    simp only [List.cons_append, List.cons.injEq] at hd
    obtain ⟨rfl, hd⟩ := hd
    have hr : List.range' k (ops.size - k) = k :: List.range' (k + 1) (ops.size - (k + 1)) := by
      have : ops.size - k = (ops.size - (k + 1)) + 1 := by omega
      rw [this, List.range'_succ]
    rw [hr]
    simp only [wpOpsIn, Array.getElem?_eq_getElem hlt]
    obtain ⟨b, hwk, hA⟩ := hA
    have ha := ha.weak hwk
    have hlen : k + (ops[k] :: l).length = k + 1 + l.length := by simp only [List.length_cons]; omega
    rw [hlen] at hk
    rcases hA with ⟨hw, h1⟩ | ⟨hw, h1⟩
    · rw [if_pos (want2_wanted ha hw)]
      exact aOper_sound hR ha h1 (fun ρ' h' w' a' ca' ev hR' ha' hK => wOps_then l (k + 1) a' h' ρ' w' ca' hd hR' ha' hK fun ρ2 h2 w2 a2 ca2 ev2 hR2 ha2 hq => hk ρ2 h2 w2 a2 ca2 (ev.trans ev2) hR2 ha2 hq)
        (fun c ρ' h' w' a' ca' ev hR' ha' hq => hq.elim)
    · rw [if_neg (by rw [want2_wanted ha hw]; simp)]
      exact ⟨fun _ _ => trivial, wOps_then l (k + 1) _ h ρ w _ hd hR (ha.put (.lit undef) _) h1 hk⟩
def ADefer (P : Program) (o : Oper) (ds : List ADef) (a : List AVal) (h : AHeap) (Q : AQD) : Prop :=
  o.guard = none ∧ ∃ fv args tys i vs ws, o.op = .defer { callee := .value fv, args, argTypes := tys } ∧ aEval a fv = .fn (.func i) vs ws ∧ callable P i = true ∧ Q .normal ((i, vs ++ evs a args ++ ws) :: ds) (aset a o.dst skipV) h
theorem awpD_region {id : Nat} {ops : Array Oper} {l : List Oper} {o : Oper} (hl : ops.toList = l ++ [o]) (hA : WOps P ops (fun _ b g => ADefer P o ds b g Q) l a h) : AWpD P (.region id ops false) Q ds a h := by
  intro G ρ w ca h0 hR ha hd
  refine wpIn_region ?_
  rw [List.range_eq_range']
  have hsz : ops.size = l.length + 1 := by
    have := congrArg List.length hl
    simpa using this
  have key := wOps_then (G := G) (P := P) (ops := ops) (rest := [o]) (QC := fun e ca' w' => ∃ G' ρ' h' a' ds', G'.ro = none ∧ G'.lo = G.lo ∧ Evo ρ h w ρ' h' w' ∧ Rel ρ' h' w' ∧ AR G' ρ' h' w' a' ca' ∧ DL P G.lo ρ' h' w' ds' G'.base ∧ Q e ds' a' h') l 0 a h ρ w ca (by simpa using hl) hR ha hA ?_
  · rw [h0, Nat.sub_zero] at key
    exact key
  rintro ρ' h' w' b ca' ev hR' ha' ⟨hg, fv, args, tys, i, vs, ws, ho, hf, hcal, hq⟩
  rw [h0, hsz]
  have : l.length + 1 - (0 + l.length) = 1 := by omega
  rw [this, Nat.zero_add]
  have hol : ops[l.length]? = some o := by
    rw [← Array.getElem?_toList, hl]; simp
  show (match ops[l.length]? with
    | none => _
    | some o => _)
  rw [hol]
  simp only
  have hwt : Region.wanted o (yielded ops ca'.tmps) = true := by unfold Region.wanted; rw [hg]
  rw [if_pos hwt]
  have hv := ha'.eval fv
  rw [hf] at hv
  generalize hu : ca'.eval fv = u at hv
  cases hv with | fn _ _ _ us xs hl1 hl2 hv hw =>
  refine ⟨fun _ _ => trivial, ?_⟩
  have hx : (Oper.semAt none ca'.eval o).run P w' = .ok (.defer { target := .fn (.func i) xs, args := us ++ args.map ca'.eval }) w' := by
    rw [Oper.semAt_none]
    unfold execOp
    rw [ho]
    simp only [resolve, hu, Deferred.ofValue, Sem.run_bind, Sem.run_pure, Result.andThen_ok]
  show o.uponIn (FW none) 0 P ca' _ _ ((Oper.semAt none ca'.eval o).run P w')
  rw [hx, Oper.uponIn_defer]
  obtain ⟨ms, g1, g2, g3⟩ := ha'.plain.all
  have hdl : DL P G.lo ρ' h' w' ds ca'.defers := by
    rw [g1]; exact (hd.evo ev).front ms g2 g3
  have hdn : DL P G.lo ρ' h' w' ((i, vs ++ evs b args ++ ws) :: ds) ({ target := .fn (.func i) xs, args := us ++ args.map ca'.eval } :: ca'.defers) :=
    .inr ⟨_, _, rfl, ⟨xs, _, rfl, hcal, evs_args ha' args ⟨hl1, hv⟩ ⟨hl2, hw⟩⟩, hdl⟩
  refine ⟨⟨none, G.lo, { target := .fn (.func i) xs, args := us ++ args.map ca'.eval } :: ca'.defers⟩, ρ', h', _, _, rfl, rfl, ev, hR', ?_, hdn, hq⟩
  have h1 : AR ⟨none, G.lo, { target := .fn (.func i) xs, args := us ++ args.map ca'.eval } :: ca'.defers⟩ ρ' h' w' b { ca' with defers := { target := .fn (.func i) xs, args := us ++ args.map ca'.eval } :: ca'.defers } :=
    ⟨ha'.size, ha'.slot, ⟨⟨[], rfl, List.nodup_nil, fun d hd => by simp at hd⟩, fun c hc => hdn.old c hc, fun l hl => (by cases hl), ha'.plain.lo⟩⟩
  exact h1.put (.lit undef) _
def ABodyD (P : Program) (fn : Func) (h0 : AHeap) (R : AEnd → AHeap → Prop) : AQD
  | .normal, ds, a, h | .ret, ds, a, h => ALeave P fn h0 R ds a h
  | _, _, _, _ => False
theorem acalls_bodyD {f : FuncId} {fn : Func} {c : Code} {args : List AVal} {R : AEnd → AHeap → Prop} (hf : P.funcs[f]? = some fn) (hb : fn.body = some c)
    (hc : AWpD P c (fun e ds a g => h.length ≤ g.length → ABodyD P fn h R e ds a g) [] (args ++ List.replicate (fn.ntmps - args.length) .any) h) : ACalls P f args h R := by
  intro ρ w us hR hv
  refine (callsIn_wide (n := 0)).1 (callsIn_of_wp_marks (F := FW none) hf hb trivial (wpIn_mono (hc ⟨none, w.heap.size, []⟩ ρ w _ rfl hR ?_ rfl) ?_) rfl)
  · refine ⟨by simp [hv.1], fun i hi => ?_, ARest.start _ _ _ _ (Nat.le_refl _)⟩
    rcases Nat.lt_or_ge i args.length with h1 | h1
    · rw [List.getElem_append_left h1]
      have := hv.2 i h1
      have h2 : i < us.size := by rw [← hv.1]; exact h1
      have h3 : i < (us ++ Array.replicate (fn.ntmps - us.size) undef).size := by simp; omega
      simp only [Array.getD, h2, h3, dif_pos] at this ⊢
      show VR ρ h w _ ((us ++ Array.replicate (fn.ntmps - us.size) undef)[i])
      rw [Array.getElem_append_left h2]
      exact this
    · rw [List.getElem_append_right h1, List.getElem_replicate]; exact .any _
  · rintro e ca w' ⟨G', ρ', h', a', ds, hro, hlo, ev, hR', ha', hdl, hq⟩
    obtain ⟨ms, g1, g2, g3⟩ := ha'.plain.all
    have hq := hq ev.ids
    have hd2 : DL P w.heap.size ρ' h' w' ds ca.defers := by
      rw [g1]; exact hdl.front ms g2 fun d hd => by
        have := g3 d hd
        rw [hlo] at this; exact this
    cases e with
    | normal => exact leavesD ca.defers ds ρ' h' w' ev hR' ha'.size ha'.slot hd2 hq
    | ret => exact leavesD ca.defers ds ρ' h' w' ev hR' ha'.size ha'.slot hd2 hq
    | _ => exact hq.elim
end rules

/-! ### Reckoned -/
def lastDef : List Oper → Option (Operand × Array Operand × Option Nat)
  | [] => none
  | o :: l => match l with
    | [] => match o.guard, o.op with
      | none, .defer { callee := .value fv, args, argTypes := _ } => some (fv, args, o.dst)
      | _, _ => none
    | _ :: _ => lastDef l
def initL : List Oper → List Oper
  | [] => []
  | o :: l => match l with
    | [] => []
    | _ :: _ => o :: initL l
theorem lastDef_some : ∀ {l : List Oper} {x : Operand × Array Operand × Option Nat}, lastDef l = some x → ∃ o tys, l = initL l ++ [o] ∧ o.guard = none ∧ o.op = .defer { callee := .value x.1, args := x.2.1, argTypes := tys } ∧ o.dst = x.2.2
  | [], x, h => by cases h
  | [o], x, h => by
    unfold lastDef at h
    simp only at h
    split at h
    · rename_i hg ho
      cases h
      exact ⟨o, _, rfl, hg, ho, rfl⟩
    · cases h
  | o :: o' :: l, x, h => by
    have h' : lastDef (o' :: l) = some x := h
    obtain ⟨o2, tys, h1, h2⟩ := lastDef_some h'
    exact ⟨o2, tys, by show o :: o' :: l = o :: (initL (o' :: l) ++ [o2]); rw [← h1], h2⟩
abbrev ZR := XR × List ADef
def zlift (x : Option XR) (ds : List ADef) : Option ZR := match x with
  | some r => some (r, ds)
  | none => none
noncomputable def zreg (E : XE) (m : Nat) (id : Nat) (ops : Array Oper) (draw : Bool) (ds : List ADef) (f : Fr) (h : AHeap) : Option ZR := match draw with
  | false => match lastDef ops.toList with
    | some x => match xopsF E id ops (initL ops.toList) 0 f h fun f h => some (f, h) with
      | some q => match fEval q.1 x.1 with
        | .fn (.func i) vs ws => match findN E.C i with
          | some _ => fputK E.n q.1 x.2.2 skipV fun f' => some ((.normal, f', q.2), (i, vs ++ evsF (fEval q.1) x.2.1 ++ ws) :: ds)
          | none => none
        | _ => none
      | none => none
    | none => zlift (yexec E m (.region id ops false) f h) ds
  | true => zlift (yexec E m (.region id ops true) f h) ds
noncomputable def zex (E : XE) (m : Nat) (c : Code) : List ADef → Fr → AHeap → Option ZR := Code.rec (motive := fun _ => List ADef → Fr → AHeap → Option ZR)
  (fun ds f h => some ((.normal, f, h), ds))
  (fun id ops draw => zreg E m id ops draw)
  (fun _ b ia ib => fun ds f h => match ia ds f h with
    | some ((.normal, f, h), ds) => ib ds (maskAt E.Ms (firstR b) f) h
    | r => r)
  (fun c _ _ ia ib => fun ds f h => match fEval f c with
    | .lit (.bool b) => match b with
      | true => ia ds f h
      | false => ib ds f h
    | _ => none)
  (fun id _ ia => fun ds f h => match ia ds f h with
    | some ((.exit id', f, h), ds) => match Nat.beq id' id with
      | true => some ((.normal, f, h), ds)
      | false => some ((.exit id', f, h), ds)
    | r => r)
  (fun c _ => fun ds f h => zlift (yexec E m (.loop c) f h) ds)
  (fun _ _ _ _ _ _ => fun _ _ _ => none)
  (fun id => fun ds f h => some ((.exit id, f, h), ds))
  (fun c _ => fun ds f h => zlift (yexec E m (.scope c) f h) ds)
  (fun l => fun ds f h => some ((.normal, f, h), ds))
  (fun l => fun ds f h => some ((.goto l, f, h), ds))
  (fun ds f h => some ((.ret, f, h), ds))
  (fun _ => fun _ _ _ => none) c
def QZ (n : Nat) (x : ZR) : AQD := fun e ds a g => x = ((e, x.1.2.1, g), ds) ∧ (∀ c, e ≠ .panic c) ∧ x.1.2.1.Wf n ∧ a = x.1.2.1.lst n
theorem qz_mk {n : Nat} {e : Exit} {f : Fr} {g : AHeap} {ds : List ADef} (he : ∀ c, e ≠ .panic c) (hw : f.Wf n) : QZ n ((e, f, g), ds) e ds (f.lst n) g := ⟨rfl, he, hw, rfl⟩
theorem zlift_sound {E : XE} (hE : E.Ok P) (hN : CT.Nat E.C) (hm : P.follows .mixedOrders = true) {m : Nat} {c : Code} (hd : drawsOk E.n E.D c = true) {ds : List ADef} {f : Fr} {h : AHeap} {x : ZR} (hw : f.Wf E.n) (hx : zlift (yexec E m c f h) ds = some x) :
    AWpD P c (QZ E.n x) ds (f.lst E.n) h := by
  unfold zlift at hx
  cases hy : yexec E m c f h with
  | none => rw [hy] at hx; cases hx
  | some r =>
    rw [hy] at hx
    cases hx
    have h1 := (yex_le E hN m c).1 _ _ _ hy
    refine awpD_lift (awp_mono (xexec_sound hE hm c hd XR f h xdone r hw h1) ?_)
    rintro e a g ⟨hnp, f', hw', rfl, hk⟩
    cases hk
    exact qz_mk hnp hw'
theorem zex_sound {E : XE} (hE : E.Ok P) (hN : CT.Nat E.C) (hm : P.follows .mixedOrders = true) {m : Nat} (c : Code) : drawsOk E.n E.D c = true → ∀ (ds : List ADef) (f : Fr) (h : AHeap) (x : ZR), f.Wf E.n → zex E m c ds f h = some x → AWpD P c (QZ E.n x) ds (f.lst E.n) h := by
  induction c with
  | skip => intro _ ds f h x hw hx; cases hx; exact awpD_lift (awp_skip (qz_mk (fun _ e => by cases e) hw))
  | region id ops draw =>
    intro hd ds f h x hw hx
    change zreg E m id ops draw ds f h = some x at hx
    unfold zreg at hx
    cases draw with
    | true => exact zlift_sound hE hN hm hd hw hx
    | false =>
      simp only at hx
      cases hl : lastDef ops.toList with
      | none => rw [hl] at hx; exact zlift_sound hE hN hm hd hw hx
      | some y =>
        rw [hl] at hx
        simp only at hx
        obtain ⟨o, tys, h1, h2, h3, h4⟩ := lastDef_some hl
        cases hq : xopsF E id ops (initL ops.toList) 0 f h (fun f h => some (f, h)) with
        | none => rw [hq] at hx; cases hx
        | some q =>
          rw [hq] at hx
          simp only at hx
          rw [xopsF_eq] at hq
          refine awpD_region h1 (xops_ok (P := P) hE (K := fun f h => some (f, h)) (r := q) (Q := fun _ b g => ADefer P o ds b g (QZ E.n x)) ?_ _ 0 f f h hw (Weak.refl _) hq)
          intro f1 g1 hw1 hk
          cases hk
          split at hx
          · rename_i i vs ws hf
            split at hx
            · rename_i xc hc
              rw [fputK_eq] at hx
              obtain ⟨f2, h5, hx⟩ := Option.bind_eq_some_iff.1 hx
              cases hx
              obtain ⟨e1, e2⟩ := fput_some h5 hw1
              obtain ⟨hcn, hco⟩ := hE.C.find hc
              have hcal : callable P i = true := by
                cases xc <;> exact hco.1
              have hev : evs (f1.lst E.n) y.2.1 = evsF (fEval f1) y.2.1 := by unfold evs evsF; rw [aEval_lst hw1]
              refine ⟨h2, y.1, y.2.1, tys, i, vs, ws, h3, by rw [aEval_lst hw1]; exact hf, hcal, ?_⟩
              rw [h4, ← e1, hev]
              exact qz_mk (fun _ e => by cases e) e2
            · cases hx
          · cases hx
  | seq a b iha ihb =>
    intro hd ds f h x hw hx
    have hd' : (drawsOk E.n E.D a && drawsOk E.n E.D b) = true := hd
    rw [Bool.and_eq_true] at hd'
    change (match zex E m a ds f h with
      | some ((.normal, f, h), ds) => zex E m b ds (maskAt E.Ms (firstR b) f) h
      | r => r) = some x at hx
    cases hy : zex E m a ds f h with
    | none => rw [hy] at hx; cases hx
    | some y =>
      rw [hy] at hx
      refine awpD_seq (awpD_mono (iha hd'.1 ds f h y hw hy) ?_)
      rintro e ds1 a1 g ⟨he, hnp, hw1, rfl⟩
      obtain ⟨⟨e0, f1, g0⟩, ds0⟩ := y
      simp only [Prod.mk.injEq, true_and] at he
      obtain ⟨⟨rfl, rfl⟩, rfl⟩ := he
      cases e0 with
      | normal => exact awpD_weak (maskAt_weak _ _ _ _) (ihb hd'.2 _ _ _ _ (maskAt_wf hw1 _ _) hx)
      | panic c => exact absurd rfl (hnp c)
      | _ => cases hx; exact qz_mk hnp hw1
  | cond c a b iha ihb =>
    intro hd ds f h x hw hx
    have hd' : (drawsOk E.n E.D a && drawsOk E.n E.D b) = true := hd
    rw [Bool.and_eq_true] at hd'
    change (match fEval f c with
      | .lit (.bool b') => match b' with
        | true => zex E m a ds f h
        | false => zex E m b ds f h
      | _ => none) = some x at hx
    split at hx
    · rename_i b' he
      refine awpD_cond (b := b') (by rw [aEval_lst hw]; exact he) (fun e => ?_) (fun e => ?_)
      · subst e; exact iha hd'.1 _ _ _ _ hw hx
      · subst e; exact ihb hd'.2 _ _ _ _ hw hx
    · cases hx
  | block id a iha =>
    intro hd ds f h x hw hx
    change (match zex E m a ds f h with
      | some ((.exit id', f, h), ds) => match Nat.beq id' id with
        | true => some ((.normal, f, h), ds)
        | false => some ((.exit id', f, h), ds)
      | r => r) = some x at hx
    cases hy : zex E m a ds f h with
    | none => rw [hy] at hx; cases hx
    | some y =>
      rw [hy] at hx
      refine awpD_block (awpD_mono (iha hd ds f h y hw hy) ?_)
      rintro e ds1 a1 g ⟨he, hnp, hw1, rfl⟩
      obtain ⟨⟨e0, f1, g0⟩, ds0⟩ := y
      simp only [Prod.mk.injEq, true_and] at he
      obtain ⟨⟨rfl, rfl⟩, rfl⟩ := he
      cases e0 with
      | exit id' =>
        simp only at hx
        simp only [AInBlockD]
        cases hb : Nat.beq id' id with
        | true => rw [hb] at hx; cases hx; rw [if_pos (Nat.eq_of_beq_eq_true hb)]; exact qz_mk (fun _ e => by cases e) hw1
        | false => rw [hb] at hx; cases hx; rw [if_neg (Nat.ne_of_beq_eq_false hb)]; exact qz_mk hnp hw1
      | panic c => exact absurd rfl (hnp c)
      | _ => cases hx; exact qz_mk hnp hw1
  | loop a iha => intro hd ds f h x hw hx; exact zlift_sound hE hN hm hd hw hx
  | rangeFunc g ps x y ihx ihy => intro hd ds f h x hw hx; cases hx
  | exit id => intro _ ds f h x hw hx; cases hx; exact awpD_lift (awp_exit (qz_mk (fun _ e => by cases e) hw))
  | scope a iha => intro hd ds f h x hw hx; exact zlift_sound hE hN hm hd hw hx
  | label l => intro _ ds f h x hw hx; cases hx; exact awpD_lift (awp_label (qz_mk (fun _ e => by cases e) hw))
  | goto l => intro _ ds f h x hw hx; cases hx; exact awpD_lift (awp_goto (qz_mk (fun _ e => by cases e) hw))
  | ret => intro _ ds f h x hw hx; cases hx; exact awpD_lift (awp_ret (qz_mk (fun _ e => by cases e) hw))
  | refuse => intro _ ds f h x hw hx; cases hx

/-! ### Functions -/
def FDOk (P : Program) (FD : List (Nat × XP)) : Prop := ∀ i g, findN FD i = some g → ∀ args h v h', g args h = some (v, h') → ACallsD P i args h fun k => k = h'
noncomputable def zleave (FD : List (Nat × XP)) : List ADef → AHeap → Option AHeap
  | [], h => some h
  | x :: xs, h => match findN FD x.1 with
    | some g => match g x.2 h with
      | some r => zleave FD xs r.2
      | none => none
    | none => none
theorem zleave_ok {FD : List (Nat × XP)} (hF : FDOk P FD) {fn : Func} {h0 : AHeap} {R : AEnd → AHeap → Prop} {a : List AVal} {h1 : AHeap} : ∀ (ds : List ADef) (h : AHeap), h0.length ≤ h.length → zleave FD ds h = some h1 → (h0.length ≤ h1.length → aResults P fn a h1 fun v => ABody.AEnds h0 h1 (.ret v) R) → ALeave P fn h0 R ds a h
  | [], h, hl, hx, hr => by cases hx; exact hr hl
  | x :: xs, h, hl, hx, hr => by
    unfold zleave at hx
    cases hf : findN FD x.1 with
    | none => rw [hf] at hx; cases hx
    | some g =>
      rw [hf] at hx
      simp only at hx
      cases hg : g x.2 h with
      | none => rw [hg] at hx; cases hx
      | some r =>
        rw [hg] at hx
        refine (hF _ _ hf _ _ r.1 r.2 hg).mono ?_
        rintro k rfl hlen
        exact zleave_ok hF xs _ (Nat.le_trans hl hlen) hx hr
noncomputable def zfun (E : XE) (FD : List (Nat × XP)) (m : Nat) (fn : Func) (args : List AVal) (h : AHeap) : Option (AVal × AHeap) := match fn.body, Nat.ble args.length E.n with
  | some c, true => match zex E m c [] (fargs args 0) h with
    | some ((e, f, h), ds) => match zleave FD ds h with
      | some h => xend E fn e f h
      | none => none
    | none => none
  | _, _ => none
theorem zfun_ends {E : XE} (hE : E.Ok P) (hN : CT.Nat E.C) {FD : List (Nat × XP)} (hF : FDOk P FD) (hm : P.follows .mixedOrders = true) {m : Nat} {i : FuncId} {fn : Func} (hf : P.funcs[i]? = some fn) (hn : fn.ntmps = E.n) (hd : (match fn.body with
    | some c => drawsOk E.n E.D c
    | none => true) = true) {args : List AVal} {v : AVal} {R : AEnd → AHeap → Prop} (hx : zfun E FD m fn args h = some (v, h')) (hR : HOk h → h.length ≤ h'.length → ABody.AEnds h h' (.ret v) R) : ACalls P i args h R := by
  suffices key : HOk h → ACalls P i args h R from fun ρ w us hR hv => key (fun i o ho => hR.idsObj ho) ρ w us hR hv
  intro hok
  unfold zfun at hx
  split at hx
  · rename_i c hb hl
    have hl' : args.length ≤ E.n := Nat.le_of_ble_eq_true hl
    rw [hb] at hd
    cases hz : zex E m c [] (fargs args 0) h with
    | none => rw [hz] at hx; cases hx
    | some z =>
      rw [hz] at hx
      obtain ⟨⟨e0, f0, g0⟩, ds0⟩ := z
      simp only at hx
      have h1 := zex_sound hE hN hm c hd [] _ h _ (fargs_wf hl') hz
      rw [fargs_lst hl', ← hn] at h1
      refine acalls_bodyD hf hb (awpD_mono h1 ?_)
      rintro e ds a g ⟨he, hnp, hw, rfl⟩ hlen
      simp only [Prod.mk.injEq, true_and] at he
      obtain ⟨⟨rfl, rfl⟩, rfl⟩ := he
      cases hv : zleave FD ds0 g0 with
      | none => rw [hv] at hx; cases hx
      | some h1' =>
        rw [hv] at hx
        simp only at hx
        have done : xresGo E.T f0 h1' fn.results.toList [] (fun v => some (v, h1')) = some (v, h') → ALeave P fn h R ds0 (f0.lst fn.ntmps) g0 := fun hk => by
          refine zleave_ok hF ds0 g0 hlen hv fun hlen1 => ?_
          unfold aResults
          refine xresGo_ok hE.T hw _ _ hk fun v' hv' => ?_
          cases hv'
          exact hR hok hlen1
        cases e0 with
        | normal => exact done hx
        | ret => exact done hx
        | _ => cases hx
  · cases hx
theorem yfun_soundD {E : XE} (hE : E.Ok P) (hN : CT.Nat E.C) (hm : P.follows .mixedOrders = true) {m : Nat} {i : FuncId} {fn : Func} (hf : P.funcs[i]? = some fn) (hn : fn.ntmps = E.n) (hd : (match fn.body with
    | some c => drawsOk E.n E.D c
    | none => true) = true) {args : List AVal} {v : AVal} (hx : yfun E m fn args h = some (v, h')) : ACallsD P i args h fun g => g = h' := by
  have hx := yfun_le hN hx
  unfold xfun at hx
  split at hx
  · rename_i c hb hl
    have hl' : args.length ≤ E.n := Nat.le_of_ble_eq_true hl
    rw [hb] at hd
    have h1 := xexec_sound hE hm c hd _ _ h (xend E fn) _ (fargs_wf hl') hx
    rw [fargs_lst hl', ← hn] at h1
    refine acallsD_body hf hb (awp_mono (awp_len h1) ?_)
    rintro e a g ⟨⟨_, f, hw, rfl, hk⟩, hlen⟩
    have done : xresGo E.T f g fn.results.toList [] (fun v => some (v, g)) = some (v, h') → aResults P fn (f.lst fn.ntmps) g fun v => ABody.AEnds h g (.ret v) (fun e k => (∃ v, e = .ret v) ∧ k = h') := by
      intro hk
      unfold aResults
      refine xresGo_ok hE.T hw _ _ hk fun v' hv' => ?_
      cases hv'
      exact ⟨_, .ret _, hlen, ⟨⟨_, rfl⟩, rfl⟩, fun ρ w u hR hE => ⟨Fewer.refl _, hR, hE⟩⟩
    cases e with
    | normal => exact done hk
    | ret => exact done hk
    | _ => cases hk
  · cases hx
/-! ### Calls that leave no trace -/
def listAll2 {α : Type} (f : α → α → Bool) : List α → List α → Bool
  | [], [] => true
  | a :: l, b :: r => f a b && listAll2 f l r
  | _, _ => false
theorem listAll2_eq {α : Type} {f : α → α → Bool} (hf : ∀ a b, f a b = true → a = b) : ∀ {l r : List α}, listAll2 f l r = true → l = r
  | [], [], _ => rfl
  | a :: l, b :: r, h => by
    simp only [listAll2, Bool.and_eq_true] at h
    rw [hf _ _ h.1, listAll2_eq hf h.2]
  | [], _ :: _, h => by cases h
  | _ :: _, [], h => by cases h
def avEqN : Nat → AVal → AVal → Bool
  | 0, _, _ => false
  | n + 1, a, b => match a, b with
    | .agg vs, .agg us => listAll2 (avEqN n) vs us
    | .tup vs, .tup us => listAll2 (avEqN n) vs us
    | .fn (.func i) vs ws, .fn (.func j) us xs => Nat.beq i j && (listAll2 (avEqN n) vs us && listAll2 (avEqN n) ws xs)
    | .rop vs, .rop us => listAll2 (avEqN n) vs us
    | .ros vs k, .ros us l => Nat.beq k l && listAll2 (avEqN n) vs us
    | a, b => avEq a b
theorem avEqN_eq : ∀ {n : Nat} {a b : AVal}, avEqN n a b = true → a = b
  | 0, a, b, h => by cases h
  | n + 1, a, b, h => by
    unfold avEqN at h
    split at h
    · rw [listAll2_eq (fun _ _ => avEqN_eq) h]
    · rw [listAll2_eq (fun _ _ => avEqN_eq) h]
    · simp only [Bool.and_eq_true] at h
      rw [Nat.eq_of_beq_eq_true h.1, listAll2_eq (fun _ _ => avEqN_eq) h.2.1, listAll2_eq (fun _ _ => avEqN_eq) h.2.2]
    · rw [listAll2_eq (fun _ _ => avEqN_eq) h]
    · simp only [Bool.and_eq_true] at h
      rw [Nat.eq_of_beq_eq_true h.1, listAll2_eq (fun _ _ => avEqN_eq) h.2]
    · exact avEq_eq h
def mkeyEq : MKey → MKey → Bool
  | .str, .str => true
  | .bool, .bool => true
  | .int k, .int l => kindEq k l
  | _, _ => false
theorem mkeyEq_eq {a b : MKey} (h : mkeyEq a b = true) : a = b := by
  unfold mkeyEq at h
  split at h
  · rfl
  · rfl
  · rw [kindEq_eq h]
  · cases h
def entEq (x y : Value × AVal) : Bool := litEq x.1 y.1 && avEqN 8 x.2 y.2
theorem entEq_eq {x y : Value × AVal} (h : entEq x y = true) : x = y := by
  simp only [entEq, Bool.and_eq_true] at h
  exact Prod.ext (litEq_eq h.1) (avEqN_eq h.2)
def objEq : AObj → AObj → Bool
  | .dead, .dead => true
  | .cells a, .cells b => listAll2 (avEqN 8) a b
  | .map d es, .map d' es' => mkeyEq d d' && listAll2 entEq es es'
  | .mapU d es, .mapU d' es' => mkeyEq d d' && listAll2 entEq es es'
  | .bld T k n, .bld T' k' n' => decide (T = T') && (decide (k = k') && decide (n = n'))
  | .buf T bs, .buf T' bs' => decide (T = T') && decide (bs = bs')
  | _, _ => false
theorem objEq_eq {a b : AObj} (h : objEq a b = true) : a = b := by
  unfold objEq at h
  split at h
  · rfl
  · rw [listAll2_eq (fun _ _ => avEqN_eq) h]
  · simp only [Bool.and_eq_true] at h
    rw [mkeyEq_eq h.1, listAll2_eq (fun _ _ => entEq_eq) h.2]
  · simp only [Bool.and_eq_true] at h
    rw [mkeyEq_eq h.1, listAll2_eq (fun _ _ => entEq_eq) h.2]
  · simp only [Bool.and_eq_true, decide_eq_true_eq] at h
    rw [h.1, h.2.1, h.2.2]
  · simp only [Bool.and_eq_true, decide_eq_true_eq] at h
    rw [h.1, h.2]
  · cases h
def growB : AHeap → AHeap → Bool
  | [], _ => true
  | a :: l, b :: r => objEq a b && growB l r
  | _ :: _, [] => false
theorem growB_app : ∀ {l r : AHeap}, growB l r = true → ∃ L, r = l ++ L
  | [], r, _ => ⟨r, rfl⟩
  | a :: l, b :: r, h => by
    simp only [growB, Bool.and_eq_true] at h
    obtain ⟨L, hL⟩ := growB_app h.2
    exact ⟨L, by rw [objEq_eq h.1, hL]; rfl⟩
  | _ :: _, [], h => by cases h
def quietO (x : Option (AVal × AHeap)) (h : AHeap) : Option AVal := match x with
  | some r => match r.1.closed || Nat.beq h.length r.2.length with
    | true => match growB h r.2 with
      | true => some r.1
      | false => none
    | false => none
  | none => none
theorem quietO_some {x : Option (AVal × AHeap)} {h : AHeap} {v : AVal} (hx : quietO x h = some v) : ∃ h', x = some (v, h') ∧ ∀ R : AEnd → AHeap → Prop, HOk h → R (.ret v) h → ABody.AEnds h h' (.ret v) R := by
  unfold quietO at hx
  split at hx
  · rename_i r
    split at hx
    · rename_i hc
      split at hx
      · rename_i hg
        cases hx
        obtain ⟨L, hL⟩ := growB_app hg
        refine ⟨r.2, rfl, fun R hok hR => ?_⟩
        rw [hL]
        cases hv : r.1.closed with
        | true => exact ends_same hok hv hR
        | false =>
          rw [hv, Bool.false_or] at hc
          have hl := Nat.eq_of_beq_eq_true hc
          rw [hL, List.length_append] at hl
          have : L = [] := List.eq_nil_of_length_eq_zero (by omega)
          rw [this, List.append_nil]
          exact ends_here hR
      · cases hx
    · cases hx
  · cases hx
/-- As YRow, with those whose calls are put off, and those who leave no trace. -/
structure ZRow where
  Y : YRow
  ds : List Nat
  qs : List Nat
def quietC (run : XP) : XC := .q fun _ args h K => (quietO (run args h) h).bind K
theorem quietC_nat (run : XP) : (quietC run).Nat := fun R args h K => by
  show (quietO (run args h) h).bind K = ((quietO (run args h) h).bind some).bind K
  cases quietO (run args h) h <;> rfl
noncomputable def zenv (r : ZRow) (run : Nat → XP) : XE := { r.Y.E with C := r.Y.E.C ++ (r.qs.map fun j => (j, quietC (run j))) ++ (r.Y.cs ++ r.ds).map fun j => (j, recC (run j)), Y := fun _ _ _ => none, I := [] }
noncomputable def zdef (T : List (Nat × ZRow)) (m : Nat) (run : Nat → XP) (j : Nat) : XP := match findN T j with
  | some r => yfun (zenv r run) m r.Y.fn
  | none => fun _ _ => none
noncomputable def zrun (T : List (Nat × ZRow)) (m : Nat) : Nat → Nat → XP
  | 0, _ => fun _ _ => none
  | k + 1, i => match findN T i with
    | some r => match r.ds with
      | [] => yfun (zenv r (zrun T m k)) m r.Y.fn
      | d :: ds => zfun (zenv r (zrun T m k)) ((d :: ds).map fun j => (j, zdef T m (zrun T m k) j)) m r.Y.fn
    | none => fun _ _ => none
structure ZRow.Ok (P : Program) (i : Nat) (r : ZRow) : Prop where
  y : r.Y.Ok P i
  ds : ∀ j ∈ r.ds, callable P j = true
  qs : ∀ j ∈ r.qs, callable P j = true
def ZOk (P : Program) : List (Nat × ZRow) → Prop
  | [] => True
  | (i, r) :: T => r.Ok P i ∧ ZOk P T
theorem ZOk.find : ∀ {T : List (Nat × ZRow)} {i : Nat} {r : ZRow}, ZOk P T → findN T i = some r → r.Ok P i
  | [], i, r, _, h => by cases h
  | (k, x) :: l, i, r, hC, h => by
    rcases findN_some h with ⟨rfl, rfl⟩ | h
    · exact hC.1
    · exact ZOk.find hC.2 h
theorem findN_mapD {T : List (Nat × ZRow)} {m : Nat} {run : Nat → XP} : ∀ {l : List Nat} {i : Nat} {g : XP}, findN (l.map fun j => (j, zdef T m run j)) i = some g → g = zdef T m run i
  | [], i, g, h => by cases h
  | j :: l, i, g, h => by
    rcases findN_some h with ⟨rfl, rfl⟩ | h
    · rfl
    · exact findN_mapD h
theorem ctq_nat (run : Nat → XP) : ∀ cs : List Nat, CT.Nat (cs.map fun j => (j, quietC (run j)))
  | [] => trivial
  | j :: cs => ⟨quietC_nat _, ctq_nat run cs⟩
theorem ctq_ok {run : Nat → XP} : ∀ {cs : List Nat}, (∀ j ∈ cs, XC.Ok P j (quietC (run j))) → CT.Ok P (cs.map fun j => (j, quietC (run j)))
  | [], _ => trivial
  | j :: cs, h => ⟨⟨quietC_nat _, h j (by simp)⟩, ctq_ok fun k hk => h k (by simp [hk])⟩
theorem zenv_nat {r : ZRow} {i : Nat} (ok : r.Ok P i) (run : Nat → XP) : CT.Nat (zenv r run).C := (ok.y.hC.nat.append (ctq_nat _ _)).append (ct_nat _ _)
theorem zenv_ok {r : ZRow} {i : Nat} (ok : r.Ok P i) {run : Nat → XP} (hl : ∀ j, callable P j = true → XC.Ok P j (recC (run j))) (hq : ∀ j, callable P j = true → XC.Ok P j (quietC (run j))) : (zenv r run).Ok P :=
  ⟨ok.y.hT, (ok.y.hC.append (ctq_ok fun j hj => hq j (ok.qs j hj))).append (ct_ok fun j hj => hl j ((List.mem_append.1 hj).elim (ok.y.hcs j) (ok.ds j))), ydOk_none, trivial⟩
/-- What a run comes to, its end told in any way that is so. -/
theorem zrun_ends {T : List (Nat × ZRow)} (hT : ZOk P T) (hm : P.follows .mixedOrders = true) (m : Nat) : ∀ (k i : Nat) (args : List AVal) (h : AHeap) (v : AVal) (h' : AHeap) (R : AEnd → AHeap → Prop), zrun T m k i args h = some (v, h') → (HOk h → h.length ≤ h'.length → ABody.AEnds h h' (.ret v) R) → ACalls P i args h R
  | 0, i, args, h, v, h', R, hx, hR => by simp [zrun] at hx
  | k + 1, i, args, h, v, h', R, hx, hR => by
    have e0 : zrun T m (k + 1) i = match findN T i with
      | some r => match r.ds with
        | [] => yfun (zenv r (zrun T m k)) m r.Y.fn
        | d :: ds => zfun (zenv r (zrun T m k)) ((d :: ds).map fun j => (j, zdef T m (zrun T m k) j)) m r.Y.fn
      | none => fun _ _ => none := rfl
    rw [e0] at hx
    have hl : ∀ j, callable P j = true → XC.Ok P j (recC (zrun T m k j)) := fun j hj => ⟨hj, fun args h v h' hx => by
      obtain ⟨r, h1, h2⟩ := Option.bind_eq_some_iff.1 hx
      cases h2
      exact zrun_ends hT hm m k j args h _ _ _ h1 fun hok hl => ⟨_, .ret _, hl, ⟨rfl, rfl⟩, fun ρ w u hR hE => ⟨Fewer.refl _, hR, hE⟩⟩⟩
    have hq : ∀ j, callable P j = true → XC.Ok P j (quietC (zrun T m k j)) := fun j hj => ⟨hj, fun args h v hx => by
      obtain ⟨r, h1, h2⟩ := Option.bind_eq_some_iff.1 hx
      cases h2
      obtain ⟨h', h3, h4⟩ := quietO_some h1
      exact zrun_ends hT hm m k j args h _ h' _ h3 fun hok _ => h4 _ hok ⟨rfl, rfl⟩⟩
    cases hr : findN T i with
    | none => rw [hr] at hx; cases hx
    | some row =>
      rw [hr] at hx
      simp only at hx
      have ok := hT.find hr
      cases hd : row.ds with
      | nil =>
        rw [hd] at hx
        exact xfun_ends (zenv_ok ok hl hq) hm ok.y.hf ok.y.hn ok.y.hd (yfun_le (zenv_nat ok _) hx) hR
      | cons d ds =>
        rw [hd] at hx
        refine zfun_ends (zenv_ok ok hl hq) (zenv_nat ok _) ?_ hm ok.y.hf ok.y.hn ok.y.hd hx hR
        intro j g hg args h v h' hx
        rw [findN_mapD hg] at hx
        unfold zdef at hx
        cases hrj : findN T j with
        | none => rw [hrj] at hx; cases hx
        | some rj =>
          rw [hrj] at hx
          have okj := hT.find hrj
          exact yfun_soundD (zenv_ok okj hl hq) (zenv_nat okj _) hm okj.y.hf okj.y.hn okj.y.hd hx
/-- A call of nothing that comes to true: whatever lies in the memory. -/
theorem zrun_true {T : List (Nat × ZRow)} (hT : ZOk P T) (hm : P.follows .mixedOrders = true) {m k i : Nat} (hx : tellsTrue (zrun T m k i [] []) = true) : ACalls P i [] [] fun e _ => e = .ret (.lit (.bool true)) := by
  unfold tellsTrue at hx
  split at hx
  · rename_i b h' he
    subst hx
    exact zrun_ends hT hm m k i [] [] (.lit (.bool true)) h' _ he fun hok hl => ⟨_, .ret _, hl, rfl, fun ρ w u hR hE => ⟨Fewer.refl _, hR, hE⟩⟩
  · cases hx
end Go.Proofs.YteahajcgbogjkaaGreat.AL
/- slices.Insert at the front, of one, and slices.Delete of one, at rows of structs of two cells, walked. -/
set_option linter.unusedVariables false
set_option linter.unusedSimpArgs false
set_option maxRecDepth 100000
namespace Go.Proofs.YteahajcgbogjkaaGreat.AL
open Go Go.RowKit Go.Proofs Go.Lib
open Go.Proofs.Tryz
theorem run_copy_k {P : Program} (w : World) (dT sT ty elem : TypeId) (k : Nat) (b o dLen dCap : Nat) (a : Addr) (sLen sCap : Nat) (cs : List Value)
    (hu : P.underlying dT = some (.slice elem)) (hs : (P.info? elem).map (·.size) = some k) (hn : cs.length = Nat.min sLen dLen * k)
    (hsrc : ∀ j v, cs[j]? = some v → w.cell? (a.add j) = some v) (hc : ∀ j, j < cs.length → (w.cell? ⟨b, o + j, none⟩).isSome = true) (hf : ∀ j, j < cs.length → w.frozen? ⟨b, o + j, none⟩ = false) (h1 : ∀ v ∈ cs, v.oneCell' = true) :
    (Builtin.copy_ #[dT, sT] ty #[.slice (some ⟨b, o, none⟩) dLen dCap, .slice (some a) sLen sCap]).run P w = .ok (goInt (Nat.min sLen dLen : Nat)) (w.setCells b o cs) := by
  have hl := run_loadCells_list (P := P) w a cs hsrc
  have hst := run_storeCells_cells (P := P) b o cs 0 w (by simpa using hc) (by simpa using hf) h1
  cases hq : P.info? elem with
  | none => simp [hq] at hs
  | some i =>
    have hi : i.size = k := by simpa [hq] using hs
    simp [Builtin.copy_, run_underlying hu, Builtin.lenOf, Builtin.firstCells, sizeOf, typeInfo, hq, hi, ← hn, hl, hst]
theorem info_held : ∃ i, Tryz.prog.info? 122 = some i ∧ i.zero = some (.agg #[.int .i64 0, .slice none 0 0]) ∧ i.size = 2 ∧ i.bytes = 32 := by
  have h : (Tryz.prog.info? 122).map (fun i => (i.zero, i.size, i.bytes)) = some (some (.agg #[.int .i64 0, .slice none 0 0]), 2, 32) := by kernel_rfl
  obtain ⟨j, h1, h2⟩ := Option.map_eq_some_iff.1 h
  simp only [Prod.mk.injEq] at h2
  exact ⟨j, h1, h2.1, h2.2.1, h2.2.2⟩
set_option maxHeartbeats 4000000 in
set_option maxRecDepth 100000 in
/-- There is room: in place. -/
theorem ins_room (b off n c vb voff vc : Nat) (cs vs : List Value) (w : World) (hi : 0 < n) (hroom : n + 1 ≤ c) (hn63 : n + 1 ≤ 9223372036854775807) (hvb : vb ≠ b)
    (hcl : cs.length = n * 2) (hvl : vs.length = 2)
    (hcs : ∀ j v, cs[j]? = some v → w.cell? ⟨b, off + j, none⟩ = some v) (hsp : ∀ j, j < (n + 1) * 2 → (w.cell? ⟨b, off + j, none⟩).isSome = true) (hfz : ∀ j, j < (n + 1) * 2 → w.frozen? ⟨b, off + j, none⟩ = false)
    (hvs : ∀ j v, vs[j]? = some v → w.cell? ⟨vb, voff + j, none⟩ = some v) (h1c : ∀ v ∈ cs, v.oneCell' = true) (h1v : ∀ v ∈ vs, v.oneCell' = true)
    (tA tB : TypeId) (kA kB : Nat) (hsa : w.shape? vb = some (tA, kA)) (hsb : w.shape? b = some (tB, kB)) (hkB : kB ≠ 0) (hfa : w.frozen? ⟨vb, voff, none⟩ = false) (hfe : w.frozen? ⟨vb, kA, none⟩ = false) :
    Calls Tryz.prog 69 #[.slice (some ⟨b, off, none⟩) n c, .int .i64 0, .slice (some ⟨vb, voff, none⟩) 1 vc] w fun e w' =>
      e = .returned (.slice (some ⟨b, off, none⟩) (n + 1) c) ∧ w' = (w.drew.setCells b (off + 2) cs).setCells b off vs := by
  have t3 := Tryz.underlying3; have a3 := Tryz.isAgg3; have z3 := Tryz.sizeOf3; have v3 := Tryz.zeroValue3; have u3 := fun w => run_underlying (w := w) Tryz.underlying3
  have t4 := Tryz.underlying4; have a4 := Tryz.isAgg4; have z4 := Tryz.sizeOf4; have v4 := Tryz.zeroValue4; have u4 := fun w => run_underlying (w := w) Tryz.underlying4
  have t85 := Tryz.underlying85; have a85 := Tryz.isAgg85; have z85 := Tryz.sizeOf85; have v85 := Tryz.zeroValue85; have u85 := fun w => run_underlying (w := w) Tryz.underlying85
  have t122 := Tryz.underlying122; have a122 := Tryz.isAgg122; have z122 := Tryz.sizeOf122; have v122 := Tryz.zeroValue122; have u122 := fun w => run_underlying (w := w) Tryz.underlying122
  have mixed := tmix
  have hz2 : ¬ ((0 : Int) = (n : Int)) := by omega
  obtain ⟨i0, hi0, hz0, hzs, hzb⟩ := info_held
  have hsz : (Tryz.prog.info? 122).map (·.size) = some 2 := by rw [hi0]; simp [hzs]
  have hov : ∀ lb cb, (callFunc 92 #[.slice (some ⟨vb, voff, none⟩) 1 vc, .slice (some ⟨b, off + 2, none⟩) lb cb]).run Tryz.prog w = .ok (.value (.bool false)) w := fun lb cb => by
    rw [run_callFunc_extern Tryz.func92 (by kernel_rfl) (by kernel_rfl) (by kernel_rfl) (e := Extern.SlicesOverlaps.overlaps #[85, 85] #[4]) (by kernel_rfl),
      Lib.run_overlaps_apart w 85 4 122 t85 2 z122 ⟨vb, voff, none⟩ ⟨b, off + 2, none⟩ 1 vc lb cb hvb tA tB kA kB hsa hsb hkB hfa hfe]
    rfl
  have hw1 : IntKind.i64.wrap 1 = 1 := by decide
  have hb1 : (1 : Int) ≤ (n : Int) + 1 := by omega
  have hb2 : ¬ (c = 1) := by omega
  have hb3 : (0 : Int) ≤ (n : Int) + 1 := by omega
  have hb4 : ¬ (c = 0) := by omega
  have hcp1 : ∀ ty dc sc, (Builtin.copy_ #[85, 85] ty #[.slice (some ⟨b, off + 2, none⟩) n dc, .slice (some ⟨b, off, none⟩) (n + 1) sc]).run Tryz.prog w.drew = .ok (goInt (Nat.min (n + 1) n : Nat)) (w.drew.setCells b (off + 2) cs) := fun ty dc sc =>
    run_copy_k w.drew _ _ ty 122 2 b (off + 2) n dc ⟨b, off, none⟩ (n + 1) sc cs t85 hsz (by rw [hcl]; simp only [Nat.min_def]; split <;> omega)
      (fun j v hj => by rw [Addr.add_lit]; exact hcs j v hj)
      (fun j hj => by rw [Nat.add_assoc]; exact hsp _ (by omega)) (fun j hj => by rw [Nat.add_assoc]; exact hfz _ (by omega)) h1c
  obtain ⟨W1, hW1⟩ : ∃ W1, W1 = w.drew.setCells b (off + 2) cs := ⟨_, rfl⟩
  have hsp1 : ∀ k, k < (n + 1) * 2 → (W1.cell? ⟨b, off + k, none⟩).isSome = true := fun k hk => by
    rw [hW1]
    exact isSome_setCells b _ _ _ (fun j hj => by rw [Nat.add_assoc]; exact hsp _ (by omega)) _ (hsp k hk)
  have hcp2 : ∀ (W : World), (∀ x, W.cell? x = W1.cell? x) → (∀ x, W.frozen? x = W1.frozen? x) → ∀ ty dc, (Builtin.copy_ #[85, 85] ty #[.slice (some ⟨b, off, none⟩) (n + 1) dc, .slice (some ⟨vb, voff, none⟩) 1 vc]).run Tryz.prog W = .ok (goInt (Nat.min 1 (n + 1) : Nat)) (W.setCells b off vs) := fun W hWc hWf ty dc =>
    run_copy_k W _ _ ty 122 2 b off (n + 1) dc ⟨vb, voff, none⟩ 1 vc vs t85 hsz (by rw [hvl]; simp only [Nat.min_def]; split <;> omega)
      (fun j v hj => by
        rw [Addr.add_lit, hWc, hW1, World.cell?_setCells_out b _ _ _ _ (fun h _ => absurd h hvb)]
        exact hvs j v hj)
      (fun j hj => by rw [hWc]; exact hsp1 _ (by omega)) (fun j hj => by rw [hWf, hW1, World.frozen?_setCells]; exact hfz _ (by omega)) h1v
  rw [← hW1] at hcp1
  go_enter Tryz.func69, Tryz.ntmps69
  go_wp2_with (simp only [hov])
  go_region_law_o (refine step_copy_runI rfl _ _ 85 85 rfl _ _ (by simp [Act.eval, Act.put]) (by simp [Act.eval, Act.put]) (hcp1 _ _ _) ?_)
  go_wp2_with (at_builtin; refine wpList_copy_runI _ rfl _ _ 85 85 rfl _ _ rfl rfl (hcp2 _ (fun _ => rfl) (fun _ => rfl) _ _) ?_)
  go_ret
  first | exact ⟨rfl, rfl⟩ | exact ⟨rfl, by rw [hW1]⟩
set_option maxHeartbeats 4000000 in
set_option maxRecDepth 100000 in
/-- There is no room: a new row. -/
theorem ins_grow (b off n c vb voff vc : Nat) (cs vs : List Value) (w : World) (hi : 0 < n) (hnc : n ≤ c) (hroom : c < n + 1) (hbig : (n + 1) * 32 ≤ 140737488355328)
    (hcl : cs.length = n * 2) (hvl : vs.length = 2)
    (hcs : ∀ j v, cs[j]? = some v → w.cell? ⟨b, off + j, none⟩ = some v)
    (hvs : ∀ j v, vs[j]? = some v → w.cell? ⟨vb, voff + j, none⟩ = some v) (h1c : ∀ v ∈ cs, v.oneCell' = true) (h1v : ∀ v ∈ vs, v.oneCell' = true) :
    Calls Tryz.prog 69 #[.slice (some ⟨b, off, none⟩) n c, .int .i64 0, .slice (some ⟨vb, voff, none⟩) 1 vc] w fun e w' =>
      e = .returned (.slice (some ⟨w.heap.size, 0, none⟩) (n + 1) (grownCap w (n + 1) c 122)) ∧
      w' = (((w.alloc (.cells (Builtin.zeroCells (Value.agg #[.int .i64 0, .slice none 0 0]).cells (n + 1) ++ Builtin.zeroCells (Value.agg #[.int .i64 0, .slice none 0 0]).cells (grownCap w (n + 1) c 122 - (n + 1))) 122)).drew.setCells w.heap.size 0 vs).drew).setCells w.heap.size 2 cs := by
  have t3 := Tryz.underlying3; have a3 := Tryz.isAgg3; have z3 := Tryz.sizeOf3; have v3 := Tryz.zeroValue3; have u3 := fun w => run_underlying (w := w) Tryz.underlying3
  have t4 := Tryz.underlying4; have a4 := Tryz.isAgg4; have z4 := Tryz.sizeOf4; have v4 := Tryz.zeroValue4; have u4 := fun w => run_underlying (w := w) Tryz.underlying4
  have t85 := Tryz.underlying85; have a85 := Tryz.isAgg85; have z85 := Tryz.sizeOf85; have v85 := Tryz.zeroValue85; have u85 := fun w => run_underlying (w := w) Tryz.underlying85
  have t122 := Tryz.underlying122; have a122 := Tryz.isAgg122; have z122 := Tryz.sizeOf122; have v122 := Tryz.zeroValue122; have u122 := fun w => run_underlying (w := w) Tryz.underlying122
  have mixed := tmix
  have hz2 : ¬ ((0 : Int) = (n : Int)) := by omega
  have hz3 : (c : Int) < (n : Int) + 1 := by omega
  obtain ⟨i0, hi0, hz0, hzs, hzb⟩ := info_held
  have hsz : (Tryz.prog.info? 122).map (·.size) = some 2 := by rw [hi0]; simp [hzs]
  have hbw : b < w.heap.size := block_lt_of_cell (hcs 0 _ (List.getElem?_eq_getElem (by omega)))
  have hvw : vb < w.heap.size := block_lt_of_cell (hvs 0 _ (List.getElem?_eq_getElem (by omega)))
  have hkk : (n : Int) + 1 = ((n + 1 : Nat) : Int) := by omega
  have hold : (Builtin.firstCells i0.size 0 (.slice (some ⟨b, off, none⟩) 0 c)).run Tryz.prog w.drew = .ok ([] : List Value).toArray w.drew := by
    rw [hzs]
    exact run_firstCells_some w.drew 2 0 ⟨b, off, none⟩ 0 c [] rfl (fun j v hj => by simp at hj)
  have hrz : ∀ ty, (Builtin.append_ #[85, 3] ty #[.slice (some ⟨b, off, none⟩) 0 c, .int .i64 ((n : Int) + 1)]).run Tryz.prog w =
      .ok (.slice (some ⟨w.heap.size, 0, none⟩) (n + 1) (grownCap w (n + 1) c 122)) (w.drew.alloc (.cells (Builtin.zeroCells (Value.agg #[.int .i64 0, .slice none 0 0]).cells (n + 1) ++ Builtin.zeroCells (Value.agg #[.int .i64 0, .slice none 0 0]).cells (grownCap w (n + 1) c 122 - (n + 1))) 122)) := fun ty => by
    have h := Lib.run_append_grow_zeros w 85 3 ty 122 i0 _ .i64 .i64 t85 t3 hi0 hz0 (some ⟨b, off, none⟩) 0 c [] hold (n + 1) (by omega) (by omega) (by omega) (by omega) (by rw [hzb]; omega) (by rw [hzb, Nat.zero_add]; exact growslice_fits hroom hbig)
    simp only [Nat.zero_add, List.nil_append, Array.empty_append] at h
    rw [hkk]
    exact h
  obtain ⟨G, hG⟩ : ∃ G, G = grownCap w (n + 1) c 122 := ⟨_, rfl⟩
  obtain ⟨ROW, hROW⟩ : ∃ ROW : Array Value, ROW = Builtin.zeroCells (Value.agg #[.int .i64 0, .slice none 0 0]).cells (n + 1) ++ Builtin.zeroCells (Value.agg #[.int .i64 0, .slice none 0 0]).cells (G - (n + 1)) := ⟨_, rfl⟩
  rw [← hG] at hrz ⊢
  rw [← hROW] at hrz ⊢
  have hRl : (n + 1) * 2 ≤ ROW.size := by
    rw [hROW, Array.size_append, zeroCells_size, zeroCells_size]
    show (n + 1) * 2 ≤ (n + 1) * 2 + _
    omega
  obtain ⟨W1, hW1⟩ : ∃ W1, W1 = w.drew.alloc (.cells ROW 122) := ⟨_, rfl⟩
  rw [← hW1] at hrz
  have hN : ∀ j, j < (n + 1) * 2 → (W1.cell? ⟨w.heap.size, j, none⟩).isSome = true := fun j hj => by
    rw [hW1, World.cell?_alloc_at (w := w.drew) ROW _ w.heap.size j rfl, Array.getElem?_eq_getElem (by omega)]; rfl
  have hNf : ∀ j, W1.frozen? ⟨w.heap.size, j, none⟩ = false := fun j => by rw [hW1]; exact World.frozen?_alloc_at (w := w.drew) ROW _ w.heap.size j rfl
  have hOb : ∀ j v, w.cell? ⟨b, j, none⟩ = some v → W1.cell? ⟨b, j, none⟩ = some v := fun j v h => by rw [hW1, World.cell?_alloc_past (w := w.drew) _ b j hbw]; exact h
  have hOv : ∀ j v, w.cell? ⟨vb, j, none⟩ = some v → W1.cell? ⟨vb, j, none⟩ = some v := fun j v h => by rw [hW1, World.cell?_alloc_past (w := w.drew) _ vb j hvw]; exact h
  have hcpA : ∀ (W : World), (∀ x, W.cell? x = W1.cell? x) → (∀ x, W.frozen? x = W1.frozen? x) → ∀ ty dc, (Builtin.copy_ #[85, 85] ty #[.slice (some ⟨w.heap.size, 0, none⟩) (n + 1) dc, .slice (some ⟨vb, voff, none⟩) 1 vc]).run Tryz.prog W = .ok (goInt (Nat.min 1 (n + 1) : Nat)) (W.setCells w.heap.size 0 vs) := fun W hWc hWf ty dc =>
    run_copy_k W _ _ ty 122 2 w.heap.size 0 (n + 1) dc ⟨vb, voff, none⟩ 1 vc vs t85 hsz (by rw [hvl]; simp only [Nat.min_def]; split <;> omega)
      (fun j v hj => by rw [Addr.add_lit, hWc]; exact hOv _ v (hvs j v hj))
      (fun j hj => by rw [hWc]; exact hN _ (by omega)) (fun j hj => by rw [hWf]; exact hNf _) h1v
  have hGn : n + 1 ≤ G := by rw [hG]; exact grownCap_ge w _ _ _
  have hG63 : G ≤ 9223372036854775807 := by
    have := grownCap_le_maxLen w (n + 1) c 122 (by unfold maxLen; omega)
    rw [← hG] at this
    unfold maxLen at this
    omega
  have hG0 : ¬ (G = 0) := by omega
  have hG1 : ¬ (G = 1) := by omega
  have hc0 : ¬ (c = 0) := by omega
  have hbN : b ≠ w.heap.size := by omega
  have hcpB : ∀ (W : World), (∀ x, W.cell? x = (W1.setCells w.heap.size 0 vs).cell? x) → (∀ x, W.frozen? x = (W1.setCells w.heap.size 0 vs).frozen? x) → ∀ ty dc sc, (Builtin.copy_ #[85, 85] ty #[.slice (some ⟨w.heap.size, 2, none⟩) n dc, .slice (some ⟨b, off, none⟩) n sc]).run Tryz.prog W = .ok (goInt (Nat.min n n : Nat)) (W.setCells w.heap.size 2 cs) := fun W hWc hWf ty dc sc =>
    run_copy_k W _ _ ty 122 2 w.heap.size 2 n dc ⟨b, off, none⟩ n sc cs t85 hsz (by rw [hcl]; simp only [Nat.min_def]; split <;> omega)
      (fun j v hj => by
        rw [Addr.add_lit, hWc, World.cell?_setCells_out _ _ _ _ _ (fun h _ => absurd h hbN)]
        exact hOb _ v (hcs j v hj))
      (fun j hj => by rw [hWc]; exact isSome_setCells _ _ _ _ (fun t ht => hN _ (by omega)) _ (hN _ (by omega)))
      (fun j hj => by rw [hWf, World.frozen?_setCells]; exact hNf _) h1c
  subst hW1
  have hE1 : ∀ x, ((w.alloc (.cells ROW 122)).drew).cell? x = (w.drew.alloc (.cells ROW 122)).cell? x := fun x => rfl
  have hE2 : ∀ x, ((w.alloc (.cells ROW 122)).drew).frozen? x = (w.drew.alloc (.cells ROW 122)).frozen? x := fun x => rfl
  have hF1 : ∀ x, (((w.alloc (.cells ROW 122)).drew.setCells w.heap.size 0 vs).drew).cell? x = ((w.drew.alloc (.cells ROW 122)).setCells w.heap.size 0 vs).cell? x := fun x => rfl
  have hF2 : ∀ x, (((w.alloc (.cells ROW 122)).drew.setCells w.heap.size 0 vs).drew).frozen? x = ((w.drew.alloc (.cells ROW 122)).setCells w.heap.size 0 vs).frozen? x := fun x => rfl
  have hw1 : IntKind.i64.wrap 1 = 1 := by decide
  have hw2 : IntKind.i64.wrap ((n : Int) + 1) = (n : Int) + 1 := by rw [IntKind.wrap_i64]; omega
  have hb1 : (1 : Int) ≤ (n : Int) + 1 := by omega
  have hb3 : (0 : Int) ≤ (n : Int) := by omega
  clear hkk hold hROW hG hRl
  go_enter Tryz.func69, Tryz.ntmps69
  go_wp2_with (first
    | (at_builtin; refine Lib.wpList_append_run _ rfl _ _ _ _ rfl _ _ rfl rfl _ _ (hrz _) ?_)
    | (at_builtin; refine wpList_copy_runI _ rfl _ _ 85 85 rfl _ _ rfl rfl (hcpA _ hE1 hE2 _ _) ?_)
    | (at_builtin; refine wpList_copy_runI _ rfl _ _ 85 85 rfl _ _ rfl rfl (hcpB _ (fun _ => rfl) (fun _ => rfl) _ _ _) ?_))
  go_region_law_o (refine step_copy_runI rfl _ _ 85 85 rfl (.slice (some ⟨w.heap.size, 2, none⟩) n (G - 1)) (.slice (some ⟨b, off, none⟩) n c) (by simp [Act.eval, Act.put]) (by simp [Act.eval, Act.put]) (hcpB _ hF1 hF2 3 (G - 1) c) ?_)
  go_wp2
  go_ret
  exact ⟨rfl, rfl⟩
theorem run_clear_k {P : Program} (w : World) (t e ty : TypeId) (z : Value) (ht : P.underlying t = some (.slice e)) (hv : ∀ w, (zeroValue e).run P w = .ok z w) (h1 : ∀ v ∈ z.cells.toList, v.oneCell' = true) (b o c : Nat)
    (hc : ∀ j, j < z.cells.size → (w.cell? ⟨b, o + j, none⟩).isSome = true) (hf : ∀ j, j < z.cells.size → w.frozen? ⟨b, o + j, none⟩ = false) :
    (Builtin.clear_ #[t] ty #[.slice (some ⟨b, o, none⟩) 1 c]).run P w = .ok (.tuple #[]) (w.setCells b o z.cells.toList) := by
  have hzc : (Builtin.zeroCells z.cells 1).toList = z.cells.toList := by
    simp only [Builtin.zeroCells]
    apply List.ext_getElem
    · simp
    · intro i h1 h2
      have h3 : i < z.cells.size := by simpa using h2
      simp [Nat.mod_eq_of_lt h3, getElem!_pos z.cells i h3]
  have hst := run_storeCells_cells (P := P) b o z.cells.toList 0 w (by simpa using hc) (by simpa using hf) h1
  simp only [Nat.add_zero] at hst
  simp [Builtin.clear_, run_underlying ht, hv, hzc, hst]
set_option maxHeartbeats 4000000 in
set_option maxRecDepth 100000 in
/-- One is deleted: in place. -/
theorem del_raw (b off n c a : Nat) (cs : List Value) (w : World) (ha : a < n) (hnc : n ≤ c) (hm : n ≤ 9223372036854775807)
    (hcl : cs.length = n * 2) (hcs : ∀ j v, cs[j]? = some v → w.cell? ⟨b, off + j, none⟩ = some v) (hfz : ∀ j, j < n * 2 → w.frozen? ⟨b, off + j, none⟩ = false) (h1c : ∀ v ∈ cs, v.oneCell' = true) :
    Calls Tryz.prog 67 #[.slice (some ⟨b, off, none⟩) n c, .int .i64 (a : Nat), .int .i64 (a + 1 : Nat)] w fun e w' =>
      e = .returned (.slice (some ⟨b, off, none⟩) (n - 1) c) ∧ w' = (w.drew.setCells b (off + a * 2) (cs.drop ((a + 1) * 2))).setCells b (off + (n - 1) * 2) [.int .i64 0, .slice none 0 0] := by
  have t3 := Tryz.underlying3; have a3 := Tryz.isAgg3; have z3 := Tryz.sizeOf3; have v3 := Tryz.zeroValue3; have u3 := fun w => run_underlying (w := w) Tryz.underlying3
  have t4 := Tryz.underlying4; have a4 := Tryz.isAgg4; have z4 := Tryz.sizeOf4; have v4 := Tryz.zeroValue4; have u4 := fun w => run_underlying (w := w) Tryz.underlying4
  have t85 := Tryz.underlying85; have a85 := Tryz.isAgg85; have z85 := Tryz.sizeOf85; have v85 := Tryz.zeroValue85; have u85 := fun w => run_underlying (w := w) Tryz.underlying85
  have t122 := Tryz.underlying122; have a122 := Tryz.isAgg122; have z122 := Tryz.sizeOf122; have v122 := Tryz.zeroValue122; have u122 := fun w => run_underlying (w := w) Tryz.underlying122
  have mixed := tmix
  obtain ⟨i0, hi0, hz0, hz1, hz2⟩ := info_held
  obtain ⟨i, hi⟩ : ∃ i, i = a := ⟨_, rfl⟩
  obtain ⟨j, hj⟩ : ∃ j, j = a + 1 := ⟨_, rfl⟩
  rw [← hj, ← hi]
  obtain ⟨news, hnews⟩ : ∃ news, news = cs.drop (j * 2) := ⟨_, rfl⟩
  have hlen : news.length = (n - j) * 2 := by rw [hnews, List.length_drop, hcl]; omega
  obtain ⟨A, hA, hsrc⟩ : ∃ A : Addr, (if c = j then some (⟨b, off, none⟩ : Addr) else some ⟨b, off + j * 2, none⟩) = some A ∧ Hid (∀ t u, news[t]? = some u → w.drew.cell? (A.add t) = some u) := by
    by_cases h : c = j
    · refine ⟨⟨b, off, none⟩, by simp [h], fun t u hu => ?_⟩
      have h0 : news.length = 0 := by rw [hlen]; omega
      rw [List.length_eq_zero_iff.1 h0] at hu
      simp at hu
    · refine ⟨⟨b, off + j * 2, none⟩, by simp [h], fun t u hu => ?_⟩
      rw [hnews, List.getElem?_drop] at hu
      rw [Addr.add_lit, Nat.add_assoc]
      exact hcs _ u hu
  have s1 : Hid (news.length = (n - j) * 2) := hlen
  have s2 : Hid (∀ u ∈ news, u.oneCell' = true) := fun u hu => h1c u (by rw [hnews] at hu; exact List.mem_of_mem_drop hu)
  have hsome : ∀ t, t < n * 2 → (w.cell? ⟨b, off + t, none⟩).isSome = true := fun t ht => by
    rw [hcs t _ (List.getElem?_eq_getElem (by omega))]; rfl
  have s3 : Hid (∀ t, t < news.length → (w.drew.cell? ⟨b, off + i * 2 + t, none⟩).isSome = true ∧ w.drew.frozen? ⟨b, off + i * 2 + t, none⟩ = false) := by
    intro t ht
    rw [hlen] at ht
    rw [Nat.add_assoc]
    exact ⟨hsome _ (by omega), hfz _ (by omega)⟩
  obtain ⟨W1, hW1⟩ : ∃ W1, W1 = w.drew.setCells b (off + i * 2) news := ⟨_, rfl⟩
  have c1 : ∀ t, t < n * 2 → (W1.cell? ⟨b, off + t, none⟩).isSome = true := fun t ht => by
    rw [hW1]
    exact isSome_setCells b _ _ _ (fun q hq => by rw [hlen] at hq; rw [Nat.add_assoc]; exact hsome _ (by omega)) _ (hsome t ht)
  have hclr : ∀ ty, (Builtin.clear_ #[85] ty #[.slice (some ⟨b, off + (i + (n - j)) * 2, none⟩) (n - (i + (n - j))) (c - (i + (n - j)))]).run Tryz.prog W1 = .ok (.tuple #[]) (W1.setCells b (off + (n - 1) * 2) [.int .i64 0, .slice none 0 0]) := fun ty => by
    have e1 : n - (i + (n - j)) = 1 := by omega
    have e2 : i + (n - j) = n - 1 := by omega
    rw [e1, e2]
    exact run_clear_k W1 85 122 ty (.agg #[.int .i64 0, .slice none 0 0]) t85 v122 (by decide) b (off + (n - 1) * 2) _
      (fun t ht => by have ht : t < 2 := ht; rw [Nat.add_assoc]; exact c1 _ (by omega)) (fun t ht => by have ht : t < 2 := ht; rw [hW1, World.frozen?_setCells, Nat.add_assoc]; exact hfz _ (by omega))
  have hW : Hid (W1 = w.drew.setCells b (off + i * 2) news) := hW1
  have X : Aside (W1 = w.drew.setCells b (off + i * 2) (cs.drop (j * 2)) ∧ i + (n - j) = n - 1 ∧ i = a ∧ j = a + 1) := ⟨by rw [hW1, hnews], by omega, hi, hj⟩
  have hij : i ≤ j := by omega
  have hne : ¬ (i = j) := by omega
  have hlt : i < j := by omega
  have hjn : j ≤ n := by omega
  have hic : i ≤ c := by omega
  have hjc : j ≤ c := by omega
  have q1 : i + (n - j) ≤ n := by omega
  have q2 : ¬ (c = i + (n - j)) := by omega
  have q3 : n - j + i ≤ c := by omega
  clear hW1 hcs hnews hlen hsome c1 hfz h1c hi hj ha
  go_enter Tryz.func67, Tryz.ntmps67
  go_wp2_with fail
  go_region_law_o (refine step_append_room rfl (.tmp 22) (.tmp 25) 85 rfl 122 i0 2 t85 hi0 hz1 b off i c (by simp [Act.eval, Act.put]) A (n - j) (c - j) news (by simp [Act.eval, Act.put]) s1.out hsrc.out s2.out (by omega) s3.out ?_; rw [← hW.out])
  go_wp2
  go_ret
  obtain ⟨x1, x2, x3, x4⟩ := X.out
  refine ⟨by rw [x2]; rfl, ?_⟩
  rw [x1, x3, x4]
/-! ### Over abstract values -/
section lift
variable {ρ : Env} {h : AHeap} {w w' : World}
theorem heap_alloc_new (w : World) (o : Obj) : (w.alloc o).heap[w.heap.size]? = some o := by
  show (w.heap.push o)[w.heap.size]? = some o
  simp
theorem heap_alloc_off (w : World) (o : Obj) {o' : Obj} {j : Nat} (h : j ≠ w.heap.size) : (w.alloc o).heap[j]? = (w.heap.push o')[j]? := by
  show (w.heap.push o)[j]? = _
  simp [Array.getElem?_push, h]
theorem turned_setCells {c : Nat} {T : TypeId} {fz : Nat × Nat} : ∀ (vs : List Value) (o : Nat) (C : Array Value) (w : World), w.heap[c]? = some (.cells C T fz) → o + vs.length ≤ C.size →
    ∃ C', Turned w c (.cells C' T fz) (w.setCells c o vs) ∧ C'.size = C.size ∧ ∀ j, C'.getD j undef = over C o vs j := by
  intro vs
  induction vs with
  | nil =>
    intro o C w hc hs
    exact ⟨C, .refl hc, rfl, fun j => by simp only [over, List.length_nil]; rw [if_neg (by omega)]⟩
  | cons v rest ih =>
    intro o C w hc hs
    simp only [List.length_cons] at hs
    have ht := turned_setCell (off := o) v hc
    obtain ⟨C', h3, h4, h5⟩ := ih (o + 1) (C.setIfInBounds o v) _ ht.here (by simp; omega)
    refine ⟨C', ht.trans h3, by simpa using h4, fun j => ?_⟩
    rw [h5 j]
    simp only [over, List.length_cons]
    by_cases e : j = o
    · subst e
      rw [if_neg (by omega), if_pos (by omega)]
      have : j < C.size := by omega
      simp [Array.getD, this]
    · by_cases g : o + 1 ≤ j ∧ j < o + 1 + rest.length
      · rw [if_pos g, if_pos (by omega)]
        have : j - o = (j - (o + 1)) + 1 := by omega
        rw [this]; simp
      · rw [if_neg g, if_neg (by omega)]
        simp [Array.getD, Array.getElem?_setIfInBounds, Ne.symm e]
        split <;> simp_all [Array.getElem_setIfInBounds, Ne.symm e]
theorem turned_drew {c : Nat} {o : Obj} (hc : w.heap[c]? = some o) : Turned w c o w.drew := ⟨⟨rfl, rfl, rfl⟩, rfl, hc, fun _ _ => rfl⟩
/-- The first cells of a row. -/
structure Row (ρ : Env) (h : AHeap) (w : World) (b n : Nat) (cs : List AVal) (C : Array Value) (T : TypeId) (fz : Nat × Nat) (vs : List Value) : Prop where
  here : w.heap[(ρ b).blk]? = some (.cells C T fz)
  len : vs.length = n
  cell : ∀ j v, vs[j]? = some v → w.cell? ⟨(ρ b).blk, (ρ b).base + 0 + j, none⟩ = some v
  val : ∀ (i : Nat) (hi : i < n), VR ρ h w (cs.getD i .any) (vs.getD i undef)
  free : ∀ j, j < C.size + (ρ b).more → (decide (fz.1 ≤ j) && decide (j < fz.2)) = false
  size : C.size = (ρ b).size
  fit : (ρ b).base + n ≤ C.size
  one : ∀ v ∈ vs, v.oneCell' = true
theorem row_of (hR : Rel ρ h w) {b n : Nat} {cs : List AVal} (hb : h[b]? = some (.cells cs)) (hn : n ≤ cs.length) (h1 : (cs.take n).all (·.one) = true) : ∃ C T fz vs, Row ρ h w b n cs C T fz vs := by
  obtain ⟨C, T, fz, g1, g2, g3, g4, g5⟩ := hR.obj b _ hb
  have hl : ((C.toList.drop (ρ b).base).take n).length = n := by simp; omega
  have hg : ∀ i, i < n → ((C.toList.drop (ρ b).base).take n).getD i undef = C.getD ((ρ b).base + i) undef := fun i hi => by
    have h2 : (ρ b).base + i < C.size := by omega
    rw [List.getD_eq_getElem?_getD, List.getElem?_take, if_pos hi, List.getElem?_drop, Array.getElem?_toList, Array.getElem?_eq_getElem h2]
    simp [Array.getD, h2]
  have hv : ∀ (i : Nat) (hi : i < n), VR ρ h w (cs.getD i .any) (((C.toList.drop (ρ b).base).take n).getD i undef) := fun i hi => by
    rw [hg i hi]
    have := g5 i (by omega)
    rwa [List.getD_eq_getElem?_getD, List.getElem?_eq_getElem (by omega)]
  refine ⟨C, T, fz, (C.toList.drop (ρ b).base).take n, g1, hl, fun j v hj => ?_, hv, g2, g3, by omega, fun v hm => ?_⟩
  · have hj' : j < n := by have := (List.getElem?_eq_some_iff.1 hj).1; omega
    have h2 : (ρ b).base + j < C.size := by omega
    rw [Nat.add_zero, cell_of g1 h2, ← hg j hj', List.getD_eq_getElem?_getD, hj]
    rfl
  · obtain ⟨j, hj, rfl⟩ := List.getElem_of_mem hm
    have hj' : j < n := by omega
    have h3 := (hv j hj').one (by
      have h4 := List.all_eq_true.1 h1 (cs.getD j .any) (by
        rw [List.getD_eq_getElem?_getD, List.getElem?_eq_getElem (by omega)]
        exact List.mem_take_iff_getElem.2 ⟨j, by omega, rfl⟩)
      exact h4)
    rwa [List.getD_eq_getElem?_getD, List.getElem?_eq_getElem hj] at h3
theorem Row.frz {b n : Nat} {cs : List AVal} {C : Array Value} {T : TypeId} {fz : Nat × Nat} {vs : List Value} (r : Row ρ h w b n cs C T fz vs) {j : Nat} (hj : j < C.size + (ρ b).more) : w.frozen? ⟨(ρ b).blk, j, none⟩ = false := by
  simp only [World.frozen?, r.here]; exact r.free j hj
theorem sl_parts {b n k : Nat} {u : Value} (hv : VR ρ h w (.sl k b 0 n) u) (h0 : 0 < n) : ∃ cap, u = .slice (some ⟨(ρ b).blk, (ρ b).base + 0, none⟩) n cap ∧ n ≤ cap ∧ (ρ b).base + 0 + cap * k ≤ (ρ b).size ∧ (k = 1 ∨ 1 ≤ (ρ b).more) ∧ b < h.length := by
  generalize hn : n = m at hv
  cases hv with
  | slZ => omega
  | sl _ _ _ _ cap hb hl hcap hm => exact ⟨cap, rfl, by omega, hcap, hm, hb⟩
theorem ins_of {b v n : Nat} {cs xs : List AVal} (hb : h[b]? = some (.cells cs)) (hv : h[v]? = some (.cells xs)) (hbv : v ≠ b) (h0 : 0 < n) (hcl : n * 2 ≤ cs.length) (hxl : 2 ≤ xs.length)
    (h1c : (cs.take (n * 2)).all (·.one) = true) (h1x : (xs.take 2).all (·.one) = true) (hbig : (n + 1) * 32 ≤ 140737488355328) :
    ACalls Tryz.prog 69 [.sl 2 b 0 n, .lit (.int .i64 0), .sl 2 v 0 1] h fun e g => e = .ret (.sl 2 h.length 0 (n + 1)) ∧ g = h.set b .dead ++ [.cells (xs.take 2 ++ cs.take (n * 2))] := by
  intro ρ w us hR hus
  obtain ⟨u1, u2, u3, rfl, hu1, hu2, hu3⟩ := hus.three
  cases hu2
  obtain ⟨cap, rfl, hle, hcap, hmr, hbl⟩ := sl_parts hu1 h0
  obtain ⟨vc, rfl, _, hvcap, hmv, hvl⟩ := sl_parts hu3 (by omega)
  have hmv : 1 ≤ (ρ v).more := by omega
  obtain ⟨C, T, fz, ccs, R⟩ := row_of hR hb hcl h1c
  obtain ⟨X, TX, fx, cxs, RX⟩ := row_of hR hv hxl h1x
  have hblk : (ρ v).blk ≠ (ρ b).blk := fun e => hbv (hR.inj v b _ _ hv hb (by simp) (by simp) e)
  have hlen : (xs.take 2 ++ cs.take (n * 2)).length = (n + 1) * 2 := by simp; omega
  have hval : ∀ (i : Nat) (hi : i < (xs.take 2 ++ cs.take (n * 2)).length), VR ρ h w (xs.take 2 ++ cs.take (n * 2))[i] (if i < 2 then cxs.getD i undef else ccs.getD (i - 2) undef) := fun i hi => by
    rw [hlen] at hi
    by_cases c : i < 2
    · rw [if_pos c, List.getElem_append_left (by simp; omega), List.getElem_take]
      have := RX.val i c
      rwa [List.getD_eq_getElem?_getD, List.getElem?_eq_getElem (by omega)] at this
    · have e : (xs.take 2).length = 2 := by simp; omega
      rw [if_neg c, List.getElem_append_right (by omega)]
      have := R.val (i - 2) (by omega)
      rw [List.getD_eq_getElem?_getD, List.getElem?_eq_getElem (by omega)] at this
      simpa [e] using this
  by_cases hroom : n + 1 ≤ cap
  · have hfit : (ρ b).base + (n + 1) * 2 ≤ C.size := by
      have : (n + 1) * 2 ≤ cap * 2 := Nat.mul_le_mul_right _ hroom
      rw [R.size]; omega
    refine (ins_room (ρ b).blk ((ρ b).base + 0) n cap (ρ v).blk ((ρ v).base + 0) vc ccs cxs w h0 hroom (by omega) hblk R.len RX.len R.cell (fun j hj => by rw [cell_of R.here (by omega)]; rfl) (fun j hj => R.frz (by omega)) RX.cell R.one RX.one
      TX T X.size C.size (by simp [World.shape?, RX.here]) (by simp [World.shape?, R.here]) (by omega) (RX.frz (by have := RX.fit; omega)) (RX.frz (by omega))).mono ?_
    rintro e w' ⟨rfl, rfl⟩
    obtain ⟨C1, t1, s1, o1⟩ := turned_setCells ccs ((ρ b).base + 0 + 2) C w.drew (turned_drew R.here).here (by rw [R.len]; omega)
    obtain ⟨C2, t2, s2, o2⟩ := turned_setCells cxs ((ρ b).base + 0) C1 _ t1.here (by rw [RX.len, s1]; omega)
    have tt := ((turned_drew R.here).trans t1).trans t2
    obtain ⟨e1, r1⟩ := move_obj (l := ⟨(ρ b).blk, (ρ b).base + 0, (ρ b).size, (ρ b).more⟩) (o' := .cells (xs.take 2 ++ cs.take (n * 2))) hR hb (by simp) rfl rfl tt.same (by rw [tt.size]; exact Nat.le_refl _) tt.rest (fun e1 => by
      refine ⟨C2, T, fz, tt.here, fun i hi => R.free i (by rw [s2, s1] at hi; exact hi), by rw [s2, s1]; exact R.size, by rw [hlen, s2, s1]; simpa using hfit, fun i hi => ?_⟩
      have hi' := hi
      rw [hlen] at hi'
      have := (hval i hi).evo e1
      rw [o2]
      simp only [over, RX.len]
      by_cases c : i < 2
      · rw [if_pos (by omega), show (ρ b).base + 0 + i - ((ρ b).base + 0) = i by omega]
        rwa [if_pos c] at this
      · rw [if_neg (by omega), o1]
        simp only [over, R.len]
        rw [if_pos (by omega), show (ρ b).base + 0 + i - ((ρ b).base + 0 + 2) = i - 2 by omega]
        rwa [if_neg c] at this)
    refine ⟨_, _, .ret (.sl 2 h.length 0 (n + 1)), e1, r1, .ret _ _ ?_, rfl, rfl⟩
    have := VR.sl (ρ := ext ρ h.length ⟨(ρ b).blk, (ρ b).base + 0, (ρ b).size, (ρ b).more⟩) (h := h.set b .dead ++ [.cells (xs.take 2 ++ cs.take (n * 2))]) (w := (w.drew.setCells (ρ b).blk ((ρ b).base + 0 + 2) ccs).setCells (ρ b).blk ((ρ b).base + 0) cxs) 2 h.length 0 (n + 1) cap (by simp) hroom
      (by simpa [ext_self] using hcap) (by simpa [ext_self] using hmr)
    simpa [ext_self] using this
  · refine (ins_grow (ρ b).blk ((ρ b).base + 0) n cap (ρ v).blk ((ρ v).base + 0) vc ccs cxs w h0 hle (by omega) hbig R.len RX.len R.cell RX.cell R.one RX.one).mono ?_
    rintro e w' ⟨rfl, rfl⟩
    obtain ⟨G, hG⟩ : ∃ G, G = grownCap w (n + 1) cap 122 := ⟨_, rfl⟩
    have hge : n + 1 ≤ G := by rw [hG]; exact grownCap_ge w _ _ _
    rw [← hG]
    obtain ⟨ROW, hROW⟩ : ∃ ROW : Array Value, ROW = Builtin.zeroCells (Value.agg #[.int .i64 0, .slice none 0 0]).cells (n + 1) ++ Builtin.zeroCells (Value.agg #[.int .i64 0, .slice none 0 0]).cells (G - (n + 1)) := ⟨_, rfl⟩
    rw [← hROW]
    have hRl : ROW.size = G * 2 := by
      rw [hROW, Array.size_append, zeroCells_size, zeroCells_size]
      show (n + 1) * 2 + (G - (n + 1)) * 2 = G * 2
      omega
    have a0 : (w.alloc (.cells ROW 122)).heap[w.heap.size]? = some (.cells ROW 122 (0, 0)) := heap_alloc_new w _
    obtain ⟨C1, t1, s1, o1⟩ := turned_setCells cxs 0 ROW _ (turned_drew a0).here (by rw [RX.len, hRl]; omega)
    obtain ⟨C2, t2, s2, o2⟩ := turned_setCells ccs 2 C1 _ (turned_drew t1.here).here (by rw [R.len, s1, hRl]; omega)
    have tt := (((turned_drew a0).trans t1).trans (turned_drew t1.here)).trans t2
    obtain ⟨W, hW⟩ : ∃ W, W = (((w.alloc (.cells ROW 122)).drew.setCells w.heap.size 0 cxs).drew).setCells w.heap.size 2 ccs := ⟨_, rfl⟩
    rw [← hW] at tt ⊢
    have hheap : W.heap = w.heap.push (.cells C2 122 (0, 0)) := by
      apply Array.ext_getElem?
      intro j
      by_cases c : j = w.heap.size
      · subst c; rw [tt.here]; simp
      · rw [tt.rest j c]
        exact heap_alloc_off w _ c
    have ed : Evo ρ h w ρ (h.set b .dead) w := evo_set hR hb (by simp) (.refl _) (Nat.le_refl _) (fun _ _ => rfl) (fun r hr => ⟨r, hr⟩)
    have rd : Rel ρ (h.set b .dead) w := hR.set hb (by simp) (.refl _) (Nat.le_refl _) (fun _ _ => rfl) (fun r hr => ⟨r, hr⟩) trivial
    have hsm : Same w W := ⟨tt.same.1, tt.same.2.1, tt.same.2.2⟩
    obtain ⟨e1, r1⟩ := grown (m := 1) (T := 122) (fz := (0, 0)) (vs := xs.take 2 ++ cs.take (n * 2)) rd hsm hheap (by rw [hlen, s2, s1, hRl]; omega) (fun i hi => by
      have hi' := hi
      rw [hlen] at hi'
      have := (hval i hi).evo ed
      rw [o2]
      simp only [over, R.len]
      by_cases c : i < 2
      · rw [if_neg (by omega), o1]
        simp only [over, RX.len]
        rw [if_pos (by omega), Nat.sub_zero]
        rwa [if_pos c] at this
      · rw [if_pos (by omega)]
        rwa [if_neg c] at this) (fun i _ => by simp)
    have hsl : (h.set b AObj.dead).length = h.length := by simp
    rw [hsl] at e1 r1
    refine ⟨_, _, .ret (.sl 2 h.length 0 (n + 1)), ed.trans e1, r1, .ret _ _ ?_, rfl, rfl⟩
    have := VR.sl (ρ := ext ρ h.length ⟨w.heap.size, 0, C2.size, 1⟩) (h := h.set b .dead ++ [.cells (xs.take 2 ++ cs.take (n * 2))]) (w := W) 2 h.length 0 (n + 1) G (by simp) hge
      (by simp only [ext_self]; rw [s2, s1, hRl]; omega) (.inr (by simp [ext_self]))
    simpa [ext_self] using this
theorem del_of {b n a : Nat} {cs : List AVal} (hb : h[b]? = some (.cells cs)) (ha : a < n) (hcl : n * 2 ≤ cs.length) (h1c : (cs.take (n * 2)).all (·.one) = true) (hbig : n * 32 ≤ 140737488355328) :
    ACalls Tryz.prog 67 [.sl 2 b 0 n, .lit (.int .i64 (a : Nat)), .lit (.int .i64 (a + 1 : Nat))] h fun e g => e = .ret (.sl 2 b 0 (n - 1)) ∧
      g = h.set b (.cells (cs.take (a * 2) ++ (cs.take (n * 2)).drop ((a + 1) * 2) ++ [.lit (.int .i64 0), .lit (.slice none 0 0)])) := by
  intro ρ w us hR hus
  obtain ⟨u1, u2, u3, rfl, hu1, hu2, hu3⟩ := hus.three
  cases hu2; cases hu3
  obtain ⟨cap, rfl, hle, hcap, hmr, hbl⟩ := sl_parts hu1 (by omega)
  obtain ⟨C, T, fz, ccs, R⟩ := row_of hR hb hcl h1c
  refine (del_raw (ρ b).blk ((ρ b).base + 0) n cap a ccs w ha hle (by omega) R.len R.cell (fun j hj => R.frz (by have := R.fit; omega)) R.one).mono ?_
  rintro e w' ⟨rfl, rfl⟩
  have hfit := R.fit
  obtain ⟨C1, t1, s1, o1⟩ := turned_setCells (ccs.drop ((a + 1) * 2)) ((ρ b).base + 0 + a * 2) C w.drew (turned_drew R.here).here (by rw [List.length_drop, R.len]; omega)
  obtain ⟨C2, t2, s2, o2⟩ := turned_setCells [.int .i64 0, .slice none 0 0] ((ρ b).base + 0 + (n - 1) * 2) C1 _ t1.here (by rw [s1]; simp only [List.length_cons, List.length_nil]; omega)
  have tt := ((turned_drew R.here).trans t1).trans t2
  have l1 : (cs.take (a * 2)).length = a * 2 := by simp; omega
  have l2 : ((cs.take (n * 2)).drop ((a + 1) * 2)).length = (n - 1) * 2 - a * 2 := by simp; omega
  have hlen : (cs.take (a * 2) ++ (cs.take (n * 2)).drop ((a + 1) * 2) ++ [AVal.lit (.int .i64 0), AVal.lit (.slice none 0 0)]).length = n * 2 := by
    rw [List.length_append, List.length_append, l1, l2]; simp only [List.length_cons, List.length_nil]; omega
  have hg0 : ∀ j, j < n * 2 → C.getD ((ρ b).base + j) undef = ccs.getD j undef := fun j hj => by
    have h1 := R.cell j _ (List.getElem?_eq_getElem (by rw [R.len]; omega))
    rw [Nat.add_zero, cell_of R.here (by omega)] at h1
    rw [Option.some.inj h1, List.getD_eq_getElem?_getD, List.getElem?_eq_getElem (by rw [R.len]; omega)]
    rfl
  obtain ⟨e1, r1⟩ := turn_cells hR hb R.here tt (by rw [s2, s1]) (by rw [hlen]; exact hfit) (cs' := cs.take (a * 2) ++ (cs.take (n * 2)).drop ((a + 1) * 2) ++ [.lit (.int .i64 0), .lit (.slice none 0 0)]) (fun i hi => by
    rw [hlen] at hi
    rw [o2]
    simp only [over, List.length_cons, List.length_nil]
    by_cases c1 : (n - 1) * 2 ≤ i
    · rw [if_pos (by omega), List.getElem_append_right (by rw [List.length_append, l1, l2]; omega)]
      simp only [List.length_append, l1, l2]
      rw [show (ρ b).base + i - ((ρ b).base + 0 + (n - 1) * 2) = i - (n - 1) * 2 by omega]
      have e0 : a * 2 + ((n - 1) * 2 - a * 2) = (n - 1) * 2 := by omega
      simp only [e0]
      rcases (show i - (n - 1) * 2 = 0 ∨ i - (n - 1) * 2 = 1 by omega) with q | q <;> simp only [q] <;> exact .lit _
    · rw [if_neg (by omega), o1, List.getElem_append_left (by rw [List.length_append, l1, l2]; omega)]
      simp only [over, List.length_drop, R.len]
      by_cases c2 : a * 2 ≤ i
      · rw [if_pos (by omega), List.getElem_append_right (by rw [l1]; omega), List.getElem_drop, List.getElem_take]
        simp only [l1]
        have := R.val ((a + 1) * 2 + (i - a * 2)) (by omega)
        rw [List.getD_eq_getElem?_getD, List.getElem?_eq_getElem (by omega)] at this
        rw [show (ρ b).base + i - ((ρ b).base + 0 + a * 2) = i - a * 2 by omega, List.getD_eq_getElem?_getD, List.getElem?_drop, ← List.getD_eq_getElem?_getD]
        exact this
      · rw [if_neg (by omega), List.getElem_append_left (by rw [l1]; omega), List.getElem_take, hg0 i (by omega)]
        have := R.val i (by omega)
        rwa [List.getD_eq_getElem?_getD, List.getElem?_eq_getElem (by omega)] at this)
  refine ⟨ρ, _, .ret (.sl 2 b 0 (n - 1)), e1, r1, .ret _ _ ?_, rfl, rfl⟩
  exact VR.sl 2 b 0 (n - 1) cap (by simpa using hbl) (by omega) hcap hmr
end lift
-- slices.Insert[[]chainman/vecs.held,chainman/vecs.held]: function 69
noncomputable def Eslices_Insert_vecs_held_vecs_held : XE := { T := tabOf [(3, r3), (4, r4), (23, r23), (85, r85), (122, r122)], C := [], D := [], Ms := [], Ml := [], Mo := [], n := 95 }
theorem Eslices_Insert_vecs_held_vecs_held_ok : XE.Ok Eslices_Insert_vecs_held_vecs_held Tryz.prog := ⟨tabOf_ok (⟨r3_ok, ⟨r4_ok, ⟨r23_ok, ⟨r85_ok, ⟨r122_ok, trivial⟩⟩⟩⟩⟩), trivial, ydOk_none, trivial⟩
noncomputable def c69 : Code := bodyOf f69
noncomputable def S_slices_Insert_vecs_held_vecs_held (s0 : AVal) (i1 : Int) (v2 : AVal) (h : AHeap) : Option (AVal × AHeap) := xfun Eslices_Insert_vecs_held_vecs_held f69 [s0, (.lit (.int .i64 i1)), v2] h
theorem S_slices_Insert_vecs_held_vecs_held_eq (s0 : AVal) (i1 : Int) (v2 : AVal) (h : AHeap) : S_slices_Insert_vecs_held_vecs_held s0 i1 v2 h =
 (cutV 2 s0 (some i1) none none).bind fun v1 =>
 (lenV v2).bind fun n2 =>
 bif (decide (n2 = 0)) then (some (s0, h))
 else ((lenV s0).bind fun n3 =>
 bif (decide (i1 = n3)) then ((appV 2 32 h s0 v2).bind fun r4 =>
 some (r4.1, r4.2))
 else (none)) := by kernel_rfl
theorem S_slices_Insert_vecs_held_vecs_held_ends {s0 : AVal} {i1 : Int} {v2 : AVal} {h h' : AHeap} {v : AVal} {R : AEnd → AHeap → Prop} (hx : S_slices_Insert_vecs_held_vecs_held s0 i1 v2 h = some (v, h')) (hR : HOk h → h.length ≤ h'.length → ABody.AEnds h h' (.ret v) R) : ACalls Tryz.prog 69 [s0, (.lit (.int .i64 i1)), v2] h R := xfun_ends Eslices_Insert_vecs_held_vecs_held_ok tmix (i := 69) (by rfl) (by kernel_rfl) (by kernel_rfl) hx hR
def smallRow (n : Nat) : Bool := Nat.ble (n * 32) 140737488355328
theorem smallRow_le {n : Nat} (h : smallRow n = true) : n * 32 ≤ 140737488355328 := Nat.le_of_ble_eq_true h
set_option maxRecDepth 100000 in
noncomputable def insV (h : AHeap) (s : AVal) (i : Int) (x : AVal) : Option (AVal × AHeap) := match s, x with
  | .sl k b o (n + 1), .sl k' v o' m => match cellsAt h b, cellsAt h v with
    | some cs, some xs => match decide (i = 0) && (Nat.beq k 2 && (Nat.beq o 0 && (Nat.beq k' 2 && (Nat.beq o' 0 && (Nat.beq m 1 && (!Nat.beq v b && (Nat.ble ((n + 1) * 2) cs.length && (Nat.ble 2 xs.length && ((cs.take ((n + 1) * 2)).all (·.one) && ((xs.take 2).all (·.one) && smallRow (n + 1 + 1))))))))))) with
      | true => some (.sl 2 h.length 0 (n + 1 + 1), h.set b .dead ++ [.cells (xs.take 2 ++ cs.take ((n + 1) * 2))])
      | false => none
    | _, _ => none
  | _, _ => S_slices_Insert_vecs_held_vecs_held s i x h
theorem insV_of {h : AHeap} {s x : AVal} {i : Int} {r : AVal × AHeap} (hx : insV h s i x = some r) : ACalls Tryz.prog 69 [s, .lit (.int .i64 i), x] h fun e g => e = .ret r.1 ∧ g = r.2 := by
  unfold insV at hx
  split at hx
  · split at hx
    · rename_i hc hd
      split at hx
      · rename_i hq
        cases hx
        simp only [Bool.and_eq_true, decide_eq_true_eq, Bool.not_eq_true'] at hq
        obtain ⟨rfl, q1, q2, q3, q4, q5, q6, q7, q8, q9, q10, q11⟩ := hq
        have q1 := Nat.eq_of_beq_eq_true q1
        have q2 := Nat.eq_of_beq_eq_true q2
        have q3 := Nat.eq_of_beq_eq_true q3
        have q4 := Nat.eq_of_beq_eq_true q4
        have q5 := Nat.eq_of_beq_eq_true q5
        subst q1 q2 q3 q4 q5
        exact ins_of (cellsAt_some hc) (cellsAt_some hd) (Nat.ne_of_beq_eq_false q6) (Nat.succ_pos _) (Nat.le_of_ble_eq_true q7) (Nat.le_of_ble_eq_true q8) q9 q10 (smallRow_le q11)
      · cases hx
    · cases hx
  · obtain ⟨v, g⟩ := r
    exact S_slices_Insert_vecs_held_vecs_held_ends hx selfR
set_option maxRecDepth 100000 in
def delV (h : AHeap) (s : AVal) (i j : Int) : Option (AVal × AHeap) := match s, i with
  | .sl k b o n, .ofNat a => match cellsAt h b with
    | some cs => match decide (j = (a : Int) + 1) && (Nat.beq k 2 && (Nat.beq o 0 && (Nat.blt a n && (Nat.ble (n * 2) cs.length && ((cs.take (n * 2)).all (·.one) && smallRow n))))) with
      | true => some (.sl 2 b 0 (n - 1), h.set b (.cells (cs.take (a * 2) ++ (cs.take (n * 2)).drop ((a + 1) * 2) ++ [.lit (.int .i64 0), .lit (.slice none 0 0)])))
      | false => none
    | _ => none
  | _, _ => none
theorem delV_of {h : AHeap} {s : AVal} {i j : Int} {r : AVal × AHeap} (hx : delV h s i j = some r) : ACalls Tryz.prog 67 [s, .lit (.int .i64 i), .lit (.int .i64 j)] h fun e g => e = .ret r.1 ∧ g = r.2 := by
  unfold delV at hx
  split at hx
  · split at hx
    · rename_i hc
      split at hx
      · rename_i a _ _ hq
        cases hx
        simp only [Bool.and_eq_true, decide_eq_true_eq] at hq
        obtain ⟨rfl, q1, q2, q3, q4, q5, q6⟩ := hq
        have q1 := Nat.eq_of_beq_eq_true q1
        have q2 := Nat.eq_of_beq_eq_true q2
        subst q1 q2
        exact del_of (cellsAt_some hc) (Nat.le_of_ble_eq_true q3) (Nat.le_of_ble_eq_true q4) q5 (smallRow_le q6)
      · cases hx
    · cases hx
  · cases hx
noncomputable def w_slices_Insert_vecs_held_vecs_held : XC := .l fun R args h K => match args with
  | [s, .lit (.int .i64 i), x] => (insV h s i x).bind fun r => K r.1 r.2
  | _ => none
theorem w_slices_Insert_vecs_held_vecs_held_ok : XC.Nat w_slices_Insert_vecs_held_vecs_held ∧ XC.Ok Tryz.prog 69 w_slices_Insert_vecs_held_vecs_held := by
  refine ⟨fun R args h K => ?_, tc69, fun args h v h' hx => ?_⟩
  · dsimp only; split <;> simp [Option.bind_assoc, mkP]
  · dsimp only at hx; split at hx
    · obtain ⟨r, hopt, hx⟩ := Option.bind_eq_some_iff.1 hx
      simp only [mkP, Option.some.injEq, Prod.mk.injEq] at hx
      obtain ⟨rfl, rfl⟩ := hx
      exact insV_of hopt
    · cases hx
noncomputable def w_slices_Delete_vecs_held_vecs_held : XC := .l fun R args h K => match args with
  | [s, .lit (.int .i64 i), .lit (.int .i64 j)] => (delV h s i j).bind fun r => K r.1 r.2
  | _ => none
theorem w_slices_Delete_vecs_held_vecs_held_ok : XC.Nat w_slices_Delete_vecs_held_vecs_held ∧ XC.Ok Tryz.prog 67 w_slices_Delete_vecs_held_vecs_held := by
  refine ⟨fun R args h K => ?_, tc67, fun args h v h' hx => ?_⟩
  · dsimp only; split <;> simp [Option.bind_assoc, mkP]
  · dsimp only at hx; split at hx
    · obtain ⟨r, hopt, hx⟩ := Option.bind_eq_some_iff.1 hx
      simp only [mkP, Option.some.injEq, Prod.mk.injEq] at hx
      obtain ⟨rfl, rfl⟩ := hx
      exact delV_of hopt
    · cases hx
end Go.Proofs.YteahajcgbogjkaaGreat.AL
/- slices.Grow at the nil row of near ones. -/
set_option linter.unusedVariables false
set_option linter.unusedSimpArgs false
set_option maxRecDepth 100000
namespace Go.Proofs.YteahajcgbogjkaaGreat.AL
open Go Go.RowKit Go.Proofs Go.Lib
open Go.Proofs.Tryz
theorem infoG_slices_Grow_api_Near_api_Near : ∃ i, Tryz.prog.info? 99 = some i ∧ i.zero = some (.agg #[(.int .i64 0), (.int .i64 0), (.bool false)]) ∧ i.size = 3 ∧ i.bytes = 24 := by
  have h : (Tryz.prog.info? 99).map (fun i => (i.zero, i.size, i.bytes)) = some (some (.agg #[(.int .i64 0), (.int .i64 0), (.bool false)]), 3, 24) := by kernel_rfl
  obtain ⟨j, h1, h2⟩ := Option.map_eq_some_iff.1 h
  simp only [Prod.mk.injEq] at h2
  exact ⟨j, h1, h2.1, h2.2.1, h2.2.2⟩
set_option maxHeartbeats 4000000 in
set_option maxRecDepth 100000 in
theorem growRaw_slices_Grow_api_Near_api_Near (n : Nat) (w : World) (h0 : 0 < n) (hbig : n * 24 ≤ 140737488355328) :
    Calls Tryz.prog 120 #[.slice none 0 0, .int .i64 (n : Nat)] w fun e w' =>
      e = .returned (.slice (some ⟨w.heap.size, 0, none⟩) 0 (grownCap w n 0 99)) ∧ w' = w.drew.alloc (.cells (Builtin.zeroCells (Value.cells (.agg #[(.int .i64 0), (.int .i64 0), (.bool false)])) n ++ Builtin.zeroCells (Value.cells (.agg #[(.int .i64 0), (.int .i64 0), (.bool false)])) (grownCap w n 0 99 - n)) 99) := by
  have t3 := Tryz.underlying3; have a3 := Tryz.isAgg3; have z3 := Tryz.sizeOf3; have v3 := Tryz.zeroValue3; have u3 := fun w => run_underlying (w := w) Tryz.underlying3
  have t4 := Tryz.underlying4; have a4 := Tryz.isAgg4; have z4 := Tryz.sizeOf4; have v4 := Tryz.zeroValue4; have u4 := fun w => run_underlying (w := w) Tryz.underlying4
  have t60 := Tryz.underlying60; have a60 := Tryz.isAgg60; have z60 := Tryz.sizeOf60; have v60 := Tryz.zeroValue60; have u60 := fun w => run_underlying (w := w) Tryz.underlying60
  have t99 := Tryz.underlying99; have a99 := Tryz.isAgg99; have z99 := Tryz.sizeOf99; have v99 := Tryz.zeroValue99; have u99 := fun w => run_underlying (w := w) Tryz.underlying99
  have mixed := tmix
  obtain ⟨i0, hi0, hz0, hzs, hzb⟩ := infoG_slices_Grow_api_Near_api_Near
  have hrun : ∀ ty, (Builtin.append_ #[60, 3] ty #[.slice none 0 0, .int .i64 (n : Nat)]).run Tryz.prog w = _ := fun ty =>
    Lib.run_append_nil_zeros w 60 3 ty 99 i0 _ .i64 .i64 t60 t3 hi0 hz0 n h0 (by rw [hzs]; decide) (by omega) (by rw [hzb]; omega)
  have hG : ∃ G, G = grownCap w n 0 99 := ⟨_, rfl⟩
  obtain ⟨G, hG⟩ := hG
  have hge : n ≤ G := by rw [hG]; exact grownCap_ge w _ _ _
  rw [← hG] at hrun ⊢
  have h1 : ¬ ((n : Int) < 0) := by omega
  have h2 : (n : Int) > 0 := by omega
  have h3 : IntKind.i64.wrap (n : Int) = (n : Int) := by rw [IntKind.wrap_i64]; omega
  have h4 : ¬ (G = 0) := by omega
  go_enter Tryz.func120, Tryz.ntmps120
  go_wp2_with (at_builtin; refine Lib.wpList_append_run _ rfl _ _ _ _ rfl _ _ rfl rfl _ _ (hrun _) ?_)
  go_ret
  exact ⟨rfl, rfl⟩
theorem grow_slices_Grow_api_Near_api_Near {h : AHeap} {n : Nat} (h0 : 0 < n) (hbig : n * 24 ≤ 140737488355328) : ACalls Tryz.prog 120 [.lit (.slice none 0 0), .lit (.int .i64 (n : Nat))] h fun e g => e = .ret (.sl 3 h.length 0 0) ∧ g = h ++ [.cells []] := by
  intro ρ w us hR hus
  obtain ⟨u1, u2, rfl, hu1, hu2⟩ := hus.two
  cases hu1; cases hu2
  refine (growRaw_slices_Grow_api_Near_api_Near n w h0 hbig).mono ?_
  rintro e w' ⟨rfl, rfl⟩
  obtain ⟨G, hG⟩ : ∃ G, G = grownCap w n 0 99 := ⟨_, rfl⟩
  have hge : n ≤ G := by rw [hG]; exact grownCap_ge w _ _ _
  rw [← hG]
  obtain ⟨ROW, hROW⟩ : ∃ ROW : Array Value, ROW = Builtin.zeroCells (Value.cells (.agg #[(.int .i64 0), (.int .i64 0), (.bool false)])) n ++ Builtin.zeroCells (Value.cells (.agg #[(.int .i64 0), (.int .i64 0), (.bool false)])) (G - n) := ⟨_, rfl⟩
  rw [← hROW]
  have hRl : ROW.size = G * 3 := by
    rw [hROW, Array.size_append, zeroCells_size, zeroCells_size]
    show n * 3 + (G - n) * 3 = G * 3
    rw [← Nat.add_mul]; congr 1; omega
  obtain ⟨e1, r1⟩ := grown (w' := w.drew.alloc (.cells ROW 99)) (m := 1) (us := ROW) (T := 99) (fz := (0, 0)) (vs := []) hR ⟨rfl, rfl, rfl⟩ rfl (Nat.zero_le _) (fun i hi => by simp at hi) (fun i _ => by simp)
  refine ⟨_, _, .ret (.sl 3 h.length 0 0), e1, r1, .ret _ _ ?_, rfl, rfl⟩
  have := VR.sl (ρ := ext ρ h.length ⟨w.heap.size, 0, ROW.size, 1⟩) (h := h ++ [.cells []]) (w := w.drew.alloc (.cells ROW 99)) 3 h.length 0 0 G (by simp) (Nat.zero_le _) (by simp only [ext_self]; omega) (.inr (by simp [ext_self]))
  simpa [ext_self] using this
theorem grow0_slices_Grow_api_Near_api_Near {h : AHeap} : ACalls Tryz.prog 120 [.lit (.slice none 0 0), .lit (.int .i64 0)] h fun e g => e = .ret (.lit (.slice none 0 0)) ∧ g = h := by
  intro ρ w us hR hus
  obtain ⟨u1, u2, rfl, hu1, hu2⟩ := hus.two
  cases hu1; cases hu2
  have raw : Calls Tryz.prog 120 #[.slice none 0 0, .int .i64 0] w fun e w' => e = .returned (.slice none 0 0) ∧ w' = w := by
    have t3 := Tryz.underlying3; have a3 := Tryz.isAgg3; have z3 := Tryz.sizeOf3; have v3 := Tryz.zeroValue3; have u3 := fun w => run_underlying (w := w) Tryz.underlying3
    have t4 := Tryz.underlying4; have a4 := Tryz.isAgg4; have z4 := Tryz.sizeOf4; have v4 := Tryz.zeroValue4; have u4 := fun w => run_underlying (w := w) Tryz.underlying4
    have t60 := Tryz.underlying60; have a60 := Tryz.isAgg60; have z60 := Tryz.sizeOf60; have v60 := Tryz.zeroValue60; have u60 := fun w => run_underlying (w := w) Tryz.underlying60
    have t99 := Tryz.underlying99; have a99 := Tryz.isAgg99; have z99 := Tryz.sizeOf99; have v99 := Tryz.zeroValue99; have u99 := fun w => run_underlying (w := w) Tryz.underlying99
    have mixed := tmix
    go_enter Tryz.func120, Tryz.ntmps120
    go_wp2
    go_ret
    exact ⟨rfl, rfl⟩
  refine raw.mono ?_
  rintro e w' ⟨rfl, rfl⟩
  exact ⟨ρ, h, .ret (.lit (.slice none 0 0)), .refl .., hR, .ret _ _ (.lit _), rfl, rfl⟩
def growV_slices_Grow_api_Near_api_Near (h : AHeap) (s : AVal) (n : Int) : Option (AVal × AHeap) := match s, n with
  | .lit (.slice none 0 0), .ofNat 0 => some (.lit (.slice none 0 0), h)
  | .lit (.slice none 0 0), .ofNat (n + 1) => match Nat.ble ((n + 1) * 24) 140737488355328 with
    | true => some (.sl 3 h.length 0 0, h ++ [.cells []])
    | false => none
  | _, _ => none
theorem growV_slices_Grow_api_Near_api_Near_of {h : AHeap} {s : AVal} {n : Int} {r : AVal × AHeap} (hx : growV_slices_Grow_api_Near_api_Near h s n = some r) : ACalls Tryz.prog 120 [s, .lit (.int .i64 n)] h fun e g => e = .ret r.1 ∧ g = r.2 := by
  unfold growV_slices_Grow_api_Near_api_Near at hx
  split at hx
  · cases hx; exact grow0_slices_Grow_api_Near_api_Near
  · split at hx
    · rename_i hq
      cases hx
      exact grow_slices_Grow_api_Near_api_Near (Nat.succ_pos _) (Nat.le_of_ble_eq_true hq)
    · cases hx
  · cases hx
noncomputable def w_slices_Grow_api_Near_api_Near : XC := .l fun R args h K => match args with
  | [s, .lit (.int .i64 n)] => (growV_slices_Grow_api_Near_api_Near h s n).bind fun r => K r.1 r.2
  | _ => none
theorem w_slices_Grow_api_Near_api_Near_ok : XC.Nat w_slices_Grow_api_Near_api_Near ∧ XC.Ok Tryz.prog 120 w_slices_Grow_api_Near_api_Near := by
  refine ⟨fun R args h K => ?_, tc120, fun args h v h' hx => ?_⟩
  · dsimp only; split <;> simp [Option.bind_assoc, mkP]
  · dsimp only at hx; split at hx
    · obtain ⟨r, hopt, hx⟩ := Option.bind_eq_some_iff.1 hx
      simp only [mkP, Option.some.injEq, Prod.mk.injEq] at hx
      obtain ⟨rfl, rfl⟩ := hx
      exact growV_slices_Grow_api_Near_api_Near_of hopt
    · cases hx
end Go.Proofs.YteahajcgbogjkaaGreat.AL
/- How far vectors are from one another: printed. -/
namespace Go.Proofs.YteahajcgbogjkaaGreat.AL
set_option linter.unusedVariables false
set_option linter.unusedSimpArgs false
set_option maxRecDepth 100000
open Go
open Go.Proofs.Tryz
-- chainman/dist.Right$1: function 94
noncomputable def Edist_Right_fn1 : XE := { T := tabOf [(3, r3), (4, r4)], C := [], D := [], Ms := [], Ml := [], Mo := [(1006, [8])], n := 9 }
theorem Edist_Right_fn1_ok : XE.Ok Edist_Right_fn1 Tryz.prog := ⟨tabOf_ok (⟨r3_ok, ⟨r4_ok, trivial⟩⟩), trivial, ydOk_none, trivial⟩
noncomputable def c94 : Code := bodyOf f94
noncomputable def S_dist_Right_fn1 (x0 : Int) (h : AHeap) : Option (AVal × AHeap) := xfun Edist_Right_fn1 f94 [(.lit (.int .i64 x0))] h
noncomputable def S_dist_Right_fn1_0 (t8 : Bool) (h : AHeap) : Option (AVal × AHeap) := jo Edist_Right_fn1 1 (rops (ca (cb c94))) ((rops (ca (cb c94))).toList.drop 6) 6 [(8, (.lit (.bool t8)))] h (kN (kSeq Edist_Right_fn1 (cb (cb c94)) (xend Edist_Right_fn1 f94)))
theorem S_dist_Right_fn1_eq (x0 : Int) (h : AHeap) : S_dist_Right_fn1 x0 h =
 bif (decide (x0 < (-16777215))) then (S_dist_Right_fn1_0 true h)
 else (S_dist_Right_fn1_0 (decide (x0 > 16777215)) h) := by kernel_rfl
theorem S_dist_Right_fn1_0_eq (t8 : Bool) (h : AHeap) : S_dist_Right_fn1_0 t8 h =
 some ((.lit (.bool t8)), h) := (jo_eq ..).trans (by kernel_rfl)
theorem S_dist_Right_fn1_ends {x0 : Int} {h h' : AHeap} {v : AVal} {R : AEnd → AHeap → Prop} (hx : S_dist_Right_fn1 x0 h = some (v, h')) (hR : HOk h → h.length ≤ h'.length → ABody.AEnds h h' (.ret v) R) : ACalls Tryz.prog 94 [(.lit (.int .i64 x0))] h R := xfun_ends Edist_Right_fn1_ok tmix (i := 94) (by rfl) (by kernel_rfl) (by kernel_rfl) hx hR
noncomputable def w_dist_Right_fn1 : XC := .q fun R args h K => match args with
  | [.lit (.int .i64 a0)] => (onlyR (S_dist_Right_fn1 a0 h) h).bind fun r => K r
  | _ => none
theorem w_dist_Right_fn1_ok : XC.Nat w_dist_Right_fn1 ∧ XC.Ok Tryz.prog 94 w_dist_Right_fn1 := by
  refine ⟨fun R args h K => ?_, tc94, fun args h v hx => ?_⟩
  · dsimp only; split <;> simp [Option.bind_assoc, mkP]
  · dsimp only at hx; split at hx
    · obtain ⟨r, hopt, hx⟩ := Option.bind_eq_some_iff.1 hx
      cases hx
      exact (by have hopt := onlyR_some hopt; exact S_dist_Right_fn1_ends hopt selfR)
    · cases hx
-- slices.IndexFunc[[]int,int]: function 117
noncomputable def Eslices_IndexFunc_int_int : XE := { T := tabOf [(3, r3), (4, r4), (23, r23), (71, r71)], C := [(94, w_dist_Right_fn1)], D := [], Ms := [(7, [])], Ml := [(2, [0, 1, 7, 8])], Mo := [], n := 19 }
theorem Eslices_IndexFunc_int_int_ok : XE.Ok Eslices_IndexFunc_int_int Tryz.prog := ⟨tabOf_ok (⟨r3_ok, ⟨r4_ok, ⟨r23_ok, ⟨r71_ok, trivial⟩⟩⟩⟩), (⟨w_dist_Right_fn1_ok, trivial⟩), ydOk_none, trivial⟩
noncomputable def c117 : Code := bodyOf f117
noncomputable def S_slices_IndexFunc_int_int (s0 : AVal) (f1 : AVal) (h : AHeap) : Option (AVal × AHeap) := xfun Eslices_IndexFunc_int_int f117 [s0, f1] h
noncomputable def S_slices_IndexFunc_int_int_0 (s0 : AVal) (f1 : AVal) (t7 : Int) (t8 : Int) (h : AHeap) : Option (AVal × AHeap) := xexec Eslices_IndexFunc_int_int (.loop (ca (ca (cb (ca (cb c117)))))) (AVal × AHeap) [(0, s0), (1, f1), (7, (.lit (.int .i64 t7))), (8, (.lit (.int .i64 t8)))] h (kBlk 0 (kSeq Eslices_IndexFunc_int_int (cb (cb c117)) (xend Eslices_IndexFunc_int_int f117)))
noncomputable def S_slices_IndexFunc_int_int_1  (h : AHeap) : Option (AVal × AHeap) := jn (xexec Eslices_IndexFunc_int_int (cb (cb c117)) (AVal × AHeap) [] h (xend Eslices_IndexFunc_int_int f117))
theorem S_slices_IndexFunc_int_int_eq (s0 : AVal) (f1 : AVal) (h : AHeap) : S_slices_IndexFunc_int_int s0 f1 h =
 (lenV s0).bind fun n1 =>
 S_slices_IndexFunc_int_int_0 s0 f1 n1 0 h := by kernel_rfl
theorem S_slices_IndexFunc_int_int_0_eq (s0 : AVal) (f1 : AVal) (t7 : Int) (t8 : Int) (h : AHeap) : S_slices_IndexFunc_int_int_0 s0 f1 t7 t8 h =
 bif (decide (t8 < t7)) then ((idxP 1 s0 t8).bind fun p2 =>
 (ld1 h p2).bind fun x3 =>
 (asI .i64 x3).bind fun n4 =>
 callK Eslices_IndexFunc_int_int.C Eslices_IndexFunc_int_int.Y f1 [(.lit (.int .i64 n4))] h fun r5 h6 =>
 (asB r5).bind fun b7 =>
 bif b7 then (some ((.lit (.int .i64 t8)), h6))
 else (S_slices_IndexFunc_int_int_0 s0 f1 t7 (IntKind.wrap .i64 (t8 + 1)) h6))
 else (S_slices_IndexFunc_int_int_1 h) := (xexec_loop Eslices_IndexFunc_int_int Eslices_IndexFunc_int_int_ok.C.nat _ _ _ _ _).trans (by kernel_rfl)
theorem S_slices_IndexFunc_int_int_1_eq  (h : AHeap) : S_slices_IndexFunc_int_int_1  h =
 some ((.lit (.int .i64 (-1))), h) := (jn_eq _).trans (by kernel_rfl)
theorem S_slices_IndexFunc_int_int_ends {s0 : AVal} {f1 : AVal} {h h' : AHeap} {v : AVal} {R : AEnd → AHeap → Prop} (hx : S_slices_IndexFunc_int_int s0 f1 h = some (v, h')) (hR : HOk h → h.length ≤ h'.length → ABody.AEnds h h' (.ret v) R) : ACalls Tryz.prog 117 [s0, f1] h R := xfun_ends Eslices_IndexFunc_int_int_ok tmix (i := 117) (by rfl) (by kernel_rfl) (by kernel_rfl) hx hR
noncomputable def w_slices_IndexFunc_int_int : XC := .q fun R args h K => match args with
  | [a0, a1] => (onlyR (S_slices_IndexFunc_int_int a0 a1 h) h).bind fun r => K r
  | _ => none
theorem w_slices_IndexFunc_int_int_ok : XC.Nat w_slices_IndexFunc_int_int ∧ XC.Ok Tryz.prog 117 w_slices_IndexFunc_int_int := by
  refine ⟨fun R args h K => ?_, tc117, fun args h v hx => ?_⟩
  · dsimp only; split <;> simp [Option.bind_assoc, mkP]
  · dsimp only at hx; split at hx
    · obtain ⟨r, hopt, hx⟩ := Option.bind_eq_some_iff.1 hx
      cases hx
      exact (by have hopt := onlyR_some hopt; exact S_slices_IndexFunc_int_int_ends hopt selfR)
    · cases hx
-- slices.ContainsFunc[[]int,int]: function 95
noncomputable def Eslices_ContainsFunc_int_int : XE := { T := tabOf [(3, r3), (4, r4), (23, r23), (71, r71)], C := [(117, w_slices_IndexFunc_int_int)], D := [], Ms := [], Ml := [], Mo := [], n := 9 }
theorem Eslices_ContainsFunc_int_int_ok : XE.Ok Eslices_ContainsFunc_int_int Tryz.prog := ⟨tabOf_ok (⟨r3_ok, ⟨r4_ok, ⟨r23_ok, ⟨r71_ok, trivial⟩⟩⟩⟩), (⟨w_slices_IndexFunc_int_int_ok, trivial⟩), ydOk_none, trivial⟩
noncomputable def c95 : Code := bodyOf f95
noncomputable def S_slices_ContainsFunc_int_int (s0 : AVal) (f1 : AVal) (h : AHeap) : Option (AVal × AHeap) := xfun Eslices_ContainsFunc_int_int f95 [s0, f1] h
theorem S_slices_ContainsFunc_int_int_eq (s0 : AVal) (f1 : AVal) (h : AHeap) : S_slices_ContainsFunc_int_int s0 f1 h =
 (onlyR (S_slices_IndexFunc_int_int s0 f1 h) h).bind fun r1 =>
 (asI .i64 r1).bind fun n2 =>
 some ((.lit (.bool (decide (n2 ≥ 0)))), h) := by kernel_rfl
theorem S_slices_ContainsFunc_int_int_ends {s0 : AVal} {f1 : AVal} {h h' : AHeap} {v : AVal} {R : AEnd → AHeap → Prop} (hx : S_slices_ContainsFunc_int_int s0 f1 h = some (v, h')) (hR : HOk h → h.length ≤ h'.length → ABody.AEnds h h' (.ret v) R) : ACalls Tryz.prog 95 [s0, f1] h R := xfun_ends Eslices_ContainsFunc_int_int_ok tmix (i := 95) (by rfl) (by kernel_rfl) (by kernel_rfl) hx hR
noncomputable def w_slices_ContainsFunc_int_int : XC := .q fun R args h K => match args with
  | [a0, a1] => (onlyR (S_slices_ContainsFunc_int_int a0 a1 h) h).bind fun r => K r
  | _ => none
theorem w_slices_ContainsFunc_int_int_ok : XC.Nat w_slices_ContainsFunc_int_int ∧ XC.Ok Tryz.prog 95 w_slices_ContainsFunc_int_int := by
  refine ⟨fun R args h K => ?_, tc95, fun args h v hx => ?_⟩
  · dsimp only; split <;> simp [Option.bind_assoc, mkP]
  · dsimp only at hx; split at hx
    · obtain ⟨r, hopt, hx⟩ := Option.bind_eq_some_iff.1 hx
      cases hx
      exact (by have hopt := onlyR_some hopt; exact S_slices_ContainsFunc_int_int_ends hopt selfR)
    · cases hx
-- chainman/dist.Right: function 71
noncomputable def Edist_Right : XE := { T := tabOf [(3, r3), (4, r4), (23, r23), (71, r71)], C := [(95, w_slices_ContainsFunc_int_int)], D := [], Ms := [], Ml := [], Mo := [(2008, [0, 3, 11]), (2014, [17])], n := 18 }
theorem Edist_Right_ok : XE.Ok Edist_Right Tryz.prog := ⟨tabOf_ok (⟨r3_ok, ⟨r4_ok, ⟨r23_ok, ⟨r71_ok, trivial⟩⟩⟩⟩), (⟨w_slices_ContainsFunc_int_int_ok, trivial⟩), ydOk_none, trivial⟩
noncomputable def c71 : Code := bodyOf f71
noncomputable def S_dist_Right (v0 : AVal) (h : AHeap) : Option (AVal × AHeap) := xfun Edist_Right f71 [v0] h
noncomputable def S_dist_Right_0 (v0 : AVal) (t11 : Bool) (h : AHeap) : Option (AVal × AHeap) := jo Edist_Right 2 (rops (ca (cb (cb c71)))) ((rops (ca (cb (cb c71)))).toList.drop 8) 8 [(0, v0), (3, (.fn (.func 94) [] [])), (11, (.lit (.bool t11)))] h (kN (kSeq Edist_Right (cb (cb (cb c71))) (xend Edist_Right f71)))
noncomputable def S_dist_Right_1 (t17 : Bool) (h : AHeap) : Option (AVal × AHeap) := jo Edist_Right 2 (rops (ca (cb (cb c71)))) ((rops (ca (cb (cb c71)))).toList.drop 14) 14 [(17, (.lit (.bool t17)))] h (kN (kSeq Edist_Right (cb (cb (cb c71))) (xend Edist_Right f71)))
theorem S_dist_Right_eq (v0 : AVal) (h : AHeap) : S_dist_Right v0 h =
 (lenV v0).bind fun n1 =>
 bif (decide (n1 > 0)) then ((lenV v0).bind fun n2 =>
 S_dist_Right_0 v0 (decide (n2 ≤ 4096)) h)
 else (S_dist_Right_0 v0 false h) := by kernel_rfl
theorem S_dist_Right_0_eq (v0 : AVal) (t11 : Bool) (h : AHeap) : S_dist_Right_0 v0 t11 h =
 bif t11 then ((onlyR (S_slices_ContainsFunc_int_int v0 ((.fn (.func 94) [] [])) h) h).bind fun r3 =>
 (asB r3).bind fun b4 =>
 S_dist_Right_1 (!b4) h)
 else (S_dist_Right_1 false h) := (jo_eq ..).trans (by kernel_rfl)
theorem S_dist_Right_1_eq (t17 : Bool) (h : AHeap) : S_dist_Right_1 t17 h =
 some ((.lit (.bool t17)), h) := (jo_eq ..).trans (by kernel_rfl)
theorem S_dist_Right_ends {v0 : AVal} {h h' : AHeap} {v : AVal} {R : AEnd → AHeap → Prop} (hx : S_dist_Right v0 h = some (v, h')) (hR : HOk h → h.length ≤ h'.length → ABody.AEnds h h' (.ret v) R) : ACalls Tryz.prog 71 [v0] h R := xfun_ends Edist_Right_ok tmix (i := 71) (by rfl) (by kernel_rfl) (by kernel_rfl) hx hR
noncomputable def w_dist_Right : XC := .q fun R args h K => match args with
  | [a0] => (onlyR (S_dist_Right a0 h) h).bind fun r => K r
  | _ => none
theorem w_dist_Right_ok : XC.Nat w_dist_Right ∧ XC.Ok Tryz.prog 71 w_dist_Right := by
  refine ⟨fun R args h K => ?_, tc71, fun args h v hx => ?_⟩
  · dsimp only; split <;> simp [Option.bind_assoc, mkP]
  · dsimp only at hx; split at hx
    · obtain ⟨r, hopt, hx⟩ := Option.bind_eq_some_iff.1 hx
      cases hx
      exact (by have hopt := onlyR_some hopt; exact S_dist_Right_ends hopt selfR)
    · cases hx
-- chainman/dist.squares$1: function 96
noncomputable def Edist_squares_fn1 (Y : Nat → XP) : XE := { T := tabOf [(3, r3), (4, r4), (23, r23), (71, r71)], C := [], D := [], Ms := [], Ml := [(2, [0, 2, 4, 8, 9, 10])], Mo := [], n := 31, Y := Y }
theorem Edist_squares_fn1_ok {Y : Nat → XP} (hY : ∀ b, YdOk Tryz.prog b (Y b)) : XE.Ok (Edist_squares_fn1 Y) Tryz.prog := ⟨tabOf_ok (⟨r3_ok, ⟨r4_ok, ⟨r23_ok, ⟨r71_ok, trivial⟩⟩⟩⟩), trivial, hY, trivial⟩
noncomputable def c96 : Code := bodyOf f96
noncomputable def S_dist_squares_fn1 (Y : Nat → XP) (yield0 : Nat) (t1 : Nat) (t2 : Nat) (h : AHeap) : Option (AVal × AHeap) := xfun (Edist_squares_fn1 Y) f96 [(.yld yield0), (.ptr t1 0), (.ptr t2 0)] h
noncomputable def S_dist_squares_fn1_0 (Y : Nat → XP) (yield0 : Nat) (t2 : Nat) (sum4 : Int) (t8 : AVal) (t9 : Int) (t10 : Int) (h : AHeap) : Option (AVal × AHeap) := xexec (Edist_squares_fn1 Y) (.loop (ca (ca (cb (cb c96))))) (AVal × AHeap) [(0, (.yld yield0)), (2, (.ptr t2 0)), (4, (.lit (.int .i64 sum4))), (8, t8), (9, (.lit (.int .i64 t9))), (10, (.lit (.int .i64 t10)))] h (kBlk 0 (xend (Edist_squares_fn1 Y) f96))
theorem S_dist_squares_fn1_eq (Y : Nat → XP) (yield0 : Nat) (t1 : Nat) (t2 : Nat) (h : AHeap) : S_dist_squares_fn1 Y yield0 t1 t2 h =
 (ld1 h (.ptr t1 0)).bind fun x1 =>
 (lenV x1).bind fun n2 =>
 S_dist_squares_fn1_0 Y yield0 t2 0 x1 n2 0 h := by kernel_rfl
theorem Edist_squares_fn1_nat (Y : Nat → XP) : CT.Nat (Edist_squares_fn1 Y).C := trivial
theorem S_dist_squares_fn1_0_eq (Y : Nat → XP) (yield0 : Nat) (t2 : Nat) (sum4 : Int) (t8 : AVal) (t9 : Int) (t10 : Int) (h : AHeap) : S_dist_squares_fn1_0 Y yield0 t2 sum4 t8 t9 t10 h =
 bif (decide (t10 < t9)) then ((idxP 1 t8 t10).bind fun p3 =>
 (ld1 h p3).bind fun x4 =>
 (asI .i64 x4).bind fun n5 =>
 (ld1 h (.ptr t2 0)).bind fun x7 =>
 (idxP 1 x7 t10).bind fun p8 =>
 (ld1 h p8).bind fun x9 =>
 (asI .i64 x9).bind fun n10 =>
 ((Edist_squares_fn1 Y).Y yield0 [(.lit (.int .i64 (IntKind.wrap .i64 (sum4 + (IntKind.wrap .i64 ((IntKind.wrap .i64 (n5 - n10)) * (IntKind.wrap .i64 (n5 - n10))))))))] h).bind fun r11 =>
 (asB r11.1).bind fun b12 =>
 bif (!b12) then (some ((.tup []), r11.2))
 else (S_dist_squares_fn1_0 Y yield0 t2 (IntKind.wrap .i64 (sum4 + (IntKind.wrap .i64 ((IntKind.wrap .i64 (n5 - n10)) * (IntKind.wrap .i64 (n5 - n10)))))) t8 t9 (IntKind.wrap .i64 (t10 + 1)) r11.2))
 else (some ((.tup []), h)) := (xexec_loop (Edist_squares_fn1 Y) (Edist_squares_fn1_nat Y) _ _ _ _ _).trans (by kernel_rfl)
theorem S_dist_squares_fn1_ends {Y : Nat → XP} (hY : ∀ b, YdOk Tryz.prog b (Y b)) {yield0 : Nat} {t1 : Nat} {t2 : Nat} {h h' : AHeap} {v : AVal} {R : AEnd → AHeap → Prop} (hx : S_dist_squares_fn1 Y yield0 t1 t2 h = some (v, h')) (hR : HOk h → h.length ≤ h'.length → ABody.AEnds h h' (.ret v) R) : ACalls Tryz.prog 96 [(.yld yield0), (.ptr t1 0), (.ptr t2 0)] h R := xfun_ends (Edist_squares_fn1_ok hY) tmix (i := 96) (by rfl) (by kernel_rfl) (by kernel_rfl) hx hR
noncomputable def I_dist_squares_fn1 : XI := fun Y args h => match args with
  | [.yld a0, .ptr a1 0, .ptr a2 0] => S_dist_squares_fn1 Y a0 a1 a2 h
  | _ => none
theorem I_dist_squares_fn1_ok : XI.Ok Tryz.prog 96 I_dist_squares_fn1 := ⟨tc96, fun Y hY args h v h' hx => by
  unfold I_dist_squares_fn1 at hx
  split at hx
  · exact S_dist_squares_fn1_ends hY hx selfR
  · cases hx⟩
-- chainman/dist.squares: function 72
noncomputable def Edist_squares : XE := { T := tabOf [(40, r40), (41, r41)], C := [], D := [], Ms := [], Ml := [], Mo := [], n := 6 }
theorem Edist_squares_ok : XE.Ok Edist_squares Tryz.prog := ⟨tabOf_ok (⟨r40_ok, ⟨r41_ok, trivial⟩⟩), trivial, ydOk_none, trivial⟩
noncomputable def c72 : Code := bodyOf f72
noncomputable def S_dist_squares (a0 : AVal) (b1 : AVal) (h : AHeap) : Option (AVal × AHeap) := xfun Edist_squares f72 [a0, b1] h
theorem S_dist_squares_eq (a0 : AVal) (b1 : AVal) (h : AHeap) : S_dist_squares a0 b1 h =
 (AVal.parts a0).bind fun vs1 =>
 (AVal.parts b1).bind fun vs2 =>
 some ((.fn (.func 96) [] [(.ptr h.length 0), (.ptr (((psh h (.cells vs1))).length) 0)]), (psh ((psh h (.cells vs1))) (.cells vs2))) := by kernel_rfl
theorem S_dist_squares_ends {a0 : AVal} {b1 : AVal} {h h' : AHeap} {v : AVal} {R : AEnd → AHeap → Prop} (hx : S_dist_squares a0 b1 h = some (v, h')) (hR : HOk h → h.length ≤ h'.length → ABody.AEnds h h' (.ret v) R) : ACalls Tryz.prog 72 [a0, b1] h R := xfun_ends Edist_squares_ok tmix (i := 72) (by rfl) (by kernel_rfl) (by kernel_rfl) hx hR
noncomputable def w_dist_squares : XC := .l fun R args h K => match args with
  | [a0, a1] => (S_dist_squares a0 a1 h).bind fun r => K r.1 r.2
  | _ => none
theorem w_dist_squares_ok : XC.Nat w_dist_squares ∧ XC.Ok Tryz.prog 72 w_dist_squares := by
  refine ⟨fun R args h K => ?_, tc72, fun args h v h' hx => ?_⟩
  · dsimp only; split <;> simp [Option.bind_assoc, mkP]
  · dsimp only at hx; split at hx
    · obtain ⟨r, hopt, hx⟩ := Option.bind_eq_some_iff.1 hx
      simp only [mkP, Option.some.injEq, Prod.mk.injEq] at hx
      obtain ⟨rfl, rfl⟩ := hx
      exact (by obtain ⟨v, h'⟩ := r; exact S_dist_squares_ends hopt selfR)
    · cases hx
-- chainman/dist.Square: function 47
noncomputable def Edist_Square : XE := { T := tabOf [(3, r3), (4, r4), (23, r23), (34, r34), (41, r41)], C := [(71, w_dist_Right), (72, w_dist_squares)], D := [], Ms := [], Ml := [(2000005, [6, 25])], Mo := [(1010, [0, 1, 17]), (1015, [0, 1, 22])], n := 29, I := [(96, I_dist_squares_fn1)] }
theorem Edist_Square_ok : XE.Ok Edist_Square Tryz.prog := ⟨tabOf_ok (⟨r3_ok, ⟨r4_ok, ⟨r23_ok, ⟨r34_ok, ⟨r41_ok, trivial⟩⟩⟩⟩⟩), (⟨w_dist_Right_ok, ⟨w_dist_squares_ok, trivial⟩⟩), ydOk_none, ⟨I_dist_squares_fn1_ok, trivial⟩⟩
noncomputable def c47 : Code := bodyOf f47
noncomputable def S_dist_Square (a0 : AVal) (b1 : AVal) (h : AHeap) : Option (AVal × AHeap) := xfun Edist_Square f47 [a0, b1] h
noncomputable def S_dist_Square_0 (a0 : AVal) (b1 : AVal) (t17 : Bool) (h : AHeap) : Option (AVal × AHeap) := jo Edist_Square 1 (rops (ca (ca (cb c47)))) ((rops (ca (ca (cb c47)))).toList.drop 10) 10 [(0, a0), (1, b1), (17, (.lit (.bool t17)))] h (kN (kSeq Edist_Square (cb (ca (cb c47))) (kSeq Edist_Square (cb (cb c47)) (xend Edist_Square f47))))
noncomputable def S_dist_Square_1 (a0 : AVal) (b1 : AVal) (t22 : Bool) (h : AHeap) : Option (AVal × AHeap) := jo Edist_Square 1 (rops (ca (ca (cb c47)))) ((rops (ca (ca (cb c47)))).toList.drop 15) 15 [(0, a0), (1, b1), (22, (.lit (.bool t22)))] h (kN (kSeq Edist_Square (cb (ca (cb c47))) (kSeq Edist_Square (cb (cb c47)) (xend Edist_Square f47))))
noncomputable def S_dist_Square_2 (bR : Nat) (last6 : Nat) (t25 : AVal) (rx26 : AVal) (h : AHeap) : Option XB := jn (xexec Edist_Square (ca (ca (cb (ca (cb (cb (cb c47))))))) XB ((26, rx26) :: [(6, (.ptr last6 0)), (25, t25)]) h (rndKt (xexec Edist_Square (cb (ca (cb (ca (cb (cb (cb c47)))))))) bR))
theorem S_dist_Square_eq (a0 : AVal) (b1 : AVal) (h : AHeap) : S_dist_Square a0 b1 h =
 (lenV a0).bind fun n1 =>
 (lenV b1).bind fun n2 =>
 bif (!decide (n1 = n2)) then (S_dist_Square_0 a0 b1 true h)
 else ((onlyR (S_dist_Right a0 h) h).bind fun r3 =>
 (asB r3).bind fun b4 =>
 S_dist_Square_0 a0 b1 (!b4) h) := by kernel_rfl
theorem S_dist_Square_0_eq (a0 : AVal) (b1 : AVal) (t17 : Bool) (h : AHeap) : S_dist_Square_0 a0 b1 t17 h =
 bif t17 then (S_dist_Square_1 a0 b1 true h)
 else ((onlyR (S_dist_Right b1 h) h).bind fun r5 =>
 (asB r5).bind fun b6 =>
 S_dist_Square_1 a0 b1 (!b6) h) := (jo_eq ..).trans (by kernel_rfl)
theorem S_dist_Square_1_eq (a0 : AVal) (b1 : AVal) (t22 : Bool) (h : AHeap) : S_dist_Square_1 a0 b1 t22 h =
 bif t22 then (some ((.tup [(.lit (.int .i64 0)), (.lit (.int .i64 1))]), h))
 else ((st1 ((psh h (.cells [(.lit (.int .i64 0))]))) (.ptr h.length 0) (.lit (.int .i64 0))).bind fun h7 =>
 (S_dist_squares a0 b1 h7).bind fun r8 =>
 (rngK Edist_Square.I Edist_Square.Y r8.1 (Fr.lst 29 [(6, (.ptr h.length 0)), (25, r8.1)]) #[26] (ca (ca (cb (ca (cb (cb (cb c47))))))) (cb (ca (cb (ca (cb (cb (cb c47))))))) (fun b10 as12 g11 => args1 as12 fun a9 => S_dist_Square_2 b10 h.length r8.1 a9 g11) r8.2).bind fun q13 =>
 rngE q13 (fun h14 => (ld1 h14 (.ptr h.length 0)).bind fun x15 =>
 (asI .i64 x15).bind fun n16 =>
 some ((.tup [(.lit (.int .i64 n16)), (.lit (.int .i64 0))]), h14))
 (fun h17 => some ((.tup [.any, .any]), h17)) [] []) := (jo_eq ..).trans (by kernel_rfl)
theorem S_dist_Square_2_eq (bR : Nat) (last6 : Nat) (t25 : AVal) (rx26 : AVal) (h : AHeap) : S_dist_Square_2 bR last6 t25 rx26 h =
 (asI .i64 rx26).bind fun n18 =>
 (busyL h bR).bind fun h19 =>
 (st1 h19 (.ptr last6 0) (.lit (.int .i64 n18))).bind fun h20 =>
 some (.normal, h20) := (jn_eq _).trans (by kernel_rfl)
theorem S_dist_Square_ends {a0 : AVal} {b1 : AVal} {h h' : AHeap} {v : AVal} {R : AEnd → AHeap → Prop} (hx : S_dist_Square a0 b1 h = some (v, h')) (hR : HOk h → h.length ≤ h'.length → ABody.AEnds h h' (.ret v) R) : ACalls Tryz.prog 47 [a0, b1] h R := xfun_ends Edist_Square_ok tmix (i := 47) (by rfl) (by kernel_rfl) (by kernel_rfl) hx hR
end Go.Proofs.YteahajcgbogjkaaGreat.AL
/- How far vectors are from one another: proved; as contracts that can be reckoned. -/
namespace Go.Proofs.YteahajcgbogjkaaGreat.AL
set_option linter.unusedVariables false
set_option linter.unusedSimpArgs false
set_option maxRecDepth 100000
open Go
open Go.Proofs.Tryz
/-! ### Rows of numbers, read -/
def intsO : List AVal → Option (List Int)
  | [] => some []
  | .lit (.int .i64 n) :: l => (intsO l).map (n :: ·)
  | _ => none
theorem intsO_some : ∀ {cs : List AVal} {l : List Int}, intsO cs = some l → cs = intVs l
  | [], l, h => by cases h; rfl
  | v :: cs, l, h => by
    unfold intsO at h
    split at h
    · rename_i e; cases e
    · rename_i n t e
      cases e
      obtain ⟨r, h1, rfl⟩ := Option.map_eq_some_iff.1 h
      rw [intsO_some h1]; rfl
    · cases h
def rowI (h : AHeap) (v : AVal) : Option (List Int) := match v with
  | .sl k b o n => match Nat.beq k 1, cellsAt h b with
    | true, some all => match Nat.ble (o + n) all.length with
      | true => intsO ((all.drop o).take n)
      | false => none
    | _, _ => none
  | .ros all n => match Nat.ble n all.length with
    | true => intsO (all.take n)
    | false => none
  | .lit (.slice none 0 0) => some []
  | _ => none
theorem rowI_sl {h : AHeap} {v : AVal} {l : List Int} (hx : rowI h v = some l) : Sl 1 h v l.length (intVs l) := by
  unfold rowI at hx
  split at hx
  · rename_i k b o n
    split at hx
    · rename_i all hk hc
      split at hx
      · rename_i hn
        have hk := Nat.eq_of_beq_eq_true hk
        have hn := Nat.le_of_ble_eq_true hn
        subst hk
        have e := intsO_some hx
        have hl : n = l.length := by
          have := congrArg List.length e
          simp only [List.length_take, List.length_drop, intVs, List.length_map] at this
          omega
        refine ⟨by simp [intVs], rfl, hl, all, hc, by omega, ?_⟩
        rw [← hl, Nat.mul_one]; exact e
      · cases hx
    · cases hx
  · rename_i all n
    split at hx
    · rename_i hn
      have hn := Nat.le_of_ble_eq_true hn
      have e := intsO_some hx
      have hl : n = l.length := by
        have := congrArg List.length e
        simp only [List.length_take, intVs, List.length_map] at this
        omega
      refine ⟨by simp [intVs], hl, by omega, ?_⟩
      rw [← hl, Nat.mul_one]; exact e
    · cases hx
  · cases hx; exact Sl.nil _ _
  · cases hx
theorem Sl.same {k n : Nat} {h g : AHeap} {v : AVal} {cs : List AVal} (S : Sl k h v n cs) (old : ∀ c, c < h.length → g[c]? = h[c]?) : Sl k g v n cs := by
  refine ⟨S.1, ?_⟩
  have h2 := S.2
  split at h2
  · obtain ⟨rfl, rfl, all, H, h3, h4⟩ := h2
    exact ⟨rfl, rfl, all, by rw [cellsAt_same (old _ (cellsAt_lt H))]; exact H, h3, h4⟩
  · exact h2
  · exact h2
  · exact h2.elim
theorem Sl.parts {k n : Nat} {h : AHeap} {v : AVal} {cs : List AVal} (S : Sl k h v n cs) : v.parts = some [v] := by
  have h2 := S.2
  split at h2
  · rfl
  · rfl
  · rfl
  · exact h2.elim
/-! ### May it be? -/
def farB (x : Int) : Bool := decide (x < -16777215) || decide (x > 16777215)
def rightV (l : List Int) : Bool := decide (0 < l.length) && (decide (l.length ≤ 4096) && !(l.any farB))
theorem rightV_true {l : List Int} (h : rightV l = true) : 0 < l.length ∧ l.length ≤ 4096 ∧ ∀ x ∈ l, -16777215 ≤ x ∧ x ≤ 16777215 := by
  unfold rightV at h
  simp only [Bool.and_eq_true, decide_eq_true_eq, Bool.not_eq_true'] at h
  refine ⟨h.1, h.2.1, fun x hx => ?_⟩
  have h1 := h.2.2
  rw [List.any_eq_false] at h1
  have h2 := h1 x hx
  unfold farB at h2
  simp only [Bool.or_eq_true, decide_eq_true_eq, not_or, Int.not_lt] at h2
  omega
section right
variable {h : AHeap} {v : AVal} {l : List Int}
theorem far_run (x : Int) (h : AHeap) : onlyR (S_dist_Right_fn1 x h) h = some (.lit (.bool (farB x))) := by
  have : S_dist_Right_fn1 x h = some (.lit (.bool (farB x)), h) := by
    rw [S_dist_Right_fn1_eq]
    unfold farB
    by_cases c : x < -16777215
    · refine cT (decide_eq_true c) ?_
      rw [S_dist_Right_fn1_0_eq, decide_eq_true c]; rfl
    · refine cF (decide_eq_false c) ?_
      rw [S_dist_Right_fn1_0_eq, decide_eq_false c]; rfl
  rw [this]; exact onlyR_same _ _
theorem far_call {R : Type} (x : Int) (h : AHeap) (K : AVal → AHeap → Option R) : callK Eslices_IndexFunc_int_int.C Eslices_IndexFunc_int_int.Y (.fn (.func 94) [] []) [.lit (.int .i64 x)] h K = K (.lit (.bool (farB x))) h :=
  bd (f := fun r => K r h) (far_run x h) rfl
theorem farI_loop (S : Sl 1 h v l.length (intVs l)) (hl : l.length ≤ 4096) : ∀ m i, i + m = l.length → ∃ z : Int, S_slices_IndexFunc_int_int_0 v (.fn (.func 94) [] []) (l.length : Int) (i : Int) h = some (.lit (.int .i64 z), h) ∧ decide (z ≥ 0) = (l.drop i).any farB := by
  intro m
  induction m with
  | zero =>
    intro i hi
    refine ⟨-1, ?_, ?_⟩
    · rw [S_slices_IndexFunc_int_int_0_eq]
      refine cF (decide_eq_false (by omega)) ?_
      rw [S_slices_IndexFunc_int_int_1_eq]
    · rw [List.drop_of_length_le (by omega)]; rfl
  | succ m ih =>
    intro i hi
    have hlt : i < l.length := by omega
    obtain ⟨p, a, b⟩ := ints_at S hlt
    have hd : l.drop i = l[i] :: l.drop (i + 1) := List.drop_eq_getElem_cons hlt
    cases c : farB l[i] with
    | true =>
      refine ⟨i, ?_, ?_⟩
      · rw [S_slices_IndexFunc_int_int_0_eq]
        refine cT (decide_eq_true (by omega)) (bd a (bd b (bd rfl ((far_call _ _ _).trans (bd rfl (cT c rfl))))))
      · rw [decide_eq_true (by omega), hd, List.any_cons, c]; rfl
    | false =>
      obtain ⟨z, e1, e2⟩ := ih (i + 1) (by omega)
      refine ⟨z, ?_, ?_⟩
      · rw [S_slices_IndexFunc_int_int_0_eq]
        refine cT (decide_eq_true (by omega)) (bd a (bd b (bd rfl ((far_call _ _ _).trans (bd rfl (cF c ?_))))))
        rw [wrap_i64 (by omega) (by omega), show (i : Int) + 1 = ((i + 1 : Nat) : Int) by omega]
        exact e1
      · rw [e2, hd, List.any_cons, c]; rfl
theorem right_run (S : Sl 1 h v l.length (intVs l)) : onlyR (S_dist_Right v h) h = some (.lit (.bool (rightV l))) := by
  have : S_dist_Right v h = some (.lit (.bool (rightV l)), h) := by
    rw [S_dist_Right_eq]
    refine bd S.len ?_
    unfold rightV
    by_cases c : 0 < l.length
    · refine cT (decide_eq_true (by omega)) (bd S.len ?_)
      rw [S_dist_Right_0_eq]
      by_cases d : l.length ≤ 4096
      · refine cT (decide_eq_true (by omega)) ?_
        obtain ⟨z, e1, e2⟩ := farI_loop S d l.length 0 (by omega)
        rw [List.drop_zero] at e2
        have i0 : S_slices_IndexFunc_int_int v (.fn (.func 94) [] []) h = some (.lit (.int .i64 z), h) := by
          rw [S_slices_IndexFunc_int_int_eq]; exact bd S.len e1
        have c0 : S_slices_ContainsFunc_int_int v (.fn (.func 94) [] []) h = some (.lit (.bool (l.any farB)), h) := by
          rw [S_slices_ContainsFunc_int_int_eq, i0, ← e2]
          exact bd (onlyR_same _ _) (bd rfl rfl)
        refine bd (by rw [c0]; exact onlyR_same _ _) (bd rfl ?_)
        rw [S_dist_Right_1_eq, decide_eq_true c, decide_eq_true d]; rfl
      · refine cF (decide_eq_false (by omega)) ?_
        rw [S_dist_Right_1_eq, decide_eq_true c, decide_eq_false d]; rfl
    · refine cF (decide_eq_false (by omega)) ?_
      rw [S_dist_Right_0_eq]
      refine cF rfl ?_
      rw [S_dist_Right_1_eq, decide_eq_false c]; rfl
  rw [this]; exact onlyR_same _ _
end right
/-! ### Sums of squares -/
def sqL : List Int → List Int → Int → Int
  | x :: xs, y :: ys, s => sqL xs ys (s + (x - y) * (x - y))
  | _, _, s => s
theorem sq_bound {d : Int} (h1 : -33554432 ≤ d) (h2 : d ≤ 33554432) : 0 ≤ d * d ∧ d * d ≤ 1125899906842624 := by
  have a := Int.mul_nonneg (show (0 : Int) ≤ 33554432 - d by omega) (show (0 : Int) ≤ 33554432 + d by omega)
  rw [Int.sub_mul, Int.mul_add, Int.mul_add, Int.mul_comm d 33554432] at a
  have b : 0 ≤ d * d := by
    rcases Int.le_total 0 d with c | c
    · exact Int.mul_nonneg c c
    · exact Int.mul_nonneg_of_nonpos_of_nonpos c c
  omega
structure DSt (h g : AHeap) (va vb : AVal) (s : Int) (ob : AObj) : Prop where
  len : g.length = h.length + 4
  old : ∀ c, c < h.length → g[c]? = h[c]?
  cs : cellsAt g h.length = some [.lit (.int .i64 s)]
  cb : cellsAt g (h.length + 2) = some [vb]
  ca : cellsAt g (h.length + 1) = some [va]
  lp : g[h.length + 3]? = some ob
section sq
variable {h g : AHeap} {va vb : AVal} {la lb : List Int} {t : AVal} {a : List AVal} {x y : Code}
def loopD (a : List AVal) (x y : Code) : AObj := .loop .ready none a #[26] x y
noncomputable def sqY (h : AHeap) (t : AVal) (a : List AVal) (x y : Code) : Nat → XP := rndYs Edist_Square.Y (h.length + 3) a #[26] x y (fun zs g => args1 zs fun v => S_dist_Square_2 (h.length + 3) h.length t v g)
theorem sqY_at (zs : List AVal) (g : AHeap) : sqY h t a x y (h.length + 3) zs g = rndY (h.length + 3) a #[26] x y (fun zs g => args1 zs fun v => S_dist_Square_2 (h.length + 3) h.length t v g) zs g := by
  unfold sqY rndYs; rw [if_pos rfl]
theorem sq_round {s : Int} (S : DSt h g va vb s (loopD a x y)) (z : Int) : ∃ g', sqY h t a x y (h.length + 3) [.lit (.int .i64 z)] g = some (.lit (.bool true), g') ∧ DSt h g' va vb z (loopD a x y) := by
  rw [sqY_at]
  unfold rndY
  rw [if_pos ⟨S.lp, rfl⟩]
  have hb : busyL g (h.length + 3) = some (g.set (h.length + 3) (.loop .busy none a #[26] x y)) := by unfold busyL; rw [S.lp]; rfl
  have hl := S.len
  obtain ⟨g1, hg1⟩ : ∃ g1, g1 = g.set (h.length + 3) (.loop .busy none a #[26] x y) := ⟨_, rfl⟩
  rw [← hg1] at hb
  have e1 : ∀ c, c ≠ h.length + 3 → g1[c]? = g[c]? := fun c hc => by rw [hg1, List.getElem?_set_ne (Ne.symm hc)]
  have c1 : cellsAt g1 h.length = some [.lit (.int .i64 s)] := by rw [cellsAt_same (e1 _ (by omega))]; exact S.cs
  obtain ⟨g2, hg2⟩ : ∃ g2, g2 = g1.set h.length (.cells [.lit (.int .i64 z)]) := ⟨_, rfl⟩
  have e2 : ∀ c, c ≠ h.length → g2[c]? = g1[c]? := fun c hc => by rw [hg2, List.getElem?_set_ne (Ne.symm hc)]
  have l1 : g1.length = h.length + 4 := by rw [hg1, List.length_set]; exact hl
  have l2 : g2.length = h.length + 4 := by rw [hg2, List.length_set]; exact l1
  have lp2 : g2[h.length + 3]? = some (.loop .busy none a #[26] x y) := by rw [e2 _ (by omega), hg1, List.getElem?_set_self (by omega)]
  obtain ⟨g3, hg3⟩ : ∃ g3, g3 = g2.set (h.length + 3) (loopD a x y) := ⟨_, rfl⟩
  have e3 : ∀ c, c ≠ h.length + 3 → g3[c]? = g2[c]? := fun c hc => by rw [hg3, List.getElem?_set_ne (Ne.symm hc)]
  refine ⟨g3, bd (a := (Exit.normal, g2)) ?_ ?_, ⟨by rw [hg3, List.length_set]; exact l2, fun c hc => ?_, ?_, ?_, ?_, by rw [hg3, List.getElem?_set_self (by omega)]⟩⟩
  · show S_dist_Square_2 _ _ _ _ _ = _
    rw [S_dist_Square_2_eq]
    refine bd rfl (bd hb (bd ?_ rfl))
    rw [hg2]
    exact st1_of c1 rfl (by show 0 < 1; omega)
  · unfold rndEnd overL; simp only [lp2]; rw [hg3]; rfl
  · rw [e3 c (by omega), e2 c (by omega), e1 c (by omega)]; exact S.old c hc
  · rw [cellsAt_same (e3 _ (by omega)), hg2]; exact cellsAt_set c1
  · rw [cellsAt_same (e3 _ (by omega)), cellsAt_same (e2 _ (by omega)), cellsAt_same (e1 _ (by omega))]; exact S.cb
  · rw [cellsAt_same (e3 _ (by omega)), cellsAt_same (e2 _ (by omega)), cellsAt_same (e1 _ (by omega))]; exact S.ca
theorem sq_loop (Sa : Sl 1 h va la.length (intVs la)) (Sb : Sl 1 h vb lb.length (intVs lb)) (hab : la.length = lb.length) (hn : la.length ≤ 4096) (ha : ∀ x ∈ la, -16777215 ≤ x ∧ x ≤ 16777215) (hb : ∀ x ∈ lb, -16777215 ≤ x ∧ x ≤ 16777215) :
    ∀ m i (s : Int) (g : AHeap), i + m = la.length → 0 ≤ s → s ≤ (i : Int) * 1125899906842624 → DSt h g va vb s (loopD a x y) →
    ∃ g', S_dist_squares_fn1_0 (sqY h t a x y) (h.length + 3) (h.length + 2) s va (la.length : Int) (i : Int) g = some (.tup [], g') ∧ DSt h g' va vb (sqL (la.drop i) (lb.drop i) s) (loopD a x y) := by
  intro m
  induction m with
  | zero =>
    intro i s g hi h0 h1 S
    refine ⟨g, ?_, ?_⟩
    · rw [S_dist_squares_fn1_0_eq]
      exact cF (decide_eq_false (by omega)) rfl
    · rw [List.drop_of_length_le (by omega)]
      exact S
  | succ m ih =>
    intro i s g hi h0 h1 S
    have hlt : i < la.length := by omega
    have hlt' : i < lb.length := by omega
    obtain ⟨p, a1, a2⟩ := ints_at (Sa.same S.old) hlt
    obtain ⟨q, b1, b2⟩ := ints_at (Sb.same S.old) hlt'
    have ra := ha _ (List.getElem_mem hlt)
    have rb := hb _ (List.getElem_mem hlt')
    have hd : la.drop i = la[i] :: la.drop (i + 1) := List.drop_eq_getElem_cons hlt
    have hd' : lb.drop i = lb[i] :: lb.drop (i + 1) := List.drop_eq_getElem_cons hlt'
    obtain ⟨k1, k2⟩ := sq_bound (d := la[i] - lb[i]) (by omega) (by omega)
    have w1 : IntKind.wrap .i64 (la[i] - lb[i]) = la[i] - lb[i] := wrap_i64 (by omega) (by omega)
    have w2 : IntKind.wrap .i64 ((la[i] - lb[i]) * (la[i] - lb[i])) = (la[i] - lb[i]) * (la[i] - lb[i]) := wrap_i64 (by omega) (by omega)
    obtain ⟨z, hz⟩ : ∃ z, z = s + (la[i] - lb[i]) * (la[i] - lb[i]) := ⟨_, rfl⟩
    have w3 : IntKind.wrap .i64 z = z := wrap_i64 (by omega) (by omega)
    obtain ⟨g1, e1, S1⟩ := sq_round (t := t) S z
    obtain ⟨g2, e2, S2⟩ := ih (i + 1) z g1 (by omega) (by omega) (by omega) S1
    refine ⟨g2, ?_, ?_⟩
    · rw [S_dist_squares_fn1_0_eq]
      refine cT (decide_eq_true (by omega)) (bd a1 (bd a2 (bd rfl (bd (ld1_of S.cb) (bd b1 (bd b2 (bd rfl ?_)))))))
      rw [w1, w2, ← hz, w3]
      refine bd e1 (bd rfl (cF rfl ?_))
      rw [wrap_i64 (by omega) (by omega), show (i : Int) + 1 = ((i + 1 : Nat) : Int) by omega]
      exact e2
    · rw [hd, hd']
      show DSt h g2 va vb (sqL (la.drop (i + 1)) (lb.drop (i + 1)) (s + (la[i] - lb[i]) * (la[i] - lb[i]))) _
      rw [← hz]; exact S2
def okD (la lb : List Int) : Bool := decide (la.length = lb.length) && (rightV la && rightV lb)
def sqO (la lb : List Int) : AVal := cond (okD la lb) (.tup [.lit (.int .i64 (sqL la lb 0)), .lit (.int .i64 0)]) (.tup [.lit (.int .i64 0), .lit (.int .i64 1)])
theorem square_run (Sa : Sl 1 h va la.length (intVs la)) (Sb : Sl 1 h vb lb.length (intVs lb)) : ∃ g, S_dist_Square va vb h = some (sqO la lb, g) ∧ Grow h g := by
  have one : ∀ b, b = !(okD la lb) → ∃ g, S_dist_Square_1 va vb b h = some (sqO la lb, g) ∧ Grow h g := fun b hb => by
    unfold sqO
    cases hk : okD la lb with
    | false =>
      rw [hk] at hb; subst hb
      refine ⟨h, ?_, Keep.refl _ _ _⟩
      rw [S_dist_Square_1_eq]; rfl
    | true =>
      rw [hk] at hb; subst hb
      unfold okD at hk
      simp only [Bool.and_eq_true, decide_eq_true_eq] at hk
      obtain ⟨k1, k2, k3⟩ := hk
      obtain ⟨r1, r2, r3⟩ := rightV_true k2
      obtain ⟨r4, r5, r6⟩ := rightV_true k3
      obtain ⟨g1, hg1⟩ : ∃ g1, g1 = psh h (.cells [.lit (.int .i64 0)]) := ⟨_, rfl⟩
      have l1 : g1.length = h.length + 1 := by rw [hg1, psh_length]
      have c0 : cellsAt g1 h.length = some [.lit (.int .i64 0)] := by rw [hg1]; exact cellsAt_new _ _
      have hst : st1 g1 (.ptr h.length 0) (.lit (.int .i64 0)) = some g1 := by
        rw [st1_of c0 rfl (by show 0 < 1; omega), hg1]
        simp [psh]
      obtain ⟨g2, hg2⟩ : ∃ g2, g2 = psh (psh g1 (.cells [va])) (.cells [vb]) := ⟨_, rfl⟩
      have l2' : (psh g1 (.cells [va])).length = h.length + 2 := by rw [psh_length, l1]
      have l2 : g2.length = h.length + 3 := by rw [hg2, psh_length, l2']
      obtain ⟨t, ht⟩ : ∃ t : AVal, t = .fn (.func 96) [] [.ptr (h.length + 1) 0, .ptr (h.length + 2) 0] := ⟨_, rfl⟩
      have hsq : S_dist_squares va vb g1 = some (t, g2) := by
        rw [S_dist_squares_eq]
        refine bd Sa.parts (bd Sb.parts ?_)
        rw [l2', l1, hg2, ht]
      obtain ⟨a, ha⟩ : ∃ a, a = Fr.lst 29 [(6, (.ptr h.length 0)), (25, t)] := ⟨_, rfl⟩
      obtain ⟨cx, hcx⟩ : ∃ cx : Code, cx = (ca (ca (cb (ca (cb (cb (cb c47))))))) := ⟨_, rfl⟩
      obtain ⟨cy, hcy⟩ : ∃ cy : Code, cy = (cb (ca (cb (ca (cb (cb (cb c47))))))) := ⟨_, rfl⟩
      obtain ⟨g3, hg3⟩ : ∃ g3, g3 = g2 ++ [loopD a cx cy] := ⟨_, rfl⟩
      have o3 : ∀ c, c < g2.length → g3[c]? = g2[c]? := fun c hc => by rw [hg3, List.getElem?_append_left hc]
      have S3 : DSt h g3 va vb 0 (loopD a cx cy) := by
        refine ⟨by rw [hg3]; simp; omega, fun c hc => ?_, ?_, ?_, ?_, by rw [hg3, ← l2]; simp⟩
        · rw [o3 c (by omega), hg2, hg1]
          simp only [psh]
          rw [List.getElem?_append_left (by simp; omega), List.getElem?_append_left (by simp; omega), List.getElem?_append_left hc]
        · rw [cellsAt_same (o3 _ (by omega)), hg2]; exact cellsAt_psh _ (cellsAt_psh _ c0)
        · rw [cellsAt_same (o3 _ (by omega)), hg2, ← l2']; exact cellsAt_new _ _
        · rw [cellsAt_same (o3 _ (by omega)), hg2, ← l1]; exact cellsAt_psh _ (cellsAt_new _ _)
      obtain ⟨g4, e4, S4⟩ := sq_loop (t := t) Sa Sb k1 r2 r3 r6 la.length 0 0 g3 (by omega) (by omega) (by omega) S3
      rw [List.drop_zero, List.drop_zero] at S4
      obtain ⟨g5, hg5⟩ : ∃ g5, g5 = g4.set (h.length + 3) .dead := ⟨_, rfl⟩
      have e5 : ∀ c, c ≠ h.length + 3 → g5[c]? = g4[c]? := fun c hc => by rw [hg5, List.getElem?_set_ne (Ne.symm hc)]
      have c5 : cellsAt g5 h.length = some [.lit (.int .i64 (sqL la lb 0))] := by rw [cellsAt_same (e5 _ (by omega))]; exact S4.cs
      refine ⟨g5, ?_, ⟨by rw [hg5, List.length_set, S4.len]; omega, fun c hc _ => (e5 c (by omega)).trans (S4.old c hc)⟩⟩
      rw [S_dist_Square_1_eq, ← hg1]
      refine cF rfl (bd hst (bd hsq ?_))
      rw [← hcx, ← hcy]
      show (rngK Edist_Square.I Edist_Square.Y t (Fr.lst 29 [(6, (.ptr h.length 0)), (25, t)]) #[26] cx cy _ g2).bind _ = _
      rw [← ha]
      have hK : rngK Edist_Square.I Edist_Square.Y t a #[26] cx cy (fun b10 as12 g11 => args1 as12 fun a9 => S_dist_Square_2 b10 h.length t a9 g11) g2 = some (.normal, g5) := by
        unfold rngK
        rw [ht]
        simp only
        rw [← ht]
        have hf : findN Edist_Square.I 96 = some I_dist_squares_fn1 := rfl
        rw [hf]
        simp only
        rw [l2]
        refine bd (a := (.tup [], g4)) ?_ ?_
        · show S_dist_squares_fn1 _ (h.length + 3) (h.length + 1) (h.length + 2) (g2 ++ [AObj.loop .ready none a #[26] cx cy]) = _
          rw [S_dist_squares_fn1_eq]
          have hg3' : g2 ++ [AObj.loop .ready none a #[26] cx cy] = g3 := hg3.symm
          rw [hg3']
          exact bd (ld1_of S3.ca) (bd (Sa.len) e4)
        · unfold rngOut
          simp only [S4.lp]
          unfold loopD
          show rngPd none _ = _
          rw [← hg5]; rfl
      refine bd hK ?_
      show (ld1 g5 (.ptr h.length 0)).bind _ = _
      exact bd (ld1_of c5) (bd rfl rfl)
  have zero : ∀ b, b = !(decide (la.length = lb.length) && rightV la) → ∃ g, S_dist_Square_0 va vb b h = some (sqO la lb, g) ∧ Grow h g := fun b hb => by
    rw [S_dist_Square_0_eq]
    cases hk : (decide (la.length = lb.length) && rightV la) with
    | false =>
      rw [hk] at hb; subst hb
      obtain ⟨g, e, G⟩ := one true (by unfold okD; rw [← Bool.and_assoc, hk]; rfl)
      exact ⟨g, cT rfl e, G⟩
    | true =>
      rw [hk] at hb; subst hb
      obtain ⟨g, e, G⟩ := one (!rightV lb) (by unfold okD; rw [← Bool.and_assoc, hk, Bool.true_and])
      exact ⟨g, cF rfl (bd (right_run Sb) (bd rfl e)), G⟩
  rw [S_dist_Square_eq]
  by_cases c : la.length = lb.length
  · obtain ⟨g, e, G⟩ := zero (!rightV la) (by rw [decide_eq_true c, Bool.true_and])
    exact ⟨g, bd Sa.len (bd Sb.len (cF (by rw [decide_eq_true (by omega)]; rfl) (bd (right_run Sa) (bd rfl e)))), G⟩
  · obtain ⟨g, e, G⟩ := zero true (by rw [decide_eq_false c]; rfl)
    exact ⟨g, bd Sa.len (bd Sb.len (cT (by rw [decide_eq_false (by omega)]; rfl) e)), G⟩
end sq
def sqV (h : AHeap) (a b : AVal) : Option AVal := match rowI h a, rowI h b with
  | some la, some lb => some (sqO la lb)
  | _, _ => none
theorem sqV_of {h : AHeap} {a b r : AVal} (hx : sqV h a b = some r) : ACalls Tryz.prog 47 [a, b] h fun e g => e = .ret r ∧ g = h := by
  unfold sqV at hx
  split at hx
  · rename_i la lb ha hb
    cases hx
    obtain ⟨g, e, G⟩ := square_run (rowI_sl ha) (rowI_sl hb)
    exact S_dist_Square_ends e (goneEnds G (by unfold sqO; cases okD la lb <;> rfl))
  · cases hx
noncomputable def w_dist_Square : XC := .q fun R args h K => match args with
  | [a, b] => (sqV h a b).bind fun r => K r
  | _ => none
theorem w_dist_Square_ok : XC.Nat w_dist_Square ∧ XC.Ok Tryz.prog 47 w_dist_Square := by
  refine ⟨fun R args h K => ?_, tc47, fun args h v hx => ?_⟩
  · dsimp only; split <;> simp [Option.bind_assoc, mkP]
  · dsimp only at hx; split at hx
    · obtain ⟨r, hopt, hx⟩ := Option.bind_eq_some_iff.1 hx
      cases hx
      exact sqV_of hopt
    · cases hx
end Go.Proofs.YteahajcgbogjkaaGreat.AL
/- The chapter's example of start: run. -/
namespace Go.Proofs.YteahajcgbogjkaaGreat.AL
set_option linter.unusedVariables false
set_option linter.unusedSimpArgs false
set_option maxRecDepth 100000
open Go
open Go.Proofs.Tryz
open Two
theorem seen_awake28 : ∀ j ∈ ([4, 8, 9, 10, 16, 17, 18, 19, 20, 21, 22, 23, 24, 25, 26, 27, 28, 29, 30, 31, 36, 37, 38, 39, 40, 41, 42, 43, 44, 45, 46, 48, 49, 50, 51, 52, 53, 54, 55, 58, 59, 60, 61, 62, 63, 64, 65, 66, 68, 70, 73, 74, 76, 77, 78, 79, 80, 81, 82, 84, 85, 86, 87, 88, 89, 90, 91, 98, 99, 100, 101, 102, 103, 104, 105, 106, 107, 108, 110, 111, 112, 113, 114, 115, 118, 119, 121, 122, 127] : List Nat), callable Tryz.prog j = true := by simp only [List.mem_cons, List.not_mem_nil, or_false, forall_eq_or_imp, forall_eq]; exact ⟨tc4, tc8, tc9, tc10, tc16, tc17, tc18, tc19, tc20, tc21, tc22, tc23, tc24, tc25, tc26, tc27, tc28, tc29, tc30, tc31, tc36, tc37, tc38, tc39, tc40, tc41, tc42, tc43, tc44, tc45, tc46, tc48, tc49, tc50, tc51, tc52, tc53, tc54, tc55, tc58, tc59, tc60, tc61, tc62, tc63, tc64, tc65, tc66, tc68, tc70, tc73, tc74, tc76, tc77, tc78, tc79, tc80, tc81, tc82, tc84, tc85, tc86, tc87, tc88, tc89, tc90, tc91, tc98, tc99, tc100, tc101, tc102, tc103, tc104, tc105, tc106, tc107, tc108, tc110, tc111, tc112, tc113, tc114, tc115, tc118, tc119, tc121, tc122, tc127⟩
noncomputable def yawake28_4 : YRow := { E := { T := tabOf [(3, r3), (4, r4), (9, r9), (23, r23), (27, r27), (30, r30), (31, r31), (33, r33), (34, r34), (37, r37)], C := [(5, w_start_Picks)], D := [], Ms := [], Ml := [], Mo := [], n := 46 }, cs := [8, 9, 10], fn := f4 }
theorem yawake28_4_ok : YRow.Ok Tryz.prog 4 yawake28_4 := ⟨rfl, by kernel_rfl, by kernel_rfl, tabOf_ok (⟨r3_ok, ⟨r4_ok, ⟨r9_ok, ⟨r23_ok, ⟨r27_ok, ⟨r30_ok, ⟨r31_ok, ⟨r33_ok, ⟨r34_ok, ⟨r37_ok, trivial⟩⟩⟩⟩⟩⟩⟩⟩⟩⟩), (⟨w_start_Picks_ok, trivial⟩), tc4, (fun j hj => by simp only [yawake28_4, List.mem_cons, List.not_mem_nil, or_false] at hj; rcases hj with rfl | rfl | rfl <;> first | exact tc8 | exact tc9 | exact tc10)⟩
noncomputable def yawake28_8 : YRow := { E := { T := tabOf [(3, r3), (4, r4), (9, r9), (23, r23), (27, r27), (30, r30), (34, r34)], C := [], D := [], Ms := [], Ml := [], Mo := [], n := 33 }, cs := [16, 17, 18, 19], fn := f8 }
theorem yawake28_8_ok : YRow.Ok Tryz.prog 8 yawake28_8 := ⟨rfl, by kernel_rfl, by kernel_rfl, tabOf_ok (⟨r3_ok, ⟨r4_ok, ⟨r9_ok, ⟨r23_ok, ⟨r27_ok, ⟨r30_ok, ⟨r34_ok, trivial⟩⟩⟩⟩⟩⟩⟩), (trivial), tc8, (fun j hj => by simp only [yawake28_8, List.mem_cons, List.not_mem_nil, or_false] at hj; rcases hj with rfl | rfl | rfl | rfl <;> first | exact tc16 | exact tc17 | exact tc18 | exact tc19)⟩
noncomputable def yawake28_9 : YRow := { E := { T := tabOf [(3, r3), (4, r4), (9, r9), (23, r23), (27, r27), (31, r31), (33, r33), (34, r34), (37, r37), (52, r52), (57, r57), (60, r60), (66, r66), (99, r99)], C := [(5, w_start_Picks)], D := [], Ms := [(25, [2, 3, 4, 10, 12, 15, 18, 73, 74]), (28, [4, 10, 15])], Ml := [(20, [2, 3, 4, 10, 12, 15, 73, 74])], Mo := [], n := 117 }, cs := [20, 21, 22, 23, 24, 25, 26, 27, 28, 29, 30, 31], fn := f9 }
theorem yawake28_9_ok : YRow.Ok Tryz.prog 9 yawake28_9 := ⟨rfl, by kernel_rfl, by kernel_rfl, tabOf_ok (⟨r3_ok, ⟨r4_ok, ⟨r9_ok, ⟨r23_ok, ⟨r27_ok, ⟨r31_ok, ⟨r33_ok, ⟨r34_ok, ⟨r37_ok, ⟨r52_ok, ⟨r57_ok, ⟨r60_ok, ⟨r66_ok, ⟨r99_ok, trivial⟩⟩⟩⟩⟩⟩⟩⟩⟩⟩⟩⟩⟩⟩), (⟨w_start_Picks_ok, trivial⟩), tc9, (fun j hj => by simp only [yawake28_9, List.mem_cons, List.not_mem_nil, or_false] at hj; rcases hj with rfl | rfl | rfl | rfl | rfl | rfl | rfl | rfl | rfl | rfl | rfl | rfl <;> first | exact tc20 | exact tc21 | exact tc22 | exact tc23 | exact tc24 | exact tc25 | exact tc26 | exact tc27 | exact tc28 | exact tc29 | exact tc30 | exact tc31)⟩
noncomputable def yawake28_10 : YRow := { E := { T := tabOf [(3, r3), (4, r4), (37, r37), (70, r70)], C := [], D := [], Ms := [], Ml := [], Mo := [], n := 8 }, cs := [], fn := f10 }
theorem yawake28_10_ok : YRow.Ok Tryz.prog 10 yawake28_10 := ⟨rfl, by kernel_rfl, by kernel_rfl, tabOf_ok (⟨r3_ok, ⟨r4_ok, ⟨r37_ok, ⟨r70_ok, trivial⟩⟩⟩⟩), (trivial), tc10, (fun j hj => by cases hj)⟩
noncomputable def yawake28_16 : YRow := { E := { T := tabOf [(3, r3), (4, r4), (9, r9), (23, r23), (30, r30)], C := [], D := [(3, ⟨[], [0, 1, 2, 3, 4, 5, 6, 7, 8, 9, 10], [], [], [], [], []⟩)], Ms := [(6, [0, 4, 5]), (12, [4])], Ml := [(5, [0, 4, 5]), (8, [0, 4, 5, 6])], Mo := [], n := 52 }, cs := [36, 37, 38], fn := f16 }
theorem yawake28_16_ok : YRow.Ok Tryz.prog 16 yawake28_16 := ⟨rfl, by kernel_rfl, by kernel_rfl, tabOf_ok (⟨r3_ok, ⟨r4_ok, ⟨r9_ok, ⟨r23_ok, ⟨r30_ok, trivial⟩⟩⟩⟩⟩), (trivial), tc16, (fun j hj => by simp only [yawake28_16, List.mem_cons, List.not_mem_nil, or_false] at hj; rcases hj with rfl | rfl | rfl <;> first | exact tc36 | exact tc37 | exact tc38)⟩
noncomputable def yawake28_17 : YRow := { E := { T := tabOf [(3, r3), (4, r4), (9, r9), (27, r27), (34, r34), (78, r78), (80, r80), (82, r82)], C := [], D := [], Ms := [], Ml := [], Mo := [], n := 14 }, cs := [], fn := f17 }
theorem yawake28_17_ok : YRow.Ok Tryz.prog 17 yawake28_17 := ⟨rfl, by kernel_rfl, by kernel_rfl, tabOf_ok (⟨r3_ok, ⟨r4_ok, ⟨r9_ok, ⟨r27_ok, ⟨r34_ok, ⟨r78_ok, ⟨r80_ok, ⟨r82_ok, trivial⟩⟩⟩⟩⟩⟩⟩⟩), (trivial), tc17, (fun j hj => by cases hj)⟩
noncomputable def yawake28_18 : YRow := { E := { T := tabOf [(3, r3), (4, r4), (9, r9), (27, r27), (34, r34), (78, r78), (80, r80), (82, r82)], C := [], D := [], Ms := [], Ml := [], Mo := [], n := 30 }, cs := [39], fn := f18 }
theorem yawake28_18_ok : YRow.Ok Tryz.prog 18 yawake28_18 := ⟨rfl, by kernel_rfl, by kernel_rfl, tabOf_ok (⟨r3_ok, ⟨r4_ok, ⟨r9_ok, ⟨r27_ok, ⟨r34_ok, ⟨r78_ok, ⟨r80_ok, ⟨r82_ok, trivial⟩⟩⟩⟩⟩⟩⟩⟩), (trivial), tc18, (fun j hj => by obtain rfl := List.mem_singleton.1 hj; exact tc39)⟩
noncomputable def yawake28_19 : YRow := { E := { T := tabOf [(3, r3), (4, r4), (9, r9), (27, r27), (34, r34), (78, r78), (80, r80), (82, r82)], C := [], D := [(4, ⟨[], [0, 1, 2, 3, 4, 5, 6, 7, 8, 9, 10, 11, 12], [], [], [], [], []⟩), (7, ⟨[], [0, 1, 2, 3, 4, 5], [6], [], [], [], []⟩)], Ms := [], Ml := [], Mo := [], n := 52 }, cs := [39], fn := f19 }
theorem yawake28_19_ok : YRow.Ok Tryz.prog 19 yawake28_19 := ⟨rfl, by kernel_rfl, by kernel_rfl, tabOf_ok (⟨r3_ok, ⟨r4_ok, ⟨r9_ok, ⟨r27_ok, ⟨r34_ok, ⟨r78_ok, ⟨r80_ok, ⟨r82_ok, trivial⟩⟩⟩⟩⟩⟩⟩⟩), (trivial), tc19, (fun j hj => by obtain rfl := List.mem_singleton.1 hj; exact tc39)⟩
noncomputable def yawake28_20 : YRow := { E := { T := tabOf [(3, r3), (4, r4), (37, r37), (70, r70)], C := [], D := [(3, ⟨[], [0, 1, 2, 3, 4, 5, 6, 7, 8, 9], [], [], [], [], []⟩)], Ms := [], Ml := [], Mo := [], n := 15 }, cs := [40], fn := f20 }
theorem yawake28_20_ok : YRow.Ok Tryz.prog 20 yawake28_20 := ⟨rfl, by kernel_rfl, by kernel_rfl, tabOf_ok (⟨r3_ok, ⟨r4_ok, ⟨r37_ok, ⟨r70_ok, trivial⟩⟩⟩⟩), (trivial), tc20, (fun j hj => by obtain rfl := List.mem_singleton.1 hj; exact tc40)⟩
noncomputable def yawake28_21 : YRow := { E := { T := tabOf [(3, r3), (4, r4), (9, r9), (23, r23), (27, r27), (34, r34), (37, r37), (52, r52), (85, r85), (87, r87), (122, r122)], C := [], D := [], Ms := [], Ml := [], Mo := [], n := 35 }, cs := [22, 24, 41], fn := f21 }
theorem yawake28_21_ok : YRow.Ok Tryz.prog 21 yawake28_21 := ⟨rfl, by kernel_rfl, by kernel_rfl, tabOf_ok (⟨r3_ok, ⟨r4_ok, ⟨r9_ok, ⟨r23_ok, ⟨r27_ok, ⟨r34_ok, ⟨r37_ok, ⟨r52_ok, ⟨r85_ok, ⟨r87_ok, ⟨r122_ok, trivial⟩⟩⟩⟩⟩⟩⟩⟩⟩⟩⟩), (trivial), tc21, (fun j hj => by simp only [yawake28_21, List.mem_cons, List.not_mem_nil, or_false] at hj; rcases hj with rfl | rfl | rfl <;> first | exact tc22 | exact tc24 | exact tc41)⟩
noncomputable def yawake28_22 : YRow := { E := { T := tabOf [(3, r3), (4, r4), (9, r9), (23, r23), (27, r27), (37, r37), (52, r52), (85, r85), (87, r87), (122, r122)], C := [], D := [(3, ⟨[], [0, 1, 2, 3, 4, 5, 6, 7], [8], [], [], [], []⟩)], Ms := [], Ml := [], Mo := [], n := 19 }, cs := [25, 42], fn := f22 }
theorem yawake28_22_ok : YRow.Ok Tryz.prog 22 yawake28_22 := ⟨rfl, by kernel_rfl, by kernel_rfl, tabOf_ok (⟨r3_ok, ⟨r4_ok, ⟨r9_ok, ⟨r23_ok, ⟨r27_ok, ⟨r37_ok, ⟨r52_ok, ⟨r85_ok, ⟨r87_ok, ⟨r122_ok, trivial⟩⟩⟩⟩⟩⟩⟩⟩⟩⟩), (trivial), tc22, (fun j hj => by simp only [yawake28_22, List.mem_cons, List.not_mem_nil, or_false] at hj; rcases hj with rfl | rfl <;> first | exact tc25 | exact tc42)⟩
noncomputable def yawake28_23 : YRow := { E := { T := tabOf [(3, r3), (4, r4), (9, r9), (23, r23), (27, r27), (37, r37), (52, r52), (85, r85), (87, r87), (122, r122)], C := [], D := [], Ms := [], Ml := [], Mo := [], n := 9 }, cs := [], fn := f23 }
theorem yawake28_23_ok : YRow.Ok Tryz.prog 23 yawake28_23 := ⟨rfl, by kernel_rfl, by kernel_rfl, tabOf_ok (⟨r3_ok, ⟨r4_ok, ⟨r9_ok, ⟨r23_ok, ⟨r27_ok, ⟨r37_ok, ⟨r52_ok, ⟨r85_ok, ⟨r87_ok, ⟨r122_ok, trivial⟩⟩⟩⟩⟩⟩⟩⟩⟩⟩), (trivial), tc23, (fun j hj => by cases hj)⟩
noncomputable def yawake28_24 : YRow := { E := { T := tabOf [(3, r3), (4, r4), (34, r34), (37, r37), (70, r70)], C := [], D := [(6, ⟨[], [0, 1, 2, 3, 4, 5, 6, 7, 8, 9, 10, 11], [12], [], [], [], []⟩)], Ms := [], Ml := [], Mo := [], n := 38 }, cs := [20, 40], fn := f24 }
theorem yawake28_24_ok : YRow.Ok Tryz.prog 24 yawake28_24 := ⟨rfl, by kernel_rfl, by kernel_rfl, tabOf_ok (⟨r3_ok, ⟨r4_ok, ⟨r34_ok, ⟨r37_ok, ⟨r70_ok, trivial⟩⟩⟩⟩⟩), (trivial), tc24, (fun j hj => by simp only [yawake28_24, List.mem_cons, List.not_mem_nil, or_false] at hj; rcases hj with rfl | rfl <;> first | exact tc20 | exact tc40)⟩
noncomputable def yawake28_25 : YRow := { E := { T := tabOf [(3, r3), (4, r4), (37, r37), (70, r70)], C := [], D := [(1, ⟨[], [0, 1, 2, 3, 4, 5, 6, 7, 8, 9, 10, 11, 12], [13], [], [], [], []⟩)], Ms := [], Ml := [], Mo := [], n := 23 }, cs := [40], fn := f25 }
theorem yawake28_25_ok : YRow.Ok Tryz.prog 25 yawake28_25 := ⟨rfl, by kernel_rfl, by kernel_rfl, tabOf_ok (⟨r3_ok, ⟨r4_ok, ⟨r37_ok, ⟨r70_ok, trivial⟩⟩⟩⟩), (trivial), tc25, (fun j hj => by obtain rfl := List.mem_singleton.1 hj; exact tc40)⟩
noncomputable def yawake28_26 : YRow := { E := { T := tabOf [(3, r3), (4, r4), (9, r9), (27, r27), (31, r31), (34, r34), (37, r37), (57, r57), (66, r66), (90, r90), (91, r91), (93, r93)], C := [], D := [], Ms := [(11, [13, 14])], Ml := [], Mo := [], n := 51 }, cs := [18, 24, 27, 43, 44], fn := f26 }
theorem yawake28_26_ok : YRow.Ok Tryz.prog 26 yawake28_26 := ⟨rfl, by kernel_rfl, by kernel_rfl, tabOf_ok (⟨r3_ok, ⟨r4_ok, ⟨r9_ok, ⟨r27_ok, ⟨r31_ok, ⟨r34_ok, ⟨r37_ok, ⟨r57_ok, ⟨r66_ok, ⟨r90_ok, ⟨r91_ok, ⟨r93_ok, trivial⟩⟩⟩⟩⟩⟩⟩⟩⟩⟩⟩⟩), (trivial), tc26, (fun j hj => by simp only [yawake28_26, List.mem_cons, List.not_mem_nil, or_false] at hj; rcases hj with rfl | rfl | rfl | rfl | rfl <;> first | exact tc18 | exact tc24 | exact tc27 | exact tc43 | exact tc44)⟩
noncomputable def yawake28_27 : YRow := { E := { T := tabOf [(3, r3), (4, r4), (9, r9), (27, r27), (31, r31), (37, r37), (57, r57), (66, r66), (90, r90), (91, r91), (93, r93)], C := [], D := [], Ms := [], Ml := [], Mo := [], n := 12 }, cs := [25, 45], fn := f27 }
theorem yawake28_27_ok : YRow.Ok Tryz.prog 27 yawake28_27 := ⟨rfl, by kernel_rfl, by kernel_rfl, tabOf_ok (⟨r3_ok, ⟨r4_ok, ⟨r9_ok, ⟨r27_ok, ⟨r31_ok, ⟨r37_ok, ⟨r57_ok, ⟨r66_ok, ⟨r90_ok, ⟨r91_ok, ⟨r93_ok, trivial⟩⟩⟩⟩⟩⟩⟩⟩⟩⟩⟩), (trivial), tc27, (fun j hj => by simp only [yawake28_27, List.mem_cons, List.not_mem_nil, or_false] at hj; rcases hj with rfl | rfl <;> first | exact tc25 | exact tc45)⟩
noncomputable def yawake28_28 : YRow := { E := { T := tabOf [(3, r3), (4, r4), (23, r23), (34, r34), (52, r52), (60, r60), (99, r99)], C := [(47, w_dist_Square)], D := [], Ms := [(16, [8])], Ml := [(3, [0, 1, 8, 15, 16, 17])], Mo := [], n := 56 }, cs := [46], fn := f28 }
theorem yawake28_28_ok : YRow.Ok Tryz.prog 28 yawake28_28 := ⟨rfl, by kernel_rfl, by kernel_rfl, tabOf_ok (⟨r3_ok, ⟨r4_ok, ⟨r23_ok, ⟨r34_ok, ⟨r52_ok, ⟨r60_ok, ⟨r99_ok, trivial⟩⟩⟩⟩⟩⟩⟩), (⟨w_dist_Square_ok, trivial⟩), tc28, (fun j hj => by obtain rfl := List.mem_singleton.1 hj; exact tc46)⟩
noncomputable def yawake28_29 : YRow := { E := { T := tabOf [(3, r3), (4, r4), (9, r9), (34, r34), (57, r57), (60, r60), (99, r99), (102, r102)], C := [], D := [], Ms := [(11, [])], Ml := [(2, [0, 1, 12, 13, 14])], Mo := [], n := 34 }, cs := [48, 49], fn := f29 }
theorem yawake28_29_ok : YRow.Ok Tryz.prog 29 yawake28_29 := ⟨rfl, by kernel_rfl, by kernel_rfl, tabOf_ok (⟨r3_ok, ⟨r4_ok, ⟨r9_ok, ⟨r34_ok, ⟨r57_ok, ⟨r60_ok, ⟨r99_ok, ⟨r102_ok, trivial⟩⟩⟩⟩⟩⟩⟩⟩), (trivial), tc29, (fun j hj => by simp only [yawake28_29, List.mem_cons, List.not_mem_nil, or_false] at hj; rcases hj with rfl | rfl <;> first | exact tc48 | exact tc49)⟩
noncomputable def yawake28_30 : YRow := { E := { T := tabOf [(3, r3), (4, r4), (60, r60), (99, r99)], C := [], D := [], Ms := [], Ml := [], Mo := [], n := 14 }, cs := [50], fn := f30 }
theorem yawake28_30_ok : YRow.Ok Tryz.prog 30 yawake28_30 := ⟨rfl, by kernel_rfl, by kernel_rfl, tabOf_ok (⟨r3_ok, ⟨r4_ok, ⟨r60_ok, ⟨r99_ok, trivial⟩⟩⟩⟩), (trivial), tc30, (fun j hj => by obtain rfl := List.mem_singleton.1 hj; exact tc50)⟩
noncomputable def yawake28_31 : YRow := { E := { T := tabOf [(3, r3), (4, r4), (9, r9), (27, r27), (31, r31), (34, r34), (37, r37), (57, r57), (66, r66), (88, r88), (90, r90), (91, r91), (93, r93), (107, r107)], C := [], D := [(12, ⟨[], [], [], [], [], [0, 1], [(2, [0]), (3, []), (4, [])]⟩)], Ms := [(16, [1, 2])], Ml := [(10, [1, 2, 39, 40, 41])], Mo := [], n := 60 }, cs := [4, 8, 9, 10, 16, 17, 18, 19, 20, 21, 22, 23, 24, 25, 26, 27, 28, 29, 30, 31, 36, 37, 38, 39, 40, 41, 42, 43, 44, 45, 46, 48, 49, 50, 51, 52, 53, 54, 55, 58, 59, 60, 61, 62, 63, 64, 65, 66, 68, 70, 73, 74, 76, 77, 78, 79, 80, 81, 82, 84, 85, 86, 87, 88, 89, 90, 91, 98, 99, 100, 101, 102, 103, 104, 105, 106, 107, 108, 110, 111, 112, 113, 114, 115, 118, 119, 121, 122, 127], fn := f31 }
theorem yawake28_31_ok : YRow.Ok Tryz.prog 31 yawake28_31 := ⟨rfl, by kernel_rfl, by kernel_rfl, tabOf_ok (⟨r3_ok, ⟨r4_ok, ⟨r9_ok, ⟨r27_ok, ⟨r31_ok, ⟨r34_ok, ⟨r37_ok, ⟨r57_ok, ⟨r66_ok, ⟨r88_ok, ⟨r90_ok, ⟨r91_ok, ⟨r93_ok, ⟨r107_ok, trivial⟩⟩⟩⟩⟩⟩⟩⟩⟩⟩⟩⟩⟩⟩), (trivial), tc31, (fun j hj => seen_awake28 j hj)⟩
noncomputable def yawake28_36 : YRow := { E := { T := tabOf [(3, r3), (4, r4), (23, r23), (30, r30)], C := [], D := [(4, ⟨[], [0, 1, 2, 3, 4, 5, 6, 7, 8, 9, 10, 11, 12, 13, 14, 15, 16, 17, 18, 19, 20, 21, 22, 23, 24, 25], [], [], [], [], []⟩)], Ms := [(3, [0, 3]), (5, [0, 3, 40]), (11, [0])], Ml := [(2, [0, 3]), (7, [0, 3, 4])], Mo := [], n := 76 }, cs := [], fn := f36 }
theorem yawake28_36_ok : YRow.Ok Tryz.prog 36 yawake28_36 := ⟨rfl, by kernel_rfl, by kernel_rfl, tabOf_ok (⟨r3_ok, ⟨r4_ok, ⟨r23_ok, ⟨r30_ok, trivial⟩⟩⟩⟩), (trivial), tc36, (fun j hj => by cases hj)⟩
noncomputable def yawake28_37 : YRow := { E := { T := tabOf [(3, r3), (4, r4), (9, r9)], C := [], D := [], Ms := [], Ml := [], Mo := [], n := 14 }, cs := [58], fn := f37 }
theorem yawake28_37_ok : YRow.Ok Tryz.prog 37 yawake28_37 := ⟨rfl, by kernel_rfl, by kernel_rfl, tabOf_ok (⟨r3_ok, ⟨r4_ok, ⟨r9_ok, trivial⟩⟩⟩), (trivial), tc37, (fun j hj => by obtain rfl := List.mem_singleton.1 hj; exact tc58)⟩
noncomputable def yawake28_38 : YRow := { E := { T := tabOf [(3, r3), (4, r4), (9, r9)], C := [], D := [], Ms := [], Ml := [], Mo := [], n := 15 }, cs := [58], fn := f38 }
theorem yawake28_38_ok : YRow.Ok Tryz.prog 38 yawake28_38 := ⟨rfl, by kernel_rfl, by kernel_rfl, tabOf_ok (⟨r3_ok, ⟨r4_ok, ⟨r9_ok, trivial⟩⟩⟩), (trivial), tc38, (fun j hj => by obtain rfl := List.mem_singleton.1 hj; exact tc58)⟩
noncomputable def yawake28_39 : YRow := { E := { T := tabOf [(3, r3), (4, r4), (9, r9), (27, r27), (34, r34), (78, r78), (80, r80), (82, r82)], C := [], D := [], Ms := [], Ml := [], Mo := [], n := 35 }, cs := [59, 60], fn := f39 }
theorem yawake28_39_ok : YRow.Ok Tryz.prog 39 yawake28_39 := ⟨rfl, by kernel_rfl, by kernel_rfl, tabOf_ok (⟨r3_ok, ⟨r4_ok, ⟨r9_ok, ⟨r27_ok, ⟨r34_ok, ⟨r78_ok, ⟨r80_ok, ⟨r82_ok, trivial⟩⟩⟩⟩⟩⟩⟩⟩), (trivial), tc39, (fun j hj => by simp only [yawake28_39, List.mem_cons, List.not_mem_nil, or_false] at hj; rcases hj with rfl | rfl <;> first | exact tc59 | exact tc60)⟩
noncomputable def yawake28_40 : YRow := { E := { T := tabOf [(3, r3), (4, r4), (37, r37), (70, r70)], C := [], D := [], Ms := [], Ml := [], Mo := [], n := 11 }, cs := [], fn := f40 }
theorem yawake28_40_ok : YRow.Ok Tryz.prog 40 yawake28_40 := ⟨rfl, by kernel_rfl, by kernel_rfl, tabOf_ok (⟨r3_ok, ⟨r4_ok, ⟨r37_ok, ⟨r70_ok, trivial⟩⟩⟩⟩), (trivial), tc40, (fun j hj => by cases hj)⟩
noncomputable def yawake28_41 : YRow := { E := { T := tabOf [(3, r3), (4, r4), (9, r9), (23, r23), (27, r27), (34, r34), (37, r37), (52, r52), (85, r85), (87, r87), (122, r122)], C := [], D := [(1, ⟨[], [0, 1, 2, 3, 4, 5, 6, 7], [8, 9, 10, 11, 12, 13], [], [], [], []⟩), (6, ⟨[], [0, 1, 2, 3, 4, 5, 6, 7], [8, 9, 10, 11, 12, 13], [], [], [], []⟩)], Ms := [], Ml := [], Mo := [], n := 54 }, cs := [61, 62, 63], fn := f41 }
theorem yawake28_41_ok : YRow.Ok Tryz.prog 41 yawake28_41 := ⟨rfl, by kernel_rfl, by kernel_rfl, tabOf_ok (⟨r3_ok, ⟨r4_ok, ⟨r9_ok, ⟨r23_ok, ⟨r27_ok, ⟨r34_ok, ⟨r37_ok, ⟨r52_ok, ⟨r85_ok, ⟨r87_ok, ⟨r122_ok, trivial⟩⟩⟩⟩⟩⟩⟩⟩⟩⟩⟩), (trivial), tc41, (fun j hj => by simp only [yawake28_41, List.mem_cons, List.not_mem_nil, or_false] at hj; rcases hj with rfl | rfl | rfl <;> first | exact tc61 | exact tc62 | exact tc63)⟩
noncomputable def yawake28_42 : YRow := { E := { T := tabOf [(3, r3), (4, r4), (9, r9), (23, r23), (27, r27), (37, r37), (52, r52), (85, r85), (87, r87), (122, r122)], C := [], D := [], Ms := [], Ml := [], Mo := [], n := 11 }, cs := [], fn := f42 }
theorem yawake28_42_ok : YRow.Ok Tryz.prog 42 yawake28_42 := ⟨rfl, by kernel_rfl, by kernel_rfl, tabOf_ok (⟨r3_ok, ⟨r4_ok, ⟨r9_ok, ⟨r23_ok, ⟨r27_ok, ⟨r37_ok, ⟨r52_ok, ⟨r85_ok, ⟨r87_ok, ⟨r122_ok, trivial⟩⟩⟩⟩⟩⟩⟩⟩⟩⟩), (trivial), tc42, (fun j hj => by cases hj)⟩
noncomputable def yawake28_43 : YRow := { E := { T := tabOf [(3, r3), (4, r4), (9, r9), (21, r21)], C := [], D := [], Ms := [], Ml := [], Mo := [], n := 15 }, cs := [64], fn := f43 }
theorem yawake28_43_ok : YRow.Ok Tryz.prog 43 yawake28_43 := ⟨rfl, by kernel_rfl, by kernel_rfl, tabOf_ok (⟨r3_ok, ⟨r4_ok, ⟨r9_ok, ⟨r21_ok, trivial⟩⟩⟩⟩), (trivial), tc43, (fun j hj => by obtain rfl := List.mem_singleton.1 hj; exact tc64)⟩
noncomputable def yawake28_44 : YRow := { E := { T := tabOf [(9, r9), (27, r27), (34, r34), (90, r90)], C := [], D := [], Ms := [], Ml := [], Mo := [], n := 11 }, cs := [19], fn := f44 }
theorem yawake28_44_ok : YRow.Ok Tryz.prog 44 yawake28_44 := ⟨rfl, by kernel_rfl, by kernel_rfl, tabOf_ok (⟨r9_ok, ⟨r27_ok, ⟨r34_ok, ⟨r90_ok, trivial⟩⟩⟩⟩), (trivial), tc44, (fun j hj => by obtain rfl := List.mem_singleton.1 hj; exact tc19)⟩
noncomputable def yawake28_45 : YRow := { E := { T := tabOf [(3, r3), (4, r4), (9, r9), (27, r27), (31, r31), (37, r37), (57, r57), (66, r66), (90, r90), (91, r91), (93, r93)], C := [], D := [], Ms := [], Ml := [], Mo := [], n := 11 }, cs := [], fn := f45 }
theorem yawake28_45_ok : YRow.Ok Tryz.prog 45 yawake28_45 := ⟨rfl, by kernel_rfl, by kernel_rfl, tabOf_ok (⟨r3_ok, ⟨r4_ok, ⟨r9_ok, ⟨r27_ok, ⟨r31_ok, ⟨r37_ok, ⟨r57_ok, ⟨r66_ok, ⟨r90_ok, ⟨r91_ok, ⟨r93_ok, trivial⟩⟩⟩⟩⟩⟩⟩⟩⟩⟩⟩), (trivial), tc45, (fun j hj => by cases hj)⟩
noncomputable def yawake28_46 : YRow := { E := { T := tabOf [(3, r3), (4, r4), (9, r9), (23, r23), (27, r27), (34, r34), (37, r37), (52, r52), (85, r85), (87, r87), (122, r122), (124, r124)], C := [(67, w_slices_Delete_vecs_held_vecs_held), (69, w_slices_Insert_vecs_held_vecs_held)], D := [(3, ⟨[], [0, 1, 2, 3, 4, 5, 6, 7, 8, 9, 10], [], [], [], [], []⟩), (14, ⟨[], [0, 1, 2, 3, 4, 5, 6, 7, 8, 9, 10, 11, 12, 13, 14, 15, 16, 17, 18], [19], [], [], [], []⟩), (15, ⟨[0, 1], [2, 3, 4, 5, 6], [7, 8, 9, 10], [6], [], [], []⟩)], Ms := [(4, [0, 3, 14]), (15, [0, 6])], Ml := [], Mo := [], n := 96 }, cs := [42, 65, 66, 68, 70], fn := f46 }
theorem yawake28_46_ok : YRow.Ok Tryz.prog 46 yawake28_46 := ⟨rfl, by kernel_rfl, by kernel_rfl, tabOf_ok (⟨r3_ok, ⟨r4_ok, ⟨r9_ok, ⟨r23_ok, ⟨r27_ok, ⟨r34_ok, ⟨r37_ok, ⟨r52_ok, ⟨r85_ok, ⟨r87_ok, ⟨r122_ok, ⟨r124_ok, trivial⟩⟩⟩⟩⟩⟩⟩⟩⟩⟩⟩⟩), (⟨w_slices_Delete_vecs_held_vecs_held_ok, ⟨w_slices_Insert_vecs_held_vecs_held_ok, trivial⟩⟩), tc46, (fun j hj => by simp only [yawake28_46, List.mem_cons, List.not_mem_nil, or_false] at hj; rcases hj with rfl | rfl | rfl | rfl | rfl <;> first | exact tc42 | exact tc65 | exact tc66 | exact tc68 | exact tc70)⟩
noncomputable def yawake28_48 : YRow := { E := { T := tabOf [(3, r3), (4, r4), (9, r9), (23, r23), (99, r99), (102, r102)], C := [], D := [], Ms := [(6, [1, 4])], Ml := [], Mo := [], n := 37 }, cs := [73, 74], fn := f48 }
theorem yawake28_48_ok : YRow.Ok Tryz.prog 48 yawake28_48 := ⟨rfl, by kernel_rfl, by kernel_rfl, tabOf_ok (⟨r3_ok, ⟨r4_ok, ⟨r9_ok, ⟨r23_ok, ⟨r99_ok, ⟨r102_ok, trivial⟩⟩⟩⟩⟩⟩), (trivial), tc48, (fun j hj => by simp only [yawake28_48, List.mem_cons, List.not_mem_nil, or_false] at hj; rcases hj with rfl | rfl <;> first | exact tc73 | exact tc74)⟩
noncomputable def yawake28_49 : YRow := { E := { T := tabOf [(3, r3), (4, r4), (9, r9), (27, r27), (31, r31), (34, r34), (37, r37), (57, r57), (66, r66), (90, r90), (91, r91), (93, r93)], C := [(75, w_strings_Clone)], D := [(5, ⟨[], [], [], [], [], [0, 1, 2, 3, 4, 5, 6], [(7, [0, 1, 2, 3, 4]), (8, [0]), (9, []), (10, []), (11, [])]⟩), (6, ⟨[], [], [], [], [], [0, 1, 2, 3, 4, 5, 6, 7, 8, 9, 10, 11, 12], [(13, [0, 1, 2, 3, 4, 5, 6]), (14, [0]), (15, []), (16, []), (17, [])]⟩)], Ms := [], Ml := [], Mo := [], n := 53 }, cs := [45, 51, 76], fn := f49 }
theorem yawake28_49_ok : YRow.Ok Tryz.prog 49 yawake28_49 := ⟨rfl, by kernel_rfl, by kernel_rfl, tabOf_ok (⟨r3_ok, ⟨r4_ok, ⟨r9_ok, ⟨r27_ok, ⟨r31_ok, ⟨r34_ok, ⟨r37_ok, ⟨r57_ok, ⟨r66_ok, ⟨r90_ok, ⟨r91_ok, ⟨r93_ok, trivial⟩⟩⟩⟩⟩⟩⟩⟩⟩⟩⟩⟩), (⟨w_strings_Clone_ok, trivial⟩), tc49, (fun j hj => by simp only [yawake28_49, List.mem_cons, List.not_mem_nil, or_false] at hj; rcases hj with rfl | rfl | rfl <;> first | exact tc45 | exact tc51 | exact tc76)⟩
noncomputable def yawake28_50 : YRow := { E := { T := tabOf [(3, r3), (4, r4), (60, r60), (99, r99)], C := [], D := [], Ms := [(9, [0, 8]), (15, [0, 8, 11, 34, 35, 36]), (16, [8, 11])], Ml := [(5, [0, 2, 8, 20, 21, 22]), (11, [0, 8, 11, 34, 35, 36])], Mo := [], n := 50 }, cs := [77, 78, 79], fn := f50 }
theorem yawake28_50_ok : YRow.Ok Tryz.prog 50 yawake28_50 := ⟨rfl, by kernel_rfl, by kernel_rfl, tabOf_ok (⟨r3_ok, ⟨r4_ok, ⟨r60_ok, ⟨r99_ok, trivial⟩⟩⟩⟩), (trivial), tc50, (fun j hj => by simp only [yawake28_50, List.mem_cons, List.not_mem_nil, or_false] at hj; rcases hj with rfl | rfl | rfl <;> first | exact tc77 | exact tc78 | exact tc79)⟩
noncomputable def yawake28_51 : YRow := { E := { T := tabOf [(3, r3), (4, r4), (9, r9), (27, r27), (31, r31), (34, r34), (37, r37), (57, r57), (66, r66), (90, r90), (91, r91), (93, r93)], C := [], D := [(3, ⟨[], [0, 1, 2, 3, 4, 5, 6, 7], [8, 9, 10, 11, 12, 13], [], [], [], []⟩)], Ms := [], Ml := [], Mo := [], n := 43 }, cs := [44, 53, 80], fn := f51 }
theorem yawake28_51_ok : YRow.Ok Tryz.prog 51 yawake28_51 := ⟨rfl, by kernel_rfl, by kernel_rfl, tabOf_ok (⟨r3_ok, ⟨r4_ok, ⟨r9_ok, ⟨r27_ok, ⟨r31_ok, ⟨r34_ok, ⟨r37_ok, ⟨r57_ok, ⟨r66_ok, ⟨r90_ok, ⟨r91_ok, ⟨r93_ok, trivial⟩⟩⟩⟩⟩⟩⟩⟩⟩⟩⟩⟩), (trivial), tc51, (fun j hj => by simp only [yawake28_51, List.mem_cons, List.not_mem_nil, or_false] at hj; rcases hj with rfl | rfl | rfl <;> first | exact tc44 | exact tc53 | exact tc80)⟩
noncomputable def yawake28_52 : YRow := { E := { T := tabOf [(3, r3), (4, r4), (9, r9), (31, r31), (66, r66)], C := [], D := [], Ms := [], Ml := [], Mo := [], n := 37 }, cs := [64, 81], fn := f52 }
theorem yawake28_52_ok : YRow.Ok Tryz.prog 52 yawake28_52 := ⟨rfl, by kernel_rfl, by kernel_rfl, tabOf_ok (⟨r3_ok, ⟨r4_ok, ⟨r9_ok, ⟨r31_ok, ⟨r66_ok, trivial⟩⟩⟩⟩⟩), (trivial), tc52, (fun j hj => by simp only [yawake28_52, List.mem_cons, List.not_mem_nil, or_false] at hj; rcases hj with rfl | rfl <;> first | exact tc64 | exact tc81)⟩
noncomputable def yawake28_53 : YRow := { E := { T := tabOf [(4, r4), (34, r34), (57, r57)], C := [], D := [], Ms := [(3, [1])], Ml := [], Mo := [], n := 10 }, cs := [27], fn := f53 }
theorem yawake28_53_ok : YRow.Ok Tryz.prog 53 yawake28_53 := ⟨rfl, by kernel_rfl, by kernel_rfl, tabOf_ok (⟨r4_ok, ⟨r34_ok, ⟨r57_ok, trivial⟩⟩⟩), (trivial), tc53, (fun j hj => by obtain rfl := List.mem_singleton.1 hj; exact tc27)⟩
noncomputable def yawake28_54 : YRow := { E := { T := tabOf [(3, r3), (4, r4), (9, r9), (27, r27), (31, r31), (34, r34), (37, r37), (57, r57), (66, r66), (90, r90), (91, r91), (93, r93)], C := [], D := [(1, ⟨[], [0, 1, 2, 3, 4], [5, 6], [], [], [], []⟩)], Ms := [], Ml := [], Mo := [], n := 9 }, cs := [44], fn := f54 }
theorem yawake28_54_ok : YRow.Ok Tryz.prog 54 yawake28_54 := ⟨rfl, by kernel_rfl, by kernel_rfl, tabOf_ok (⟨r3_ok, ⟨r4_ok, ⟨r9_ok, ⟨r27_ok, ⟨r31_ok, ⟨r34_ok, ⟨r37_ok, ⟨r57_ok, ⟨r66_ok, ⟨r90_ok, ⟨r91_ok, ⟨r93_ok, trivial⟩⟩⟩⟩⟩⟩⟩⟩⟩⟩⟩⟩), (trivial), tc54, (fun j hj => by obtain rfl := List.mem_singleton.1 hj; exact tc44)⟩
noncomputable def yawake28_55 : YRow := { E := { T := tabOf [(9, r9), (27, r27), (34, r34), (90, r90)], C := [], D := [], Ms := [], Ml := [], Mo := [], n := 8 }, cs := [82], fn := f55 }
theorem yawake28_55_ok : YRow.Ok Tryz.prog 55 yawake28_55 := ⟨rfl, by kernel_rfl, by kernel_rfl, tabOf_ok (⟨r9_ok, ⟨r27_ok, ⟨r34_ok, ⟨r90_ok, trivial⟩⟩⟩⟩), (trivial), tc55, (fun j hj => by obtain rfl := List.mem_singleton.1 hj; exact tc82)⟩
noncomputable def yawake28_58 : YRow := { E := { T := tabOf [(3, r3), (4, r4), (5, r5), (9, r9), (138, r138)], C := [], D := [], Ms := [(9, [0, 6])], Ml := [(5, [0, 1, 6, 7])], Mo := [], n := 35 }, cs := [], fn := f58 }
theorem yawake28_58_ok : YRow.Ok Tryz.prog 58 yawake28_58 := ⟨rfl, by kernel_rfl, by kernel_rfl, tabOf_ok (⟨r3_ok, ⟨r4_ok, ⟨r5_ok, ⟨r9_ok, ⟨r138_ok, trivial⟩⟩⟩⟩⟩), (trivial), tc58, (fun j hj => by cases hj)⟩
noncomputable def yawake28_59 : YRow := { E := { T := tabOf [(3, r3), (4, r4), (9, r9), (27, r27), (34, r34), (78, r78), (80, r80), (82, r82)], C := [], D := [], Ms := [(7, [0])], Ml := [], Mo := [], n := 49 }, cs := [84], fn := f59 }
theorem yawake28_59_ok : YRow.Ok Tryz.prog 59 yawake28_59 := ⟨rfl, by kernel_rfl, by kernel_rfl, tabOf_ok (⟨r3_ok, ⟨r4_ok, ⟨r9_ok, ⟨r27_ok, ⟨r34_ok, ⟨r78_ok, ⟨r80_ok, ⟨r82_ok, trivial⟩⟩⟩⟩⟩⟩⟩⟩), (trivial), tc59, (fun j hj => by obtain rfl := List.mem_singleton.1 hj; exact tc84)⟩
noncomputable def yawake28_60 : YRow := { E := { T := tabOf [(3, r3), (4, r4), (5, r5), (9, r9), (138, r138)], C := [], D := [], Ms := [(7, [0])], Ml := [(2, [0, 6, 7, 8])], Mo := [], n := 23 }, cs := [85], fn := f60 }
theorem yawake28_60_ok : YRow.Ok Tryz.prog 60 yawake28_60 := ⟨rfl, by kernel_rfl, by kernel_rfl, tabOf_ok (⟨r3_ok, ⟨r4_ok, ⟨r5_ok, ⟨r9_ok, ⟨r138_ok, trivial⟩⟩⟩⟩⟩), (trivial), tc60, (fun j hj => by obtain rfl := List.mem_singleton.1 hj; exact tc85)⟩
noncomputable def yawake28_61 : YRow := { E := { T := tabOf [(3, r3), (4, r4), (9, r9), (27, r27), (34, r34), (82, r82)], C := [], D := [], Ms := [], Ml := [], Mo := [], n := 18 }, cs := [39], fn := f61 }
theorem yawake28_61_ok : YRow.Ok Tryz.prog 61 yawake28_61 := ⟨rfl, by kernel_rfl, by kernel_rfl, tabOf_ok (⟨r3_ok, ⟨r4_ok, ⟨r9_ok, ⟨r27_ok, ⟨r34_ok, ⟨r82_ok, trivial⟩⟩⟩⟩⟩⟩), (trivial), tc61, (fun j hj => by obtain rfl := List.mem_singleton.1 hj; exact tc39)⟩
noncomputable def yawake28_62 : YRow := { E := { T := tabOf [(3, r3), (4, r4), (9, r9), (27, r27), (34, r34), (82, r82)], C := [], D := [], Ms := [], Ml := [], Mo := [], n := 48 }, cs := [39], fn := f62 }
theorem yawake28_62_ok : YRow.Ok Tryz.prog 62 yawake28_62 := ⟨rfl, by kernel_rfl, by kernel_rfl, tabOf_ok (⟨r3_ok, ⟨r4_ok, ⟨r9_ok, ⟨r27_ok, ⟨r34_ok, ⟨r82_ok, trivial⟩⟩⟩⟩⟩⟩), (trivial), tc62, (fun j hj => by obtain rfl := List.mem_singleton.1 hj; exact tc39)⟩
noncomputable def yawake28_63 : YRow := { E := { T := tabOf [(3, r3), (4, r4), (9, r9), (34, r34)], C := [], D := [], Ms := [], Ml := [], Mo := [], n := 44 }, cs := [86, 87, 88], fn := f63 }
theorem yawake28_63_ok : YRow.Ok Tryz.prog 63 yawake28_63 := ⟨rfl, by kernel_rfl, by kernel_rfl, tabOf_ok (⟨r3_ok, ⟨r4_ok, ⟨r9_ok, ⟨r34_ok, trivial⟩⟩⟩⟩), (trivial), tc63, (fun j hj => by simp only [yawake28_63, List.mem_cons, List.not_mem_nil, or_false] at hj; rcases hj with rfl | rfl | rfl <;> first | exact tc86 | exact tc87 | exact tc88)⟩
noncomputable def yawake28_64 : YRow := { E := { T := tabOf [(3, r3), (5, r5), (9, r9), (31, r31), (138, r138), (144, r144)], C := [], D := [], Ms := [(8, [0, 3])], Ml := [(4, [0, 3, 4, 8])], Mo := [], n := 23 }, cs := [89], fn := f64 }
theorem yawake28_64_ok : YRow.Ok Tryz.prog 64 yawake28_64 := ⟨rfl, by kernel_rfl, by kernel_rfl, tabOf_ok (⟨r3_ok, ⟨r5_ok, ⟨r9_ok, ⟨r31_ok, ⟨r138_ok, ⟨r144_ok, trivial⟩⟩⟩⟩⟩⟩), (trivial), tc64, (fun j hj => by obtain rfl := List.mem_singleton.1 hj; exact tc89)⟩
noncomputable def yawake28_65 : YRow := { E := { T := tabOf [(3, r3), (4, r4), (23, r23), (85, r85), (122, r122), (124, r124)], C := [], D := [], Ms := [(7, [])], Ml := [(2, [0, 1, 7, 8])], Mo := [], n := 19 }, cs := [4, 8, 9, 10, 16, 17, 18, 19, 20, 21, 22, 23, 24, 25, 26, 27, 28, 29, 30, 31, 36, 37, 38, 39, 40, 41, 42, 43, 44, 45, 46, 48, 49, 50, 51, 52, 53, 54, 55, 58, 59, 60, 61, 62, 63, 64, 65, 66, 68, 70, 73, 74, 76, 77, 78, 79, 80, 81, 82, 84, 85, 86, 87, 88, 89, 90, 91, 98, 99, 100, 101, 102, 103, 104, 105, 106, 107, 108, 110, 111, 112, 113, 114, 115, 118, 119, 121, 122, 127], fn := f65 }
theorem yawake28_65_ok : YRow.Ok Tryz.prog 65 yawake28_65 := ⟨rfl, by kernel_rfl, by kernel_rfl, tabOf_ok (⟨r3_ok, ⟨r4_ok, ⟨r23_ok, ⟨r85_ok, ⟨r122_ok, ⟨r124_ok, trivial⟩⟩⟩⟩⟩⟩), (trivial), tc65, (fun j hj => seen_awake28 j hj)⟩
noncomputable def yawake28_66 : YRow := { E := { T := tabOf [(3, r3), (4, r4), (23, r23), (122, r122)], C := [], D := [], Ms := [], Ml := [], Mo := [], n := 8 }, cs := [], fn := f66 }
theorem yawake28_66_ok : YRow.Ok Tryz.prog 66 yawake28_66 := ⟨rfl, by kernel_rfl, by kernel_rfl, tabOf_ok (⟨r3_ok, ⟨r4_ok, ⟨r23_ok, ⟨r122_ok, trivial⟩⟩⟩⟩), (trivial), tc66, (fun j hj => by cases hj)⟩
noncomputable def yawake28_68 : YRow := { E := { T := tabOf [(3, r3), (4, r4), (9, r9), (23, r23), (27, r27), (34, r34), (37, r37), (52, r52), (85, r85), (87, r87), (122, r122)], C := [], D := [(1, ⟨[], [0, 1, 2, 3, 4, 5, 6, 7, 8, 9, 10, 11, 12, 13, 14, 15, 16, 17, 18], [19, 20, 21, 22, 23, 24], [], [], [], []⟩)], Ms := [], Ml := [], Mo := [], n := 48 }, cs := [62, 90, 91], fn := f68 }
theorem yawake28_68_ok : YRow.Ok Tryz.prog 68 yawake28_68 := ⟨rfl, by kernel_rfl, by kernel_rfl, tabOf_ok (⟨r3_ok, ⟨r4_ok, ⟨r9_ok, ⟨r23_ok, ⟨r27_ok, ⟨r34_ok, ⟨r37_ok, ⟨r52_ok, ⟨r85_ok, ⟨r87_ok, ⟨r122_ok, trivial⟩⟩⟩⟩⟩⟩⟩⟩⟩⟩⟩), (trivial), tc68, (fun j hj => by simp only [yawake28_68, List.mem_cons, List.not_mem_nil, or_false] at hj; rcases hj with rfl | rfl | rfl <;> first | exact tc62 | exact tc90 | exact tc91)⟩
noncomputable def yawake28_70 : YRow := { E := { T := tabOf [(3, r3), (4, r4), (23, r23)], C := [], D := [], Ms := [], Ml := [], Mo := [], n := 8 }, cs := [], fn := f70 }
theorem yawake28_70_ok : YRow.Ok Tryz.prog 70 yawake28_70 := ⟨rfl, by kernel_rfl, by kernel_rfl, tabOf_ok (⟨r3_ok, ⟨r4_ok, ⟨r23_ok, trivial⟩⟩⟩), (trivial), tc70, (fun j hj => by cases hj)⟩
noncomputable def yawake28_73 : YRow := { E := { T := tabOf [(3, r3), (4, r4), (23, r23)], C := [], D := [], Ms := [(7, [])], Ml := [(2, [5, 6, 7])], Mo := [], n := 18 }, cs := [], fn := f73 }
theorem yawake28_73_ok : YRow.Ok Tryz.prog 73 yawake28_73 := ⟨rfl, by kernel_rfl, by kernel_rfl, tabOf_ok (⟨r3_ok, ⟨r4_ok, ⟨r23_ok, trivial⟩⟩⟩), (trivial), tc73, (fun j hj => by cases hj)⟩
noncomputable def yawake28_74 : YRow := { E := { T := tabOf [(3, r3), (4, r4), (9, r9), (23, r23)], C := [], D := [(5, ⟨[], [0, 1, 2, 3, 4, 5, 6, 7, 8], [9, 10, 11, 12, 13, 14], [], [], [], []⟩)], Ms := [(9, [4])], Ml := [(3, [0, 4, 5])], Mo := [], n := 34 }, cs := [81], fn := f74 }
theorem yawake28_74_ok : YRow.Ok Tryz.prog 74 yawake28_74 := ⟨rfl, by kernel_rfl, by kernel_rfl, tabOf_ok (⟨r3_ok, ⟨r4_ok, ⟨r9_ok, ⟨r23_ok, trivial⟩⟩⟩⟩), (trivial), tc74, (fun j hj => by obtain rfl := List.mem_singleton.1 hj; exact tc81)⟩
noncomputable def yawake28_76 : YRow := { E := { T := tabOf [(3, r3), (5, r5), (9, r9), (31, r31), (138, r138)], C := [], D := [], Ms := [(9, [5])], Ml := [(3, [5, 11, 12, 13])], Mo := [], n := 34 }, cs := [98], fn := f76 }
theorem yawake28_76_ok : YRow.Ok Tryz.prog 76 yawake28_76 := ⟨rfl, by kernel_rfl, by kernel_rfl, tabOf_ok (⟨r3_ok, ⟨r5_ok, ⟨r9_ok, ⟨r31_ok, ⟨r138_ok, trivial⟩⟩⟩⟩⟩), (trivial), tc76, (fun j hj => by obtain rfl := List.mem_singleton.1 hj; exact tc98)⟩
noncomputable def yawake28_77 : YRow := { E := { T := tabOf [(3, r3), (4, r4), (60, r60), (99, r99), (153, r153)], C := [], D := [(7, ⟨[], [0, 1, 2, 3, 4, 5, 6, 7, 8, 9, 10, 11, 12, 13, 14, 15, 16, 17, 18], [19, 20, 21, 22], [], [], [], []⟩)], Ms := [(8, [0, 5, 7, 21, 22, 23, 50]), (11, [])], Ml := [(5, [0, 5, 21, 22, 23])], Mo := [], n := 55 }, cs := [99, 100], fn := f77 }
theorem yawake28_77_ok : YRow.Ok Tryz.prog 77 yawake28_77 := ⟨rfl, by kernel_rfl, by kernel_rfl, tabOf_ok (⟨r3_ok, ⟨r4_ok, ⟨r60_ok, ⟨r99_ok, ⟨r153_ok, trivial⟩⟩⟩⟩⟩), (trivial), tc77, (fun j hj => by simp only [yawake28_77, List.mem_cons, List.not_mem_nil, or_false] at hj; rcases hj with rfl | rfl <;> first | exact tc99 | exact tc100)⟩
noncomputable def yawake28_78 : YRow := { E := { T := tabOf [(3, r3), (4, r4), (60, r60), (99, r99), (155, r155), (171, r171)], C := [], D := [(6, ⟨[], [0, 1, 2, 3, 4, 5, 6, 7], [8, 9, 10], [4], [], [], []⟩)], Ms := [], Ml := [], Mo := [], n := 53 }, cs := [77, 79, 99, 100, 101, 102], fn := f78 }
theorem yawake28_78_ok : YRow.Ok Tryz.prog 78 yawake28_78 := ⟨rfl, by kernel_rfl, by kernel_rfl, tabOf_ok (⟨r3_ok, ⟨r4_ok, ⟨r60_ok, ⟨r99_ok, ⟨r155_ok, ⟨r171_ok, trivial⟩⟩⟩⟩⟩⟩), (trivial), tc78, (fun j hj => by simp only [yawake28_78, List.mem_cons, List.not_mem_nil, or_false] at hj; rcases hj with rfl | rfl | rfl | rfl | rfl | rfl <;> first | exact tc77 | exact tc79 | exact tc99 | exact tc100 | exact tc101 | exact tc102)⟩
noncomputable def yawake28_79 : YRow := { E := { T := tabOf [(3, r3), (4, r4), (60, r60), (99, r99), (154, r154)], C := [], D := [], Ms := [], Ml := [], Mo := [], n := 8 }, cs := [103, 104], fn := f79 }
theorem yawake28_79_ok : YRow.Ok Tryz.prog 79 yawake28_79 := ⟨rfl, by kernel_rfl, by kernel_rfl, tabOf_ok (⟨r3_ok, ⟨r4_ok, ⟨r60_ok, ⟨r99_ok, ⟨r154_ok, trivial⟩⟩⟩⟩⟩), (trivial), tc79, (fun j hj => by simp only [yawake28_79, List.mem_cons, List.not_mem_nil, or_false] at hj; rcases hj with rfl | rfl <;> first | exact tc103 | exact tc104)⟩
noncomputable def yawake28_80 : YRow := { E := { T := tabOf [(3, r3), (4, r4), (9, r9), (21, r21), (91, r91), (113, r113)], C := [], D := [], Ms := [], Ml := [], Mo := [], n := 34 }, cs := [64, 105, 106, 107, 108], fn := f80 }
theorem yawake28_80_ok : YRow.Ok Tryz.prog 80 yawake28_80 := ⟨rfl, by kernel_rfl, by kernel_rfl, tabOf_ok (⟨r3_ok, ⟨r4_ok, ⟨r9_ok, ⟨r21_ok, ⟨r91_ok, ⟨r113_ok, trivial⟩⟩⟩⟩⟩⟩), (trivial), tc80, (fun j hj => by simp only [yawake28_80, List.mem_cons, List.not_mem_nil, or_false] at hj; rcases hj with rfl | rfl | rfl | rfl | rfl <;> first | exact tc64 | exact tc105 | exact tc106 | exact tc107 | exact tc108)⟩
noncomputable def yawake28_81 : YRow := { E := { T := tabOf [(3, r3), (4, r4), (5, r5), (9, r9), (138, r138), (161, r161)], C := [], D := [], Ms := [(9, [1, 6]), (15, [1, 6])], Ml := [(5, [0, 1, 6, 7]), (10, [1, 6, 32, 33, 34])], Mo := [], n := 45 }, cs := [], fn := f81 }
theorem yawake28_81_ok : YRow.Ok Tryz.prog 81 yawake28_81 := ⟨rfl, by kernel_rfl, by kernel_rfl, tabOf_ok (⟨r3_ok, ⟨r4_ok, ⟨r5_ok, ⟨r9_ok, ⟨r138_ok, ⟨r161_ok, trivial⟩⟩⟩⟩⟩⟩), (trivial), tc81, (fun j hj => by cases hj)⟩
noncomputable def yawake28_82 : YRow := { E := { T := tabOf [(3, r3), (4, r4), (9, r9), (27, r27), (34, r34), (78, r78), (80, r80), (82, r82)], C := [], D := [(4, ⟨[], [0, 1, 2, 3, 4, 5], [6], [], [], [], []⟩)], Ms := [(5, [6])], Ml := [], Mo := [], n := 26 }, cs := [39], fn := f82 }
theorem yawake28_82_ok : YRow.Ok Tryz.prog 82 yawake28_82 := ⟨rfl, by kernel_rfl, by kernel_rfl, tabOf_ok (⟨r3_ok, ⟨r4_ok, ⟨r9_ok, ⟨r27_ok, ⟨r34_ok, ⟨r78_ok, ⟨r80_ok, ⟨r82_ok, trivial⟩⟩⟩⟩⟩⟩⟩⟩), (trivial), tc82, (fun j hj => by obtain rfl := List.mem_singleton.1 hj; exact tc39)⟩
noncomputable def yawake28_84 : YRow := { E := { T := tabOf [(3, r3), (4, r4), (9, r9), (27, r27), (78, r78), (80, r80), (82, r82)], C := [], D := [], Ms := [], Ml := [], Mo := [], n := 11 }, cs := [], fn := f84 }
theorem yawake28_84_ok : YRow.Ok Tryz.prog 84 yawake28_84 := ⟨rfl, by kernel_rfl, by kernel_rfl, tabOf_ok (⟨r3_ok, ⟨r4_ok, ⟨r9_ok, ⟨r27_ok, ⟨r78_ok, ⟨r80_ok, ⟨r82_ok, trivial⟩⟩⟩⟩⟩⟩⟩), (trivial), tc84, (fun j hj => by cases hj)⟩
noncomputable def yawake28_85 : YRow := { E := { T := tabOf [(4, r4), (5, r5)], C := [], D := [], Ms := [], Ml := [], Mo := [], n := 21 }, cs := [], fn := f85 }
theorem yawake28_85_ok : YRow.Ok Tryz.prog 85 yawake28_85 := ⟨rfl, by kernel_rfl, by kernel_rfl, tabOf_ok (⟨r4_ok, ⟨r5_ok, trivial⟩⟩), (trivial), tc85, (fun j hj => by cases hj)⟩
noncomputable def yawake28_86 : YRow := { E := { T := tabOf [(4, r4), (9, r9)], C := [], D := [], Ms := [], Ml := [], Mo := [], n := 8 }, cs := [110], fn := f86 }
theorem yawake28_86_ok : YRow.Ok Tryz.prog 86 yawake28_86 := ⟨rfl, by kernel_rfl, by kernel_rfl, tabOf_ok (⟨r4_ok, ⟨r9_ok, trivial⟩⟩), (trivial), tc86, (fun j hj => by obtain rfl := List.mem_singleton.1 hj; exact tc110)⟩
noncomputable def yawake28_87 : YRow := { E := { T := tabOf [(3, r3), (4, r4), (5, r5), (9, r9), (109, r109), (138, r138)], C := [], D := [], Ms := [(9, [8])], Ml := [(5, [8, 35, 36, 37])], Mo := [], n := 52 }, cs := [], fn := f87 }
theorem yawake28_87_ok : YRow.Ok Tryz.prog 87 yawake28_87 := ⟨rfl, by kernel_rfl, by kernel_rfl, tabOf_ok (⟨r3_ok, ⟨r4_ok, ⟨r5_ok, ⟨r9_ok, ⟨r109_ok, ⟨r138_ok, trivial⟩⟩⟩⟩⟩⟩), (trivial), tc87, (fun j hj => by cases hj)⟩
noncomputable def yawake28_88 : YRow := { E := { T := tabOf [(3, r3), (4, r4)], C := [], D := [], Ms := [], Ml := [], Mo := [], n := 19 }, cs := [], fn := f88 }
theorem yawake28_88_ok : YRow.Ok Tryz.prog 88 yawake28_88 := ⟨rfl, by kernel_rfl, by kernel_rfl, tabOf_ok (⟨r3_ok, ⟨r4_ok, trivial⟩⟩), (trivial), tc88, (fun j hj => by cases hj)⟩
noncomputable def yawake28_89 : YRow := { E := { T := tabOf [(9, r9), (31, r31)], C := [], D := [], Ms := [], Ml := [], Mo := [], n := 5 }, cs := [76], fn := f89 }
theorem yawake28_89_ok : YRow.Ok Tryz.prog 89 yawake28_89 := ⟨rfl, by kernel_rfl, by kernel_rfl, tabOf_ok (⟨r9_ok, ⟨r31_ok, trivial⟩⟩), (trivial), tc89, (fun j hj => by obtain rfl := List.mem_singleton.1 hj; exact tc76)⟩
noncomputable def yawake28_90 : YRow := { E := { T := tabOf [(3, r3), (4, r4)], C := [], D := [], Ms := [], Ml := [], Mo := [], n := 24 }, cs := [], fn := f90 }
theorem yawake28_90_ok : YRow.Ok Tryz.prog 90 yawake28_90 := ⟨rfl, by kernel_rfl, by kernel_rfl, tabOf_ok (⟨r3_ok, ⟨r4_ok, trivial⟩⟩), (trivial), tc90, (fun j hj => by cases hj)⟩
noncomputable def yawake28_91 : YRow := { E := { T := tabOf [(3, r3), (4, r4), (9, r9), (23, r23), (91, r91), (167, r167)], C := [], D := [], Ms := [], Ml := [], Mo := [], n := 32 }, cs := [111, 112, 113], fn := f91 }
theorem yawake28_91_ok : YRow.Ok Tryz.prog 91 yawake28_91 := ⟨rfl, by kernel_rfl, by kernel_rfl, tabOf_ok (⟨r3_ok, ⟨r4_ok, ⟨r9_ok, ⟨r23_ok, ⟨r91_ok, ⟨r167_ok, trivial⟩⟩⟩⟩⟩⟩), (trivial), tc91, (fun j hj => by simp only [yawake28_91, List.mem_cons, List.not_mem_nil, or_false] at hj; rcases hj with rfl | rfl | rfl <;> first | exact tc111 | exact tc112 | exact tc113)⟩
noncomputable def yawake28_98 : YRow := { E := { T := tabOf [(31, r31), (170, r170)], C := [], D := [], Ms := [], Ml := [], Mo := [], n := 9 }, cs := [], fn := f98 }
theorem yawake28_98_ok : YRow.Ok Tryz.prog 98 yawake28_98 := ⟨rfl, by kernel_rfl, by kernel_rfl, tabOf_ok (⟨r31_ok, ⟨r170_ok, trivial⟩⟩), (trivial), tc98, (fun j hj => by cases hj)⟩
noncomputable def yawake28_99 : YRow := { E := { T := tabOf [(3, r3), (4, r4), (99, r99)], C := [], D := [], Ms := [], Ml := [], Mo := [], n := 21 }, cs := [], fn := f99 }
theorem yawake28_99_ok : YRow.Ok Tryz.prog 99 yawake28_99 := ⟨rfl, by kernel_rfl, by kernel_rfl, tabOf_ok (⟨r3_ok, ⟨r4_ok, ⟨r99_ok, trivial⟩⟩⟩), (trivial), tc99, (fun j hj => by cases hj)⟩
noncomputable def yawake28_100 : YRow := { E := { T := tabOf [(3, r3), (4, r4), (23, r23), (99, r99)], C := [], D := [(1, ⟨[], [], [], [], [], [0, 1, 2, 3, 5, 6, 7, 8], [(4, [5, 6, 7, 8]), (9, []), (10, []), (11, []), (12, [])]⟩)], Ms := [], Ml := [], Mo := [], n := 17 }, cs := [118, 119], fn := f100 }
theorem yawake28_100_ok : YRow.Ok Tryz.prog 100 yawake28_100 := ⟨rfl, by kernel_rfl, by kernel_rfl, tabOf_ok (⟨r3_ok, ⟨r4_ok, ⟨r23_ok, ⟨r99_ok, trivial⟩⟩⟩⟩), (trivial), tc100, (fun j hj => by simp only [yawake28_100, List.mem_cons, List.not_mem_nil, or_false] at hj; rcases hj with rfl | rfl <;> first | exact tc118 | exact tc119)⟩
noncomputable def yawake28_101 : YRow := { E := { T := tabOf [(3, r3), (4, r4), (60, r60), (99, r99), (137, r137), (155, r155)], C := [], D := [(5, ⟨[], [0, 1, 2, 3, 4, 5], [6, 7], [], [], [], []⟩), (8, ⟨[], [0, 1, 2, 3, 4, 5, 6, 7, 8, 9, 10, 11, 12, 13, 14, 15], [], [], [], [], []⟩)], Ms := [(8, [0, 2, 4, 8, 9])], Ml := [(3, [0, 2, 4, 8, 9, 10])], Mo := [], n := 49 }, cs := [4, 8, 9, 10, 16, 17, 18, 19, 20, 21, 22, 23, 24, 25, 26, 27, 28, 29, 30, 31, 36, 37, 38, 39, 40, 41, 42, 43, 44, 45, 46, 48, 49, 50, 51, 52, 53, 54, 55, 58, 59, 60, 61, 62, 63, 64, 65, 66, 68, 70, 73, 74, 76, 77, 78, 79, 80, 81, 82, 84, 85, 86, 87, 88, 89, 90, 91, 98, 99, 100, 101, 102, 103, 104, 105, 106, 107, 108, 110, 111, 112, 113, 114, 115, 118, 119, 121, 122, 127], fn := f101 }
theorem yawake28_101_ok : YRow.Ok Tryz.prog 101 yawake28_101 := ⟨rfl, by kernel_rfl, by kernel_rfl, tabOf_ok (⟨r3_ok, ⟨r4_ok, ⟨r60_ok, ⟨r99_ok, ⟨r137_ok, ⟨r155_ok, trivial⟩⟩⟩⟩⟩⟩), (trivial), tc101, (fun j hj => seen_awake28 j hj)⟩
noncomputable def yawake28_102 : YRow := { E := { T := tabOf [(3, r3), (4, r4), (9, r9), (20, r20), (60, r60), (99, r99), (171, r171)], C := [(120, w_slices_Grow_api_Near_api_Near)], D := [], Ms := [(8, [0, 3, 9, 10, 11]), (9, [0, 3]), (15, [6])], Ml := [(3, [0, 3, 9, 10, 11]), (11, [6, 25, 26, 27])], Mo := [], n := 36 }, cs := [], fn := f102 }
theorem yawake28_102_ok : YRow.Ok Tryz.prog 102 yawake28_102 := ⟨rfl, by kernel_rfl, by kernel_rfl, tabOf_ok (⟨r3_ok, ⟨r4_ok, ⟨r9_ok, ⟨r20_ok, ⟨r60_ok, ⟨r99_ok, ⟨r171_ok, trivial⟩⟩⟩⟩⟩⟩⟩), (⟨w_slices_Grow_api_Near_api_Near_ok, trivial⟩), tc102, (fun j hj => by cases hj)⟩
noncomputable def yawake28_103 : YRow := { E := { T := tabOf [(3, r3), (4, r4), (60, r60), (99, r99), (154, r154)], C := [], D := [], Ms := [], Ml := [], Mo := [], n := 9 }, cs := [121], fn := f103 }
theorem yawake28_103_ok : YRow.Ok Tryz.prog 103 yawake28_103 := ⟨rfl, by kernel_rfl, by kernel_rfl, tabOf_ok (⟨r3_ok, ⟨r4_ok, ⟨r60_ok, ⟨r99_ok, ⟨r154_ok, trivial⟩⟩⟩⟩⟩), (trivial), tc103, (fun j hj => by obtain rfl := List.mem_singleton.1 hj; exact tc121)⟩
noncomputable def yawake28_104 : YRow := { E := { T := tabOf [(3, r3), (4, r4), (99, r99)], C := [], D := [], Ms := [], Ml := [], Mo := [], n := 8 }, cs := [], fn := f104 }
theorem yawake28_104_ok : YRow.Ok Tryz.prog 104 yawake28_104 := ⟨rfl, by kernel_rfl, by kernel_rfl, tabOf_ok (⟨r3_ok, ⟨r4_ok, ⟨r99_ok, trivial⟩⟩⟩), (trivial), tc104, (fun j hj => by cases hj)⟩
noncomputable def yawake28_105 : YRow := { E := { T := tabOf [(3, r3), (4, r4), (9, r9)], C := [], D := [], Ms := [], Ml := [], Mo := [], n := 8 }, cs := [], fn := f105 }
theorem yawake28_105_ok : YRow.Ok Tryz.prog 105 yawake28_105 := ⟨rfl, by kernel_rfl, by kernel_rfl, tabOf_ok (⟨r3_ok, ⟨r4_ok, ⟨r9_ok, trivial⟩⟩⟩), (trivial), tc105, (fun j hj => by cases hj)⟩
noncomputable def yawake28_106 : YRow := { E := { T := tabOf [(3, r3), (4, r4)], C := [], D := [], Ms := [], Ml := [], Mo := [], n := 9 }, cs := [], fn := f106 }
theorem yawake28_106_ok : YRow.Ok Tryz.prog 106 yawake28_106 := ⟨rfl, by kernel_rfl, by kernel_rfl, tabOf_ok (⟨r3_ok, ⟨r4_ok, trivial⟩⟩), (trivial), tc106, (fun j hj => by cases hj)⟩
noncomputable def yawake28_107 : YRow := { E := { T := tabOf [(3, r3), (4, r4), (9, r9), (91, r91), (113, r113)], C := [], D := [], Ms := [], Ml := [], Mo := [], n := 9 }, cs := [122], fn := f107 }
theorem yawake28_107_ok : YRow.Ok Tryz.prog 107 yawake28_107 := ⟨rfl, by kernel_rfl, by kernel_rfl, tabOf_ok (⟨r3_ok, ⟨r4_ok, ⟨r9_ok, ⟨r91_ok, ⟨r113_ok, trivial⟩⟩⟩⟩⟩), (trivial), tc107, (fun j hj => by obtain rfl := List.mem_singleton.1 hj; exact tc122)⟩
noncomputable def yawake28_108 : YRow := { E := { T := tabOf [(3, r3), (4, r4), (5, r5), (9, r9), (20, r20), (91, r91), (138, r138), (174, r174), (176, r176)], C := [(123, w_strings_Builder_Grow), (124, w_strings_Builder_WriteString), (125, w_strings_Builder_String)], D := [], Ms := [(10, [0, 1, 5]), (11, [0, 1, 5]), (16, [0, 1, 5, 7, 39, 40, 41]), (18, [0, 1, 5]), (27, [8])], Ml := [(12, [0, 1, 5, 39, 40, 41]), (22, [1, 8, 63, 64, 65])], Mo := [], n := 75 }, cs := [], fn := f108 }
theorem yawake28_108_ok : YRow.Ok Tryz.prog 108 yawake28_108 := ⟨rfl, by kernel_rfl, by kernel_rfl, tabOf_ok (⟨r3_ok, ⟨r4_ok, ⟨r5_ok, ⟨r9_ok, ⟨r20_ok, ⟨r91_ok, ⟨r138_ok, ⟨r174_ok, ⟨r176_ok, trivial⟩⟩⟩⟩⟩⟩⟩⟩⟩), (⟨w_strings_Builder_Grow_ok, ⟨w_strings_Builder_WriteString_ok, ⟨w_strings_Builder_String_ok, trivial⟩⟩⟩), tc108, (fun j hj => by cases hj)⟩
noncomputable def yawake28_110 : YRow := { E := { T := tabOf [(3, r3), (4, r4), (9, r9)], C := [], D := [], Ms := [], Ml := [], Mo := [], n := 18 }, cs := [], fn := f110 }
theorem yawake28_110_ok : YRow.Ok Tryz.prog 110 yawake28_110 := ⟨rfl, by kernel_rfl, by kernel_rfl, tabOf_ok (⟨r3_ok, ⟨r4_ok, ⟨r9_ok, trivial⟩⟩⟩), (trivial), tc110, (fun j hj => by cases hj)⟩
noncomputable def yawake28_111 : YRow := { E := { T := tabOf [(3, r3), (4, r4), (9, r9), (91, r91)], C := [], D := [], Ms := [(7, [6])], Ml := [(4, [0, 1, 6])], Mo := [], n := 28 }, cs := [], fn := f111 }
theorem yawake28_111_ok : YRow.Ok Tryz.prog 111 yawake28_111 := ⟨rfl, by kernel_rfl, by kernel_rfl, tabOf_ok (⟨r3_ok, ⟨r4_ok, ⟨r9_ok, ⟨r91_ok, trivial⟩⟩⟩⟩), (trivial), tc111, (fun j hj => by cases hj)⟩
noncomputable def yawake28_112 : YRow := { E := { T := tabOf [(3, r3), (4, r4), (9, r9), (23, r23), (91, r91), (167, r167)], C := [], D := [], Ms := [(10, [6])], Ml := [(3, [1, 6, 14, 15, 16])], Mo := [], n := 34 }, cs := [4, 8, 9, 10, 16, 17, 18, 19, 20, 21, 22, 23, 24, 25, 26, 27, 28, 29, 30, 31, 36, 37, 38, 39, 40, 41, 42, 43, 44, 45, 46, 48, 49, 50, 51, 52, 53, 54, 55, 58, 59, 60, 61, 62, 63, 64, 65, 66, 68, 70, 73, 74, 76, 77, 78, 79, 80, 81, 82, 84, 85, 86, 87, 88, 89, 90, 91, 98, 99, 100, 101, 102, 103, 104, 105, 106, 107, 108, 110, 111, 112, 113, 114, 115, 118, 119, 121, 122, 127], fn := f112 }
theorem yawake28_112_ok : YRow.Ok Tryz.prog 112 yawake28_112 := ⟨rfl, by kernel_rfl, by kernel_rfl, tabOf_ok (⟨r3_ok, ⟨r4_ok, ⟨r9_ok, ⟨r23_ok, ⟨r91_ok, ⟨r167_ok, trivial⟩⟩⟩⟩⟩⟩), (trivial), tc112, (fun j hj => seen_awake28 j hj)⟩
noncomputable def yawake28_113 : YRow := { E := { T := tabOf [(3, r3), (4, r4), (9, r9)], C := [], D := [], Ms := [], Ml := [], Mo := [], n := 17 }, cs := [114, 115], fn := f113 }
theorem yawake28_113_ok : YRow.Ok Tryz.prog 113 yawake28_113 := ⟨rfl, by kernel_rfl, by kernel_rfl, tabOf_ok (⟨r3_ok, ⟨r4_ok, ⟨r9_ok, trivial⟩⟩⟩), (trivial), tc113, (fun j hj => by simp only [yawake28_113, List.mem_cons, List.not_mem_nil, or_false] at hj; rcases hj with rfl | rfl <;> first | exact tc114 | exact tc115)⟩
noncomputable def yawake28_114 : YRow := { E := { T := tabOf [(3, r3), (4, r4), (9, r9)], C := [], D := [], Ms := [], Ml := [], Mo := [], n := 18 }, cs := [87], fn := f114 }
theorem yawake28_114_ok : YRow.Ok Tryz.prog 114 yawake28_114 := ⟨rfl, by kernel_rfl, by kernel_rfl, tabOf_ok (⟨r3_ok, ⟨r4_ok, ⟨r9_ok, trivial⟩⟩⟩), (trivial), tc114, (fun j hj => by obtain rfl := List.mem_singleton.1 hj; exact tc87)⟩
noncomputable def yawake28_115 : YRow := { E := { T := tabOf [(3, r3), (4, r4)], C := [], D := [], Ms := [], Ml := [], Mo := [], n := 9 }, cs := [], fn := f115 }
theorem yawake28_115_ok : YRow.Ok Tryz.prog 115 yawake28_115 := ⟨rfl, by kernel_rfl, by kernel_rfl, tabOf_ok (⟨r3_ok, ⟨r4_ok, trivial⟩⟩), (trivial), tc115, (fun j hj => by cases hj)⟩
noncomputable def yawake28_118 : YRow := { E := { T := tabOf [(3, r3), (4, r4), (23, r23)], C := [], D := [], Ms := [(8, [3])], Ml := [(3, [3, 6, 7, 8])], Mo := [], n := 18 }, cs := [], fn := f118 }
theorem yawake28_118_ok : YRow.Ok Tryz.prog 118 yawake28_118 := ⟨rfl, by kernel_rfl, by kernel_rfl, tabOf_ok (⟨r3_ok, ⟨r4_ok, ⟨r23_ok, trivial⟩⟩⟩), (trivial), tc118, (fun j hj => by cases hj)⟩
noncomputable def yawake28_119 : YRow := { E := { T := tabOf [(3, r3), (4, r4)], C := [], D := [], Ms := [], Ml := [], Mo := [], n := 20 }, cs := [127], fn := f119 }
theorem yawake28_119_ok : YRow.Ok Tryz.prog 119 yawake28_119 := ⟨rfl, by kernel_rfl, by kernel_rfl, tabOf_ok (⟨r3_ok, ⟨r4_ok, trivial⟩⟩), (trivial), tc119, (fun j hj => by obtain rfl := List.mem_singleton.1 hj; exact tc127)⟩
noncomputable def yawake28_121 : YRow := { E := { T := tabOf [(3, r3), (4, r4), (60, r60), (99, r99), (154, r154)], C := [], D := [], Ms := [(7, [])], Ml := [(2, [0, 1, 7, 8])], Mo := [], n := 19 }, cs := [4, 8, 9, 10, 16, 17, 18, 19, 20, 21, 22, 23, 24, 25, 26, 27, 28, 29, 30, 31, 36, 37, 38, 39, 40, 41, 42, 43, 44, 45, 46, 48, 49, 50, 51, 52, 53, 54, 55, 58, 59, 60, 61, 62, 63, 64, 65, 66, 68, 70, 73, 74, 76, 77, 78, 79, 80, 81, 82, 84, 85, 86, 87, 88, 89, 90, 91, 98, 99, 100, 101, 102, 103, 104, 105, 106, 107, 108, 110, 111, 112, 113, 114, 115, 118, 119, 121, 122, 127], fn := f121 }
theorem yawake28_121_ok : YRow.Ok Tryz.prog 121 yawake28_121 := ⟨rfl, by kernel_rfl, by kernel_rfl, tabOf_ok (⟨r3_ok, ⟨r4_ok, ⟨r60_ok, ⟨r99_ok, ⟨r154_ok, trivial⟩⟩⟩⟩⟩), (trivial), tc121, (fun j hj => seen_awake28 j hj)⟩
noncomputable def yawake28_122 : YRow := { E := { T := tabOf [(3, r3), (4, r4), (9, r9), (91, r91), (113, r113)], C := [], D := [], Ms := [(7, [])], Ml := [(2, [0, 1, 7, 8])], Mo := [], n := 19 }, cs := [4, 8, 9, 10, 16, 17, 18, 19, 20, 21, 22, 23, 24, 25, 26, 27, 28, 29, 30, 31, 36, 37, 38, 39, 40, 41, 42, 43, 44, 45, 46, 48, 49, 50, 51, 52, 53, 54, 55, 58, 59, 60, 61, 62, 63, 64, 65, 66, 68, 70, 73, 74, 76, 77, 78, 79, 80, 81, 82, 84, 85, 86, 87, 88, 89, 90, 91, 98, 99, 100, 101, 102, 103, 104, 105, 106, 107, 108, 110, 111, 112, 113, 114, 115, 118, 119, 121, 122, 127], fn := f122 }
theorem yawake28_122_ok : YRow.Ok Tryz.prog 122 yawake28_122 := ⟨rfl, by kernel_rfl, by kernel_rfl, tabOf_ok (⟨r3_ok, ⟨r4_ok, ⟨r9_ok, ⟨r91_ok, ⟨r113_ok, trivial⟩⟩⟩⟩⟩), (trivial), tc122, (fun j hj => seen_awake28 j hj)⟩
noncomputable def yawake28_127 : YRow := { E := { T := tabOf [(3, r3), (4, r4)], C := [], D := [], Ms := [], Ml := [], Mo := [], n := 6 }, cs := [], fn := f127 }
theorem yawake28_127_ok : YRow.Ok Tryz.prog 127 yawake28_127 := ⟨rfl, by kernel_rfl, by kernel_rfl, tabOf_ok (⟨r3_ok, ⟨r4_ok, trivial⟩⟩), (trivial), tc127, (fun j hj => by cases hj)⟩
noncomputable def zawake28 : List (Nat × ZRow) := [(4, ⟨yawake28_4, [], []⟩), (8, ⟨yawake28_8, [], []⟩), (9, ⟨yawake28_9, [22, 25, 27], []⟩), (10, ⟨yawake28_10, [], []⟩), (16, ⟨yawake28_16, [], [37]⟩), (17, ⟨yawake28_17, [], []⟩), (18, ⟨yawake28_18, [], []⟩), (19, ⟨yawake28_19, [], []⟩), (20, ⟨yawake28_20, [], []⟩), (21, ⟨yawake28_21, [], []⟩), (22, ⟨yawake28_22, [], []⟩), (23, ⟨yawake28_23, [], []⟩), (24, ⟨yawake28_24, [], []⟩), (25, ⟨yawake28_25, [], []⟩), (26, ⟨yawake28_26, [], []⟩), (27, ⟨yawake28_27, [], []⟩), (28, ⟨yawake28_28, [], []⟩), (29, ⟨yawake28_29, [], []⟩), (30, ⟨yawake28_30, [], []⟩), (31, ⟨yawake28_31, [], []⟩), (36, ⟨yawake28_36, [], []⟩), (37, ⟨yawake28_37, [], []⟩), (38, ⟨yawake28_38, [], []⟩), (39, ⟨yawake28_39, [], []⟩), (40, ⟨yawake28_40, [], []⟩), (41, ⟨yawake28_41, [], []⟩), (42, ⟨yawake28_42, [], []⟩), (43, ⟨yawake28_43, [], []⟩), (44, ⟨yawake28_44, [], []⟩), (45, ⟨yawake28_45, [], []⟩), (46, ⟨yawake28_46, [], []⟩), (48, ⟨yawake28_48, [], []⟩), (49, ⟨yawake28_49, [], []⟩), (50, ⟨yawake28_50, [], []⟩), (51, ⟨yawake28_51, [], []⟩), (52, ⟨yawake28_52, [], []⟩), (53, ⟨yawake28_53, [], []⟩), (54, ⟨yawake28_54, [], []⟩), (55, ⟨yawake28_55, [], []⟩), (58, ⟨yawake28_58, [], []⟩), (59, ⟨yawake28_59, [], []⟩), (60, ⟨yawake28_60, [], []⟩), (61, ⟨yawake28_61, [], []⟩), (62, ⟨yawake28_62, [], []⟩), (63, ⟨yawake28_63, [], []⟩), (64, ⟨yawake28_64, [], []⟩), (65, ⟨yawake28_65, [], []⟩), (66, ⟨yawake28_66, [], []⟩), (68, ⟨yawake28_68, [], [90]⟩), (70, ⟨yawake28_70, [], []⟩), (73, ⟨yawake28_73, [], []⟩), (74, ⟨yawake28_74, [], []⟩), (76, ⟨yawake28_76, [], []⟩), (77, ⟨yawake28_77, [], [99]⟩), (78, ⟨yawake28_78, [], []⟩), (79, ⟨yawake28_79, [], []⟩), (80, ⟨yawake28_80, [], []⟩), (81, ⟨yawake28_81, [], []⟩), (82, ⟨yawake28_82, [], []⟩), (84, ⟨yawake28_84, [], []⟩), (85, ⟨yawake28_85, [], []⟩), (86, ⟨yawake28_86, [], []⟩), (87, ⟨yawake28_87, [], []⟩), (88, ⟨yawake28_88, [], []⟩), (89, ⟨yawake28_89, [], []⟩), (90, ⟨yawake28_90, [], []⟩), (91, ⟨yawake28_91, [], []⟩), (98, ⟨yawake28_98, [], []⟩), (99, ⟨yawake28_99, [], []⟩), (100, ⟨yawake28_100, [], []⟩), (101, ⟨yawake28_101, [], [54, 66, 104, 105, 113]⟩), (102, ⟨yawake28_102, [], []⟩), (103, ⟨yawake28_103, [], []⟩), (104, ⟨yawake28_104, [], []⟩), (105, ⟨yawake28_105, [], []⟩), (106, ⟨yawake28_106, [], []⟩), (107, ⟨yawake28_107, [], []⟩), (108, ⟨yawake28_108, [], []⟩), (110, ⟨yawake28_110, [], []⟩), (111, ⟨yawake28_111, [], []⟩), (112, ⟨yawake28_112, [], []⟩), (113, ⟨yawake28_113, [], []⟩), (114, ⟨yawake28_114, [], []⟩), (115, ⟨yawake28_115, [], []⟩), (118, ⟨yawake28_118, [], []⟩), (119, ⟨yawake28_119, [], []⟩), (121, ⟨yawake28_121, [], []⟩), (122, ⟨yawake28_122, [], []⟩), (127, ⟨yawake28_127, [], []⟩)]
theorem zawake28_ok : ZOk Tryz.prog zawake28 := ⟨⟨yawake28_4_ok, (fun j hj => by cases hj), (fun j hj => by cases hj)⟩, ⟨⟨yawake28_8_ok, (fun j hj => by cases hj), (fun j hj => by cases hj)⟩, ⟨⟨yawake28_9_ok, (fun j hj => by simp only [List.mem_cons, List.mem_cons, List.not_mem_nil, or_false] at hj; rcases hj with rfl | rfl | rfl <;> first | exact tc22 | exact tc25 | exact tc27), (fun j hj => by cases hj)⟩, ⟨⟨yawake28_10_ok, (fun j hj => by cases hj), (fun j hj => by cases hj)⟩, ⟨⟨yawake28_16_ok, (fun j hj => by cases hj), (fun j hj => by obtain rfl := List.mem_singleton.1 hj; exact tc37)⟩, ⟨⟨yawake28_17_ok, (fun j hj => by cases hj), (fun j hj => by cases hj)⟩, ⟨⟨yawake28_18_ok, (fun j hj => by cases hj), (fun j hj => by cases hj)⟩, ⟨⟨yawake28_19_ok, (fun j hj => by cases hj), (fun j hj => by cases hj)⟩, ⟨⟨yawake28_20_ok, (fun j hj => by cases hj), (fun j hj => by cases hj)⟩, ⟨⟨yawake28_21_ok, (fun j hj => by cases hj), (fun j hj => by cases hj)⟩, ⟨⟨yawake28_22_ok, (fun j hj => by cases hj), (fun j hj => by cases hj)⟩, ⟨⟨yawake28_23_ok, (fun j hj => by cases hj), (fun j hj => by cases hj)⟩, ⟨⟨yawake28_24_ok, (fun j hj => by cases hj), (fun j hj => by cases hj)⟩, ⟨⟨yawake28_25_ok, (fun j hj => by cases hj), (fun j hj => by cases hj)⟩, ⟨⟨yawake28_26_ok, (fun j hj => by cases hj), (fun j hj => by cases hj)⟩, ⟨⟨yawake28_27_ok, (fun j hj => by cases hj), (fun j hj => by cases hj)⟩, ⟨⟨yawake28_28_ok, (fun j hj => by cases hj), (fun j hj => by cases hj)⟩, ⟨⟨yawake28_29_ok, (fun j hj => by cases hj), (fun j hj => by cases hj)⟩, ⟨⟨yawake28_30_ok, (fun j hj => by cases hj), (fun j hj => by cases hj)⟩, ⟨⟨yawake28_31_ok, (fun j hj => by cases hj), (fun j hj => by cases hj)⟩, ⟨⟨yawake28_36_ok, (fun j hj => by cases hj), (fun j hj => by cases hj)⟩, ⟨⟨yawake28_37_ok, (fun j hj => by cases hj), (fun j hj => by cases hj)⟩, ⟨⟨yawake28_38_ok, (fun j hj => by cases hj), (fun j hj => by cases hj)⟩, ⟨⟨yawake28_39_ok, (fun j hj => by cases hj), (fun j hj => by cases hj)⟩, ⟨⟨yawake28_40_ok, (fun j hj => by cases hj), (fun j hj => by cases hj)⟩, ⟨⟨yawake28_41_ok, (fun j hj => by cases hj), (fun j hj => by cases hj)⟩, ⟨⟨yawake28_42_ok, (fun j hj => by cases hj), (fun j hj => by cases hj)⟩, ⟨⟨yawake28_43_ok, (fun j hj => by cases hj), (fun j hj => by cases hj)⟩, ⟨⟨yawake28_44_ok, (fun j hj => by cases hj), (fun j hj => by cases hj)⟩, ⟨⟨yawake28_45_ok, (fun j hj => by cases hj), (fun j hj => by cases hj)⟩, ⟨⟨yawake28_46_ok, (fun j hj => by cases hj), (fun j hj => by cases hj)⟩, ⟨⟨yawake28_48_ok, (fun j hj => by cases hj), (fun j hj => by cases hj)⟩, ⟨⟨yawake28_49_ok, (fun j hj => by cases hj), (fun j hj => by cases hj)⟩, ⟨⟨yawake28_50_ok, (fun j hj => by cases hj), (fun j hj => by cases hj)⟩, ⟨⟨yawake28_51_ok, (fun j hj => by cases hj), (fun j hj => by cases hj)⟩, ⟨⟨yawake28_52_ok, (fun j hj => by cases hj), (fun j hj => by cases hj)⟩, ⟨⟨yawake28_53_ok, (fun j hj => by cases hj), (fun j hj => by cases hj)⟩, ⟨⟨yawake28_54_ok, (fun j hj => by cases hj), (fun j hj => by cases hj)⟩, ⟨⟨yawake28_55_ok, (fun j hj => by cases hj), (fun j hj => by cases hj)⟩, ⟨⟨yawake28_58_ok, (fun j hj => by cases hj), (fun j hj => by cases hj)⟩, ⟨⟨yawake28_59_ok, (fun j hj => by cases hj), (fun j hj => by cases hj)⟩, ⟨⟨yawake28_60_ok, (fun j hj => by cases hj), (fun j hj => by cases hj)⟩, ⟨⟨yawake28_61_ok, (fun j hj => by cases hj), (fun j hj => by cases hj)⟩, ⟨⟨yawake28_62_ok, (fun j hj => by cases hj), (fun j hj => by cases hj)⟩, ⟨⟨yawake28_63_ok, (fun j hj => by cases hj), (fun j hj => by cases hj)⟩, ⟨⟨yawake28_64_ok, (fun j hj => by cases hj), (fun j hj => by cases hj)⟩, ⟨⟨yawake28_65_ok, (fun j hj => by cases hj), (fun j hj => by cases hj)⟩, ⟨⟨yawake28_66_ok, (fun j hj => by cases hj), (fun j hj => by cases hj)⟩, ⟨⟨yawake28_68_ok, (fun j hj => by cases hj), (fun j hj => by obtain rfl := List.mem_singleton.1 hj; exact tc90)⟩, ⟨⟨yawake28_70_ok, (fun j hj => by cases hj), (fun j hj => by cases hj)⟩, ⟨⟨yawake28_73_ok, (fun j hj => by cases hj), (fun j hj => by cases hj)⟩, ⟨⟨yawake28_74_ok, (fun j hj => by cases hj), (fun j hj => by cases hj)⟩, ⟨⟨yawake28_76_ok, (fun j hj => by cases hj), (fun j hj => by cases hj)⟩, ⟨⟨yawake28_77_ok, (fun j hj => by cases hj), (fun j hj => by obtain rfl := List.mem_singleton.1 hj; exact tc99)⟩, ⟨⟨yawake28_78_ok, (fun j hj => by cases hj), (fun j hj => by cases hj)⟩, ⟨⟨yawake28_79_ok, (fun j hj => by cases hj), (fun j hj => by cases hj)⟩, ⟨⟨yawake28_80_ok, (fun j hj => by cases hj), (fun j hj => by cases hj)⟩, ⟨⟨yawake28_81_ok, (fun j hj => by cases hj), (fun j hj => by cases hj)⟩, ⟨⟨yawake28_82_ok, (fun j hj => by cases hj), (fun j hj => by cases hj)⟩, ⟨⟨yawake28_84_ok, (fun j hj => by cases hj), (fun j hj => by cases hj)⟩, ⟨⟨yawake28_85_ok, (fun j hj => by cases hj), (fun j hj => by cases hj)⟩, ⟨⟨yawake28_86_ok, (fun j hj => by cases hj), (fun j hj => by cases hj)⟩, ⟨⟨yawake28_87_ok, (fun j hj => by cases hj), (fun j hj => by cases hj)⟩, ⟨⟨yawake28_88_ok, (fun j hj => by cases hj), (fun j hj => by cases hj)⟩, ⟨⟨yawake28_89_ok, (fun j hj => by cases hj), (fun j hj => by cases hj)⟩, ⟨⟨yawake28_90_ok, (fun j hj => by cases hj), (fun j hj => by cases hj)⟩, ⟨⟨yawake28_91_ok, (fun j hj => by cases hj), (fun j hj => by cases hj)⟩, ⟨⟨yawake28_98_ok, (fun j hj => by cases hj), (fun j hj => by cases hj)⟩, ⟨⟨yawake28_99_ok, (fun j hj => by cases hj), (fun j hj => by cases hj)⟩, ⟨⟨yawake28_100_ok, (fun j hj => by cases hj), (fun j hj => by cases hj)⟩, ⟨⟨yawake28_101_ok, (fun j hj => by cases hj), (fun j hj => by simp only [List.mem_cons, List.mem_cons, List.not_mem_nil, or_false] at hj; rcases hj with rfl | rfl | rfl | rfl | rfl <;> first | exact tc54 | exact tc66 | exact tc104 | exact tc105 | exact tc113)⟩, ⟨⟨yawake28_102_ok, (fun j hj => by cases hj), (fun j hj => by cases hj)⟩, ⟨⟨yawake28_103_ok, (fun j hj => by cases hj), (fun j hj => by cases hj)⟩, ⟨⟨yawake28_104_ok, (fun j hj => by cases hj), (fun j hj => by cases hj)⟩, ⟨⟨yawake28_105_ok, (fun j hj => by cases hj), (fun j hj => by cases hj)⟩, ⟨⟨yawake28_106_ok, (fun j hj => by cases hj), (fun j hj => by cases hj)⟩, ⟨⟨yawake28_107_ok, (fun j hj => by cases hj), (fun j hj => by cases hj)⟩, ⟨⟨yawake28_108_ok, (fun j hj => by cases hj), (fun j hj => by cases hj)⟩, ⟨⟨yawake28_110_ok, (fun j hj => by cases hj), (fun j hj => by cases hj)⟩, ⟨⟨yawake28_111_ok, (fun j hj => by cases hj), (fun j hj => by cases hj)⟩, ⟨⟨yawake28_112_ok, (fun j hj => by cases hj), (fun j hj => by cases hj)⟩, ⟨⟨yawake28_113_ok, (fun j hj => by cases hj), (fun j hj => by cases hj)⟩, ⟨⟨yawake28_114_ok, (fun j hj => by cases hj), (fun j hj => by cases hj)⟩, ⟨⟨yawake28_115_ok, (fun j hj => by cases hj), (fun j hj => by cases hj)⟩, ⟨⟨yawake28_118_ok, (fun j hj => by cases hj), (fun j hj => by cases hj)⟩, ⟨⟨yawake28_119_ok, (fun j hj => by cases hj), (fun j hj => by cases hj)⟩, ⟨⟨yawake28_121_ok, (fun j hj => by cases hj), (fun j hj => by cases hj)⟩, ⟨⟨yawake28_122_ok, (fun j hj => by cases hj), (fun j hj => by cases hj)⟩, ⟨⟨yawake28_127_ok, (fun j hj => by cases hj), (fun j hj => by cases hj)⟩, trivial⟩⟩⟩⟩⟩⟩⟩⟩⟩⟩⟩⟩⟩⟩⟩⟩⟩⟩⟩⟩⟩⟩⟩⟩⟩⟩⟩⟩⟩⟩⟩⟩⟩⟩⟩⟩⟩⟩⟩⟩⟩⟩⟩⟩⟩⟩⟩⟩⟩⟩⟩⟩⟩⟩⟩⟩⟩⟩⟩⟩⟩⟩⟩⟩⟩⟩⟩⟩⟩⟩⟩⟩⟩⟩⟩⟩⟩⟩⟩⟩⟩⟩⟩⟩⟩⟩⟩⟩⟩
theorem awake28_run (h : AHeap) : ACalls Tryz.prog 4 [] h fun e h' => e = .ret (.lit (.bool true)) ∧ h' = h := acalls_lit (zrun_true zawake28_ok tmix (m := 100000) (k := 60) (by kernel_rfl)) h
end Go.Proofs.YteahajcgbogjkaaGreat.AL
/- StartPicks. -/
namespace Go.Proofs.YteahajcgbogjkaaGreat.AL
set_option linter.unusedVariables false
set_option linter.unusedSimpArgs false
set_option maxRecDepth 100000
open Go
open Go.Proofs.Tryz
noncomputable def w_start_Picks : XC := .l fun R args h K => match args with
  | [.lit (.int .i64 a0), .lit (.int .i64 a1), .lit (.int .i64 a2), .lit (.int .i64 a3)] => (S_start_Picks a0 a1 a2 a3 h).bind fun r => K r.1 r.2
  | _ => none
theorem w_start_Picks_ok : XC.Nat w_start_Picks ∧ XC.Ok Tryz.prog 5 w_start_Picks := by
  refine ⟨fun R args h K => ?_, tc5, fun args h v h' hx => ?_⟩
  · dsimp only; split <;> simp [Option.bind_assoc, mkP]
  · dsimp only at hx; split at hx
    · obtain ⟨r, hopt, hx⟩ := Option.bind_eq_some_iff.1 hx
      simp only [mkP, Option.some.injEq, Prod.mk.injEq] at hx
      obtain ⟨rfl, rfl⟩ := hx
      exact (by obtain ⟨v, h'⟩ := r; exact S_start_Picks_ends hopt selfR)
    · cases hx
-- chainman/chainmanref10.SameList: function 6
noncomputable def Echainmanref10_SameList : XE := { T := tabOf [(3, r3), (4, r4), (23, r23)], C := [], D := [(6, ⟨[], [0, 1, 2, 3, 4, 5, 6, 7, 8], [], [], [], [], []⟩)], Ms := [(8, [])], Ml := [(4, [0, 1, 5])], Mo := [], n := 26 }
theorem Echainmanref10_SameList_ok : XE.Ok Echainmanref10_SameList Tryz.prog := ⟨tabOf_ok (⟨r3_ok, ⟨r4_ok, ⟨r23_ok, trivial⟩⟩⟩), trivial, ydOk_none, trivial⟩
noncomputable def c6 : Code := bodyOf f6
noncomputable def S_chainmanref10_SameList (a0 : AVal) (b1 : AVal) (h : AHeap) : Option (AVal × AHeap) := xfun Echainmanref10_SameList f6 [a0, b1] h
noncomputable def S_chainmanref10_SameList_0 (a0 : AVal) (b1 : AVal) (k5 : Int) (h : AHeap) : Option (AVal × AHeap) := xexec Echainmanref10_SameList (.loop (ca (ca (cb (ca (cb (cb c6))))))) (AVal × AHeap) [(0, a0), (1, b1), (5, (.lit (.int .i64 k5)))] h (kBlk 0 (kSeq Echainmanref10_SameList (cb (cb (cb c6))) (xend Echainmanref10_SameList f6)))
noncomputable def S_chainmanref10_SameList_1  (h : AHeap) : Option (AVal × AHeap) := jn (xexec Echainmanref10_SameList (cb (cb (cb c6))) (AVal × AHeap) [] h (xend Echainmanref10_SameList f6))
theorem S_chainmanref10_SameList_eq (a0 : AVal) (b1 : AVal) (h : AHeap) : S_chainmanref10_SameList a0 b1 h =
 (lenV a0).bind fun n1 =>
 (lenV b1).bind fun n2 =>
 bif (!decide (n1 = n2)) then (some ((.lit (.bool false)), h))
 else (S_chainmanref10_SameList_0 a0 b1 0 h) := by kernel_rfl
theorem S_chainmanref10_SameList_0_eq (a0 : AVal) (b1 : AVal) (k5 : Int) (h : AHeap) : S_chainmanref10_SameList_0 a0 b1 k5 h =
 (lenV a0).bind fun n3 =>
 bif (decide (k5 < n3)) then ((idxP 1 a0 k5).bind fun p4 =>
 (ld1 h p4).bind fun x5 =>
 (asI .i64 x5).bind fun n6 =>
 (idxP 1 b1 k5).bind fun p7 =>
 (ld1 h p7).bind fun x8 =>
 (asI .i64 x8).bind fun n9 =>
 bif (!decide (n6 = n9)) then (some ((.lit (.bool false)), h))
 else (S_chainmanref10_SameList_0 a0 b1 (IntKind.wrap .i64 (k5 + 1)) h))
 else (S_chainmanref10_SameList_1 h) := (xexec_loop Echainmanref10_SameList Echainmanref10_SameList_ok.C.nat _ _ _ _ _).trans (by kernel_rfl)
theorem S_chainmanref10_SameList_1_eq  (h : AHeap) : S_chainmanref10_SameList_1  h =
 some ((.lit (.bool true)), h) := (jn_eq _).trans (by kernel_rfl)
theorem S_chainmanref10_SameList_ends {a0 : AVal} {b1 : AVal} {h h' : AHeap} {v : AVal} {R : AEnd → AHeap → Prop} (hx : S_chainmanref10_SameList a0 b1 h = some (v, h')) (hR : HOk h → h.length ≤ h'.length → ABody.AEnds h h' (.ret v) R) : ACalls Tryz.prog 6 [a0, b1] h R := xfun_ends Echainmanref10_SameList_ok tmix (i := 6) (by rfl) (by kernel_rfl) (by kernel_rfl) hx hR
noncomputable def w_chainmanref10_SameList : XC := .q fun R args h K => match args with
  | [a0, a1] => (onlyR (S_chainmanref10_SameList a0 a1 h) h).bind fun r => K r
  | _ => none
theorem w_chainmanref10_SameList_ok : XC.Nat w_chainmanref10_SameList ∧ XC.Ok Tryz.prog 6 w_chainmanref10_SameList := by
  refine ⟨fun R args h K => ?_, tc6, fun args h v hx => ?_⟩
  · dsimp only; split <;> simp [Option.bind_assoc, mkP]
  · dsimp only at hx; split at hx
    · obtain ⟨r, hopt, hx⟩ := Option.bind_eq_some_iff.1 hx
      cases hx
      exact (by have hopt := onlyR_some hopt; exact S_chainmanref10_SameList_ends hopt selfR)
    · cases hx
noncomputable def w_chainmanlaw28_awake : XC := .p fun R args K => match args with
  | [] => K (.lit (.bool true))
  | _ => none
theorem w_chainmanlaw28_awake_ok : XC.Nat w_chainmanlaw28_awake ∧ XC.Ok Tryz.prog 4 w_chainmanlaw28_awake := by
  refine ⟨fun R args K => ?_, tc4, fun args h v hx => ?_⟩
  · dsimp only; split <;> simp [Option.bind_assoc, mkP]
  · dsimp only at hx; split at hx
    · cases hx
      exact awake28_run _
    · cases hx
-- chainman/chainmanlaw28.StartPicks: function 3
noncomputable def Echainmanlaw28_StartPicks : XE := { T := tabOf [(3, r3), (4, r4), (23, r23)], C := [(4, w_chainmanlaw28_awake), (5, w_start_Picks), (6, w_chainmanref10_SameList), (7, w_chainmanref28_Picks)], D := [(16, ⟨[], [0, 1, 2, 3, 4, 5, 6, 7, 8], [], [], [], [], []⟩)], Ms := [(10, [1, 2, 3, 9, 10]), (18, [2, 9])], Ml := [(9, [1, 2, 3, 9, 10]), (14, [1, 2, 3, 9, 10, 11])], Mo := [(6006, [1, 2, 3, 9, 33]), (6010, [1, 2, 3, 9, 37]), (6015, [1, 2, 3, 9, 42]), (6019, [1, 2, 3, 9, 46]), (6024, [1, 2, 3, 9, 51]), (7006, [57]), (11013, [1, 2, 3, 9, 10, 76]), (11021, [1, 2, 3, 9, 10, 84]), (18007, [105])], n := 106 }
theorem Echainmanlaw28_StartPicks_ok : XE.Ok Echainmanlaw28_StartPicks Tryz.prog := ⟨tabOf_ok (⟨r3_ok, ⟨r4_ok, ⟨r23_ok, trivial⟩⟩⟩), (⟨w_chainmanlaw28_awake_ok, ⟨w_start_Picks_ok, ⟨w_chainmanref10_SameList_ok, ⟨w_chainmanref28_Picks_ok, trivial⟩⟩⟩⟩), ydOk_none, trivial⟩
noncomputable def c3 : Code := bodyOf f3
noncomputable def S_chainmanlaw28_StartPicks (seed0 : Int) (n1 : Int) (k2 : Int) (i3 : Int) (h : AHeap) : Option (AVal × AHeap) := xfun Echainmanlaw28_StartPicks f3 [(.lit (.int .i64 seed0)), (.lit (.int .i64 n1)), (.lit (.int .i64 k2)), (.lit (.int .i64 i3))] h
noncomputable def S_chainmanlaw28_StartPicks_0 (n1 : Int) (k2 : Int) (i3 : Int) (l9 : AVal) (t33 : Bool) (h : AHeap) : Option (AVal × AHeap) := jo Echainmanlaw28_StartPicks 6 (rops (ca (ca (cb (cb (cb (cb c3))))))) ((rops (ca (ca (cb (cb (cb (cb c3))))))).toList.drop 6) 6 [(1, (.lit (.int .i64 n1))), (2, (.lit (.int .i64 k2))), (3, (.lit (.int .i64 i3))), (9, l9), (33, (.lit (.bool t33)))] h (kN (kSeq Echainmanlaw28_StartPicks (cb (ca (cb (cb (cb (cb c3)))))) (kSeq Echainmanlaw28_StartPicks (cb (cb (cb (cb (cb c3))))) (xend Echainmanlaw28_StartPicks f3))))
noncomputable def S_chainmanlaw28_StartPicks_1 (n1 : Int) (k2 : Int) (i3 : Int) (l9 : AVal) (t37 : Bool) (h : AHeap) : Option (AVal × AHeap) := jo Echainmanlaw28_StartPicks 6 (rops (ca (ca (cb (cb (cb (cb c3))))))) ((rops (ca (ca (cb (cb (cb (cb c3))))))).toList.drop 10) 10 [(1, (.lit (.int .i64 n1))), (2, (.lit (.int .i64 k2))), (3, (.lit (.int .i64 i3))), (9, l9), (37, (.lit (.bool t37)))] h (kN (kSeq Echainmanlaw28_StartPicks (cb (ca (cb (cb (cb (cb c3)))))) (kSeq Echainmanlaw28_StartPicks (cb (cb (cb (cb (cb c3))))) (xend Echainmanlaw28_StartPicks f3))))
noncomputable def S_chainmanlaw28_StartPicks_2 (n1 : Int) (k2 : Int) (i3 : Int) (l9 : AVal) (t42 : Bool) (h : AHeap) : Option (AVal × AHeap) := jo Echainmanlaw28_StartPicks 6 (rops (ca (ca (cb (cb (cb (cb c3))))))) ((rops (ca (ca (cb (cb (cb (cb c3))))))).toList.drop 15) 15 [(1, (.lit (.int .i64 n1))), (2, (.lit (.int .i64 k2))), (3, (.lit (.int .i64 i3))), (9, l9), (42, (.lit (.bool t42)))] h (kN (kSeq Echainmanlaw28_StartPicks (cb (ca (cb (cb (cb (cb c3)))))) (kSeq Echainmanlaw28_StartPicks (cb (cb (cb (cb (cb c3))))) (xend Echainmanlaw28_StartPicks f3))))
noncomputable def S_chainmanlaw28_StartPicks_3 (n1 : Int) (k2 : Int) (i3 : Int) (l9 : AVal) (t46 : Bool) (h : AHeap) : Option (AVal × AHeap) := jo Echainmanlaw28_StartPicks 6 (rops (ca (ca (cb (cb (cb (cb c3))))))) ((rops (ca (ca (cb (cb (cb (cb c3))))))).toList.drop 19) 19 [(1, (.lit (.int .i64 n1))), (2, (.lit (.int .i64 k2))), (3, (.lit (.int .i64 i3))), (9, l9), (46, (.lit (.bool t46)))] h (kN (kSeq Echainmanlaw28_StartPicks (cb (ca (cb (cb (cb (cb c3)))))) (kSeq Echainmanlaw28_StartPicks (cb (cb (cb (cb (cb c3))))) (xend Echainmanlaw28_StartPicks f3))))
noncomputable def S_chainmanlaw28_StartPicks_4 (n1 : Int) (k2 : Int) (i3 : Int) (l9 : AVal) (t51 : Bool) (h : AHeap) : Option (AVal × AHeap) := jo Echainmanlaw28_StartPicks 6 (rops (ca (ca (cb (cb (cb (cb c3))))))) ((rops (ca (ca (cb (cb (cb (cb c3))))))).toList.drop 24) 24 [(1, (.lit (.int .i64 n1))), (2, (.lit (.int .i64 k2))), (3, (.lit (.int .i64 i3))), (9, l9), (51, (.lit (.bool t51)))] h (kN (kSeq Echainmanlaw28_StartPicks (cb (ca (cb (cb (cb (cb c3)))))) (kSeq Echainmanlaw28_StartPicks (cb (cb (cb (cb (cb c3))))) (xend Echainmanlaw28_StartPicks f3))))
noncomputable def S_chainmanlaw28_StartPicks_5 (t57 : Bool) (h : AHeap) : Option (AVal × AHeap) := jo Echainmanlaw28_StartPicks 7 (rops (ca (ca (cb (ca (cb (cb (cb (cb c3))))))))) ((rops (ca (ca (cb (ca (cb (cb (cb (cb c3))))))))).toList.drop 6) 6 [(57, (.lit (.bool t57)))] h (kN (kSeq Echainmanlaw28_StartPicks (cb (ca (cb (ca (cb (cb (cb (cb c3)))))))) (kSeq Echainmanlaw28_StartPicks (cb (cb (cb (cb (cb c3))))) (xend Echainmanlaw28_StartPicks f3))))
noncomputable def S_chainmanlaw28_StartPicks_6 (n1 : Int) (k2 : Int) (i3 : Int) (l9 : AVal) (j10 : Int) (h : AHeap) : Option (AVal × AHeap) := xexec Echainmanlaw28_StartPicks (.loop (ca (ca (cb (ca (cb (cb (cb (cb (cb c3)))))))))) (AVal × AHeap) [(1, (.lit (.int .i64 n1))), (2, (.lit (.int .i64 k2))), (3, (.lit (.int .i64 i3))), (9, l9), (10, (.lit (.int .i64 j10)))] h (kBlk 0 (kSeq Echainmanlaw28_StartPicks (cb (cb (cb (cb (cb (cb c3)))))) (xend Echainmanlaw28_StartPicks f3)))
noncomputable def S_chainmanlaw28_StartPicks_7 (n1 : Int) (k2 : Int) (i3 : Int) (l9 : AVal) (j10 : Int) (t76 : Bool) (h : AHeap) : Option (AVal × AHeap) := jo Echainmanlaw28_StartPicks 11 (rops (ca (ca (ca (ca (cb (ca (ca (cb (ca (cb (cb (cb (cb (cb c3))))))))))))))) ((rops (ca (ca (ca (ca (cb (ca (ca (cb (ca (cb (cb (cb (cb (cb c3))))))))))))))).toList.drop 13) 13 [(1, (.lit (.int .i64 n1))), (2, (.lit (.int .i64 k2))), (3, (.lit (.int .i64 i3))), (9, l9), (10, (.lit (.int .i64 j10))), (76, (.lit (.bool t76)))] h (kN (kSeq Echainmanlaw28_StartPicks (cb (ca (ca (ca (cb (ca (ca (cb (ca (cb (cb (cb (cb (cb c3)))))))))))))) (kSeq Echainmanlaw28_StartPicks (cb (ca (ca (cb (ca (ca (cb (ca (cb (cb (cb (cb (cb c3))))))))))))) (kBlk 1 (kSeq Echainmanlaw28_StartPicks (cb (cb (ca (ca (cb (ca (cb (cb (cb (cb (cb c3))))))))))) (kLoop Echainmanlaw28_StartPicks (ca (ca (cb (ca (cb (cb (cb (cb (cb c3))))))))) (kBlk 0 (kSeq Echainmanlaw28_StartPicks (cb (cb (cb (cb (cb (cb c3)))))) (xend Echainmanlaw28_StartPicks f3)))))))))
noncomputable def S_chainmanlaw28_StartPicks_8 (k2 : Int) (l9 : AVal) (h : AHeap) : Option (AVal × AHeap) := jn (xexec Echainmanlaw28_StartPicks (cb (cb (cb (cb (cb (cb c3)))))) (AVal × AHeap) [(2, (.lit (.int .i64 k2))), (9, l9)] h (xend Echainmanlaw28_StartPicks f3))
noncomputable def S_chainmanlaw28_StartPicks_9 (n1 : Int) (k2 : Int) (i3 : Int) (l9 : AVal) (j10 : Int) (t84 : Bool) (h : AHeap) : Option (AVal × AHeap) := jo Echainmanlaw28_StartPicks 11 (rops (ca (ca (ca (ca (cb (ca (ca (cb (ca (cb (cb (cb (cb (cb c3))))))))))))))) ((rops (ca (ca (ca (ca (cb (ca (ca (cb (ca (cb (cb (cb (cb (cb c3))))))))))))))).toList.drop 21) 21 [(1, (.lit (.int .i64 n1))), (2, (.lit (.int .i64 k2))), (3, (.lit (.int .i64 i3))), (9, l9), (10, (.lit (.int .i64 j10))), (84, (.lit (.bool t84)))] h (kN (kSeq Echainmanlaw28_StartPicks (cb (ca (ca (ca (cb (ca (ca (cb (ca (cb (cb (cb (cb (cb c3)))))))))))))) (kSeq Echainmanlaw28_StartPicks (cb (ca (ca (cb (ca (ca (cb (ca (cb (cb (cb (cb (cb c3))))))))))))) (kBlk 1 (kSeq Echainmanlaw28_StartPicks (cb (cb (ca (ca (cb (ca (cb (cb (cb (cb (cb c3))))))))))) (kLoop Echainmanlaw28_StartPicks (ca (ca (cb (ca (cb (cb (cb (cb (cb c3))))))))) (kBlk 0 (kSeq Echainmanlaw28_StartPicks (cb (cb (cb (cb (cb (cb c3)))))) (xend Echainmanlaw28_StartPicks f3)))))))))
noncomputable def S_chainmanlaw28_StartPicks_10 (t105 : Bool) (h : AHeap) : Option (AVal × AHeap) := jo Echainmanlaw28_StartPicks 18 (rops (ca (cb (cb (cb (cb (cb (cb c3)))))))) ((rops (ca (cb (cb (cb (cb (cb (cb c3)))))))).toList.drop 7) 7 [(105, (.lit (.bool t105)))] h (kN (kSeq Echainmanlaw28_StartPicks (cb (cb (cb (cb (cb (cb (cb c3))))))) (xend Echainmanlaw28_StartPicks f3)))
noncomputable def S_chainmanlaw28_StartPicks_11 (n1 : Int) (k2 : Int) (i3 : Int) (l9 : AVal) (j10 : Int) (m11 : Int) (h : AHeap) : Option (AVal × AHeap) := xexec Echainmanlaw28_StartPicks (.loop (ca (ca (cb (cb (ca (ca (cb (ca (ca (cb (ca (cb (cb (cb (cb (cb c3))))))))))))))))) (AVal × AHeap) [(1, (.lit (.int .i64 n1))), (2, (.lit (.int .i64 k2))), (3, (.lit (.int .i64 i3))), (9, l9), (10, (.lit (.int .i64 j10))), (11, (.lit (.int .i64 m11)))] h (kBlk 2 (kBlk 1 (kSeq Echainmanlaw28_StartPicks (cb (cb (ca (ca (cb (ca (cb (cb (cb (cb (cb c3))))))))))) (kLoop Echainmanlaw28_StartPicks (ca (ca (cb (ca (cb (cb (cb (cb (cb c3))))))))) (kBlk 0 (kSeq Echainmanlaw28_StartPicks (cb (cb (cb (cb (cb (cb c3)))))) (xend Echainmanlaw28_StartPicks f3)))))))
noncomputable def S_chainmanlaw28_StartPicks_12 (n1 : Int) (k2 : Int) (i3 : Int) (l9 : AVal) (j10 : Int) (h : AHeap) : Option (AVal × AHeap) := jn (xexec Echainmanlaw28_StartPicks (cb (cb (ca (ca (cb (ca (cb (cb (cb (cb (cb c3))))))))))) (AVal × AHeap) [(1, (.lit (.int .i64 n1))), (2, (.lit (.int .i64 k2))), (3, (.lit (.int .i64 i3))), (9, l9), (10, (.lit (.int .i64 j10)))] h (kLoop Echainmanlaw28_StartPicks (ca (ca (cb (ca (cb (cb (cb (cb (cb c3))))))))) (kBlk 0 (kSeq Echainmanlaw28_StartPicks (cb (cb (cb (cb (cb (cb c3)))))) (xend Echainmanlaw28_StartPicks f3)))))
theorem S_chainmanlaw28_StartPicks_eq (seed0 : Int) (n1 : Int) (k2 : Int) (i3 : Int) (h : AHeap) : S_chainmanlaw28_StartPicks seed0 n1 k2 i3 h =
 bif (decide (n1 > 40)) then (some ((.lit (.bool true)), h))
 else ((S_start_Picks seed0 n1 k2 i3 h).bind fun r1 =>
 (S_chainmanref28_Picks seed0 n1 k2 i3 r1.2).bind fun r2 =>
 (onlyR (S_chainmanref10_SameList r1.1 r2.1 r2.2) r2.2).bind fun r3 =>
 (asB r3).bind fun b4 =>
 bif (!b4) then (some ((.lit (.bool false)), r2.2))
 else (bif (decide (n1 < 2)) then (S_chainmanlaw28_StartPicks_0 n1 k2 i3 r1.1 true r2.2)
 else (S_chainmanlaw28_StartPicks_0 n1 k2 i3 r1.1 (decide (k2 < 1)) r2.2))) := by kernel_rfl
theorem S_chainmanlaw28_StartPicks_0_eq (n1 : Int) (k2 : Int) (i3 : Int) (l9 : AVal) (t33 : Bool) (h : AHeap) : S_chainmanlaw28_StartPicks_0 n1 k2 i3 l9 t33 h =
 bif t33 then (S_chainmanlaw28_StartPicks_1 n1 k2 i3 l9 true h)
 else (S_chainmanlaw28_StartPicks_1 n1 k2 i3 l9 (decide (k2 > 64)) h) := (jo_eq ..).trans (by kernel_rfl)
theorem S_chainmanlaw28_StartPicks_1_eq (n1 : Int) (k2 : Int) (i3 : Int) (l9 : AVal) (t37 : Bool) (h : AHeap) : S_chainmanlaw28_StartPicks_1 n1 k2 i3 l9 t37 h =
 bif t37 then (S_chainmanlaw28_StartPicks_2 n1 k2 i3 l9 true h)
 else (S_chainmanlaw28_StartPicks_2 n1 k2 i3 l9 (decide (k2 ≥ n1)) h) := (jo_eq ..).trans (by kernel_rfl)
theorem S_chainmanlaw28_StartPicks_2_eq (n1 : Int) (k2 : Int) (i3 : Int) (l9 : AVal) (t42 : Bool) (h : AHeap) : S_chainmanlaw28_StartPicks_2 n1 k2 i3 l9 t42 h =
 bif t42 then (S_chainmanlaw28_StartPicks_3 n1 k2 i3 l9 true h)
 else (S_chainmanlaw28_StartPicks_3 n1 k2 i3 l9 (decide (i3 < 0)) h) := (jo_eq ..).trans (by kernel_rfl)
theorem S_chainmanlaw28_StartPicks_3_eq (n1 : Int) (k2 : Int) (i3 : Int) (l9 : AVal) (t46 : Bool) (h : AHeap) : S_chainmanlaw28_StartPicks_3 n1 k2 i3 l9 t46 h =
 bif t46 then (S_chainmanlaw28_StartPicks_4 n1 k2 i3 l9 true h)
 else (S_chainmanlaw28_StartPicks_4 n1 k2 i3 l9 (decide (i3 ≥ n1)) h) := (jo_eq ..).trans (by kernel_rfl)
theorem S_chainmanlaw28_StartPicks_4_eq (n1 : Int) (k2 : Int) (i3 : Int) (l9 : AVal) (t51 : Bool) (h : AHeap) : S_chainmanlaw28_StartPicks_4 n1 k2 i3 l9 t51 h =
 bif t51 then ((lenV l9).bind fun n6 =>
 bif (decide (n6 = 0)) then (S_chainmanlaw28_StartPicks_5 true h)
 else (S_chainmanlaw28_StartPicks_5 false h))
 else (S_chainmanlaw28_StartPicks_6 n1 k2 i3 l9 0 h) := (jo_eq ..).trans (by kernel_rfl)
theorem S_chainmanlaw28_StartPicks_5_eq (t57 : Bool) (h : AHeap) : S_chainmanlaw28_StartPicks_5 t57 h =
 some ((.lit (.bool t57)), h) := (jo_eq ..).trans (by kernel_rfl)
theorem S_chainmanlaw28_StartPicks_6_eq (n1 : Int) (k2 : Int) (i3 : Int) (l9 : AVal) (j10 : Int) (h : AHeap) : S_chainmanlaw28_StartPicks_6 n1 k2 i3 l9 j10 h =
 (lenV l9).bind fun n7 =>
 bif (decide (j10 < n7)) then ((idxP 1 l9 j10).bind fun p8 =>
 (ld1 h p8).bind fun x9 =>
 (asI .i64 x9).bind fun n10 =>
 bif (decide (n10 = i3)) then (S_chainmanlaw28_StartPicks_7 n1 k2 i3 l9 j10 true h)
 else ((idxP 1 l9 j10).bind fun p11 =>
 (ld1 h p11).bind fun x12 =>
 (asI .i64 x12).bind fun n13 =>
 S_chainmanlaw28_StartPicks_7 n1 k2 i3 l9 j10 (decide (n13 < 0)) h))
 else (S_chainmanlaw28_StartPicks_8 k2 l9 h) := (xexec_loop Echainmanlaw28_StartPicks Echainmanlaw28_StartPicks_ok.C.nat _ _ _ _ _).trans (by kernel_rfl)
theorem S_chainmanlaw28_StartPicks_7_eq (n1 : Int) (k2 : Int) (i3 : Int) (l9 : AVal) (j10 : Int) (t76 : Bool) (h : AHeap) : S_chainmanlaw28_StartPicks_7 n1 k2 i3 l9 j10 t76 h =
 bif t76 then (S_chainmanlaw28_StartPicks_9 n1 k2 i3 l9 j10 true h)
 else ((idxP 1 l9 j10).bind fun p14 =>
 (ld1 h p14).bind fun x15 =>
 (asI .i64 x15).bind fun n16 =>
 S_chainmanlaw28_StartPicks_9 n1 k2 i3 l9 j10 (decide (n16 ≥ n1)) h) := (jo_eq ..).trans (by kernel_rfl)
theorem S_chainmanlaw28_StartPicks_8_eq (k2 : Int) (l9 : AVal) (h : AHeap) : S_chainmanlaw28_StartPicks_8 k2 l9 h =
 (lenV l9).bind fun n17 =>
 bif (decide (n17 = k2)) then (S_chainmanlaw28_StartPicks_10 true h)
 else (S_chainmanlaw28_StartPicks_10 false h) := (jn_eq _).trans (by kernel_rfl)
theorem S_chainmanlaw28_StartPicks_9_eq (n1 : Int) (k2 : Int) (i3 : Int) (l9 : AVal) (j10 : Int) (t84 : Bool) (h : AHeap) : S_chainmanlaw28_StartPicks_9 n1 k2 i3 l9 j10 t84 h =
 bif t84 then (some ((.lit (.bool false)), h))
 else (S_chainmanlaw28_StartPicks_11 n1 k2 i3 l9 j10 0 h) := (jo_eq ..).trans (by kernel_rfl)
theorem S_chainmanlaw28_StartPicks_10_eq (t105 : Bool) (h : AHeap) : S_chainmanlaw28_StartPicks_10 t105 h =
 some ((.lit (.bool t105)), h) := (jo_eq ..).trans (by kernel_rfl)
theorem S_chainmanlaw28_StartPicks_11_eq (n1 : Int) (k2 : Int) (i3 : Int) (l9 : AVal) (j10 : Int) (m11 : Int) (h : AHeap) : S_chainmanlaw28_StartPicks_11 n1 k2 i3 l9 j10 m11 h =
 bif (decide (m11 < j10)) then ((idxP 1 l9 m11).bind fun p18 =>
 (ld1 h p18).bind fun x19 =>
 (asI .i64 x19).bind fun n20 =>
 (idxP 1 l9 j10).bind fun p21 =>
 (ld1 h p21).bind fun x22 =>
 (asI .i64 x22).bind fun n23 =>
 bif (decide (n20 = n23)) then (some ((.lit (.bool false)), h))
 else (S_chainmanlaw28_StartPicks_11 n1 k2 i3 l9 j10 (IntKind.wrap .i64 (m11 + 1)) h))
 else (S_chainmanlaw28_StartPicks_12 n1 k2 i3 l9 j10 h) := (xexec_loop Echainmanlaw28_StartPicks Echainmanlaw28_StartPicks_ok.C.nat _ _ _ _ _).trans (by kernel_rfl)
theorem S_chainmanlaw28_StartPicks_12_eq (n1 : Int) (k2 : Int) (i3 : Int) (l9 : AVal) (j10 : Int) (h : AHeap) : S_chainmanlaw28_StartPicks_12 n1 k2 i3 l9 j10 h =
 S_chainmanlaw28_StartPicks_6 n1 k2 i3 l9 (IntKind.wrap .i64 (j10 + 1)) h := (jn_eq _).trans (by kernel_rfl)
theorem S_chainmanlaw28_StartPicks_ends {seed0 : Int} {n1 : Int} {k2 : Int} {i3 : Int} {h h' : AHeap} {v : AVal} {R : AEnd → AHeap → Prop} (hx : S_chainmanlaw28_StartPicks seed0 n1 k2 i3 h = some (v, h')) (hR : HOk h → h.length ≤ h'.length → ABody.AEnds h h' (.ret v) R) : ACalls Tryz.prog 3 [(.lit (.int .i64 seed0)), (.lit (.int .i64 n1)), (.lit (.int .i64 k2)), (.lit (.int .i64 i3))] h R := xfun_ends Echainmanlaw28_StartPicks_ok tmix (i := 3) (by rfl) (by kernel_rfl) (by kernel_rfl) hx hR
section law
variable {h : AHeap} {v v' : AVal} {l : List Int} {n k i : Int}
theorem same_loop (S : Sl 1 h v l.length (intVs l)) (S' : Sl 1 h v' l.length (intVs l)) (hl : l.length ≤ 1000) : ∀ m i, i + m = l.length → S_chainmanref10_SameList_0 v v' (i : Int) h = some (.lit (.bool true), h) := by
  intro m
  induction m with
  | zero =>
    intro i hi
    rw [S_chainmanref10_SameList_0_eq]
    exact bd S.len (cF (decide_eq_false (by omega)) (by rw [S_chainmanref10_SameList_1_eq]))
  | succ m ih =>
    intro i hi
    have hlt : i < l.length := by omega
    obtain ⟨p, a, b⟩ := ints_at S hlt
    obtain ⟨p', a', b'⟩ := ints_at S' hlt
    rw [S_chainmanref10_SameList_0_eq]
    refine bd S.len (cT (decide_eq_true (by omega)) (bd a (bd b (bd rfl (bd a' (bd b' (bd rfl (cF (by rw [decide_eq_true rfl]; rfl) ?_))))))))
    rw [wrap_i64 (by omega) (by omega), show (i : Int) + 1 = ((i + 1 : Nat) : Int) by omega]
    exact ih (i + 1) (by omega)
theorem same_run (S : Sl 1 h v l.length (intVs l)) (S' : Sl 1 h v' l.length (intVs l)) (hl : l.length ≤ 1000) : onlyR (S_chainmanref10_SameList v v' h) h = some (.lit (.bool true)) := by
  have : S_chainmanref10_SameList v v' h = some (.lit (.bool true), h) := by
    rw [S_chainmanref10_SameList_eq]
    exact bd S.len (bd S'.len (cF (by rw [decide_eq_true rfl]; rfl) (same_loop S S' hl l.length 0 (by omega))))
  rw [this]; exact onlyR_same _ _
theorem law_head (hn : n ≤ 1048576) (v : AVal) (h : AHeap) : (bif (decide (n < 2)) then (S_chainmanlaw28_StartPicks_0 n k i v true h) else (S_chainmanlaw28_StartPicks_0 n k i v (decide (k < 1)) h)) = S_chainmanlaw28_StartPicks_4 n k i v (!mayB n k i) h := by
  have c3 : ∀ b, S_chainmanlaw28_StartPicks_3 n k i v b h = S_chainmanlaw28_StartPicks_4 n k i v (b || decide (i ≥ n)) h := fun b => by rw [S_chainmanlaw28_StartPicks_3_eq]; cases b <;> rfl
  have c2 : ∀ b, S_chainmanlaw28_StartPicks_2 n k i v b h = S_chainmanlaw28_StartPicks_3 n k i v (b || decide (i < 0)) h := fun b => by rw [S_chainmanlaw28_StartPicks_2_eq]; cases b <;> rfl
  have c1 : ∀ b, S_chainmanlaw28_StartPicks_1 n k i v b h = S_chainmanlaw28_StartPicks_2 n k i v (b || decide (k ≥ n)) h := fun b => by rw [S_chainmanlaw28_StartPicks_1_eq]; cases b <;> rfl
  have c0 : ∀ b, S_chainmanlaw28_StartPicks_0 n k i v b h = S_chainmanlaw28_StartPicks_1 n k i v (b || decide (k > 64)) h := fun b => by rw [S_chainmanlaw28_StartPicks_0_eq]; cases b <;> rfl
  have cs : (bif (decide (n < 2)) then (S_chainmanlaw28_StartPicks_0 n k i v true h) else (S_chainmanlaw28_StartPicks_0 n k i v (decide (k < 1)) h)) = S_chainmanlaw28_StartPicks_0 n k i v (decide (n < 2) || decide (k < 1)) h := by cases decide (n < 2) <;> rfl
  rw [cs, c0, c1, c2, c3]
  refine congrArg (fun b => S_chainmanlaw28_StartPicks_4 n k i v b h) ?_
  by_cases c : 2 ≤ n ∧ n ≤ 1048576 ∧ 1 ≤ k ∧ k ≤ 64 ∧ k < n ∧ 0 ≤ i ∧ i < n
  · obtain ⟨m1, m2, m3, m4, m5, m6, m7⟩ := c
    have hm : mayB n k i = true := decide_eq_true ⟨m1, m2, m3, m4, m5, m6, m7⟩
    rw [hm, decide_eq_false (p := n < 2) (by omega), decide_eq_false (p := k < 1) (by omega), decide_eq_false (p := k > 64) (by omega), decide_eq_false (p := k ≥ n) (by omega), decide_eq_false (p := i < 0) (by omega), decide_eq_false (p := i ≥ n) (by omega)]
    rfl
  · have hm : mayB n k i = false := decide_eq_false c
    rw [hm]
    simp only [Bool.or_eq_true, decide_eq_true_eq, Bool.not_false]
    omega
theorem twice_loop (S : Sl 1 h v l.length (intVs l)) (hl : l.length ≤ 1000) (hd : l.Nodup) {j : Nat} (hj : j < l.length) : ∀ m c, c + m = j → S_chainmanlaw28_StartPicks_11 n k i v (j : Int) (c : Int) h = S_chainmanlaw28_StartPicks_12 n k i v (j : Int) h := by
  intro m
  induction m with
  | zero =>
    intro c hc
    rw [S_chainmanlaw28_StartPicks_11_eq]
    exact cF (decide_eq_false (by omega)) rfl
  | succ m ih =>
    intro c hc
    obtain ⟨p, a, b⟩ := ints_at S (show c < l.length by omega)
    obtain ⟨p', a', b'⟩ := ints_at S hj
    have hne : l[c] ≠ l[j] := fun e => by have := (List.getElem_inj hd).1 e; omega
    rw [S_chainmanlaw28_StartPicks_11_eq]
    refine cT (decide_eq_true (by omega)) (bd a (bd b (bd rfl (bd a' (bd b' (bd rfl (cF (decide_eq_false hne) ?_)))))))
    rw [wrap_i64 (by omega) (by omega), show (c : Int) + 1 = ((c + 1 : Nat) : Int) by omega]
    exact ih (c + 1) (by omega)
theorem each_loop (S : Sl 1 h v l.length (intVs l)) (hl : l.length ≤ 1000) (hd : l.Nodup) (hf : ∀ x ∈ l, x ≠ i ∧ 0 ≤ x ∧ x < n) : ∀ m j, j + m = l.length → S_chainmanlaw28_StartPicks_6 n k i v (j : Int) h = S_chainmanlaw28_StartPicks_8 k v h := by
  intro m
  induction m with
  | zero =>
    intro j hj
    rw [S_chainmanlaw28_StartPicks_6_eq]
    exact bd S.len (cF (decide_eq_false (by omega)) rfl)
  | succ m ih =>
    intro j hj
    have hlt : j < l.length := by omega
    obtain ⟨p, a, b⟩ := ints_at S hlt
    obtain ⟨f1, f2, f3⟩ := hf l[j] (List.getElem_mem hlt)
    rw [S_chainmanlaw28_StartPicks_6_eq]
    refine bd S.len (cT (decide_eq_true (by omega)) (bd a (bd b (bd rfl (cF (decide_eq_false f1) (bd a (bd b (bd rfl ?_))))))))
    rw [decide_eq_false (show ¬ l[j] < 0 by omega), S_chainmanlaw28_StartPicks_7_eq]
    refine cF rfl (bd a (bd b (bd rfl ?_)))
    rw [decide_eq_false (show ¬ l[j] ≥ n by omega), S_chainmanlaw28_StartPicks_9_eq]
    refine cF rfl ((twice_loop S hl hd hlt j 0 (by omega)).trans ?_)
    rw [S_chainmanlaw28_StartPicks_12_eq, wrap_i64 (by omega) (by omega), show (j : Int) + 1 = ((j + 1 : Nat) : Int) by omega]
    exact ih (j + 1) (by omega)
theorem law_true (sd n k i : Int) (h : AHeap) : ∃ g, S_chainmanlaw28_StartPicks sd n k i h = some (.lit (.bool true), g) := by
  by_cases hn : n > 40
  · exact ⟨h, by rw [S_chainmanlaw28_StartPicks_eq]; exact cT (decide_eq_true hn) rfl⟩
  cases hm : mayB n k i with
  | false =>
    obtain ⟨g, e, M⟩ := picks_not hm sd h
    refine ⟨g, ?_⟩
    rw [S_chainmanlaw28_StartPicks_eq]
    refine cF (decide_eq_false hn) (bd e (bd (ref_not hm sd g) (bd (same_run (l := []) (Sl.nil _ _) (Sl.nil _ _) (by simp)) (bd rfl (cF rfl ((law_head (by omega) _ _).trans ?_))))))
    rw [hm, S_chainmanlaw28_StartPicks_4_eq]
    refine cT rfl (bd rfl (cT (decide_eq_true rfl) ?_))
    rw [S_chainmanlaw28_StartPicks_5_eq]
  | true =>
    obtain ⟨m1, m2, m3, m4, m5, m6, m7⟩ := of_decide_eq_true hm
    obtain ⟨N, rfl⟩ := Int.eq_ofNat_of_zero_le (show 0 ≤ n by omega)
    obtain ⟨K, rfl⟩ := Int.eq_ofNat_of_zero_le (show 0 ≤ k by omega)
    obtain ⟨v, g, e, M⟩ := picks_run hm sd h
    obtain ⟨v', g', e', M'⟩ := ref_run hm sd g
    obtain ⟨p1, p2, p3⟩ := picks_are hm sd
    have O : Own 1 g' v (picksL sd i N K).length (intVs (picksL sd i N K)) := M.own.keep fun b hb => M'.old b (At.own M.own hb)
    have hl : (picksL sd i N K).length ≤ 1000 := by omega
    refine ⟨g', ?_⟩
    rw [S_chainmanlaw28_StartPicks_eq]
    refine cF (decide_eq_false hn) (bd e (bd e' (bd (same_run O.sl M'.own.sl hl) (bd rfl (cF rfl ((law_head (by omega) _ _).trans ?_))))))
    rw [hm, S_chainmanlaw28_StartPicks_4_eq]
    refine cF rfl ((each_loop O.sl hl p2 p3 (picksL sd i N K).length 0 (by omega)).trans ?_)
    rw [S_chainmanlaw28_StartPicks_8_eq]
    refine bd O.sl.len (cT (decide_eq_true (by omega)) ?_)
    rw [S_chainmanlaw28_StartPicks_10_eq]
theorem startPicks {sd n k i : Int} : ACalls Tryz.prog 3 [.lit (.int .i64 sd), .lit (.int .i64 n), .lit (.int .i64 k), .lit (.int .i64 i)] [] fun e h' => e = .ret (.lit (.bool true)) ∧ True := by
  obtain ⟨g, e⟩ := law_true sd n k i []
  exact S_chainmanlaw28_StartPicks_ends e fun hok _ => ends_same (h0 := []) (L := g) hok rfl ⟨rfl, trivial⟩
end law
end Go.Proofs.YteahajcgbogjkaaGreat.AL
