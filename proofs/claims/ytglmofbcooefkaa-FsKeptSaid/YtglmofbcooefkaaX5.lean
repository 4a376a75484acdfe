/- What is reckoned is so. -/
import Derived.Test.YtglmofbcooefkaaX4
import Derived.Scope
namespace Go.Proofs.Ytglmofbcooefkaa.AL
set_option linter.unusedVariables false
set_option linter.unusedSimpArgs false
open Go

variable {G : Rnd} {ρ ρ' : Env} {h h' : AHeap} {w w' : World} {P : Program}

section moves
variable {b : Frame} {a : Act} {k : List Item} {cs : List Frame}
theorem stepR_scope {c : Code} : step P (lone (b.atR a (.code (.scope c) :: k)) cs w) = .next (lone (b.atR a (.code c :: .inScope c :: k)) cs w) :=
  step_lone_go (by simp [stepG, stepG.exec, Frame.atR])
theorem stepR_inScope {c : Code} : step P (lone (b.atR a (.inScope c :: k)) cs w) = .next (lone (b.atR a k) cs w) :=
  step_lone_go (by simp [stepG, stepG.exec, Frame.atR])
end moves

noncomputable def drawsOk (nt : Nat) (D : List (Nat × DPart)) (c : Code) : Bool := Code.rec (motive := fun _ => Bool) true
  (fun id ops draw => match draw with
    | false => true
    | true => match findN D id with
      | some d => match d.L with
        | [] => drawOk2 ops d && aOkB ops nt d.A && nodupB d.A && subB d.A d.Hd && nodupB d.Hd && stsOkB .any ops d.A d.S
        | _ :: _ => drawOkL ops d.F d.L d.T && readsOkB ops d.L
      | none => true)
  (fun _ _ a b => a && b) (fun _ _ _ a b => a && b) (fun _ _ a => a) (fun _ a => a) (fun _ _ _ _ a b => a && b)
  (fun _ => true) (fun _ a => a) (fun _ => true) (fun _ => true) true (fun _ => true) c

def QK {R : Type} (n : Nat) (K : XK R) (r : R) : AQ := fun e a h => (∀ c, e ≠ .panic c) ∧ ∃ f : Fr, f.Wf n ∧ a = f.lst n ∧ K e f h = some r

theorem iter_sound {E : XE} {c : Code} {mask : Fr → Fr} {step : Fr → AHeap → Option XR} (hmw : ∀ f : Fr, f.Wf E.n → (mask f).Wf E.n) (hmk : ∀ f : Fr, Weak (f.lst E.n) ((mask f).lst E.n))
    (hstep : ∀ (f : Fr) (h : AHeap) (r : XR), f.Wf E.n → step f h = some r → AWp P c (QK E.n xdone r) (f.lst E.n) h) :
    ∀ (m : Nat) (f : Fr) (h : AHeap) (e : Exit) (f' : Fr) (h' : AHeap), f.Wf E.n → xiter mask step m f h = some (e, f', h') → ∀ (ρ : Env) (w : World) (ca : Act) b k cs, b.roundOf = G.ro → Rel ρ h w → AR G ρ h w (f.lst E.n) ca →
      ∃ ca' w', (∃ ρ', Evo ρ h w ρ' h' w' ∧ Rel ρ' h' w' ∧ AR G ρ' h' w' (f'.lst E.n) ca' ∧ f'.Wf E.n ∧ ∀ c, e ≠ .panic c) ∧ ArrivesIn (Machine.fenced P (FW G.ro)) P (lone (b.atR ca (.code c :: .inLoop c :: k)) cs w) b k cs e ca' w' := by
  intro m
  induction m with
  | zero => intro f h e f' h' hw hx; simp [xiter] at hx
  | succ m ih =>
    intro f h e f' h' hw hx ρ w ca b k cs hro hR ha
    unfold xiter at hx
    obtain ⟨⟨e1, f1, h1⟩, hs, hx⟩ := Option.bind_eq_some_iff.1 hx
    obtain ⟨e2, ca1, w1, ⟨ρ1, h2, a2, ev, hR1, ha1, hnp, g, hg, rfl, hd⟩, harr⟩ := hstep f h _ hw hs G ρ w ca hR ha b (.inLoop c :: k) cs hro trivial (fw_room _ _)
    cases hd
    cases e1 with
    | normal =>
      obtain ⟨ca3, w3, ⟨ρ3, ev3, hR3, ha3, hw3⟩, harr3⟩ := ih (mask f1) h1 e f' h' (hmw _ hg) hx ρ1 w1 ca1 b k cs hro hR1 (ha1.weak (hmk _))
      exact ⟨ca3, w3, ⟨ρ3, ev.trans ev3, hR3, ha3, hw3⟩, .of_steps (StepsIn.trans harr (.one (fenced_calm (F := FW G.ro) (n := 0) trivial (fw_room _ _) rfl) stepR_inLoop)) harr3⟩
    | exit id => cases hx; exact ⟨ca1, w1, ⟨ρ1, ev, hR1, ha1, hg, hnp⟩, .pass (x := .inLoop c) rfl (fun _ _ => .inl (by simp)) harr⟩
    | goto l => cases hx; exact ⟨ca1, w1, ⟨ρ1, ev, hR1, ha1, hg, hnp⟩, .pass (x := .inLoop c) rfl (fun _ _ => .inl (by simp)) harr⟩
    | ret => cases hx; exact ⟨ca1, w1, ⟨ρ1, ev, hR1, ha1, hg, hnp⟩, .pass (x := .inLoop c) rfl (fun _ _ => .inl (by simp)) harr⟩
    | panic ch => cases hx; exact ⟨ca1, w1, ⟨ρ1, ev, hR1, ha1, hg, hnp⟩, .pass (x := .inLoop c) rfl (fun _ _ => .inl (by simp)) harr⟩
    | outgrown => cases hx; exact ⟨ca1, w1, ⟨ρ1, ev, hR1, ha1, hg, hnp⟩, .pass (x := .inLoop c) rfl (fun _ _ => .inl (by simp)) harr⟩

theorem maskAt_wf {n : Nat} {f : Fr} (hw : f.Wf n) (l : List (Nat × List Nat)) (k : Option Nat) : (maskAt l k f).Wf n := by
  unfold maskAt; split
  · exact maskO_wf hw _
  · exact hw
theorem maskAt_weak (n : Nat) (f : Fr) (l : List (Nat × List Nat)) (k : Option Nat) : Weak (f.lst n) ((maskAt l k f).lst n) := by
  unfold maskAt; split
  · exact maskO_weak n f _
  · exact Weak.refl _

def XSnd (P : Program) (n : Nat) (c : Code) (q : XS) : Prop := ∀ (R : Type) (f : Fr) (h : AHeap) (K : XK R) (r : R), f.Wf n → q R f h K = some r → AWp P c (QK n K r) (f.lst n) h
def LSnd (P : Program) (n : Nat) (c : Code) (lab : XL) : Prop := ∀ l, match lab l with
  | some q => ∃ rest, findLabel c l = some rest ∧ XSnd P n rest q
  | none => findLabel c l = none
theorem hop_sound {n : Nat} {c : Code} {lab : XL} {mask : Nat → Fr → Fr} (hmw : ∀ l (f : Fr), f.Wf n → (mask l f).Wf n) (hmk : ∀ l (f : Fr), Weak (f.lst n) ((mask l f).lst n)) (hl : LSnd P n c lab) :
    ∀ (m : Nat) (e : Exit) (f : Fr) (h : AHeap) (e' : Exit) (f' : Fr) (h' : AHeap), f.Wf n → xhop lab mask m (e, f, h) = some (e', f', h') → (∀ c, e ≠ .panic c) → ∀ (ρ : Env) (w : World) (ca : Act) b k cs s0, b.roundOf = G.ro → Rel ρ h w → AR G ρ h w (f.lst n) ca →
      ArrivesIn (Machine.fenced P (FW G.ro)) P s0 b (.inScope c :: k) cs e ca w → ∃ ca' w', (∃ ρ', Evo ρ h w ρ' h' w' ∧ Rel ρ' h' w' ∧ AR G ρ' h' w' (f'.lst n) ca' ∧ f'.Wf n ∧ ∀ c, e' ≠ .panic c) ∧ ArrivesIn (Machine.fenced P (FW G.ro)) P s0 b k cs e' ca' w' := by
  intro m
  induction m with
  | zero => intro e f h e' f' h' hw hx; simp [xhop] at hx
  | succ m ih =>
    intro e f h e' f' h' hw hx hnp ρ w ca b k cs s0 hro hR ha harr
    unfold xhop at hx
    cases e with
    | goto l =>
      simp only at hx
      have h1 := hl l
      cases hq : lab l with
      | none =>
        rw [hq] at hx h1
        cases hx
        simp only at h1
        exact ⟨ca, w, ⟨ρ, .refl .., hR, ha, hw, hnp⟩, fun k' hk => harr.1 k' (by simp [gotoIn, h1, hk]), fun hr hk => harr.2 hr (by simp [gotoIn, h1, hk])⟩
      | some q =>
        rw [hq] at hx h1
        simp only at hx h1
        obtain ⟨rest, hf, hs⟩ := h1
        obtain ⟨⟨e1, f1, h1⟩, h2, hx⟩ := Option.bind_eq_some_iff.1 hx
        obtain ⟨e2, ca1, w1, ⟨ρ1, h3, a2, ev, hR1, ha1, hnp1, g, hg, rfl, hd⟩, harr1⟩ := hs XR f h xdone _ hw h2 G ρ w ca hR ha b (.inScope c :: k) cs hro trivial (fw_room _ _)
        cases hd
        have hmm : ∃ f2 : Fr, mkM lab mask (e1, f1, h1) = (e1, f2, h1) ∧ f2.Wf n ∧ Weak (f1.lst n) (f2.lst n) := by
          unfold mkM
          cases e1 with
          | goto l' =>
            simp only
            cases lab l' with
            | none => exact ⟨f1, rfl, hg, .refl _⟩
            | some _ => exact ⟨_, rfl, hmw l' f1 hg, hmk l' f1⟩
          | _ => exact ⟨f1, rfl, hg, .refl _⟩
        obtain ⟨f2, hme, hg2, hwk⟩ := hmm
        simp only [hme] at hx
        obtain ⟨ca3, w3, ⟨ρ3, ev3, hR3, ha3, hw3⟩, harr3⟩ := ih e1 f2 h1 e' f' h' hg2 hx hnp1 ρ1 w1 ca1 b k cs s0 hro hR1 (ha1.weak hwk) (.of_steps (harr.1 _ (by simp [gotoIn, hf])) harr1)
        exact ⟨ca3, w3, ⟨ρ3, ev.trans ev3, hR3, ha3, hw3⟩, harr3⟩
    | normal => cases hx; exact ⟨ca, w, ⟨ρ, .refl .., hR, ha, hw, hnp⟩, StepsIn.trans harr (.one (fenced_calm (F := FW G.ro) (n := 0) trivial (fw_room _ _) rfl) stepR_inScope)⟩
    | exit id => cases hx; exact ⟨ca, w, ⟨ρ, .refl .., hR, ha, hw, hnp⟩, fun k' hk => harr.1 k' (by simp [exitTo, hk]), fun hr hk => harr.2 hr (by simp [exitTo, hk])⟩
    | ret => cases hx; exact ⟨ca, w, ⟨ρ, .refl .., hR, ha, hw, hnp⟩, harr⟩
    | panic ch => exact absurd rfl (hnp ch)
    | outgrown => cases hx; exact ⟨ca, w, ⟨ρ, .refl .., hR, ha, hw, hnp⟩, harr⟩
theorem xex_sound {E : XE} (hE : E.Ok P) (hm : P.follows .mixedOrders = true) (c : Code) : drawsOk E.n E.D c = true → XSnd P E.n c (xexec E c) ∧ LSnd P E.n c (xlab E c) := by
  induction c with
  | skip => exact fun hd => ⟨fun R f h K r hw hx => awp_skip ⟨(fun _ e => by cases e), f, hw, rfl, hx⟩, fun l => rfl⟩
  | region id ops draw =>
    intro hd
    refine ⟨?_, fun l => rfl⟩
    intro R f h K r hw hx
    have fin : ∀ (f : Fr) (h : AHeap), f.Wf E.n → (fun f h => K .normal f h) f h = some r → QK E.n K r .normal (f.lst E.n) h := fun f h hw hx => ⟨(fun _ e => by cases e), f, hw, rfl, hx⟩
    cases draw with
    | false =>
      exact awp_regionW (xops_ok hE fin _ _ f f h hw (Weak.refl _) hx)
    | true =>
      change (match findN E.D id with
        | some D => match D.L with
          | [] => xflt E.T E.n ops D.F f fun f => xopsQ E ops D.A D.S h D.Hd f [] fun f p => pdFill E.n p h.length f fun f => xops E id ops (opsAt ops D.Tl) 500 f (pdOn h p) fun f h => K .normal f h
          | _ :: _ => xflt E.T E.n ops D.F f fun f => xreads E ops h D.L f [] fun f ls => xopsL E ops D.T ls f h fun f h => K .normal f h
        | none => none) = some r at hx
      change (match findN E.D id with
        | some d => match d.L with
          | [] => drawOk2 ops d && aOkB ops E.n d.A && nodupB d.A && subB d.A d.Hd && nodupB d.Hd && stsOkB .any ops d.A d.S
          | _ :: _ => drawOkL ops d.F d.L d.T && readsOkB ops d.L
        | none => true) = true at hd
      cases hf : findN E.D id with
      | none => simp [hf] at hx
      | some D =>
       rcases hDL : D.L with _ | ⟨l0, ll⟩
       rotate_left
       · simp only [hf, hDL, Bool.and_eq_true] at hx hd
         obtain ⟨hd1, hd2⟩ := hd
         obtain ⟨f0, hw0, hl0, hx⟩ := xflt_ok hE.T D.F f hw hx
         have hlo : LateOk .any ops D.F (l0 :: ll) D.T (TP.nums D.T) := by
           simp only [drawOkL, Bool.and_eq_true] at hd1
           exact lateOkB_ok hd1.1.1.2
         refine awp_drawL hm (fun c a h hq => hq.1 c rfl) hd1 hl0 (lrd_read _ _ _ hd2 (fun r hr => by cases hr) ?_)
         exact xreads_ok hE (fun f ls hw hx hls => xopsL_ok hE fin D.T ls f h hlo.sep hw hls hx) _ f0 [] hw0 hx
       · simp only [hf, hDL] at hx hd
         simp only [Bool.and_eq_true] at hd
         obtain ⟨⟨⟨⟨⟨hd1, hd2⟩, hd3⟩, hd4⟩, hd5⟩, hd6⟩ := hd
         obtain ⟨f0, hw0, hl0, hx⟩ := xflt_ok hE.T D.F f hw hx
         refine awp_draw2 D hm (fun c a h hq => hq.1 c rfl) hd1 (by rw [show (f.lst E.n).length = E.n by simp [Fr.lst]]; exact hd2) hd3 hd6 hl0 ?_
         refine xopsQ_ok hE (stsOkB_ok hd6) (K := fun f p => pdFill E.n p h.length f fun f => xops E id ops (opsAt ops D.Tl) 500 f (pdOn h p) fun f h => K .normal f h) ?_
           D.Hd [] D.A f0 [] (fun _ => none) rfl (nodupB_ok hd3) hd4 (fun k hk => by cases hk) (nodupB_ok hd5) hw0 rfl (fun _ _ => rfl) (fun _ _ => rfl) (fun _ _ _ _ => rfl) hx
         intro f' p g hf' hg hk
         obtain ⟨f2, hw2, hl2, hk⟩ := gath_fill hg hf' hk
         rw [gath_heap hg, ← hl2]
         rw [pdOn_eq] at hk
         exact xops_ok hE fin _ _ f2 f2 _ hw2 (Weak.refl _) hk
  | seq a b iha ihb =>
    intro hd
    have hd' : (drawsOk E.n E.D a && drawsOk E.n E.D b) = true := hd
    rw [Bool.and_eq_true] at hd'
    have key : ∀ (q : XS) (c : Code), XSnd P E.n c q → XSnd P E.n (.seq c b) (fun R f h K => q R f h fun e f h => match e with
        | .normal => atSeq E.Ms (firstR b) f fun f => xexec E b R f h K
        | e => K e f h) := by
      intro q c hq R f h K r hw hx
      refine awp_seq (awp_mono (hq R f h _ r hw hx) ?_)
      rintro e a' h1 ⟨hnp, g, hg, rfl, hk⟩
      cases e with
      | normal =>
        change atSeq E.Ms (firstR b) g (fun f => xexec E b R f h1 K) = some r at hk
        rw [atSeq_eq] at hk
        exact awp_weak (maskAt_weak _ _ _ _) ((ihb hd'.2).1 R _ h1 K r (maskAt_wf hg _ _) hk)
      | _ => exact ⟨hnp, g, hg, rfl, hk⟩
    refine ⟨key _ a (iha hd'.1).1, fun l => ?_⟩
    have ha := (iha hd'.1).2 l
    have hb := (ihb hd'.2).2 l
    show match (match xlab E a l with
      | some r => some fun R f h K => r R f h fun e f h => match e with
        | .normal => atSeq E.Ms (firstR b) f fun f => xexec E b R f h K
        | e => K e f h
      | none => xlab E b l) with
      | some q => ∃ rest, findLabel (.seq a b) l = some rest ∧ XSnd P E.n rest q
      | none => findLabel (.seq a b) l = none
    cases hq : xlab E a l with
    | some q =>
      rw [hq] at ha
      obtain ⟨rest, hf, hs⟩ := ha
      exact ⟨.seq rest b, by simp [findLabel, hf], key q rest hs⟩
    | none =>
      rw [hq] at ha
      simp only at ha ⊢
      have e : findLabel (.seq a b) l = findLabel b l := by simp [findLabel, ha]
      rw [e]; exact hb
  | cond c a b iha ihb =>
    intro hd
    refine ⟨?_, fun l => rfl⟩
    intro R f h K r hw hx
    have hd' : (drawsOk E.n E.D a && drawsOk E.n E.D b) = true := hd
    rw [Bool.and_eq_true] at hd'
    change (match fEval f c with
      | .lit (.bool b') => cond b' (xexec E a R f h K) (xexec E b R f h K)
      | _ => none) = some r at hx
    split at hx
    · rename_i b' hb
      refine awp_cond (b := b') (by rw [aEval_lst hw]; exact hb) (fun e => ?_) (fun e => ?_)
      · subst e; exact (iha hd'.1).1 R f h K r hw hx
      · subst e; exact (ihb hd'.2).1 R f h K r hw hx
    · cases hx
  | block id a iha =>
    intro hd
    refine ⟨?_, fun l => rfl⟩
    intro R f h K r hw hx
    refine awp_block (awp_mono ((iha hd).1 R f h _ r hw hx) ?_)
    rintro e a' h1 ⟨hnp, g, hg, rfl, hk⟩
    cases e with
    | exit id' =>
      simp only at hk
      simp only [AInBlock]
      split at hk
      · rename_i hb
        rw [if_pos (Nat.eq_of_beq_eq_true hb)]; exact ⟨(fun _ e => by cases e), g, hg, rfl, hk⟩
      · rename_i hb
        rw [if_neg (Nat.ne_of_beq_eq_false hb)]; exact ⟨hnp, g, hg, rfl, hk⟩
    | _ => exact ⟨hnp, g, hg, rfl, hk⟩
  | loop a iha =>
    intro hd
    refine ⟨?_, fun l => rfl⟩
    intro R f h K r hw hx
    change jn ((xloop (maskAt E.Ml (firstR a)) (fun f h => xexec E a XR f h xdone) (maskAt E.Ml (firstR a) f) h).bind (rets K)) = some r at hx
    rw [jn_eq] at hx
    obtain ⟨⟨e, f', h'⟩, h1, h2⟩ := Option.bind_eq_some_iff.1 hx
    obtain ⟨m, hm⟩ := xloop_some.1 h1
    refine awp_weak (maskAt_weak E.n f E.Ml (firstR a)) ?_
    intro G ρ w ca hR ha b k cs hro _ _
    obtain ⟨ca', w', ⟨ρ', ev, hR', ha', hw', hnp⟩, harr⟩ := iter_sound (G := G) (P := P) (E := E) (c := a) (fun f hf => maskAt_wf hf _ _) (fun f => maskAt_weak _ f _ _)
      (fun f h r hw hs => (iha hd).1 XR f h xdone r hw hs) m _ h e f' h' (maskAt_wf hw _ _) hm ρ w ca b k cs hro hR ha
    exact ⟨e, ca', w', ⟨ρ', h', _, ev, hR', ha', hnp, f', hw', rfl, h2⟩, .of_steps (.one (fenced_calm (F := FW G.ro) (n := 0) trivial (fw_room _ _) rfl) stepR_loop) harr⟩
  | rangeFunc => exact fun hd => ⟨fun R f h K r hw hx => (by cases hx), fun l => rfl⟩
  | exit id => exact fun hd => ⟨fun R f h K r hw hx => awp_exit ⟨(fun _ e => by cases e), f, hw, rfl, hx⟩, fun l => rfl⟩
  | scope a iha =>
    intro hd
    refine ⟨?_, fun l => rfl⟩
    intro R f h K r hw hx
    obtain ⟨hs, hl⟩ := iha hd
    intro G ρ w ca hR ha b k cs hro _ _
    obtain ⟨e, ca1, w1, ⟨ρ1, h1, a1, ev, hR1, ha1, hnp, g, hg, rfl, hk⟩, harr⟩ := hs R f h _ r hw hx G ρ w ca hR ha b (.inScope a :: k) cs hro trivial (fw_room _ _)
    have harr0 : ArrivesIn (Machine.fenced P (FW G.ro)) P (lone (b.atR ca (.code (.scope a) :: k)) cs w) b (.inScope a :: k) cs e ca1 w1 := .of_steps (.one (fenced_calm (F := FW G.ro) (n := 0) trivial (fw_room _ _) rfl) stepR_scope) harr
    have out : ∃ (g' : Fr) (e' : Exit) (f' : Fr) (h' : AHeap), (g'.Wf E.n ∧ Weak (g.lst E.n) (g'.lst E.n)) ∧ (∃ m, xhop (xlab E a) (maskJ E) m (e, g', h1) = some (e', f', h')) ∧ K e' f' h' = some r := by
      unfold xscK at hk
      have triv : (∀ l, e ≠ .goto l) → ∃ m, xhop (xlab E a) (maskJ E) m (e, g, h1) = some (e, g, h1) := fun hne => ⟨1, by
        unfold xhop
        cases e with
        | goto l => exact absurd rfl (hne l)
        | _ => rfl⟩
      cases e with
      | goto l =>
        simp only at hk
        change (match xlab E a l with
          | some _ => xjumpL E (xlab E a) l R g h1 K
          | none => K (.goto l) g h1) = some r at hk
        cases hq : xlab E a l with
        | none =>
          rw [hq] at hk
          exact ⟨g, _, _, _, ⟨hg, .refl _⟩, ⟨1, by unfold xhop; simp only [hq]⟩, hk⟩
        | some q =>
          rw [hq] at hk
          simp only at hk
          unfold xjumpL at hk
          rw [jn_eq] at hk
          obtain ⟨⟨e', f', h'⟩, h2, h3⟩ := Option.bind_eq_some_iff.1 hk
          exact ⟨_, e', f', h', ⟨maskO_wf hg _, maskO_weak _ _ _⟩, xgos_some.1 h2, h3⟩
      | normal => exact ⟨g, _, _, _, ⟨hg, .refl _⟩, triv (fun l e => by cases e), hk⟩
      | exit id => exact ⟨g, _, _, _, ⟨hg, .refl _⟩, triv (fun l e => by cases e), hk⟩
      | ret => exact ⟨g, _, _, _, ⟨hg, .refl _⟩, triv (fun l e => by cases e), hk⟩
      | panic c => exact ⟨g, _, _, _, ⟨hg, .refl _⟩, triv (fun l e => by cases e), hk⟩
      | outgrown => exact ⟨g, _, _, _, ⟨hg, .refl _⟩, triv (fun l e => by cases e), hk⟩
    obtain ⟨g', e', f', h', ⟨hg', hwk'⟩, ⟨m, hmx⟩, hk'⟩ := out
    obtain ⟨ca', w', ⟨ρ', ev', hR', ha', hw', hnp'⟩, harr'⟩ := hop_sound (G := G) (P := P) (n := E.n) (c := a) (lab := xlab E a) (mask := maskJ E) (fun l f hf => maskO_wf hf _) (fun l f => maskO_weak _ _ _) hl m e g' h1 e' f' h' hg' hmx hnp ρ1 w1 ca1 b k cs _ hro hR1 (ha1.weak hwk') harr0
    exact ⟨e', ca', w', ⟨ρ', h', _, ev.trans ev', hR', ha', hnp', f', hw', rfl, hk'⟩, harr'⟩
  | label l' =>
    intro hd
    refine ⟨fun R f h K r hw hx => awp_label ⟨(fun _ e => by cases e), f, hw, rfl, hx⟩, fun l => ?_⟩
    show match (match Nat.beq l' l with
      | true => some fun R f h K => K .normal f h
      | false => none : Option XS) with
      | some q => ∃ rest, findLabel (.label l') l = some rest ∧ XSnd P E.n rest q
      | none => findLabel (.label l') l = none
    cases hb : Nat.beq l' l with
    | true =>
      have e := Nat.eq_of_beq_eq_true hb
      subst e
      exact ⟨.skip, by simp [findLabel], fun R f h K r hw hx => awp_skip ⟨(fun _ e => by cases e), f, hw, rfl, hx⟩⟩
    | false =>
      have e := Nat.ne_of_beq_eq_false hb
      simp [findLabel, e]
  | goto l => exact fun hd => ⟨fun R f h K r hw hx => awp_goto ⟨(fun _ e => by cases e), f, hw, rfl, hx⟩, fun l => rfl⟩
  | ret => exact fun hd => ⟨fun R f h K r hw hx => awp_ret ⟨(fun _ e => by cases e), f, hw, rfl, hx⟩, fun l => rfl⟩
  | refuse => exact fun hd => ⟨fun R f h K r hw hx => (by cases hx), fun l => rfl⟩
theorem xexec_sound {E : XE} (hE : E.Ok P) (hm : P.follows .mixedOrders = true) (c : Code) (hd : drawsOk E.n E.D c = true) (R : Type) (f : Fr) (h : AHeap) (K : XK R) (r : R) (hw : f.Wf E.n) (hx : xexec E c R f h K = some r) : AWp P c (QK E.n K r) (f.lst E.n) h :=
  (xex_sound hE hm c hd).1 R f h K r hw hx

/-! ### A whole function -/
def one_or_tup (vs : List AVal) : AVal := match vs with
  | [v] => v
  | vs => .tup vs
noncomputable def xresGo {R : Type} (T : Tab) (f : Fr) (h : AHeap) (rs : List ResultVar) : List AVal → (AVal → Option R) → Option R :=
  List.rec (motive := fun _ => List AVal → (AVal → Option R) → Option R) (fun vs K => K (one_or_tup vs)) (fun r _ ih vs K => match r with
    | .tmp t => ih (vs ++ [f.get t]) K
    | .cell c t => xLoadK T t h (f.get c) fun v => castK T t v fun v => ih (vs ++ [v]) K) rs
theorem xresGo_ok {R : Type} {T : Tab} (hT : T.Ok P) {n : Nat} {f : Fr} (hw : f.Wf n) {h : AHeap} {K : AVal → Prop} {K0 : AVal → Option R} {r : R} : ∀ (rs : List ResultVar) (vs : List AVal), xresGo T f h rs vs K0 = some r → (∀ v, K0 v = some r → K v) → aResults.go P (f.lst n) h rs vs K
  | [], vs, hx, hK => by
    change K0 (one_or_tup vs) = some r at hx
    have := hK _ hx
    unfold aResults.go
    unfold one_or_tup at this
    rcases vs with _ | ⟨v, _ | ⟨u, l⟩⟩
    · exact this
    · exact this
    · exact this
  | .tmp t :: rs, vs, hx, hK => by
    unfold aResults.go
    rw [aget_lst hw]
    exact xresGo_ok hT hw rs _ hx hK
  | .cell c t :: rs, vs, hx, hK => by
    change (xLoadK T t h (f.get c) fun v => castK T t v fun v => xresGo T f h rs (vs ++ [v]) K0) = some r at hx
    unfold aResults.go
    rw [xLoadK_eq] at hx
    obtain ⟨y, h1, hx⟩ := Option.bind_eq_some_iff.1 hx
    rw [castK_eq] at hx
    obtain ⟨y', h2, hx⟩ := Option.bind_eq_some_iff.1 hx
    have e2 := castT_eq h2
    subst e2
    rw [aget_lst hw]
    exact xLoad_ok hT h1 (xresGo_ok hT hw rs _ (by rw [h2] at hx; exact hx) hK)
def fargs : List AVal → Nat → Fr
  | [], _ => []
  | v :: vs, i => (i, v) :: fargs vs (i + 1)
theorem fargs_get : ∀ (l : List AVal) (i j : Nat), (fargs l i).get j = if i ≤ j ∧ j < i + l.length then l.getD (j - i) .any else .any
  | [], i, j => by
    have : ¬ (i ≤ j ∧ j < i + ([] : List AVal).length) := by simp only [List.length_nil]; omega
    rw [if_neg this]; rfl
  | v :: l, i, j => by
    rw [fargs, Fr.get_cons, fargs_get l (i + 1) j]
    simp only [List.length_cons]
    by_cases h : j = i
    · subst h; simp
    · rw [if_neg h]
      by_cases h2 : i + 1 ≤ j ∧ j < i + 1 + l.length
      · rw [if_pos h2, if_pos (by omega)]
        have : j - i = (j - (i + 1)) + 1 := by omega
        rw [this]; rfl
      · rw [if_neg h2, if_neg (by omega)]
theorem fargs_wf {l : List AVal} {n : Nat} (hn : l.length ≤ n) : (fargs l 0).Wf n := by
  intro t ht; rw [fargs_get, if_neg (by omega)]
theorem fargs_lst {l : List AVal} {n : Nat} (hn : l.length ≤ n) : (fargs l 0).lst n = l ++ List.replicate (n - l.length) .any := by
  apply List.ext_getElem
  · simp [Fr.lst]; omega
  · intro i h1 h2
    simp only [Fr.lst, List.getElem_map, List.getElem_range, fargs_get]
    rcases Nat.lt_or_ge i l.length with h | h
    · rw [if_pos (by omega), List.getElem_append_left h]
      simp [List.getD_eq_getElem?_getD, h]
    · rw [if_neg (by omega), List.getElem_append_right h, List.getElem_replicate]
noncomputable def xend (E : XE) (fn : Func) : XK (AVal × AHeap) := fun e f h => match e with
  | .normal => xresGo E.T f h fn.results.toList [] fun v => some (v, h)
  | .ret => xresGo E.T f h fn.results.toList [] fun v => some (v, h)
  | _ => none
noncomputable def xfun (E : XE) (fn : Func) (args : List AVal) (h : AHeap) : Option (AVal × AHeap) := match fn.body, Nat.ble args.length E.n with
  | some c, true => xexec E c _ (fargs args 0) h (xend E fn)
  | _, _ => none

theorem awp_len {c : Code} {Q : AQ} {a : List AVal} (hc : AWp P c Q a h) : AWp P c (fun e a' h' => Q e a' h' ∧ h.length ≤ h'.length) a h :=
  fun G ρ w ca hR ha => wpIn_mono (hc G ρ w ca hR ha) fun _ _ _ ⟨ρ', h', a', h1, h2, h3, h4⟩ => ⟨ρ', h', a', h1, h2, h3, h4, h1.ids⟩

/-- **What a function is reckoned to do it does**; what is told of its end may be weaker. -/
theorem xfun_ends {E : XE} (hE : E.Ok P) (hm : P.follows .mixedOrders = true) {i : FuncId} {fn : Func} (hf : P.funcs[i]? = some fn) (hn : fn.ntmps = E.n) (hd : (match fn.body with
    | some c => drawsOk E.n E.D c
    | none => true) = true) {args : List AVal} {v : AVal} {R : AEnd → AHeap → Prop} (hx : xfun E fn args h = some (v, h')) (hR : HOk h → h.length ≤ h'.length → ABody.AEnds h h' (.ret v) R) : ACalls P i args h R := by
  unfold xfun at hx
  split at hx
  · rename_i c hb hl
    have hl' : args.length ≤ E.n := Nat.le_of_ble_eq_true hl
    refine acalls_of hf hb fun hok => ?_
    rw [hb] at hd
    have h1 := xexec_sound hE hm c hd _ _ h (xend E fn) _ (fargs_wf hl') hx
    rw [fargs_lst hl', ← hn] at h1
    refine awp_mono (awp_len h1) ?_
    rintro e a g ⟨⟨_, f, hw, rfl, hk⟩, hlen⟩
    have done : xresGo E.T f g fn.results.toList [] (fun v => some (v, g)) = some (v, h') → aResults P fn (f.lst fn.ntmps) g fun v => ABody.AEnds h g (.ret v) R := by
      intro hk
      unfold aResults
      refine xresGo_ok hE.T hw _ _ hk fun v' hv => ?_
      cases hv
      exact hR hok hlen
    cases e with
    | normal => exact done hk
    | ret => exact done hk
    | _ => cases hk
  · cases hx
theorem xfun_sound {E : XE} (hE : E.Ok P) (hm : P.follows .mixedOrders = true) {i : FuncId} {fn : Func} (hf : P.funcs[i]? = some fn) (hn : fn.ntmps = E.n) (hd : (match fn.body with
    | some c => drawsOk E.n E.D c
    | none => true) = true) {args : List AVal} {v : AVal} (hx : xfun E fn args h = some (v, h')) : ACalls P i args h fun e g => e = .ret v ∧ g = h' :=
  xfun_ends hE hm hf hn hd hx fun _ hl => ⟨h', .ret v, hl, ⟨rfl, rfl⟩, fun ρ w u hR hE => ⟨Fewer.refl _, hR, hE⟩⟩
end Go.Proofs.Ytglmofbcooefkaa.AL
