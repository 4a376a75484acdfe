/- Pieces of a function's text, reckoned by themselves: what some slots hold behind them. -/
import Derived.Test.YtglmofbcooefkaaX7
import Derived.Test.YtglmofbcooefkaaALR
namespace Go.Proofs.Ytglmofbcooefkaa.AL
set_option linter.unusedVariables false
set_option linter.unusedSimpArgs false
open Go

variable {P : Program}

abbrev XPc := Exit × List AVal × AHeap
noncomputable def pcK (outs : List Nat) : XK XPc := fun e f h => some (e, outs.map f.get, h)
def frOk (n : Nat) (f : Fr) : Bool := f.all fun p => decide (p.1 < n)
theorem frOk_wf {n : Nat} : ∀ {f : Fr}, frOk n f = true → f.Wf n
  | [], _, t, _ => rfl
  | p :: f, hf, t, ht => by
    simp only [frOk, List.all_cons, Bool.and_eq_true, decide_eq_true_eq] at hf
    have h1 : Nat.beq t p.1 = false := by
      cases hb : Nat.beq t p.1 with
      | false => rfl
      | true => have := Nat.eq_of_beq_eq_true hb; omega
    show cond (Nat.beq t p.1) p.2 (Fr.get f t) = .any
    rw [h1]; exact frOk_wf hf.2 t ht

/-- What the slots of a list hold. -/
def Outs (n : Nat) (outs : List Nat) (vs : List AVal) (a : List AVal) : Prop := a.length = n ∧ outs.map (aget a) = vs
theorem Outs.weak {n : Nat} : ∀ {outs : List Nat} {vs : List AVal} {a : List AVal}, Outs n outs vs a → frOk n (outs.zip vs) = true → Weak a (Fr.lst n (outs.zip vs))
  | outs, vs, a, ⟨hl, ho⟩, hf => by
    refine weak_get (by simp [Fr.lst, hl]) fun t ht => ?_
    rw [aget_lst (frOk_wf hf)]
    have key : ∀ (outs : List Nat) (vs : List AVal), outs.map (aget a) = vs → Fr.get (outs.zip vs) t = .any ∨ aget a t = Fr.get (outs.zip vs) t := by
      intro outs
      induction outs with
      | nil => intro vs _; exact .inl rfl
      | cons o outs ih =>
        intro vs hv
        cases vs with
        | nil => simp at hv
        | cons v vs =>
          simp only [List.map_cons, List.cons.injEq] at hv
          show cond (Nat.beq t o) v (Fr.get (outs.zip vs) t) = .any ∨ aget a t = cond (Nat.beq t o) v (Fr.get (outs.zip vs) t)
          cases hb : Nat.beq t o with
          | true => have := Nat.eq_of_beq_eq_true hb; subst this; exact .inr hv.1
          | false => exact ih vs hv.2
    exact key outs vs ho

theorem awp_piece {E : XE} (hE : E.Ok P) (hm : P.follows .mixedOrders = true) {c : Code} (hd : drawsOk E.n E.D c = true) {f : Fr} (hf : frOk E.n f = true) {outs : List Nat} {h h' : AHeap} {e : Exit} {vs : List AVal}
    (hx : xexec E c XPc f h (pcK outs) = some (e, vs, h')) {Q : AQ} (hQ : ∀ a, Outs E.n outs vs a → Q e a h') : AWp P c Q (f.lst E.n) h := by
  refine awp_mono (xexec_sound hE hm c hd XPc f h (pcK outs) _ (frOk_wf hf) hx) ?_
  rintro e1 a1 h1 ⟨_, g, hg, rfl, hk⟩
  unfold pcK at hk
  cases hk
  exact hQ _ ⟨by simp [Fr.lst], List.map_congr_left fun t _ => aget_lst hg t⟩

/-- A whole function, its body told by pieces. -/
theorem acalls_pieces {i : FuncId} {fn : Func} {c : Code} {args : List AVal} {h : AHeap} {R : AEnd → AHeap → Prop} (hf : P.funcs[i]? = some fn) (hb : fn.body = some c) (hn : Nat.ble args.length fn.ntmps = true)
    (hc : HOk h → AWp P c (fun e a g => ABody P fn h R e a g) ((fargs args 0).lst fn.ntmps) h) : ACalls P i args h R :=
  acalls_of hf hb fun hok => by
    have := hc hok
    rw [fargs_lst (Nat.le_of_ble_eq_true hn)] at this
    exact this

/-- The state behind a call may be told under other names. -/
theorem ACalls.tell {f : FuncId} {args : List AVal} {h : AHeap} {R R' : AEnd → AHeap → Prop} (hc : ACalls P f args h R) (hr : ∀ e h2, R e h2 → h.length ≤ h2.length → ∃ e' h', R' e' h' ∧ h.length ≤ h'.length ∧ ∀ (ρ : Env) (w : World) (u : Ending), Rel ρ h2 w → EndR ρ h2 w e u →
      ∃ ρ', (∀ b, b < h.length → ρ' b = ρ b) ∧ (∀ c, Owned ρ' h' c → Owned ρ h2 c) ∧ Rel ρ' h' w ∧ EndR ρ' h' w e' u) : ACalls P f args h R' := by
  intro ρ w us hR hv
  refine (hc ρ w us hR hv).mono ?_
  rintro e w' ⟨ρ1, h1, e1, ev, R1, hE, hr1⟩
  obtain ⟨e', h', hr', hl, hk⟩ := hr _ _ hr1 ev.ids
  obtain ⟨ρ2, k1, k2, k3, k4⟩ := hk ρ1 w' e R1 hE
  exact ⟨ρ2, h', e', ⟨hl, fun b hb => (k1 b hb).trans (ev.env b hb), ev.size, ev.same, fun c hc hn => ⟨(ev.keep c hc hn).1, fun ho => (ev.keep c hc hn).2 (k2 c ho)⟩, ev.loops⟩, k3, k4, hr'⟩

/-! ### What a call leaves, told anew: the old objects, and one of the new ones -/
section pick
variable {ρ ρ' : Env} {h g H : AHeap} {w : World}
theorem VR.reloc {n : Nat} (he : ∀ b, b < n → ρ' b = ρ b) (hn : n ≤ H.length) (ho : ∀ c, Owned ρ' H c → Owned ρ g c) {v : AVal} {u : Value} (hv : VR ρ g w v u) (hb : Below n v) : VR ρ' H w v u := by
  have lt : ∀ b, b < n → b < H.length := fun b hb => Nat.lt_of_lt_of_le hb hn
  induction hv with
  | any u => exact .any u
  | lit u => exact .lit u
  | ptr b off _ => cases hb with | ptr _ _ hb => rw [← he b hb]; exact .ptr b off (lt b hb)
  | sl k b off len cap _ hl hc => cases hb with | sl _ _ _ _ hb => rw [← he b hb] at hc ⊢; exact .sl k b off len cap (lt b hb) hl hc
  | rop cs c off C T fz hc hn hs _ ih =>
    cases hb with | rop _ hb => exact .rop cs c off C T fz hc (fun h => hn (ho c h)) hs fun i hi => ih i hi (hb _ (List.getElem_mem hi))
  | slZ k b off o _ => cases hb with | sl _ _ _ _ hb => rw [← he b hb]; exact .slZ k b off o (lt b hb)
  | rosZ cs _ a cap => cases hb with | ros _ _ hb => exact .rosZ cs (fun v hv => (hb v hv).mono hn) a cap
  | ros cs c off len cap C T fz hl hc hn hs _ ih =>
    cases hb with | ros _ _ hb => exact .ros cs c off len cap C T fz hl hc (fun h => hn (ho c h)) hs fun i hi => ih i hi (hb _ (List.getElem_mem hi))
  | agg vs us hl _ ih => cases hb with | agg _ hb => exact .agg vs us hl fun i hi => ih i hi (hb _ (List.getElem_mem hi))
  | tup vs us hl _ ih => cases hb with | tup _ hb => exact .tup vs us hl fun i hi => ih i hi (hb _ (List.getElem_mem hi))
  | fn f vs ws us xs hl hl' _ _ ih ih' =>
    cases hb with | fn _ _ _ hb hd => exact .fn f vs ws us xs hl hl' (fun i hi => ih i hi (hb _ (List.getElem_mem hi))) fun i hi => ih' i hi (hd _ (List.getElem_mem hi))
  | ifc t v u _ ih => cases hb with | ifc _ _ hb => exact .ifc t v u (ih hb)
  | map b _ => cases hb with | map _ hb => rw [← he b hb]; exact .map b (lt b hb)
  | yld b _ => cases hb with | yld _ hb => rw [← he b hb]; exact .yld b (lt b hb)
theorem ObjR.reloc {n : Nat} (he : ∀ b, b < n → ρ' b = ρ b) (hn : n ≤ H.length) (ho : ∀ c, Owned ρ' H c → Owned ρ g c) {l : Loc} {o : AObj} (hv : ObjR ρ g w l o) (hb : ObjBelow n o) : ObjR ρ' H w l o := by
  cases o with
  | dead => trivial
  | cells cs => obtain ⟨C, T, fz, a1, a2, a3, a4, a5⟩ := hv; exact ⟨C, T, fz, a1, a2, a3, a4, fun i hi => (a5 i hi).reloc he hn ho (hb _ (List.getElem_mem hi))⟩
  | pred R => exact hv
  | map d es => obtain ⟨C, clock, a1, a2, a3, a4⟩ := hv; exact ⟨C, clock, a1, a2, a3, fun i hi => ⟨(a4 i hi).1, (a4 i hi).2.1, (a4 i hi).2.2.reloc he hn ho (hb _ (List.getElem_mem hi))⟩⟩
  | sit s pos => exact hv
  | mapS d es bs clock => obtain ⟨C, a1, a2, a0, a3, a4⟩ := hv; exact ⟨C, a1, a2, a0, a3, fun i hi => ⟨(a4 i hi).1, (a4 i hi).2.1, (a4 i hi).2.2.reloc he hn ho (hb _ (List.getElem_mem hi))⟩⟩
  | mit mb since seen c0 => obtain ⟨a1, a2, a3⟩ := hv; exact ⟨Nat.lt_of_lt_of_le hb hn, a2, by rw [he mb hb]; exact a3⟩
  | loop st pend a ps x y => obtain ⟨r, a1, a2, a3, a4, a5, a6, a7, a8⟩ := hv; exact ⟨r, a1, a2, a3, a4, a5, a6, a7, fun i hi => (a8 i hi).reloc he hn ho (hb _ (List.getElem_mem hi))⟩
theorem rel_pick (hR : Rel ρ g w) (hok : HOk h) (hg : ∀ c, c < h.length → g[c]? = h[c]?) {bb : Nat} {o : AObj} (hbb : h.length ≤ bb) (hb : g[bb]? = some o) (hd : o ≠ .dead) (hbel : ObjBelow h.length o) :
    ∃ ρ', (∀ b, b < h.length → ρ' b = ρ b) ∧ ρ' h.length = ρ bb ∧ (∀ c, Owned ρ' (h ++ [o]) c → Owned ρ g c) ∧ Rel ρ' (h ++ [o]) w := by
  let ρ' : Env := fun b => if b = h.length then ρ bb else ρ b
  have e1 : ∀ b, b < h.length → ρ' b = ρ b := fun b hb => if_neg (by omega)
  have e2 : ρ' h.length = ρ bb := if_pos rfl
  have old : ∀ b o', (h ++ [o])[b]? = some o' → (b < h.length ∧ g[b]? = some o' ∧ h[b]? = some o' ∧ ρ' b = ρ b) ∨ (b = h.length ∧ o' = o) := fun b o' hbo => by
    rcases Nat.lt_or_ge b h.length with hlt | hge
    · rw [List.getElem?_append_left hlt] at hbo
      exact .inl ⟨hlt, (hg b hlt).trans hbo, hbo, e1 b hlt⟩
    · have : b < (h ++ [o]).length := lt_of_getL hbo
      have hbe : b = h.length := by simp at this; omega
      subst hbe
      simp at hbo; exact .inr ⟨rfl, hbo.symm⟩
  have own : ∀ c, Owned ρ' (h ++ [o]) c → Owned ρ g c := by
    rintro c ⟨b, o', hbo, hdo, hc⟩
    rcases old b o' hbo with ⟨h1, h2, _, h4⟩ | ⟨rfl, rfl⟩
    · exact ⟨b, o', h2, hdo, by rw [← h4]; exact hc⟩
    · exact ⟨bb, o', hb, hdo, by rw [← e2]; exact hc⟩
  refine ⟨ρ', e1, e2, own, fun b o' hbo => ?_, fun b b' o1 o2 h1 h2 d1 d2 hq => ?_⟩
  · rcases old b o' hbo with ⟨h1, h2, h3, h4⟩ | ⟨rfl, rfl⟩
    · rw [h4]; exact (hR.obj b o' h2).reloc e1 (by simp) own (hok b o' h3)
    · rw [e2]; exact (hR.obj bb o' hb).reloc e1 (by simp) own hbel
  · rcases old b o1 h1 with ⟨l1, g1, _, r1⟩ | ⟨rfl, rfl⟩ <;> rcases old b' o2 h2 with ⟨l2, g2, _, r2⟩ | ⟨rfl, rfl⟩
    · rw [r1, r2] at hq; exact hR.inj b b' o1 o2 g1 g2 d1 d2 hq
    · rw [r1, e2] at hq; have := hR.inj b bb o1 _ g1 hb d1 d2 hq; omega
    · rw [r2, e2] at hq; have := hR.inj bb b' _ o2 hb g2 d1 d2 hq; omega
    · rfl
/-- Nothing of the call's own is kept. -/
theorem rel_none (hR : Rel ρ g w) (hok : HOk h) (hg : ∀ c, c < h.length → g[c]? = h[c]?) : (∀ c, Owned ρ h c → Owned ρ g c) ∧ Rel ρ h w := by
  have own : ∀ c, Owned ρ h c → Owned ρ g c := fun c ⟨b, o, hb, hd, he⟩ => ⟨b, o, (hg b (lt_of_getL hb)).trans hb, hd, he⟩
  exact ⟨own, fun b o hb => (hR.obj b o ((hg b (lt_of_getL hb)).trans hb)).reloc (fun _ _ => rfl) (Nat.le_refl _) own (hok b o hb), fun b b' o o' h1 h2 d1 d2 he => hR.inj b b' o o' ((hg b (lt_of_getL h1)).trans h1) ((hg b' (lt_of_getL h2)).trans h2) d1 d2 he⟩
end pick
/-- A map's stamps are told while it is walked over. -/
theorem acalls_freeze {f : FuncId} {args : List AVal} {h : AHeap} {R : AEnd → AHeap → Prop} {mb : Nat} {d : MKey} {es : List (Value × AVal)} (hm : h[mb]? = some (.map d es))
    (hc : ∀ bs clock, bs.length = es.length → bs.Nodup → (∀ s ∈ bs, s < clock) → ACalls P f args (h.set mb (.mapS d es bs clock)) fun e g => g[mb]? = some (.mapS d es bs clock) ∧ R e (g.set mb (.map d es))) : ACalls P f args h R := by
  intro ρ w us hR hv
  obtain ⟨C, clock, hC, hs, hl, hes⟩ := hR.obj mb _ hm
  have hmb := lt_of_getL hm
  let bs := C.toList.map (·.born)
  have hne : AObj.map d es ≠ .dead := by simp
  have e1 : Evo ρ h w ρ (h.set mb (.mapS d es bs clock)) w := evo_set hR hm hne (.refl _) (Nat.le_refl _) (fun _ _ => rfl) (fun r hr => ⟨r, hr⟩)
  have R1 : Rel ρ (h.set mb (.mapS d es bs clock)) w := hR.set hm hne (.refl _) (Nat.le_refl _) (fun _ _ => rfl) (fun r hr => ⟨r, hr⟩)
    ⟨C, hC, hs, rfl, hl, fun i hi => ⟨(hes i hi).1, (hes i hi).2.1, (hes i hi).2.2.evo e1⟩⟩
  have hst := (MapKept.stamped_iff C clock).1 hs
  refine (hc bs clock (by simp [bs, hl]) hst.2.1 (fun s hs => by obtain ⟨x, hx, rfl⟩ := List.mem_map.1 hs; exact hst.1 x hx) ρ w us R1 (hv.evo e1)).mono ?_
  rintro e w' ⟨ρ', h', e', ev, R', hE, hg, hr⟩
  obtain ⟨C', hC', hs', hbs', hl', hes'⟩ := R'.obj mb _ hg
  have hne' : AObj.mapS d es bs clock ≠ .dead := by simp
  have e2 : Evo ρ' h' w' ρ' (h'.set mb (.map d es)) w' := evo_set R' hg hne' (.refl _) (Nat.le_refl _) (fun _ _ => rfl) (fun r hr => ⟨r, hr⟩)
  have R2 : Rel ρ' (h'.set mb (.map d es)) w' := R'.set hg hne' (.refl _) (Nat.le_refl _) (fun _ _ => rfl) (fun r hr => ⟨r, hr⟩)
    ⟨C', clock, hC', hs', hl', fun i hi => ⟨(hes' i hi).1, (hes' i hi).2.1, (hes' i hi).2.2.evo e2⟩⟩
  refine ⟨ρ', _, e', (e1.trans ev).trans e2, R2, ?_, hr⟩
  cases hE with
  | ret v u hvu => exact .ret v u (hvu.evo e2)
  | panic c => exact .panic c

theorem ends_now {h0 h' : AHeap} {v : AVal} {R : AEnd → AHeap → Prop} (hl : h0.length ≤ h'.length) (hr : R (.ret v) h') : ABody.AEnds h0 h' (.ret v) R :=
  ⟨h', .ret v, hl, hr, fun ρ w u hR hE => ⟨Fewer.refl _, hR, hE⟩⟩
theorem awp_region_any {id : Nat} {ops : Array Oper} {Q : AQ} {a : List AVal} {h : AHeap} (hA : AOps P ops Q ops.toList a h) : AWp P (.region id ops false) Q a h := awp_region hA
theorem aset_len {a : List AVal} {d : Option Nat} {v : AVal} : (aset a d v).length = a.length := by cases d <;> simp [aset]
end Go.Proofs.Ytglmofbcooefkaa.AL
