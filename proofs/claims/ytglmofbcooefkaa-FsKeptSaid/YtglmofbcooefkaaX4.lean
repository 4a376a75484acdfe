/- Code, reckoned: what a run comes to. -/
import Derived.Test.YtglmofbcooefkaaX3
namespace Go.Proofs.Ytglmofbcooefkaa.AL
set_option linter.unusedVariables false
set_option linter.unusedSimpArgs false
open Go

variable {ρ ρ' : Env} {h h' : AHeap} {w w' : World} {P : Program}

theorem castD_same {T : Tab} {d : Option Nat} {t : Nat} {v v' : AVal} (hc : castD T d t v = some v') : v' = v := by
  unfold castD at hc
  split at hc
  · cases hc; rfl
  · exact castT_eq hc
theorem castDK_some {R : Type} {T : Tab} {d : Option Nat} {t : Nat} {v : AVal} {K : AVal → Option R} {r : R} (hc : castDK T d t v K = some r) : K v = some r := by
  rw [castDK_eq] at hc
  obtain ⟨v', h1, h2⟩ := Option.bind_eq_some_iff.1 hc
  rw [castD_same h1] at h2; exact h2

/-! ### One step is what the logic asks -/
structure XE.Ok (E : XE) (P : Program) : Prop where
  T : E.T.Ok P
  C : CT.Ok P E.C

theorem xstep_ok {R : Type} {E : XE} (hE : E.Ok P) {o : Oper} {f : Fr} {K0 : AVal → AHeap → Option R} {r : R} {K : List AVal → AHeap → Prop} {Q : AQ} (hw : f.Wf E.n) (hs : xstep E o f h K0 = some r)
    (hK : ∀ v h', K0 v h' = some r → K (aset (f.lst E.n) o.dst v) h') : AOper P o (f.lst E.n) h K Q := by
  unfold xstep at hs
  unfold AOper
  have ev := aEval_lst hw
  have plain : (match quietB E.T o.op with
    | true => xqK E.T o.op (fEval f) h fun v => castDK E.T o.dst o.type v fun v => K0 v h
    | false => xlK E.T o.op (fEval f) h fun v h => castDK E.T o.dst o.type v fun v => K0 v h) = some r → AOp P o.op o.type (f.lst E.n) h fun v h' => K (aset (f.lst E.n) o.dst v) h' := by
    intro hs
    split at hs
    · rw [xqK_eq] at hs
      obtain ⟨v, h1, hs⟩ := Option.bind_eq_some_iff.1 hs
      exact xq_ok hE.T (by rw [ev]; exact h1) (hK _ _ (castDK_some hs))
    · rw [xlK_eq] at hs
      obtain ⟨v, h1, hs⟩ := Option.bind_eq_some_iff.1 hs
      exact xl_ok hE.T (by rw [ev]; exact h1) (hK _ _ (castDK_some hs))
  split
  · rename_i fv args tys he
    simp only [he] at hs
    unfold ACall
    rw [ev]
    split at hs
    · rename_i i vs ws hf
      simp only [hf]
      have evs_eq : evs (f.lst E.n) args = evsF (fEval f) args := by unfold evs evsF; rw [ev]
      split at hs
      · rename_i g hg
        obtain ⟨hn, hc⟩ := hE.C.find hg
        rw [hn] at hs
        obtain ⟨v, h1, hs⟩ := Option.bind_eq_some_iff.1 hs
        refine ⟨hc.1, ?_⟩
        rw [evs_eq]
        refine (hc.2 _ h _ h1).mono ?_
        rintro e h' ⟨rfl, rfl⟩
        exact hK _ _ (castDK_some hs)
      · rename_i g hg
        obtain ⟨hn, hc⟩ := hE.C.find hg
        rw [hn] at hs
        obtain ⟨v, h1, hs⟩ := Option.bind_eq_some_iff.1 hs
        refine ⟨hc.1, ?_⟩
        rw [evs_eq]
        refine (hc.2 _ _ _ h1).mono ?_
        rintro e h' ⟨rfl, rfl⟩
        exact hK _ _ (castDK_some hs)
      · rename_i g hg
        obtain ⟨hn, hc⟩ := hE.C.find hg
        rw [hn] at hs
        obtain ⟨r', h1, hs⟩ := Option.bind_eq_some_iff.1 hs
        refine ⟨hc.1, ?_⟩
        rw [evs_eq]
        refine (hc.2 _ _ _ _ h1).mono ?_
        rintro e h' ⟨rfl, rfl⟩
        exact hK _ _ (castDK_some hs)
      · cases hs
    · cases hs
  · rename_i hn
    refine plain ?_
    split at hs
    · rename_i he; exact (hn _ _ _ he).elim
    · exact hs

theorem xstepQ_ok {R : Type} {E : XE} (hE : E.Ok P) {only : Bool} {o : Oper} {f : Fr} {K0 : AVal → Option R} {r : R} (hw : f.Wf E.n) (hs : xstepQ E only o f h K0 = some r) :
    ∃ v, K0 v = some r ∧ ∀ e : AHeap, (only = false → e = []) → AOpQ P o (f.lst E.n) (h ++ e) v := by
  unfold xstepQ at hs
  unfold AOpQ
  have ev := aEval_lst hw
  split
  · rename_i fv args tys he
    simp only [he] at hs
    rw [ev]
    split at hs
    · rename_i i vs ws hf
      simp only [hf]
      have evs_eq : evs (f.lst E.n) args = evsF (fEval f) args := by unfold evs evsF; rw [ev]
      split at hs
      · rename_i g hg
        obtain ⟨hn, hc⟩ := hE.C.find hg
        rw [hn] at hs
        obtain ⟨v, h1, hs⟩ := Option.bind_eq_some_iff.1 hs
        refine ⟨v, castDK_some hs, fun e _ => ⟨hc.1, ?_⟩⟩
        rw [evs_eq]
        exact hc.2 _ _ _ h1
      · rename_i g hg
        obtain ⟨hn, hc⟩ := hE.C.find hg
        cases only with
        | true => cases hs
        | false =>
          simp only at hs
          rw [hn] at hs
          obtain ⟨v, h1, hs⟩ := Option.bind_eq_some_iff.1 hs
          refine ⟨v, castDK_some hs, fun e he => ⟨hc.1, ?_⟩⟩
          rw [evs_eq, he rfl, List.append_nil]
          exact hc.2 _ _ _ h1
      · cases hs
    · cases hs
  · rename_i hn
    split at hs
    · rename_i he; exact (hn _ _ _ he).elim
    · split at hs
      · rw [xqK_eq] at hs
        obtain ⟨v, h1, hs⟩ := Option.bind_eq_some_iff.1 hs
        exact ⟨v, castDK_some hs, fun e _ => xq_ok hE.T (by rw [ev]; exact xq_more e h1) ⟨rfl, rfl⟩⟩
      · cases hs

theorem lst_same {n d : Nat} {f : Fr} {v : AVal} (hg : f.get d = v) : Fr.lst n ((d, v) :: f) = f.lst n := by
  unfold Fr.lst
  refine List.map_congr_left fun i _ => ?_
  rw [Fr.get_cons]
  by_cases h : i = d
  · subst h; rw [if_pos rfl]; exact hg.symm
  · rw [if_neg h]
theorem wf_same {n d : Nat} {f : Fr} {v : AVal} (hg : f.get d = v) (hw : f.Wf n) : Fr.Wf n ((d, v) :: f) := by
  intro t ht
  rw [Fr.get_cons]
  by_cases h : t = d
  · subst h; rw [if_pos rfl, ← hg]; exact hw _ ht
  · rw [if_neg h]; exact hw _ ht

theorem xguard_ok {R : Type} {n : Nat} {ops : Array Oper} {o : Oper} {f : Fr} {yes no : Fr → Option R} {r : R} (hw : f.Wf n) (hx : xguard ops o f yes no = some r) :
    ∃ g : Fr, g.Wf n ∧ g.lst n = f.lst n ∧ ((Want2 ops o (f.lst n) = some true ∧ yes g = some r) ∨ (Want2 ops o (f.lst n) = some false ∧ no g = some r)) := by
  unfold xguard at hx; unfold Want2
  rcases hg : o.guard with _ | ⟨j, want⟩
  · simp only [hg] at hx ⊢; exact ⟨f, hw, rfl, .inl ⟨by first | trivial | rfl, hx⟩⟩
  · simp only [hg] at hx ⊢
    rcases hd : (ops[j]?).bind (·.dst) with _ | d
    · simp [hd] at hx
    · simp only [hd] at hx ⊢
      rw [aget_lst hw]
      split at hx
      · rename_i b hb
        simp only [hb]
        cases b with
        | true =>
          refine ⟨_, wf_same hb hw, lst_same (n := n) hb, ?_⟩
          cases want with
          | true => exact .inl ⟨rfl, hx⟩
          | false => exact .inr ⟨rfl, hx⟩
        | false =>
          refine ⟨_, wf_same hb hw, lst_same (n := n) hb, ?_⟩
          cases want with
          | true => exact .inr ⟨rfl, hx⟩
          | false => exact .inl ⟨rfl, hx⟩
      · rename_i us hb
        simp only [hb]
        exact ⟨f, hw, rfl, .inr ⟨by first | trivial | rfl, hx⟩⟩
      · cases hx

theorem xops_ok {R : Type} {E : XE} (hE : E.Ok P) {rid : Nat} {ops : Array Oper} {Q : AQ} {K : Fr → AHeap → Option R} {r : R} (hQ : ∀ f h, f.Wf E.n → K f h = some r → Q .normal (f.lst E.n) h) :
    ∀ (l : List Oper) (i : Nat) (f f0 : Fr) (h : AHeap), f.Wf E.n → Weak (f0.lst E.n) (f.lst E.n) → xops E rid ops l i f h K = some r → WOps P ops Q l (f0.lst E.n) h
  | [], i, f, f0, h, hw, hwk, hx => ⟨_, hwk, hQ f h hw hx⟩
  | o :: rest, i, f, f0, h, hw, hwk, hx => by
    refine ⟨f.lst E.n, hwk, ?_⟩
    rw [xops_cons] at hx
    obtain ⟨g, hg, hl, hx⟩ := xguard_ok hw hx
    rcases hx with ⟨hw2, hx⟩ | ⟨hw2, hx⟩
    · refine .inl ⟨hw2, ?_⟩
      rw [← hl]
      refine xstep_ok hE hg hx fun v h' hx => ?_
      rw [fputK_eq] at hx
      obtain ⟨f', h2, hx⟩ := Option.bind_eq_some_iff.1 hx
      obtain ⟨e1, e2⟩ := fput_some h2 hg
      rw [← e1]
      exact xops_ok hE hQ rest (i + 1) _ f' _ (maskO_wf e2 _) (maskO_weak _ _ _) hx
    · refine .inr ⟨hw2, ?_⟩
      rw [fputK_eq] at hx
      obtain ⟨f', h2, hx⟩ := Option.bind_eq_some_iff.1 hx
      obtain ⟨e1, e2⟩ := fput_some h2 hg
      rw [← hl, ← e1]
      exact xops_ok hE hQ rest (i + 1) _ f' _ (maskO_wf e2 _) (maskO_weak _ _ _) hx

theorem xstepV_ok {R : Type} {E : XE} (hE : E.Ok P) {o : Oper} {f : Fr} {K0 : AVal → AHeap → Option R} {r : R} {K : AVal → AHeap → Prop} (hw : f.Wf E.n) (hs : xstep E o f h K0 = some r)
    (hK : ∀ v h', (stillB E o f = true → h' = h) → K0 v h' = some r → K v h') : AOperV P o (f.lst E.n) h K := by
  unfold xstep at hs
  unfold AOperV
  have ev := aEval_lst hw
  split
  · rename_i fv args tys he
    simp only [he] at hs
    rw [ev]
    split at hs
    · rename_i i vs ws hf
      simp only [hf]
      have evs_eq : evs (f.lst E.n) args = evsF (fEval f) args := by unfold evs evsF; rw [ev]
      split at hs
      · rename_i g hg
        obtain ⟨hn, hc⟩ := hE.C.find hg
        rw [hn] at hs
        obtain ⟨v, h1, hs⟩ := Option.bind_eq_some_iff.1 hs
        refine ⟨hc.1, ?_⟩
        rw [evs_eq]
        refine (hc.2 _ h _ h1).mono ?_
        rintro e h' ⟨rfl, rfl⟩
        exact ⟨v, rfl, hK _ _ (fun _ => rfl) (castDK_some hs)⟩
      · rename_i g hg
        obtain ⟨hn, hc⟩ := hE.C.find hg
        rw [hn] at hs
        obtain ⟨v, h1, hs⟩ := Option.bind_eq_some_iff.1 hs
        refine ⟨hc.1, ?_⟩
        rw [evs_eq]
        refine (hc.2 _ _ _ h1).mono ?_
        rintro e h' ⟨rfl, rfl⟩
        exact ⟨v, rfl, hK _ _ (fun _ => rfl) (castDK_some hs)⟩
      · rename_i g hg
        obtain ⟨hn, hc⟩ := hE.C.find hg
        rw [hn] at hs
        obtain ⟨r', h1, hs⟩ := Option.bind_eq_some_iff.1 hs
        refine ⟨hc.1, ?_⟩
        rw [evs_eq]
        refine (hc.2 _ _ _ _ h1).mono ?_
        rintro e h' ⟨rfl, rfl⟩
        refine ⟨r'.1, rfl, hK _ _ (fun hst => ?_) (castDK_some hs)⟩
        unfold stillB at hst
        simp only [he, hf, hg] at hst
        cases hst
      · cases hs
    · cases hs
  · rename_i hn
    split at hs
    · rename_i he; exact (hn _ _ _ he).elim
    · rename_i hnv
      split at hs
      · rw [xqK_eq] at hs
        obtain ⟨v, h1, hs⟩ := Option.bind_eq_some_iff.1 hs
        exact xq_ok hE.T (by rw [ev]; exact h1) (hK _ _ (fun _ => rfl) (castDK_some hs))
      · rename_i hqb
        rw [xlK_eq] at hs
        obtain ⟨v, h1, hs⟩ := Option.bind_eq_some_iff.1 hs
        refine xl_ok hE.T (by rw [ev]; exact h1) (hK _ _ (fun hst => ?_) (castDK_some hs))
        unfold stillB at hst
        split at hst
        · rename_i he; exact (hn _ _ _ he).elim
        · rw [hqb] at hst; cases hst
theorem xchk_ok {R : Type} {E : XE} (hE : E.Ok P) {ops : Array Oper} {f : Fr} {h' : AHeap} {K : Option R} {r : R} (hw : f.Wf E.n) : ∀ {ls : List (Nat × AVal)}, xchk E ops f h' K ls = some r →
    (∀ x ∈ ls, ∃ o, ops[x.1]? = some o ∧ o.guard = none ∧ (freeB o.op = true → AOpQ P o (f.lst E.n) h' x.2)) → K = some r ∧ ∀ x ∈ ls, HoldsAt P ops x (f.lst E.n) h'
  | [], hx, _ => ⟨hx, fun x hm => by cases hm⟩
  | x :: ls, hx, hf => by
    obtain ⟨o, ho, hg, hfr⟩ := hf x (by simp)
    rw [xchk_cons, ho] at hx
    simp only at hx
    cases hb : freeB o.op with
    | true =>
      rw [hb] at hx
      obtain ⟨h1, h2⟩ := xchk_ok hE hw hx fun y hy => hf y (by simp [hy])
      refine ⟨h1, fun y hy => ?_⟩
      rcases List.mem_cons.1 hy with rfl | hy
      · exact ⟨o, ho, hg, hfr hb⟩
      · exact h2 y hy
    | false =>
      rw [hb] at hx
      obtain ⟨u, hq, hx⟩ := Option.bind_eq_some_iff.1 hx
      obtain ⟨h1, h2⟩ := xchk_ok hE hw hx fun y hy => hf y (by simp [hy])
      refine ⟨h1, fun y hy => ?_⟩
      rcases List.mem_cons.1 hy with rfl | hy
      · obtain ⟨v, h3, h4⟩ := xstepQ_ok hE hw (reqC_some hq)
        cases h3
        have := h4 [] (fun _ => rfl)
        rw [List.append_nil] at this
        exact ⟨o, ho, hg, this⟩
      · exact h2 y hy
theorem xopsL_ok {R : Type} {E : XE} (hE : E.Ok P) {ops : Array Oper} {Q : AQ} {K : Fr → AHeap → Option R} {r : R} (hQ : ∀ f h, f.Wf E.n → K f h = some r → Q .normal (f.lst E.n) h) :
    ∀ (T : TP) (ls : List (Nat × AVal)) (f : Fr) (h : AHeap), (∀ k pk, (k, pk) ∈ T → ∀ i ∈ pk, ∃ oi ok, ops[i]? = some oi ∧ ops[k]? = some ok ∧ oi.apart ops ok = true) → f.Wf E.n → (∀ x ∈ ls, HoldsAt P ops x (f.lst E.n) h) →
      xopsL E ops T ls f h K = some r → LOps P ops Q T ls (f.lst E.n) h
  | [], ls, f, h, _, hw, _, hx => hQ f h hw hx
  | (k, pk) :: T, ls, f, h, hsep, hw, hls, hx => by
    rw [xopsL_cons] at hx
    cases ho : ops[k]? with
    | none => rw [ho] at hx; cases hx
    | some o =>
      rw [ho] at hx
      simp only at hx
      refine ⟨o, ho, ?_⟩
      have keep : ∀ (d : Option Nat) (v : AVal), d = o.dst → ∀ x ∈ pendAfter pk ls, HoldsAt P ops x (aset (f.lst E.n) d v) h := fun d v hd x hx => by
        obtain ⟨h1, h2⟩ := pendAfter_mem.1 hx
        subst hd
        refine (hls x h1).put fun oi hoi e he => ?_
        obtain ⟨oi', ok, h3, h4, h5⟩ := hsep k pk (by simp) x.1 h2
        rw [hoi] at h3; cases h3
        rw [ho] at h4; cases h4
        exact (Oper.apart_spec h5).2.2 e he
      obtain ⟨g, hg, hl, hx⟩ := xguard_ok hw hx
      rcases hx with ⟨hw2, hx⟩ | ⟨hw2, hx⟩
      · refine .inl ⟨hw2, ?_⟩
        rw [← hl]
        refine xstepV_ok hE hg hx fun v h' hst hx1 => ?_
        rw [fputK_eq] at hx1
        obtain ⟨f', h2, hx2⟩ := Option.bind_eq_some_iff.1 hx1
        obtain ⟨e1, e2⟩ := fput_some h2 hg
        have kp := keep o.dst v rfl
        rw [← hl, ← e1] at kp
        rw [← e1]
        cases hs : stillB E o g with
        | true =>
          rw [hs] at hx2
          have := hst hs
          subst this
          exact ⟨kp, xopsL_ok hE hQ T _ f' _ (fun k pk hk => hsep k pk (by simp [hk])) e2 kp hx2⟩
        | false =>
          rw [hs] at hx2
          obtain ⟨h3, h4⟩ := xchk_ok hE e2 hx2 fun x hm => by
            obtain ⟨oi, a1, a2, a3⟩ := kp x hm
            exact ⟨oi, a1, a2, fun hf => aOpQ_free hf a3⟩
          exact ⟨h4, xopsL_ok hE hQ T _ f' h' (fun k pk hk => hsep k pk (by simp [hk])) e2 h4 h3⟩
      · refine .inr ⟨hw2, ?_⟩
        rw [fputK_eq] at hx
        obtain ⟨f', h2, hx⟩ := Option.bind_eq_some_iff.1 hx
        obtain ⟨e1, e2⟩ := fput_some h2 hg
        have kp := keep o.dst skipV rfl
        refine ⟨kp, ?_⟩
        rw [← hl, ← e1] at kp
        rw [← hl, ← e1]
        exact xopsL_ok hE hQ T _ f' h (fun k pk hk => hsep k pk (by simp [hk])) e2 kp hx
theorem xreads_ok {R : Type} {E : XE} (hE : E.Ok P) {ops : Array Oper} {Q : AQ} {T : TP} {K : Fr → List (Nat × AVal) → Option R} {r : R}
    (hQ : ∀ f ls, f.Wf E.n → K f ls = some r → (∀ x ∈ ls, HoldsAt P ops x (f.lst E.n) h) → LOps P ops Q T ls (f.lst E.n) h) :
    ∀ (is : List Nat) (f : Fr) (ls : List (Nat × AVal)), f.Wf E.n → xreads E ops h is f ls K = some r → LRd P ops Q T h is ls (f.lst E.n)
  | [], f, ls, hw, hx => fun hls => hQ f ls hw hx hls
  | i :: is, f, ls, hw, hx => by
    rw [xreads_cons] at hx
    split at hx
    · rename_i o ho
      split at hx
      · rename_i hg
        obtain ⟨v, hx, h1⟩ := xstepQ_ok hE hw hx
        have h1 := h1 [] (fun _ => rfl)
        rw [List.append_nil] at h1
        rw [fputK_eq] at hx
        obtain ⟨f', h2, hx⟩ := Option.bind_eq_some_iff.1 hx
        obtain ⟨e1, e2⟩ := fput_some h2 hw
        refine ⟨o, v, ho, hg, h1, ?_⟩
        rw [← e1]
        exact xreads_ok hE hQ is f' _ e2 hx
      · cases hx
    · cases hx

/-- The objects of the head, in order: what the head's ghost says, and what was gathered. -/
def Gath (ops : Array Oper) (S : Sts) (g : Gh) : List Nat → Pd → Prop
  | [], p => p = []
  | i :: A, p => match g i with
    | some D => ∃ p', p = (i, dstOf ops i, D.how, csOf S g i D) :: p' ∧ Gath ops S g A p'
    | none => Gath ops S g A p
theorem gath_heap {ops : Array Oper} {S : Sts} {g : Gh} : ∀ {A : List Nat} {p : Pd}, Gath ops S g A p → objsA S g A = pdHeap p
  | [], p, h => by unfold Gath at h; subst h; rfl
  | i :: A, p, h => by
    unfold Gath at h; unfold objsA
    split at h
    · rename_i D hg
      obtain ⟨p', rfl, h⟩ := h
      simp only [hg, pdHeap, gath_heap h]
    · rename_i hg
      simp only [hg]
      exact gath_heap h
theorem gath_fill {R : Type} {ops : Array Oper} {S : Sts} {g : Gh} {n : Nat} {K : Fr → Option R} {r : R} : ∀ {A : List Nat} {p : Pd} {b : Nat} {f : Fr}, Gath ops S g A p → f.Wf n → pdFill n p b f K = some r →
    ∃ f' : Fr, f'.Wf n ∧ f'.lst n = fillA ops g A b (f.lst n) ∧ K f' = some r
  | [], p, b, f, h, hw, hx => by unfold Gath at h; subst h; exact ⟨f, hw, rfl, hx⟩
  | i :: A, p, b, f, h, hw, hx => by
    unfold Gath at h; unfold fillA
    split at h
    · rename_i D hg
      obtain ⟨p', rfl, h⟩ := h
      simp only [pdFill] at hx
      rw [fputK_eq] at hx
      obtain ⟨f', h2, hx⟩ := Option.bind_eq_some_iff.1 hx
      obtain ⟨e1, e2⟩ := fput_some h2 hw
      have := gath_fill h e2 hx
      rw [e1] at this
      simp only [hg]
      exact this
    · rename_i hg
      simp only [hg]
      exact gath_fill h hw hx
/-- Those that make objects stand in the head's order. -/
def subB : List Nat → List Nat → Bool
  | [], _ => true
  | _ :: _, [] => false
  | a :: A, k :: l => cond (Nat.beq a k) (subB A l) (subB (a :: A) l && !(A.contains k))
theorem gath_none {ops : Array Oper} {S : Sts} {g : Gh} : ∀ {A : List Nat}, (∀ k ∈ A, g k = none) → Gath ops S g A []
  | [], _ => rfl
  | i :: A, h => by unfold Gath; rw [h i (by simp)]; exact gath_none fun k hk => h k (by simp [hk])
theorem gath_app {ops : Array Oper} {S : Sts} {g : Gh} : ∀ {A B : List Nat} {p q : Pd}, Gath ops S g A p → Gath ops S g B q → Gath ops S g (A ++ B) (p ++ q)
  | [], B, p, q, h, hq => by unfold Gath at h; subst h; exact hq
  | i :: A, B, p, q, h, hq => by
    unfold Gath at h
    show Gath ops S g (i :: (A ++ B)) (p ++ q)
    unfold Gath
    split at h
    · rename_i D hg
      obtain ⟨p', rfl, h⟩ := h
      exact ⟨p' ++ q, rfl, gath_app h hq⟩
    · exact gath_app h hq
theorem gath_congr {ops : Array Oper} {S : Sts} {g g' : Gh} : ∀ {A : List Nat} {p : Pd}, (∀ k ∈ A, g k = g' k ∧ ∀ D, csOf S g k D = csOf S g' k D) → Gath ops S g A p → Gath ops S g' A p
  | [], p, _, h => h
  | i :: A, p, hk, h => by
    unfold Gath at h ⊢
    rw [← (hk i (by simp)).1]
    split at h
    · obtain ⟨p', rfl, h⟩ := h
      exact ⟨p', by rw [(hk i (by simp)).2], gath_congr (fun k hk' => hk k (by simp [hk'])) h⟩
    · exact gath_congr (fun k hk' => hk k (by simp [hk'])) h
theorem csOf_other {S : Sts} {g : Gh} {i k : Nat} {d : Option AData} (h2 : stOf S k ≠ some i) (D : AData) : csOf S (gset g i d) k D = csOf S g k D := by
  have e2 : (stOf S k).bind (gset g i d) = (stOf S k).bind g := by
    cases hs : stOf S k with
    | none => rfl
    | some j =>
      rw [hs] at h2
      simp only [Option.bind_some, gset]
      rw [if_neg (fun e => h2 (by rw [e]))]
  unfold csOf
  rw [e2]
theorem gath_get {ops : Array Oper} {S : Sts} {g : Gh} {j : Nat} {d : Option Nat} {m : AMk} {cs : List AVal} : ∀ {A : List Nat} {p : Pd}, Gath ops S g A p → pdGet p j = some (d, m, cs) → j ∈ A ∧ ∃ D, g j = some D ∧ d = dstOf ops j ∧ m = D.how ∧ cs = csOf S g j D
  | [], p, h, hp => by unfold Gath at h; subst h; cases hp
  | i :: A, p, h, hp => by
    unfold Gath at h
    split at h
    · rename_i D hg
      obtain ⟨p', rfl, h⟩ := h
      unfold pdGet at hp
      split at hp
      · rename_i e
        have e := Nat.eq_of_beq_eq_true e
        subst e
        cases hp
        exact ⟨by simp, D, hg, rfl, rfl, rfl⟩
      · obtain ⟨h1, h2⟩ := gath_get h hp
        exact ⟨by simp [h1], h2⟩
    · obtain ⟨h1, h2⟩ := gath_get h hp
      exact ⟨by simp [h1], h2⟩
theorem pdSet_none {j : Nat} {cs : List AVal} : ∀ {p : Pd}, (∀ x ∈ p, x.1 ≠ j) → pdSet p j cs = p
  | [], _ => rfl
  | (i, d, m, c) :: p, h => by
    unfold pdSet
    have h1 : Nat.beq i j = false := by
      cases hb : Nat.beq i j with
      | false => rfl
      | true => exact absurd (Nat.eq_of_beq_eq_true hb) (h (i, d, m, c) (by simp))
    rw [h1]
    simp only
    rw [pdSet_none fun x hx => h x (by simp [hx])]
theorem gath_nums {ops : Array Oper} {S : Sts} {g : Gh} : ∀ {A : List Nat} {p : Pd}, Gath ops S g A p → ∀ x ∈ p, x.1 ∈ A
  | [], p, h, x, hx => by unfold Gath at h; subst h; cases hx
  | i :: A, p, h, x, hx => by
    unfold Gath at h
    split at h
    · obtain ⟨p', rfl, h⟩ := h
      rcases List.mem_cons.1 hx with rfl | hx
      · simp
      · exact List.mem_cons_of_mem _ (gath_nums h x hx)
    · exact List.mem_cons_of_mem _ (gath_nums h x hx)
theorem gath_set {ops : Array Oper} {S : Sts} {g g' : Gh} {j : Nat} {cs : List AVal} : ∀ {A : List Nat} {p : Pd}, A.Nodup → (∀ k ∈ A, g k = g' k ∧ (k ≠ j → ∀ D, csOf S g k D = csOf S g' k D)) → (∀ D, csOf S g' j D = cs) → Gath ops S g A p → Gath ops S g' A (pdSet p j cs)
  | [], p, _, _, _, h => by unfold Gath at h; subst h; exact rfl
  | i :: A, p, hn, hk, hj, h => by
    unfold Gath at h ⊢
    rw [← (hk i (by simp)).1]
    have hn' := List.nodup_cons.1 hn
    have ih : ∀ p, Gath ops S g A p → Gath ops S g' A (pdSet p j cs) := fun p h => gath_set hn'.2 (fun k hk' => hk k (by simp [hk'])) hj h
    split at h
    · obtain ⟨p', rfl, h⟩ := h
      unfold pdSet
      cases hb : Nat.beq i j with
      | true =>
        have e := Nat.eq_of_beq_eq_true hb
        subst e
        refine ⟨p', by rw [hj], ?_⟩
        have h2 := ih p' h
        rwa [pdSet_none] at h2
        exact fun x hx e => hn'.1 (e ▸ gath_nums h x hx)
      | false =>
        exact ⟨pdSet p' j cs, by simp only; rw [(hk i (by simp)).2 (Nat.ne_of_beq_eq_false hb)], ih p' h⟩
    · exact ih p h

theorem xsti_ok {T : Tab} (hT : T.Ok P) {n : Nat} {o : Oper} {f : Fr} {d : Option Nat} {m : AMk} {cs cs' : List AVal} (hw : f.Wf n) (hx : xsti T n o (fEval f) (some (d, m, cs)) some = some cs') :
    m = .ptr ∧ ∃ dj x, d = some dj ∧ o.dst = none ∧ (∀ f args tys, o.op ≠ .call { callee := .value f, args := args, argTypes := tys }) ∧ x ∈ o.op.operands ∧ cs' = cellsV (aEval (f.lst n) x) ∧
      ∀ (H : AHeap) (b : Nat), H[b]? = some (.cells cs) → AOp P o.op o.type (aset (f.lst n) (some dj) (.ptr b 0)) H fun _ G => G = H.set b (.cells (cellsV (aEval (f.lst n) x))) := by
  unfold xsti at hx
  split at hx
  · rename_i t e y ho
    split at hx
    · rename_i dj cs0 hq
      cases hq
      split at hx
      · rename_i hb
        simp only [Bool.and_eq_true] at hb
        obtain ⟨⟨⟨h1, h2⟩, h3⟩, h4⟩ := hb
        have e1 := Nat.eq_of_beq_eq_true h1
        subst e1
        have hlt : e < n := by
          have : Nat.ble (e + 1) n = true := h3
          exact Nat.le_of_ble_eq_true this
        refine ⟨rfl, e, y, rfl, by simpa using h4, fun _ _ _ he => (by rw [ho] at he; cases he), by rw [ho]; simp [Op.operands], ?_⟩
        have ey : aEval (f.lst n) y = fEval f y := by rw [aEval_lst hw]
        have hy : ∀ (v : AVal), aEval (aset (f.lst n) (some e) v) y = aEval (f.lst n) y := fun v => aEval_aset fun d hd he => by
          cases hd
          rw [he] at h2
          have hbe : Nat.beq e e = true := Nat.beq_refl e
          simp [notTmp, hbe] at h2
        have hp : ∀ v : AVal, aEval (aset (f.lst n) (some e) v) (.tmp e) = v := fun v => by
          have : e < (f.lst n).length := by simpa [Fr.lst] using hlt
          simp [aEval, aget, aset, List.getD, this]
        have fin : ∀ (H : AHeap) (b : Nat), H[b]? = some (.cells cs) → ∀ K, aStore P t H (.ptr b 0) (aEval (f.lst n) y) (fun h' => K .any h') → AOp P o.op o.type (aset (f.lst n) (some e) (.ptr b 0)) H K := fun H b hb K hK => by
          rw [ho]
          simp only [AOp]
          rw [hp, hy]; exact hK
        unfold xstiK at hx
        split at hx
        · rename_i ha hs
          unfold sti1 at hx
          obtain ⟨vs, hx, h5⟩ := Option.bind_eq_some_iff.1 hx
          cases h5
          obtain ⟨u, h6, hx⟩ := Option.bind_eq_some_iff.1 hx
          cases hx
          obtain ⟨h7, h8⟩ := req_some h6
          refine ⟨by rw [ey, cellsV_one h7], fun H b hb => fin H b hb _ ?_⟩
          unfold aStore
          simp only [hb, hT.agg ha]
          rw [← ey] at h7
          refine ⟨h7, hT.siz _ _ hs, by omega, ?_⟩
          rw [cellsV_one h7]
          congr 2
          cases cs with
          | nil => simp at h8
          | cons c l => cases l with
            | nil => rfl
            | cons c' l => simp at h8
        · rename_i k ha hs
          obtain ⟨vs, hpt, hx⟩ := Option.bind_eq_some_iff.1 hx
          obtain ⟨us, hx, h5⟩ := Option.bind_eq_some_iff.1 hx
          cases h5
          unfold stin at hx
          obtain ⟨u, h6, hx⟩ := Option.bind_eq_some_iff.1 hx
          cases hx
          obtain ⟨h7, h8, h9⟩ := req_some h6
          rw [← ey] at hpt
          have hc : cellsV (aEval (f.lst n) y) = cs' := by unfold cellsV; rw [hpt]
          refine ⟨hc.symm, fun H b hb => fin H b hb _ ?_⟩
          unfold aStore
          simp only [hb, hT.agg ha, hpt]
          refine ⟨h7, by rw [hT.siz _ _ hs, h8], by omega, ?_⟩
          rw [hc]
          congr 2
          unfold splice
          rw [List.take_zero, List.nil_append, List.drop_of_length_le (by omega), List.append_nil]
        · cases hx
      · cases hx
    · cases hx
  · cases hx

/-- Where the head stands: 'A1' are behind, 'A2' ahead. -/
theorem xopsQ_ok {R : Type} {E : XE} (hE : E.Ok P) {md : Region.Mode} {ops : Array Oper} {A : List Nat} {S : Sts} (hS : StsOk md ops A S) {r : R} {K : Fr → Pd → Option R} {K' : List AVal → Gh → Prop}
    (hQ : ∀ f p g, f.Wf E.n → Gath ops S g A p → K f p = some r → K' (f.lst E.n) g) :
    ∀ (l : List Nat) (A1 A2 : List Nat) (f : Fr) (p : Pd) (g : Gh), A = A1 ++ A2 → A.Nodup → subB A2 l = true → (∀ k ∈ A1, k ∉ l) → l.Nodup → f.Wf E.n → Gath ops S g A1 p → (∀ k ∈ l, g k = none) → (∀ k ∈ A2, g k = none) →
      (∀ t j, obOf S t = some j → g j = none → g t = none) → xopsQ E ops A S h l f p K = some r → AOps2 P ops A S h K' l (f.lst E.n) g
  | [], A1, A2, f, p, g, hA, hAn, hs, h1, hln, hw, hg, hn, hn2, hst, hx => by
    have h0 : A2 = [] := by cases A2 with
      | nil => rfl
      | cons x l => simp [subB] at hs
    subst h0
    rw [List.append_nil] at hA
    subst hA
    exact hQ f p g hw hg hx
  | i :: rest, A1, A2, f, p, g, hA, hAn, hs, h1, hln, hw, hg, hn, hn2, hst, hx => by
    rw [xopsQ_cons] at hx
    unfold AOps2
    have hi1 : i ∉ A1 := fun hk => h1 i hk (by simp)
    have hir : i ∉ rest := (List.nodup_cons.1 hln).1
    have hrn : rest.Nodup := (List.nodup_cons.1 hln).2
    have h1' : ∀ k ∈ A1, k ∉ rest := fun k hk hkr => h1 k hk (by simp [hkr])
    have hgi : g i = none := hn i (by simp)
    have hnr : ∀ k ∈ rest, g k = none := fun k hk => hn k (by simp [hk])
    have hA1n : A1.Nodup := by rw [hA] at hAn; exact (List.nodup_append.1 hAn).1
    have hsame : ∀ d k, k ≠ i → gset g i d k = g k := fun d k hk => by unfold gset; rw [if_neg hk]
    -- where 'i' stands
    have cases2 : (∃ A3, A2 = i :: A3 ∧ subB A3 rest = true) ∨ (i ∉ A2 ∧ subB A2 rest = true) := by
      cases A2 with
      | nil => exact .inr ⟨by simp, by cases rest <;> rfl⟩
      | cons a A3 =>
        unfold subB at hs
        cases hb : Nat.beq a i with
        | true =>
          rw [hb, cond_true] at hs
          have := Nat.eq_of_beq_eq_true hb
          subst this
          exact .inl ⟨A3, rfl, hs⟩
        | false =>
          rw [hb, cond_false] at hs
          simp only [Bool.and_eq_true, Bool.not_eq_true'] at hs
          refine .inr ⟨fun hm => ?_, hs.1⟩
          rcases List.mem_cons.1 hm with e | e
          · exact Nat.ne_of_beq_eq_false hb e.symm
          · have h2 := hs.2
            simp at h2; exact h2 e
    split at hx
    · rename_i o ho
      rw [ho]
      simp only
      -- nothing is made here: the rest, 'i' counted as behind
      have go : ∀ (f' : Fr) , f'.Wf E.n → xopsQ E ops A S h rest f' p K = some r → AOps2 P ops A S h K' rest (f'.lst E.n) g := by
        intro f' hw' hx'
        rcases cases2 with ⟨A3, e, h3⟩ | ⟨_, h3⟩
        · have hg1 : Gath ops S g (A1 ++ [i]) p := by
            have := gath_app hg (gath_none (ops := ops) (S := S) (g := g) (A := [i]) (fun k hk => by
              obtain rfl : k = i := by simpa using hk
              exact hgi))
            rwa [List.append_nil] at this
          exact xopsQ_ok hE hS hQ rest (A1 ++ [i]) A3 f' p g (by rw [hA, e]; simp) hAn h3 (fun k hk => by
            rcases List.mem_append.1 hk with hk | hk
            · exact h1' k hk
            · obtain rfl : k = i := by simpa using hk
              exact hir) hrn hw' hg1 hnr (fun k hk => hn2 k (by rw [e]; simp [hk])) hst hx'
        · exact xopsQ_ok hE hS hQ rest A1 A2 f' p g hA hAn h3 h1' hrn hw' hg hnr hn2 hst hx'
      obtain ⟨f1, hf1, hl1, hx⟩ := xguard_ok hw hx
      rcases hx with ⟨hw2, hx⟩ | ⟨hw2, hx⟩
      · split at hx
        · rename_i j hob
          obtain ⟨hiA, hstj, hjA, _⟩ := hS.fwd _ _ hob
          have h3 : i ∉ A2 ∧ subB A2 rest = true := by
            rcases cases2 with ⟨A3, e, _⟩ | h3
            · exact absurd (by rw [hA, e]; simp) hiA
            · exact h3
          rw [xsti_eq] at hx
          obtain ⟨cs', hc, hx⟩ := Option.bind_eq_some_iff.1 hx
          cases hp : pdGet p j with
          | none =>
            rw [hp] at hc
            unfold xsti at hc
            split at hc <;> cases hc
          | some q =>
            obtain ⟨d, m, cs⟩ := q
            rw [hp] at hc
            obtain ⟨hm, dj, x, hd, hdst, hnc, hxo, hcs, hop⟩ := xsti_ok hE.T hf1 hc
            obtain ⟨hjA1, D, hgj, e1, e2, e3⟩ := gath_get hg hp
            have hcsD : cs = D.cs := by
              rw [e3]; unfold csOf; rw [hstj]; simp only [Option.bind_some]; rw [hgi]
            have hji : j ≠ i := fun e => hi1 (e ▸ hjA1)
            have hg2 : Gath ops S (gset g i (some ⟨.ptr, cs'⟩)) A1 (pdSet p j cs') := by
              refine gath_set hA1n (fun k hk => ⟨(hsame _ k (fun e => hi1 (e ▸ hk))).symm, fun hkj D => (csOf_other (fun e => hkj ?_) D).symm⟩) (fun D => ?_) hg
              · have := hS.bwd _ _ e
                rw [hob] at this; cases this; rfl
              · unfold csOf; rw [hstj]; simp [gset]
            have ih := xopsQ_ok hE hS hQ rest A1 A2 f1 (pdSet p j cs') (gset g i (some ⟨.ptr, cs'⟩)) hA hAn h3.2 h1' hrn hf1 hg2 (fun k hk => by rw [hsame _ k (fun e => hir (e ▸ hk))]; exact hnr k hk)
              (fun k hk => by rw [hsame _ k (fun e => h3.1 (e ▸ hk))]; exact hn2 k hk) (fun t q htq hq => by
                by_cases hti : t = i
                · subst hti
                  rw [hob] at htq; cases htq
                  rw [hsame _ _ hji, hgj] at hq; cases hq
                · rw [hsame _ t hti]
                  refine hst t q htq ?_
                  by_cases hqi : q = i
                  · subst hqi; exact hgi
                  · rwa [hsame _ q hqi] at hq) hx
            refine ⟨skipV, some ⟨.ptr, cs'⟩, .inr (.inr ⟨hw2, j, D, dj, x, hob, hgj, by rw [← e2, hm], by rw [← e1, hd], hdst, hnc, hxo, ?_, ?_⟩), ?_⟩
            · rw [← hl1, hcs]
            · rw [← hl1]; rw [hcsD] at hop; exact hop
            · rw [hdst, ← hl1]; exact ih
        · rename_i hob
          split at hx
          · rename_i hc
            have hiA : i ∈ A := by simpa using hc
            have hi2 : ∃ A3, A2 = i :: A3 ∧ subB A3 rest = true := by
              rcases cases2 with h | ⟨h, _⟩
              · exact h
              · rw [hA] at hiA
                rcases List.mem_append.1 hiA with e | e
                · exact absurd e hi1
                · exact absurd e h
            obtain ⟨A3, e, h3⟩ := hi2
            rw [xA_bind] at hx
            obtain ⟨D, hD, hx⟩ := Option.bind_eq_some_iff.1 hx
            cases hsb : shutB A D.cs with
            | false => rw [hsb] at hx; cases hx
            | true =>
              rw [hsb, cond_true, fputK_eq] at hx
              obtain ⟨f', h2, hx⟩ := Option.bind_eq_some_iff.1 hx
              obtain ⟨e1, e2⟩ := fput_some h2 hf1
              have hd : dstOf ops i = o.dst := by unfold dstOf; rw [ho]; rfl
              have hself : gset g i (some D) i = some D := by unfold gset; rw [if_pos rfl]
              have hsti : ∀ k, stOf S k ≠ some i := fun k hk => by
                have := hS.bwd _ _ hk
                rw [hob] at this; cases this
              have hg2 : Gath ops S (gset g i (some D)) (A1 ++ [i]) (p ++ [(i, o.dst, D.how, D.cs)]) := by
                refine gath_app (gath_congr (fun k hk => ⟨(hsame _ k (fun e => hi1 (e ▸ hk))).symm, fun D' => (csOf_other (hsti k) D').symm⟩) hg) ?_
                unfold Gath
                rw [hself]
                have hcs : csOf S (gset g i (some D)) i D = D.cs := by
                  rw [csOf_other (hsti i)]
                  unfold csOf
                  cases hs2 : stOf S i with
                  | none => rfl
                  | some t =>
                    simp only [Option.bind_some]
                    rw [hst t i (hS.bwd _ _ hs2) hgi]
                exact ⟨[], by rw [hd, hcs], rfl⟩
              have hA2n : A2.Nodup := by rw [hA] at hAn; exact (List.nodup_append.1 hAn).2.1
              have hi3 : i ∉ A3 := by rw [e] at hA2n; exact (List.nodup_cons.1 hA2n).1
              have ih := xopsQ_ok hE hS hQ rest (A1 ++ [i]) A3 f' _ (gset g i (some D)) (by rw [hA, e]; simp) hAn h3 (fun k hk => by
                rcases List.mem_append.1 hk with hk | hk
                · exact h1' k hk
                · obtain rfl : k = i := by simpa using hk
                  exact hir) hrn e2 hg2 (fun k hk => by rw [hsame _ k (fun e => hir (e ▸ hk))]; exact hnr k hk) (fun k hk => by rw [hsame _ k (fun e => hi3 (e ▸ hk))]; exact hn2 k (by rw [e]; simp [hk]))
                (fun t q htq hq => by
                  have hti : t ≠ i := fun e => by subst e; rw [hob] at htq; cases htq
                  rw [hsame _ t hti]
                  refine hst t q htq ?_
                  by_cases hqi : q = i
                  · subst hqi; exact hgi
                  · rwa [hsame _ q hqi] at hq) hx
              obtain ⟨hn1, hop⟩ := xA_ok (ty := o.type) (a := f1.lst E.n) hE.T (by rw [aEval_lst hf1]; exact hD)
              refine ⟨.any, some D, .inl ⟨hw2, hob, ⟨hiA, fun h2 => ?_⟩, rfl, hn1, fun e => ?_⟩, ?_⟩
              · unfold shutB at hsb
                have : Nat.ble 2 A.length = true := (by rw [Nat.ble_eq]; exact h2)
                rw [this] at hsb; exact hsb
              · rw [← hl1]; exact hop _
              · rw [← hl1, ← e1]; exact ih
          · obtain ⟨v, hx, hv⟩ := xstepQ_ok hE hf1 hx
            rw [fputK_eq] at hx
            obtain ⟨f', h2, hx⟩ := Option.bind_eq_some_iff.1 hx
            obtain ⟨e1, e2⟩ := fput_some h2 hf1
            have ih := go f' e2 hx
            refine ⟨v, none, .inl ⟨hw2, hob, trivial, fun e he => ?_⟩, ?_⟩
            · rw [← hl1]
              refine hv e fun hb => he ?_
              cases A with
              | nil => rfl
              | cons x l => simp at hb
            · rw [gset_none hgi, ← hl1, ← e1]; exact ih
      · rw [fputK_eq] at hx
        obtain ⟨f', h2, hx⟩ := Option.bind_eq_some_iff.1 hx
        obtain ⟨e1, e2⟩ := fput_some h2 hf1
        have ih := go f' e2 hx
        refine ⟨skipV, none, .inr (.inl ⟨hw2, rfl, rfl⟩), ?_⟩
        rw [gset_none hgi, ← hl1, ← e1]; exact ih
    · cases hx
theorem xfl1_ok {T : Tab} (hT : T.Ok P) {n : Nat} {o : Oper} {f : Fr} {v : AVal} (hw : f.Wf n) (hx : xfl1 T o (fEval f) some = some v) : FlV P o (f.lst n) v := by
  unfold xfl1 at hx
  unfold FlV
  rw [aEval_lst hw]
  split at hx
  · cases hx
  · rename_i hg
    refine ⟨hg, ?_⟩
    split at hx
    · rename_i x ho; cases hx; exact .inl ⟨x, .inl ho, rfl⟩
    · rename_i x ho; cases hx; exact .inl ⟨x, .inr ho, rfl⟩
    · rename_i op t x y yt ho
      split at hx
      · rename_i k a k' b h1 h2
        rw [xBinK_eq] at hx
        obtain ⟨z, hz, hx⟩ := Option.bind_eq_some_iff.1 hx
        cases hx
        exact .inr ⟨op, t, x, y, yt, k, a, k', b, ho, h1, h2, xBin_ok hT hz rfl⟩
      · cases hx
    · cases hx
theorem xflt_ok {R : Type} {T : Tab} (hT : T.Ok P) {n : Nat} {ops : Array Oper} {K : Fr → Option R} {r : R} : ∀ (l : List Nat) (f : Fr), f.Wf n → xflt T n ops l f K = some r → ∃ f' : Fr, f'.Wf n ∧ FltR P ops l (f.lst n) (f'.lst n) ∧ K f' = some r
  | [], f, hw, hx => ⟨f, hw, rfl, hx⟩
  | i :: l, f, hw, hx => by
    rw [xflt_cons] at hx
    split at hx
    · rename_i o ho
      rw [xfl1_eq] at hx
      obtain ⟨v, h1, hx⟩ := Option.bind_eq_some_iff.1 hx
      rw [fputK_eq] at hx
      obtain ⟨f', h2, hx⟩ := Option.bind_eq_some_iff.1 hx
      obtain ⟨e1, e2⟩ := fput_some h2 hw
      obtain ⟨f2, h3, h4, h5⟩ := xflt_ok hT l f' e2 hx
      rw [e1] at h4
      exact ⟨f2, h3, ⟨o, v, ho, xfl1_ok hT hw h1, h4⟩, h5⟩
    · cases hx

/-! ### Code -/
abbrev XK (R : Type) := Exit → Fr → AHeap → Option R
abbrev XS := ∀ (R : Type), Fr → AHeap → XK R → Option R
abbrev XR := Exit × Fr × AHeap
def ofst (a b : Option Nat) : Option Nat := match a with
  | some i => some i
  | none => b
/-- The first region's number. -/
noncomputable def firstR (c : Code) : Option Nat := Code.rec (motive := fun _ => Option Nat) none (fun id _ _ => some id) (fun _ _ a b => ofst a b) (fun _ _ _ a b => ofst a b) (fun _ _ a => a) (fun _ a => a) (fun _ _ _ _ a b => ofst a b)
  (fun _ => none) (fun _ a => a) (fun _ => none) (fun _ => none) none (fun _ => none) c
noncomputable def maskAt (l : List (Nat × List Nat)) (k : Option Nat) (f : Fr) : Fr := match k with
  | some k => maskO f (findN l k)
  | none => f
noncomputable def atSeq {R : Type} (l : List (Nat × List Nat)) (k : Option Nat) (f : Fr) (go : Fr → Option R) : Option R := match k with
  | some k => atMask (findN l k) f go
  | none => go f
theorem atSeq_eq {R : Type} (l : List (Nat × List Nat)) (k : Option Nat) (f : Fr) (go : Fr → Option R) : atSeq l k f go = go (maskAt l k f) := by
  cases k with
  | none => rfl
  | some k => exact atMask_eq _ _ _
/-- A round again and again. -/
def xiter (mask : Fr → Fr) (step : Fr → AHeap → Option XR) : Nat → Fr → AHeap → Option XR
  | 0, _, _ => none
  | m + 1, f, h => (step f h).bind fun r => match r with
    | (.normal, f', h') => xiter mask step m (mask f') h'
    | r => some r
open Classical in
noncomputable def xlim {α : Type} (g : Nat → Option α) : Option α := if h : ∃ r m, g m = some r then some h.choose else none
def rets {R : Type} (K : XK R) (r : XR) : Option R := K r.1 r.2.1 r.2.2
noncomputable def xloop (mask : Fr → Fr) (step : Fr → AHeap → Option XR) (f : Fr) (h : AHeap) : Option XR := xlim fun m => xiter mask step m f h
def xdone (e : Exit) (f : Fr) (h : AHeap) : Option XR := some (e, f, h)
/-- Runs from labels. -/
abbrev XL := Nat → Option XS
noncomputable def maskJ (E : XE) (l : Nat) (f : Fr) : Fr := maskO f (findN E.Ml (1000000 + l))
/-- At a jump inside: what the label's code looks at. -/
def mkM (lab : XL) (mask : Nat → Fr → Fr) (q : XR) : XR := match q with
  | (.goto l, f, h) => match lab l with
    | some _ => (.goto l, mask l f, h)
    | none => (.goto l, f, h)
  | q => q
/-- Jumps inside a scope, until one leads out. -/
def xhop (lab : XL) (mask : Nat → Fr → Fr) : Nat → XR → Option XR
  | 0, _ => none
  | m + 1, (e, f, h) => match e with
    | .goto l => match lab l with
      | some r => (r XR f h xdone).bind fun q => xhop lab mask m (mkM lab mask q)
      | none => some (.goto l, f, h)
    | e => some (e, f, h)
noncomputable def xgos (lab : XL) (mask : Nat → Fr → Fr) (r : XR) : Option XR := xlim fun m => xhop lab mask m r
noncomputable def xjumpL (E : XE) (lab : XL) (l : Nat) (R : Type) (f : Fr) (h : AHeap) (K : XK R) : Option R := jn ((xgos lab (maskJ E) (.goto l, maskJ E l f, h)).bind (rets K))
noncomputable def xscK (E : XE) (lab : XL) {R : Type} (K : XK R) : XK R := fun e f h => match e with
  | .goto l => match lab l with
    | some _ => xjumpL E lab l R f h K
    | none => K (.goto l) f h
  | e => K e f h
noncomputable def xex (E : XE) (c : Code) : XS × XL := Code.rec (motive := fun _ => XS × XL)
  (fun R f h K => K .normal f h, fun _ => none)
  (fun id ops draw => (fun R f h K => match draw with
    | false => xops E id ops ops.toList 0 f h fun f h => K .normal f h
    | true => match findN E.D id with
      | some D => match D.L with
        | [] => xflt E.T E.n ops D.F f fun f => xopsQ E ops D.A D.S h D.Hd f [] fun f p => pdFill E.n p h.length f fun f => xops E id ops (opsAt ops D.Tl) 500 f (pdOn h p) fun f h => K .normal f h
        | _ :: _ => xflt E.T E.n ops D.F f fun f => xreads E ops h D.L f [] fun f ls => xopsL E ops D.T ls f h fun f h => K .normal f h
      | none => none, fun _ => none))
  (fun _ b ia ib => (fun R f h K => ia.1 R f h fun e f h => match e with
    | .normal => atSeq E.Ms (firstR b) f fun f => ib.1 R f h K
    | e => K e f h, fun l => match ia.2 l with
    | some r => some fun R f h K => r R f h fun e f h => match e with
      | .normal => atSeq E.Ms (firstR b) f fun f => ib.1 R f h K
      | e => K e f h
    | none => ib.2 l))
  (fun c _ _ ia ib => (fun R f h K => match fEval f c with
    | .lit (.bool b) => cond b (ia.1 R f h K) (ib.1 R f h K)
    | _ => none, fun _ => none))
  (fun id _ ia => (fun R f h K => ia.1 R f h fun e f h => match e with
    | .exit id' => match Nat.beq id' id with
      | true => K .normal f h
      | false => K (.exit id') f h
    | e => K e f h, fun _ => none))
  (fun c ia => (fun R f h K => jn ((xloop (maskAt E.Ml (firstR c)) (fun f h => ia.1 XR f h fun e f h => some (e, f, h)) (maskAt E.Ml (firstR c) f) h).bind (rets K)), fun _ => none))
  (fun _ _ _ _ _ _ => (fun R f h K => none, fun _ => none))
  (fun id => (fun R f h K => K (.exit id) f h, fun _ => none))
  (fun _ ia => (fun R f h K => ia.1 R f h (xscK E ia.2 K), fun _ => none))
  (fun l' => (fun R f h K => K .normal f h, fun l => match Nat.beq l' l with
    | true => some fun R f h K => K .normal f h
    | false => none))
  (fun l => (fun R f h K => K (.goto l) f h, fun _ => none))
  (fun R f h K => K .ret f h, fun _ => none)
  (fun _ => (fun R f h K => none, fun _ => none)) c
noncomputable def xexec (E : XE) (c : Code) : XS := (xex E c).1
noncomputable def xlab (E : XE) (c : Code) : XL := (xex E c).2
noncomputable def xjump (E : XE) (c : Code) (l : Nat) (R : Type) (f : Fr) (h : AHeap) (K : XK R) : Option R := xjumpL E (xlab E c) l R f h K

/-- A run, and then what is behind it. -/
theorem xguard_bind {R S : Type} {ops : Array Oper} {o : Oper} {f : Fr} {yes no : Fr → Option S} {k : S → Option R} :
    (xguard ops o f yes no).bind k = xguard ops o f (fun f => (yes f).bind k) (fun f => (no f).bind k) := by
  unfold xguard
  rcases hg : o.guard with _ | ⟨j, want⟩
  · rfl
  · simp only
    rcases hd : (ops[j]?).bind (·.dst) with _ | d
    · rfl
    · simp only
      split
      · rename_i b _
        cases b <;> cases want <;> rfl
      · rfl
      · rfl
theorem xops_bind {R : Type} {E : XE} (hN : CT.Nat E.C) {rid : Nat} {ops : Array Oper} {K : Fr → AHeap → Option R} : ∀ (l : List Oper) (i : Nat) (f : Fr) (h : AHeap),
    xops E rid ops l i f h K = (xops E rid ops l i f h fun f h => some (f, h)).bind fun r => K r.1 r.2
  | [], i, f, h => rfl
  | o :: rest, i, f, h => by
    rw [xops_cons, xops_cons, xguard_bind]
    congr 1
    · funext g
      rw [xstep_bind hN, xstep_bind hN (K := fun v h => fputK E.n g o.dst v fun f => xops E rid ops rest (i + 1) (maskO f (findN E.Mo (rid * 1000 + (i + 1)))) h fun f h => some (f, h)), Option.bind_assoc]
      congr 1; funext r
      rw [fputK_eq, fputK_eq, Option.bind_assoc]
      congr 1; funext f'
      exact xops_bind hN rest _ _ _
    · funext g
      rw [fputK_eq, fputK_eq, Option.bind_assoc]
      congr 1; funext f'
      exact xops_bind hN rest _ _ _
def mkQ (f : Fr) (p : Pd) : Option (Fr × Pd) := some (f, p)
theorem xopsQ_bind {R : Type} {E : XE} (hN : CT.Nat E.C) {ops : Array Oper} {A : List Nat} {S : Sts} {h : AHeap} {K : Fr → Pd → Option R} : ∀ (l : List Nat) (f : Fr) (p : Pd),
    xopsQ E ops A S h l f p K = (xopsQ E ops A S h l f p mkQ).bind fun r => K r.1 r.2
  | [], f, p => rfl
  | i :: rest, f, p => by
    rw [xopsQ_cons, xopsQ_cons]
    rcases ops[i]? with _ | o
    · rfl
    · simp only
      rw [xguard_bind]
      congr 1
      · funext g
        split
        · rw [xsti_eq, xsti_eq (K := fun cs => xopsQ E ops A S h rest g (pdSet p _ cs) mkQ), Option.bind_assoc]
          congr 1; funext cs
          exact xopsQ_bind hN rest _ _
        · split
          · rw [xA_bind, xA_bind (K := fun m cs => cond (shutB A cs) (fputK E.n g o.dst .any fun f => xopsQ E ops A S h rest f (p ++ [(i, o.dst, m, cs)]) mkQ) none), Option.bind_assoc]
            congr 1; funext D
            cases shutB A D.cs with
            | false => rfl
            | true =>
              simp only [cond_true]
              rw [fputK_eq, fputK_eq, Option.bind_assoc]
              congr 1; funext f'
              exact xopsQ_bind hN rest _ _
          · rw [xstepQ_bind hN, xstepQ_bind hN (K := fun v => fputK E.n g o.dst v fun f => xopsQ E ops A S h rest f p mkQ), Option.bind_assoc]
            congr 1; funext r
            rw [fputK_eq, fputK_eq, Option.bind_assoc]
            congr 1; funext f'
            exact xopsQ_bind hN rest _ _
      · funext g
        rw [fputK_eq, fputK_eq, Option.bind_assoc]
        congr 1; funext f'
        exact xopsQ_bind hN rest _ _
theorem xflt_bind {R : Type} {T : Tab} {n : Nat} {ops : Array Oper} {K : Fr → Option R} : ∀ (l : List Nat) (f : Fr), xflt T n ops l f K = (xflt T n ops l f some).bind K
  | [], f => rfl
  | i :: l, f => by
    rw [xflt_cons, xflt_cons]
    rcases ops[i]? with _ | o
    · rfl
    · simp only
      rw [xfl1_eq, xfl1_eq (K := fun v => fputK n f o.dst v fun f => xflt T n ops l f some), Option.bind_assoc]
      congr 1; funext v
      rw [fputK_eq, fputK_eq, Option.bind_assoc]
      congr 1; funext f'
      exact xflt_bind l _
theorem pdFill_bind {R : Type} {n : Nat} {K : Fr → Option R} : ∀ (p : Pd) (b : Nat) (f : Fr), pdFill n p b f K = (pdFill n p b f some).bind K
  | [], b, f => rfl
  | (i, d, m, cs) :: p, b, f => by
    simp only [pdFill]
    rw [fputK_eq, fputK_eq, Option.bind_assoc]
    congr 1; funext f'
    exact pdFill_bind p _ _
theorem xreads_bind {R : Type} {E : XE} (hN : CT.Nat E.C) {ops : Array Oper} {h : AHeap} {K : Fr → List (Nat × AVal) → Option R} : ∀ (l : List Nat) (f : Fr) (ls : List (Nat × AVal)), xreads E ops h l f ls K = (xreads E ops h l f ls fun f ls => some (f, ls)).bind fun r => K r.1 r.2
  | [], f, ls => rfl
  | i :: rest, f, ls => by
    rw [xreads_cons, xreads_cons]
    cases ops[i]? with
    | none => rfl
    | some o =>
      simp only
      cases o.guard with
      | some g => rfl
      | none =>
        simp only
        rw [xstepQ_bind hN, xstepQ_bind hN false o f h (fun v => fputK E.n f o.dst v fun f => xreads E ops h rest f (ls ++ [(i, v)]) fun f ls => some (f, ls)), Option.bind_assoc]
        congr 1; funext v
        rw [fputK_eq, fputK_eq, Option.bind_assoc]
        congr 1; funext f'
        exact xreads_bind hN rest _ _
theorem xchk_bind {R S : Type} {E : XE} {ops : Array Oper} {f : Fr} {h : AHeap} {K : Option S} {k : S → Option R} : ∀ (ls : List (Nat × AVal)), (xchk E ops f h K ls).bind k = xchk E ops f h (K.bind k) ls
  | [] => rfl
  | r :: ls => by
    rw [xchk_cons, xchk_cons]
    cases ops[r.1]? with
    | none => rfl
    | some o =>
      simp only
      cases freeB o.op with
      | true => exact xchk_bind ls
      | false =>
        simp only
        rw [Option.bind_assoc]
        congr 1; funext u
        exact xchk_bind ls
theorem xopsL_bind {R : Type} {E : XE} (hN : CT.Nat E.C) {ops : Array Oper} {K : Fr → AHeap → Option R} : ∀ (T : TP) (ls : List (Nat × AVal)) (f : Fr) (h : AHeap), xopsL E ops T ls f h K = (xopsL E ops T ls f h fun f h => some (f, h)).bind fun r => K r.1 r.2
  | [], ls, f, h => rfl
  | x :: T, ls, f, h => by
    rw [xopsL_cons, xopsL_cons]
    cases ops[x.1]? with
    | none => rfl
    | some o =>
      simp only
      rw [xguard_bind]
      congr 1
      · funext f
        refine (xstep_bind hN o f h _).trans (Eq.trans ?_ (congrArg (Option.bind · _) (xstep_bind hN o f h _)).symm)
        rw [Option.bind_assoc]
        congr 1; funext r
        rw [fputK_eq, fputK_eq, Option.bind_assoc]
        congr 1; funext f'
        cases stillB E o f with
        | true => exact xopsL_bind hN T _ _ _
        | false =>
          simp only
          rw [xchk_bind]
          congr 1
          exact xopsL_bind hN T _ _ _
      · funext f
        rw [fputK_eq, fputK_eq, Option.bind_assoc]
        congr 1; funext f'
        exact xopsL_bind hN T _ _ _
def XNat (r : XS) : Prop := ∀ (R : Type) (f : Fr) (h : AHeap) (K : XK R), r R f h K = (r XR f h xdone).bind (rets K)
theorem xex_bind (E : XE) (hN : CT.Nat E.C) (c : Code) : XNat (xexec E c) ∧ ∀ l r, xlab E c l = some r → XNat r := by
  induction c with
  | skip => exact ⟨fun R f h K => rfl, fun l r hr => by cases hr⟩
  | region id ops draw =>
    refine ⟨?_, fun l r hr => by cases hr⟩
    intro R f h K
    cases draw with
    | false =>
      show xops E id ops ops.toList 0 f h _ = (xops E id ops ops.toList 0 f h _).bind _
      rw [xops_bind hN, xops_bind hN (K := fun f h => xdone .normal f h), Option.bind_assoc]; rfl
    | true =>
      show (match findN E.D id with
        | some D => match D.L with
          | [] => xflt E.T E.n ops D.F f fun f => xopsQ E ops D.A D.S h D.Hd f [] fun f p => pdFill E.n p h.length f fun f => xops E id ops (opsAt ops D.Tl) 500 f (pdOn h p) fun f h => K .normal f h
          | _ :: _ => xflt E.T E.n ops D.F f fun f => xreads E ops h D.L f [] fun f ls => xopsL E ops D.T ls f h fun f h => K .normal f h
        | none => none) = (match findN E.D id with
        | some D => match D.L with
          | [] => xflt E.T E.n ops D.F f fun f => xopsQ E ops D.A D.S h D.Hd f [] fun f p => pdFill E.n p h.length f fun f => xops E id ops (opsAt ops D.Tl) 500 f (pdOn h p) fun f h => xdone .normal f h
          | _ :: _ => xflt E.T E.n ops D.F f fun f => xreads E ops h D.L f [] fun f ls => xopsL E ops D.T ls f h fun f h => xdone .normal f h
        | none => none).bind _
      cases findN E.D id with
      | none => rfl
      | some D =>
       simp only
       rcases hDL : D.L with _ | ⟨l0, ll⟩
       rotate_left
       · simp only
         rw [xflt_bind, xflt_bind (K := fun f => xreads E ops h (l0 :: ll) f [] fun f ls => xopsL E ops D.T ls f h fun f h => xdone .normal f h), Option.bind_assoc]
         congr 1; funext f0
         rw [xreads_bind hN, xreads_bind hN (K := fun f ls => xopsL E ops D.T ls f h fun f h => xdone .normal f h), Option.bind_assoc]
         congr 1; funext r
         rw [xopsL_bind hN, xopsL_bind hN (K := fun f h => xdone .normal f h), Option.bind_assoc]; rfl
       · simp only
         rw [xflt_bind, xflt_bind (K := fun f => xopsQ E ops D.A D.S h D.Hd f [] fun f p => pdFill E.n p h.length f fun f => xops E id ops (opsAt ops D.Tl) 500 f (pdOn h p) fun f h => xdone .normal f h), Option.bind_assoc]
         congr 1; funext f0
         rw [xopsQ_bind hN, xopsQ_bind hN (K := fun f p => pdFill E.n p h.length f fun f => xops E id ops (opsAt ops D.Tl) 500 f (pdOn h p) fun f h => xdone .normal f h), Option.bind_assoc]
         congr 1; funext r
         rw [pdFill_bind, pdFill_bind (K := fun f => xops E id ops (opsAt ops D.Tl) 500 f (pdOn h r.2) fun f h => xdone .normal f h), Option.bind_assoc]
         congr 1; funext f'
         rw [xops_bind hN, xops_bind hN (K := fun f h => xdone .normal f h), Option.bind_assoc]; rfl
  | seq a b iha ihb =>
    have key : ∀ q : XS, XNat q → XNat (fun R f h K => q R f h fun e f h => match e with
        | .normal => atSeq E.Ms (firstR b) f fun f => xexec E b R f h K
        | e => K e f h) := by
      intro q hq R f h K
      refine (hq R f h _).trans (Eq.trans ?_ (congrArg (Option.bind · (rets K)) (hq XR f h _)).symm)
      rw [Option.bind_assoc]
      congr 1; funext r
      obtain ⟨e, f', h'⟩ := r
      cases e with
      | normal =>
        show atSeq E.Ms (firstR b) f' (fun f => xexec E b R f h' K) = (atSeq E.Ms (firstR b) f' fun f => xexec E b XR f h' xdone).bind (rets K)
        rw [atSeq_eq, atSeq_eq]
        exact ihb.1 R _ _ _
      | _ => rfl
    refine ⟨key _ iha.1, fun l r hr => ?_⟩
    change (match xlab E a l with
      | some r => some fun R f h K => r R f h fun e f h => match e with
        | .normal => atSeq E.Ms (firstR b) f fun f => xexec E b R f h K
        | e => K e f h
      | none => xlab E b l) = some r at hr
    cases hq : xlab E a l with
    | some q =>
      rw [hq] at hr
      simp only [Option.some.injEq] at hr
      subst hr
      exact key q (iha.2 l q hq)
    | none => rw [hq] at hr; exact ihb.2 l r hr
  | cond c a b iha ihb =>
    refine ⟨?_, fun l r hr => by cases hr⟩
    intro R f h K
    show (match fEval f c with
      | .lit (.bool b') => cond b' (xexec E a R f h K) (xexec E b R f h K)
      | _ => none) = (match fEval f c with
      | .lit (.bool b') => cond b' (xexec E a XR f h xdone) (xexec E b XR f h xdone)
      | _ => none).bind _
    split
    · rename_i b' _
      cases b'
      · exact ihb.1 R f h K
      · exact iha.1 R f h K
    · rfl
  | block id a iha =>
    refine ⟨?_, fun l r hr => by cases hr⟩
    intro R f h K
    refine (iha.1 R f h _).trans (Eq.trans ?_ (congrArg (Option.bind · (rets K)) (iha.1 XR f h _)).symm)
    rw [Option.bind_assoc]
    congr 1; funext r
    obtain ⟨e, f', h'⟩ := r
    cases e with
    | exit id' =>
      simp only [rets]
      cases Nat.beq id' id <;> rfl
    | _ => rfl
  | loop a iha =>
    refine ⟨?_, fun l r hr => by cases hr⟩
    intro R f h K
    show jn ((xloop _ _ _ _).bind (rets K)) = (jn ((xloop _ _ _ _).bind (rets xdone))).bind (rets K)
    rw [jn_eq, jn_eq]
    rw [Option.bind_assoc]
    congr 1
  | rangeFunc => exact ⟨fun R f h K => rfl, fun l r hr => by cases hr⟩
  | exit id => exact ⟨fun R f h K => rfl, fun l r hr => by cases hr⟩
  | scope a iha =>
    refine ⟨?_, fun l r hr => by cases hr⟩
    intro R f h K
    refine (iha.1 R f h _).trans (Eq.trans ?_ (congrArg (Option.bind · (rets K)) (iha.1 XR f h _)).symm)
    rw [Option.bind_assoc]
    congr 1; funext r
    obtain ⟨e, f', h'⟩ := r
    cases e with
    | goto l =>
      show (match xlab E a l with
        | some _ => xjumpL E (xlab E a) l R f' h' K
        | none => K (.goto l) f' h') = (match xlab E a l with
        | some _ => xjumpL E (xlab E a) l XR f' h' xdone
        | none => xdone (.goto l) f' h').bind (rets K)
      cases xlab E a l with
      | none => rfl
      | some q =>
        simp only [xjumpL, jn_eq]
        rw [Option.bind_assoc]
        congr 1
    | _ => rfl
  | label l' =>
    refine ⟨fun R f h K => rfl, fun l r hr => ?_⟩
    change (match Nat.beq l' l with
      | true => some fun R f h K => K .normal f h
      | false => none) = some r at hr
    cases hb : Nat.beq l' l with
    | true => rw [hb] at hr; cases hr; exact fun R f h K => rfl
    | false => rw [hb] at hr; cases hr
  | goto l => exact ⟨fun R f h K => rfl, fun l r hr => by cases hr⟩
  | ret => exact ⟨fun R f h K => rfl, fun l r hr => by cases hr⟩
  | refuse => exact ⟨fun R f h K => rfl, fun l r hr => by cases hr⟩

theorem xexec_bind (E : XE) (hN : CT.Nat E.C) (c : Code) (R : Type) (f : Fr) (h : AHeap) (K : XK R) : xexec E c R f h K = (xexec E c XR f h xdone).bind (rets K) := (xex_bind E hN c).1 R f h K
theorem xiter_mono {mask : Fr → Fr} {step : Fr → AHeap → Option XR} : ∀ {m : Nat} {f : Fr} {h : AHeap} {r : XR}, xiter mask step m f h = some r → xiter mask step (m + 1) f h = some r
  | 0, f, h, r, hx => by simp [xiter] at hx
  | m + 1, f, h, r, hx => by
    unfold xiter at hx ⊢
    obtain ⟨q, h1, h2⟩ := Option.bind_eq_some_iff.1 hx
    rw [h1, Option.bind_some]
    obtain ⟨e, f', h'⟩ := q
    cases e with
    | normal => exact xiter_mono h2
    | _ => exact h2
theorem xiter_le {mask : Fr → Fr} {step : Fr → AHeap → Option XR} {m n : Nat} (hmn : m ≤ n) {f : Fr} {h : AHeap} {r : XR} (hx : xiter mask step m f h = some r) : xiter mask step n f h = some r := by
  induction hmn with
  | refl => exact hx
  | step _ ih => exact xiter_mono ih
theorem xloop_some {mask : Fr → Fr} {step : Fr → AHeap → Option XR} {f : Fr} {h : AHeap} {r : XR} : xloop mask step f h = some r ↔ ∃ m, xiter mask step m f h = some r := by
  unfold xloop xlim
  constructor
  · intro hx
    split at hx
    · rename_i hh; cases hx; exact hh.choose_spec
    · cases hx
  · rintro ⟨m, hm⟩
    have hh : ∃ r m, xiter mask step m f h = some r := ⟨r, m, hm⟩
    rw [dif_pos hh]
    obtain ⟨m', hm'⟩ := hh.choose_spec
    have h1 := xiter_le (Nat.le_max_left m m') hm
    have h2 := xiter_le (Nat.le_max_right m m') hm'
    rw [h1] at h2
    exact h2.symm
theorem xloop_eq (mask : Fr → Fr) (step : Fr → AHeap → Option XR) (f : Fr) (h : AHeap) : xloop mask step f h = (step f h).bind fun r => match r with
    | (.normal, f', h') => xloop mask step (mask f') h'
    | r => some r := by
  apply Option.ext
  intro r
  show xloop mask step f h = some r ↔ _ = some r
  rw [xloop_some]
  constructor
  · rintro ⟨m, hm⟩
    cases m with
    | zero => simp [xiter] at hm
    | succ m =>
      unfold xiter at hm
      obtain ⟨q, h1, h2⟩ := Option.bind_eq_some_iff.1 hm
      rw [h1, Option.bind_some]
      obtain ⟨e, f', h'⟩ := q
      cases e with
      | normal => exact xloop_some.2 ⟨m, h2⟩
      | _ => exact h2
  · intro hx
    obtain ⟨q, h1, h2⟩ := Option.bind_eq_some_iff.1 hx
    obtain ⟨e, f', h'⟩ := q
    cases e with
    | normal =>
      obtain ⟨m, hm⟩ := xloop_some.1 h2
      refine ⟨m + 1, ?_⟩
      unfold xiter
      rw [h1, Option.bind_some]; exact hm
    | _ =>
      refine ⟨1, ?_⟩
      unfold xiter
      rw [h1, Option.bind_some]; exact h2
def xagain {R : Type} (L : Fr → AHeap → Option R) (K : XK R) : XK R := fun e f h => match e with
  | .normal => L f h
  | e => K e f h
/-- **A loop, unrolled once.** -/
theorem xexec_loop (E : XE) (hN : CT.Nat E.C) (c : Code) (R : Type) (f : Fr) (h : AHeap) (K : XK R) :
    xexec E (.loop c) R f h K = xexec E c R (maskAt E.Ml (firstR c) f) h (fun e f h => match e with
      | .normal => xexec E (.loop c) R f h K
      | e => K e f h) := by
  rw [xexec_bind E hN c R]
  show jn ((xloop _ _ _ _).bind (rets K)) = _
  rw [jn_eq]
  rw [xloop_eq, Option.bind_assoc]
  congr 1; funext r
  obtain ⟨e, f', h'⟩ := r
  cases e with
  | normal => exact (jn_eq _).symm
  | _ => rfl
/-! ### Jumps -/
theorem xhop_mono {lab : XL} {mask : Nat → Fr → Fr} : ∀ {m : Nat} {r q : XR}, xhop lab mask m r = some q → xhop lab mask (m + 1) r = some q
  | 0, r, q, hx => by simp [xhop] at hx
  | m + 1, (e, f, h), q, hx => by
    unfold xhop at hx ⊢
    cases e with
    | goto l =>
      simp only at hx ⊢
      cases hl : lab l with
      | none => rw [hl] at hx; exact hx
      | some r =>
        rw [hl] at hx
        simp only at hx ⊢
        obtain ⟨p, h1, h2⟩ := Option.bind_eq_some_iff.1 hx
        rw [h1, Option.bind_some]
        exact xhop_mono h2
    | _ => exact hx
theorem xhop_le {lab : XL} {mask : Nat → Fr → Fr} {m n : Nat} (hmn : m ≤ n) {r q : XR} (hx : xhop lab mask m r = some q) : xhop lab mask n r = some q := by
  induction hmn with
  | refl => exact hx
  | step _ ih => exact xhop_mono ih
theorem xgos_some {lab : XL} {mask : Nat → Fr → Fr} {r q : XR} : xgos lab mask r = some q ↔ ∃ m, xhop lab mask m r = some q := by
  unfold xgos xlim
  constructor
  · intro hx
    split at hx
    · rename_i hh; cases hx; exact hh.choose_spec
    · cases hx
  · rintro ⟨m, hm⟩
    have hh : ∃ q m, xhop lab mask m r = some q := ⟨q, m, hm⟩
    rw [dif_pos hh]
    obtain ⟨m', hm'⟩ := hh.choose_spec
    have h1 := xhop_le (Nat.le_max_left m m') hm
    have h2 := xhop_le (Nat.le_max_right m m') hm'
    rw [h1] at h2
    exact h2.symm
theorem xgos_eq (lab : XL) (mask : Nat → Fr → Fr) (e : Exit) (f : Fr) (h : AHeap) : xgos lab mask (e, f, h) = match e with
    | .goto l => match lab l with
      | some r => (r XR f h xdone).bind fun q => xgos lab mask (mkM lab mask q)
      | none => some (.goto l, f, h)
    | e => some (e, f, h) := by
  apply Option.ext
  intro q
  show xgos lab mask (e, f, h) = some q ↔ _ = some q
  rw [xgos_some]
  constructor
  · rintro ⟨m, hm⟩
    cases m with
    | zero => simp [xhop] at hm
    | succ m =>
      unfold xhop at hm
      cases e with
      | goto l =>
        simp only at hm ⊢
        cases hl : lab l with
        | none => rw [hl] at hm; exact hm
        | some r =>
          rw [hl] at hm
          simp only at hm ⊢
          obtain ⟨p, h1, h2⟩ := Option.bind_eq_some_iff.1 hm
          rw [h1, Option.bind_some]
          exact xgos_some.2 ⟨m, h2⟩
      | _ => exact hm
  · intro hx
    cases e with
    | goto l =>
      simp only at hx
      cases hl : lab l with
      | none =>
        rw [hl] at hx
        refine ⟨1, ?_⟩
        unfold xhop; simp only [hl]; exact hx
      | some r =>
        rw [hl] at hx
        simp only at hx
        obtain ⟨p, h1, h2⟩ := Option.bind_eq_some_iff.1 hx
        obtain ⟨m, hm⟩ := xgos_some.1 h2
        refine ⟨m + 1, ?_⟩
        unfold xhop; simp only [hl]
        rw [h1, Option.bind_some]; exact hm
    | _ => exact ⟨1, hx⟩
/-- **A jump, followed once.** -/
theorem xjump_eq (E : XE) (hN : CT.Nat E.C) (c : Code) (l : Nat) (R : Type) (f : Fr) (h : AHeap) (K : XK R) :
    xjump E c l R f h K = match xlab E c l with
      | some r => r R (maskJ E l f) h (xscK E (xlab E c) K)
      | none => K (.goto l) (maskJ E l f) h := by
  unfold xjump xjumpL
  rw [jn_eq, xgos_eq]
  simp only
  cases hl : xlab E c l with
  | none => rfl
  | some r =>
    simp only
    rw [(xex_bind E hN c).2 l r hl R, Option.bind_assoc]
    congr 1; funext q
    obtain ⟨e, f', h'⟩ := q
    unfold rets xscK mkM
    cases e with
    | goto l' =>
      simp only
      cases hl' : xlab E c l' with
      | none => simp only; rw [xgos_eq]; simp only [hl']; rfl
      | some r' =>
        simp only
        unfold xjumpL
        rw [jn_eq]
        rfl
    | _ => simp only; rw [xgos_eq]; rfl
end Go.Proofs.Ytglmofbcooefkaa.AL
