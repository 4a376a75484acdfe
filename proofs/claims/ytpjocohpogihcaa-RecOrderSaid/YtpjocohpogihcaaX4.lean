/- Code, reckoned: what a run comes to. -/
import Derived.Test.YtpjocohpogihcaaX3
namespace Go.Proofs.Ytpjocohpogihcaa.AL
set_option linter.unusedVariables false
set_option linter.unusedSimpArgs false
open Go

variable {ρ ρ' : Env} {h h' : AHeap} {w w' : World} {P : Program}

theorem castD_same {T : Tab} {d : Option Nat} {t : Nat} {v v' : AVal} (hc : castD T d t v = some v') : v' = v := by
  unfold castD at hc
  split at hc
  · cases hc; rfl
  · exact castT_eq hc
theorem castDK_some {R : Type} {T : Tab} {d : Option Nat} {t : Nat} {v : AVal} {K : AVal → Option R} {r : R} (hc : castDK T d t v K = some r) : K v = some r := by
  rw [castDK_eq] at hc
  obtain ⟨v', h1, h2⟩ := Option.bind_eq_some_iff.1 hc
  rw [castD_same h1] at h2; exact h2

/-! ### One step is what the logic asks -/
structure XE.Ok (E : XE) (P : Program) : Prop where
  T : E.T.Ok P
  C : CT.Ok P E.C

theorem xstep_ok {R : Type} {E : XE} (hE : E.Ok P) {o : Oper} {f : Fr} {K0 : AVal → AHeap → Option R} {r : R} {K : List AVal → AHeap → Prop} {Q : AQ} (hw : f.Wf E.n) (hs : xstep E o f h K0 = some r)
    (hK : ∀ v h', K0 v h' = some r → K (aset (f.lst E.n) o.dst v) h') : AOper P o (f.lst E.n) h K Q := by
  unfold xstep at hs
  unfold AOper
  have ev := aEval_lst hw
  have plain : (match quietB E.T o.op with
    | true => xqK E.T o.op (fEval f) h fun v => castDK E.T o.dst o.type v fun v => K0 v h
    | false => xlK E.T o.op (fEval f) h fun v h => castDK E.T o.dst o.type v fun v => K0 v h) = some r → AOp P o.op o.type (f.lst E.n) h fun v h' => K (aset (f.lst E.n) o.dst v) h' := by
    intro hs
    split at hs
    · rw [xqK_eq] at hs
      obtain ⟨v, h1, hs⟩ := Option.bind_eq_some_iff.1 hs
      exact xq_ok hE.T (by rw [ev]; exact h1) (hK _ _ (castDK_some hs))
    · rw [xlK_eq] at hs
      obtain ⟨v, h1, hs⟩ := Option.bind_eq_some_iff.1 hs
      exact xl_ok hE.T (by rw [ev]; exact h1) (hK _ _ (castDK_some hs))
  split
  · rename_i fv args tys he
    simp only [he] at hs
    unfold ACall
    rw [ev]
    split at hs
    · rename_i i vs ws hf
      simp only [hf]
      have evs_eq : evs (f.lst E.n) args = evsF (fEval f) args := by unfold evs evsF; rw [ev]
      split at hs
      · rename_i g hg
        obtain ⟨hn, hc⟩ := hE.C.find hg
        rw [hn] at hs
        obtain ⟨v, h1, hs⟩ := Option.bind_eq_some_iff.1 hs
        refine ⟨hc.1, ?_⟩
        rw [evs_eq]
        refine (hc.2 _ h _ h1).mono ?_
        rintro e h' ⟨rfl, rfl⟩
        exact hK _ _ (castDK_some hs)
      · rename_i g hg
        obtain ⟨hn, hc⟩ := hE.C.find hg
        rw [hn] at hs
        obtain ⟨v, h1, hs⟩ := Option.bind_eq_some_iff.1 hs
        refine ⟨hc.1, ?_⟩
        rw [evs_eq]
        refine (hc.2 _ _ _ h1).mono ?_
        rintro e h' ⟨rfl, rfl⟩
        exact hK _ _ (castDK_some hs)
      · rename_i g hg
        obtain ⟨hn, hc⟩ := hE.C.find hg
        rw [hn] at hs
        obtain ⟨r', h1, hs⟩ := Option.bind_eq_some_iff.1 hs
        refine ⟨hc.1, ?_⟩
        rw [evs_eq]
        refine (hc.2 _ _ _ _ h1).mono ?_
        rintro e h' ⟨rfl, rfl⟩
        exact hK _ _ (castDK_some hs)
      · cases hs
    · cases hs
  · rename_i hn
    refine plain ?_
    split at hs
    · rename_i he; exact (hn _ _ _ he).elim
    · exact hs

theorem xstepQ_ok {R : Type} {E : XE} (hE : E.Ok P) {only : Bool} {o : Oper} {f : Fr} {K0 : AVal → Option R} {r : R} (hw : f.Wf E.n) (hs : xstepQ E only o f h K0 = some r) :
    ∃ v, K0 v = some r ∧ ∀ e : AHeap, (only = false → e = []) → AOpQ P o (f.lst E.n) (h ++ e) v := by
  unfold xstepQ at hs
  unfold AOpQ
  have ev := aEval_lst hw
  split
  · rename_i fv args tys he
    simp only [he] at hs
    rw [ev]
    split at hs
    · rename_i i vs ws hf
      simp only [hf]
      have evs_eq : evs (f.lst E.n) args = evsF (fEval f) args := by unfold evs evsF; rw [ev]
      split at hs
      · rename_i g hg
        obtain ⟨hn, hc⟩ := hE.C.find hg
        rw [hn] at hs
        obtain ⟨v, h1, hs⟩ := Option.bind_eq_some_iff.1 hs
        refine ⟨v, castDK_some hs, fun e _ => ⟨hc.1, ?_⟩⟩
        rw [evs_eq]
        exact hc.2 _ _ _ h1
      · rename_i g hg
        obtain ⟨hn, hc⟩ := hE.C.find hg
        cases only with
        | true => cases hs
        | false =>
          simp only at hs
          rw [hn] at hs
          obtain ⟨v, h1, hs⟩ := Option.bind_eq_some_iff.1 hs
          refine ⟨v, castDK_some hs, fun e he => ⟨hc.1, ?_⟩⟩
          rw [evs_eq, he rfl, List.append_nil]
          exact hc.2 _ _ _ h1
      · cases hs
    · cases hs
  · rename_i hn
    split at hs
    · rename_i he; exact (hn _ _ _ he).elim
    · split at hs
      · rw [xqK_eq] at hs
        obtain ⟨v, h1, hs⟩ := Option.bind_eq_some_iff.1 hs
        exact ⟨v, castDK_some hs, fun e _ => xq_ok hE.T (by rw [ev]; exact xq_more e h1) ⟨rfl, rfl⟩⟩
      · cases hs

theorem lst_same {n d : Nat} {f : Fr} {v : AVal} (hg : f.get d = v) : Fr.lst n ((d, v) :: f) = f.lst n := by
  unfold Fr.lst
  refine List.map_congr_left fun i _ => ?_
  rw [Fr.get_cons]
  by_cases h : i = d
  · subst h; rw [if_pos rfl]; exact hg.symm
  · rw [if_neg h]
theorem wf_same {n d : Nat} {f : Fr} {v : AVal} (hg : f.get d = v) (hw : f.Wf n) : Fr.Wf n ((d, v) :: f) := by
  intro t ht
  rw [Fr.get_cons]
  by_cases h : t = d
  · subst h; rw [if_pos rfl, ← hg]; exact hw _ ht
  · rw [if_neg h]; exact hw _ ht

theorem xguard_ok {R : Type} {n : Nat} {ops : Array Oper} {o : Oper} {f : Fr} {yes no : Fr → Option R} {r : R} (hw : f.Wf n) (hx : xguard ops o f yes no = some r) :
    ∃ g : Fr, g.Wf n ∧ g.lst n = f.lst n ∧ ((Want2 ops o (f.lst n) = some true ∧ yes g = some r) ∨ (Want2 ops o (f.lst n) = some false ∧ no g = some r)) := by
  unfold xguard at hx; unfold Want2
  rcases hg : o.guard with _ | ⟨j, want⟩
  · simp only [hg] at hx ⊢; exact ⟨f, hw, rfl, .inl ⟨by first | trivial | rfl, hx⟩⟩
  · simp only [hg] at hx ⊢
    rcases hd : (ops[j]?).bind (·.dst) with _ | d
    · simp [hd] at hx
    · simp only [hd] at hx ⊢
      rw [aget_lst hw]
      split at hx
      · rename_i b hb
        simp only [hb]
        cases b with
        | true =>
          refine ⟨_, wf_same hb hw, lst_same (n := n) hb, ?_⟩
          cases want with
          | true => exact .inl ⟨rfl, hx⟩
          | false => exact .inr ⟨rfl, hx⟩
        | false =>
          refine ⟨_, wf_same hb hw, lst_same (n := n) hb, ?_⟩
          cases want with
          | true => exact .inr ⟨rfl, hx⟩
          | false => exact .inl ⟨rfl, hx⟩
      · rename_i us hb
        simp only [hb]
        exact ⟨f, hw, rfl, .inr ⟨by first | trivial | rfl, hx⟩⟩
      · cases hx

theorem xops_ok {R : Type} {E : XE} (hE : E.Ok P) {rid : Nat} {ops : Array Oper} {Q : AQ} {K : Fr → AHeap → Option R} {r : R} (hQ : ∀ f h, f.Wf E.n → K f h = some r → Q .normal (f.lst E.n) h) :
    ∀ (l : List Oper) (i : Nat) (f f0 : Fr) (h : AHeap), f.Wf E.n → Weak (f0.lst E.n) (f.lst E.n) → xops E rid ops l i f h K = some r → WOps P ops Q l (f0.lst E.n) h
  | [], i, f, f0, h, hw, hwk, hx => ⟨_, hwk, hQ f h hw hx⟩
  | o :: rest, i, f, f0, h, hw, hwk, hx => by
    refine ⟨f.lst E.n, hwk, ?_⟩
    rw [xops_cons] at hx
    obtain ⟨g, hg, hl, hx⟩ := xguard_ok hw hx
    rcases hx with ⟨hw2, hx⟩ | ⟨hw2, hx⟩
    · refine .inl ⟨hw2, ?_⟩
      rw [← hl]
      refine xstep_ok hE hg hx fun v h' hx => ?_
      rw [fputK_eq] at hx
      obtain ⟨f', h2, hx⟩ := Option.bind_eq_some_iff.1 hx
      obtain ⟨e1, e2⟩ := fput_some h2 hg
      rw [← e1]
      rw [atMask_eq] at hx
      exact xops_ok hE hQ rest (i + 1) _ f' _ (maskO_wf e2 _) (maskO_weak _ _ _) hx
    · refine .inr ⟨hw2, ?_⟩
      rw [fputK_eq] at hx
      obtain ⟨f', h2, hx⟩ := Option.bind_eq_some_iff.1 hx
      obtain ⟨e1, e2⟩ := fput_some h2 hg
      rw [← hl, ← e1]
      rw [atMask_eq] at hx
      exact xops_ok hE hQ rest (i + 1) _ f' _ (maskO_wf e2 _) (maskO_weak _ _ _) hx

/-- The objects of the head, in order: what the head's ghost says, and what was gathered. -/
def Gath (ops : Array Oper) (g : Gh) : List Nat → Pd → Prop
  | [], p => p = []
  | i :: A, p => match g i with
    | some D => ∃ p', p = (dstOf ops i, D.how, D.cs) :: p' ∧ Gath ops g A p'
    | none => Gath ops g A p
theorem gath_heap {ops : Array Oper} {g : Gh} : ∀ {A : List Nat} {p : Pd}, Gath ops g A p → objsA g A = pdHeap p
  | [], p, h => by unfold Gath at h; subst h; rfl
  | i :: A, p, h => by
    unfold Gath at h; unfold objsA
    split at h
    · rename_i D hg
      obtain ⟨p', rfl, h⟩ := h
      simp only [hg, pdHeap, gath_heap h]
    · rename_i hg
      simp only [hg]
      exact gath_heap h
theorem gath_fill {R : Type} {ops : Array Oper} {g : Gh} {n : Nat} {K : Fr → Option R} {r : R} : ∀ {A : List Nat} {p : Pd} {b : Nat} {f : Fr}, Gath ops g A p → f.Wf n → pdFill n p b f K = some r →
    ∃ f' : Fr, f'.Wf n ∧ f'.lst n = fillA ops g A b (f.lst n) ∧ K f' = some r
  | [], p, b, f, h, hw, hx => by unfold Gath at h; subst h; exact ⟨f, hw, rfl, hx⟩
  | i :: A, p, b, f, h, hw, hx => by
    unfold Gath at h; unfold fillA
    split at h
    · rename_i D hg
      obtain ⟨p', rfl, h⟩ := h
      simp only [pdFill] at hx
      rw [fputK_eq] at hx
      obtain ⟨f', h2, hx⟩ := Option.bind_eq_some_iff.1 hx
      obtain ⟨e1, e2⟩ := fput_some h2 hw
      have := gath_fill h e2 hx
      rw [e1] at this
      simp only [hg]
      exact this
    · rename_i hg
      simp only [hg]
      exact gath_fill h hw hx
/-- Those that make objects stand in the head's order. -/
def subB : List Nat → List Nat → Bool
  | [], _ => true
  | _ :: _, [] => false
  | a :: A, k :: l => cond (Nat.beq a k) (subB A l) (subB (a :: A) l && !(A.contains k))
theorem gath_none {ops : Array Oper} {g : Gh} : ∀ {A : List Nat}, (∀ k ∈ A, g k = none) → Gath ops g A []
  | [], _ => rfl
  | i :: A, h => by unfold Gath; rw [h i (by simp)]; exact gath_none fun k hk => h k (by simp [hk])
theorem gath_app {ops : Array Oper} {g : Gh} : ∀ {A B : List Nat} {p q : Pd}, Gath ops g A p → Gath ops g B q → Gath ops g (A ++ B) (p ++ q)
  | [], B, p, q, h, hq => by unfold Gath at h; subst h; exact hq
  | i :: A, B, p, q, h, hq => by
    unfold Gath at h
    show Gath ops g (i :: (A ++ B)) (p ++ q)
    unfold Gath
    split at h
    · rename_i D hg
      obtain ⟨p', rfl, h⟩ := h
      exact ⟨p' ++ q, rfl, gath_app h hq⟩
    · exact gath_app h hq
theorem gath_congr {ops : Array Oper} {g g' : Gh} : ∀ {A : List Nat} {p : Pd}, (∀ k ∈ A, g k = g' k) → Gath ops g A p → Gath ops g' A p
  | [], p, _, h => h
  | i :: A, p, hk, h => by
    unfold Gath at h ⊢
    rw [← hk i (by simp)]
    split at h
    · obtain ⟨p', rfl, h⟩ := h
      exact ⟨p', rfl, gath_congr (fun k hk' => hk k (by simp [hk'])) h⟩
    · exact gath_congr (fun k hk' => hk k (by simp [hk'])) h

/-- Where the head stands: 'A1' are behind, 'A2' ahead. -/
theorem xopsQ_ok {R : Type} {E : XE} (hE : E.Ok P) {ops : Array Oper} {A : List Nat} {r : R} {K : Fr → Pd → Option R} {K' : List AVal → Gh → Prop}
    (hQ : ∀ f p g, f.Wf E.n → Gath ops g A p → K f p = some r → K' (f.lst E.n) g) (hsh : ∀ f p, K f p = some r → 2 ≤ A.length → ∀ x ∈ p, closedL x.2.2 = true) :
    ∀ (l : List Nat) (A1 A2 : List Nat) (f : Fr) (p : Pd) (g : Gh), A = A1 ++ A2 → A.Nodup → subB A2 l = true → (∀ k ∈ A1, k ∉ l) → l.Nodup → f.Wf E.n → Gath ops g A1 p → (∀ k ∈ l, g k = none) → (∀ k ∈ A2, g k = none) → xopsQ E ops A h l f p K = some r →
      AOps2 P ops A h K' l (f.lst E.n) g ∧ (2 ≤ A.length → ∀ x ∈ p, closedL x.2.2 = true)
  | [], A1, A2, f, p, g, hA, hAn, hs, h1, hln, hw, hg, hn, hn2, hx => by
    have h0 : A2 = [] := by cases A2 with
      | nil => rfl
      | cons x l => simp [subB] at hs
    subst h0
    rw [List.append_nil] at hA
    subst hA
    exact ⟨hQ f p g hw hg hx, hsh f p hx⟩
  | i :: rest, A1, A2, f, p, g, hA, hAn, hs, h1, hln, hw, hg, hn, hn2, hx => by
    rw [xopsQ_cons] at hx
    unfold AOps2
    have hi1 : i ∉ A1 := fun hk => h1 i hk (by simp)
    have hir : i ∉ rest := (List.nodup_cons.1 hln).1
    have hrn : rest.Nodup := (List.nodup_cons.1 hln).2
    have h1' : ∀ k ∈ A1, k ∉ rest := fun k hk hkr => h1 k hk (by simp [hkr])
    have hgi : g i = none := hn i (by simp)
    have hnr : ∀ k ∈ rest, g k = none := fun k hk => hn k (by simp [hk])
    -- where 'i' stands
    have cases2 : (∃ A3, A2 = i :: A3 ∧ subB A3 rest = true) ∨ (i ∉ A2 ∧ subB A2 rest = true) := by
      cases A2 with
      | nil => exact .inr ⟨by simp, by cases rest <;> rfl⟩
      | cons a A3 =>
        unfold subB at hs
        cases hb : Nat.beq a i with
        | true =>
          rw [hb, cond_true] at hs
          have := Nat.eq_of_beq_eq_true hb
          subst this
          exact .inl ⟨A3, rfl, hs⟩
        | false =>
          rw [hb, cond_false] at hs
          simp only [Bool.and_eq_true, Bool.not_eq_true'] at hs
          refine .inr ⟨fun hm => ?_, hs.1⟩
          rcases List.mem_cons.1 hm with e | e
          · exact Nat.ne_of_beq_eq_false hb e.symm
          · have h2 := hs.2
            simp at h2; exact h2 e
    split at hx
    · rename_i o ho
      rw [ho]
      simp only
      have skip : subB A2 rest = true ∨ (∃ A3, A2 = i :: A3 ∧ subB A3 rest = true) := by
        rcases cases2 with h | h
        · exact .inr h
        · exact .inl h.2
      -- nothing is made here: the rest, 'i' counted as behind
      have go : ∀ (f' : Fr) , f'.Wf E.n → xopsQ E ops A h rest f' p K = some r → AOps2 P ops A h K' rest (f'.lst E.n) g ∧ (2 ≤ A.length → ∀ x ∈ p, closedL x.2.2 = true) := by
        intro f' hw' hx'
        rcases cases2 with ⟨A3, e, h3⟩ | ⟨_, h3⟩
        · have hg1 : Gath ops g (A1 ++ [i]) p := by
            have := gath_app hg (gath_none (ops := ops) (g := g) (A := [i]) (fun k hk => by
              obtain rfl : k = i := by simpa using hk
              exact hgi))
            rwa [List.append_nil] at this
          exact xopsQ_ok hE hQ hsh rest (A1 ++ [i]) A3 f' p g (by rw [hA, e]; simp) hAn h3 (fun k hk => by
            rcases List.mem_append.1 hk with hk | hk
            · exact h1' k hk
            · obtain rfl : k = i := by simpa using hk
              exact hir) hrn hw' hg1 hnr (fun k hk => hn2 k (by rw [e]; simp [hk])) hx'
        · exact xopsQ_ok hE hQ hsh rest A1 A2 f' p g hA hAn h3 h1' hrn hw' hg hnr hn2 hx'
      obtain ⟨f1, hf1, hl1, hx⟩ := xguard_ok hw hx
      rcases hx with ⟨hw2, hx⟩ | ⟨hw2, hx⟩
      · split at hx
        · rename_i hc
          have hiA : i ∈ A := by simpa using hc
          have hi2 : ∃ A3, A2 = i :: A3 ∧ subB A3 rest = true := by
            rcases cases2 with h | ⟨h, _⟩
            · exact h
            · rw [hA] at hiA
              rcases List.mem_append.1 hiA with e | e
              · exact absurd e hi1
              · exact absurd e h
          obtain ⟨A3, e, h3⟩ := hi2
          rw [xA_bind] at hx
          obtain ⟨D, hD, hx⟩ := Option.bind_eq_some_iff.1 hx
          rw [fputK_eq] at hx
          obtain ⟨f', h2, hx⟩ := Option.bind_eq_some_iff.1 hx
          obtain ⟨e1, e2⟩ := fput_some h2 hf1
          have hd : dstOf ops i = o.dst := by unfold dstOf; rw [ho]; rfl
          have hsame : ∀ k, k ≠ i → gset g i (some D) k = g k := fun k hk => by unfold gset; rw [if_neg hk]
          have hself : gset g i (some D) i = some D := by unfold gset; rw [if_pos rfl]
          have hg2 : Gath ops (gset g i (some D)) (A1 ++ [i]) (p ++ [(o.dst, D.how, D.cs)]) := by
            refine gath_app (gath_congr (fun k hk => (hsame k (fun e => hi1 (e ▸ hk))).symm) hg) ?_
            unfold Gath
            rw [hself]
            exact ⟨[], by rw [hd], rfl⟩
          have hA2n : A2.Nodup := by rw [hA] at hAn; exact (List.nodup_append.1 hAn).2.1
          have hi3 : i ∉ A3 := by rw [e] at hA2n; exact (List.nodup_cons.1 hA2n).1
          have ih := xopsQ_ok hE hQ hsh rest (A1 ++ [i]) A3 f' _ (gset g i (some D)) (by rw [hA, e]; simp) hAn h3 (fun k hk => by
            rcases List.mem_append.1 hk with hk | hk
            · exact h1' k hk
            · obtain rfl : k = i := by simpa using hk
              exact hir) hrn e2 hg2 (fun k hk => by rw [hsame k (fun e => hir (e ▸ hk))]; exact hnr k hk) (fun k hk => by rw [hsame k (fun e => hi3 (e ▸ hk))]; exact hn2 k (by rw [e]; simp [hk])) hx
          obtain ⟨hn1, hop⟩ := xA_ok (ty := o.type) (a := f1.lst E.n) hE.T (by rw [aEval_lst hf1]; exact hD)
          refine ⟨⟨.any, some D, ⟨⟨hiA, fun h2 => ?_⟩, .inl ⟨hw2, rfl, hn1, fun e => ?_⟩⟩, ?_⟩, fun h2 x hx' => ih.2 h2 x (List.mem_append_left _ hx')⟩
          · exact ih.2 h2 _ (List.mem_append_right _ (List.mem_singleton.2 rfl))
          · rw [← hl1]; exact hop _
          · rw [← hl1, ← e1]; exact ih.1
        · obtain ⟨v, hx, hv⟩ := xstepQ_ok hE hf1 hx
          rw [fputK_eq] at hx
          obtain ⟨f', h2, hx⟩ := Option.bind_eq_some_iff.1 hx
          obtain ⟨e1, e2⟩ := fput_some h2 hf1
          have ih := go f' e2 hx
          refine ⟨⟨v, none, ⟨trivial, .inl ⟨hw2, fun e he => ?_⟩⟩, ?_⟩, ih.2⟩
          · rw [← hl1]
            refine hv e fun hb => he ?_
            cases A with
            | nil => rfl
            | cons x l => simp at hb
          · rw [gset_none hgi, ← hl1, ← e1]; exact ih.1
      · rw [fputK_eq] at hx
        obtain ⟨f', h2, hx⟩ := Option.bind_eq_some_iff.1 hx
        obtain ⟨e1, e2⟩ := fput_some h2 hf1
        have ih := go f' e2 hx
        refine ⟨⟨skipV, none, ⟨trivial, .inr ⟨hw2, rfl, rfl⟩⟩, ?_⟩, ih.2⟩
        rw [gset_none hgi, ← hl1, ← e1]; exact ih.1
    · cases hx
theorem xflt_ok {R : Type} {n : Nat} {ops : Array Oper} {K : Fr → Option R} {r : R} : ∀ (l : List Nat) (f : Fr), f.Wf n → xflt n ops l f K = some r → ∃ f' : Fr, f'.Wf n ∧ f'.lst n = fltA ops l (f.lst n) ∧ K f' = some r
  | [], f, hw, hx => ⟨f, hw, rfl, hx⟩
  | i :: l, f, hw, hx => by
    rw [xflt_cons] at hx
    unfold fltA
    split at hx
    · rename_i o ho
      simp only [ho]
      split at hx
      · rename_i x hm
        simp only [hm]
        rw [fputK_eq] at hx
        obtain ⟨f', h2, hx⟩ := Option.bind_eq_some_iff.1 hx
        obtain ⟨e1, e2⟩ := fput_some h2 hw
        have := xflt_ok l f' e2 hx
        rw [e1] at this
        rw [aEval_lst hw]
        exact this
      · cases hx
    · cases hx

/-! ### Code -/
abbrev XK (R : Type) := Exit → Fr → AHeap → Option R
abbrev XS := ∀ (R : Type), Fr → AHeap → XK R → Option R
abbrev XR := Exit × Fr × AHeap
def ofst (a b : Option Nat) : Option Nat := match a with
  | some i => some i
  | none => b
/-- The first region's number. -/
noncomputable def firstR (c : Code) : Option Nat := Code.rec (motive := fun _ => Option Nat) none (fun id _ _ => some id) (fun _ _ a b => ofst a b) (fun _ _ _ a b => ofst a b) (fun _ _ a => a) (fun _ a => a) (fun _ _ _ _ a b => ofst a b)
  (fun _ => none) (fun _ a => a) (fun _ => none) (fun _ => none) none (fun _ => none) c
noncomputable def maskAt (l : List (Nat × List Nat)) (k : Option Nat) (f : Fr) : Fr := match k with
  | some k => maskO f (findN l k)
  | none => f
noncomputable def atSeq {R : Type} (l : List (Nat × List Nat)) (k : Option Nat) (f : Fr) (go : Fr → Option R) : Option R := match k with
  | some k => atMask (findN l k) f go
  | none => go f
theorem atSeq_eq {R : Type} (l : List (Nat × List Nat)) (k : Option Nat) (f : Fr) (go : Fr → Option R) : atSeq l k f go = go (maskAt l k f) := by
  cases k with
  | none => rfl
  | some k => exact atMask_eq _ _ _
/-- A round again and again. -/
def xiter (mask : Fr → Fr) (step : Fr → AHeap → Option XR) : Nat → Fr → AHeap → Option XR
  | 0, _, _ => none
  | m + 1, f, h => (step f h).bind fun r => match r with
    | (.normal, f', h') => xiter mask step m (mask f') h'
    | r => some r
open Classical in
noncomputable def xlim {α : Type} (g : Nat → Option α) : Option α := if h : ∃ r m, g m = some r then some h.choose else none
def rets {R : Type} (K : XK R) (r : XR) : Option R := K r.1 r.2.1 r.2.2
noncomputable def xloop (mask : Fr → Fr) (step : Fr → AHeap → Option XR) (f : Fr) (h : AHeap) : Option XR := xlim fun m => xiter mask step m f h
noncomputable def xexec (E : XE) (c : Code) : XS := Code.rec (motive := fun _ => XS)
  (fun R f h K => K .normal f h)
  (fun id ops draw R f h K => match draw with
    | false => xops E id ops ops.toList 0 f h fun f h => K .normal f h
    | true => match findN E.D id with
      | some D => xflt E.n ops D.F f fun f => xopsQ E ops D.A h D.Hd f [] fun f p => cond (pdShut D.A p) (pdFill E.n p h.length f fun f => xops E id ops (opsAt ops D.Tl) 500 f (pdOn h p) fun f h => K .normal f h) none
      | none => none)
  (fun _ b ia ib R f h K => ia R f h fun e f h => match e with
    | .normal => atSeq E.Ms (firstR b) f fun f => ib R f h K
    | e => K e f h)
  (fun c _ _ ia ib R f h K => match fEval f c with
    | .lit (.bool b) => cond b (ia R f h K) (ib R f h K)
    | _ => none)
  (fun id _ ia R f h K => ia R f h fun e f h => match e with
    | .exit id' => match Nat.beq id' id with
      | true => K .normal f h
      | false => K (.exit id') f h
    | e => K e f h)
  (fun c ia R f h K => jn ((xloop (maskAt E.Ml (firstR c)) (fun f h => ia XR f h fun e f h => some (e, f, h)) (maskAt E.Ml (firstR c) f) h).bind (rets K)))
  (fun _ _ _ _ _ _ R f h K => none)
  (fun id R f h K => K (.exit id) f h)
  (fun _ _ R f h K => none)
  (fun _ R f h K => K .normal f h)
  (fun l R f h K => K (.goto l) f h)
  (fun R f h K => K .ret f h)
  (fun _ R f h K => none) c

/-- A run, and then what is behind it. -/
theorem xguard_bind {R S : Type} {ops : Array Oper} {o : Oper} {f : Fr} {yes no : Fr → Option S} {k : S → Option R} :
    (xguard ops o f yes no).bind k = xguard ops o f (fun f => (yes f).bind k) (fun f => (no f).bind k) := by
  unfold xguard
  rcases hg : o.guard with _ | ⟨j, want⟩
  · rfl
  · simp only
    rcases hd : (ops[j]?).bind (·.dst) with _ | d
    · rfl
    · simp only
      split
      · rename_i b _
        cases b <;> cases want <;> rfl
      · rfl
      · rfl
theorem xops_bind {R : Type} {E : XE} (hN : CT.Nat E.C) {rid : Nat} {ops : Array Oper} {K : Fr → AHeap → Option R} : ∀ (l : List Oper) (i : Nat) (f : Fr) (h : AHeap),
    xops E rid ops l i f h K = (xops E rid ops l i f h fun f h => some (f, h)).bind fun r => K r.1 r.2
  | [], i, f, h => rfl
  | o :: rest, i, f, h => by
    rw [xops_cons, xops_cons, xguard_bind]
    congr 1
    · funext g
      rw [xstep_bind hN, xstep_bind hN (K := fun v h => fputK E.n g o.dst v fun f => atMask (findN E.Mo (rid * 1000 + (i + 1))) f fun f => xops E rid ops rest (i + 1) f h fun f h => some (f, h)), Option.bind_assoc]
      congr 1; funext r
      rw [fputK_eq, fputK_eq, Option.bind_assoc]
      congr 1; funext f'
      rw [atMask_eq, atMask_eq]
      exact xops_bind hN rest _ _ _
    · funext g
      rw [fputK_eq, fputK_eq, Option.bind_assoc]
      congr 1; funext f'
      rw [atMask_eq, atMask_eq]
      exact xops_bind hN rest _ _ _
def mkQ (f : Fr) (p : Pd) : Option (Fr × Pd) := some (f, p)
theorem xopsQ_bind {R : Type} {E : XE} (hN : CT.Nat E.C) {ops : Array Oper} {A : List Nat} {h : AHeap} {K : Fr → Pd → Option R} : ∀ (l : List Nat) (f : Fr) (p : Pd),
    xopsQ E ops A h l f p K = (xopsQ E ops A h l f p mkQ).bind fun r => K r.1 r.2
  | [], f, p => rfl
  | i :: rest, f, p => by
    rw [xopsQ_cons, xopsQ_cons]
    rcases ops[i]? with _ | o
    · rfl
    · simp only
      rw [xguard_bind]
      congr 1
      · funext g
        split
        · rw [xA_bind, xA_bind (K := fun m cs => fputK E.n g o.dst .any fun f => xopsQ E ops A h rest f (p ++ [(o.dst, m, cs)]) mkQ), Option.bind_assoc]
          congr 1; funext D
          rw [fputK_eq, fputK_eq, Option.bind_assoc]
          congr 1; funext f'
          exact xopsQ_bind hN rest _ _
        · rw [xstepQ_bind hN, xstepQ_bind hN (K := fun v => fputK E.n g o.dst v fun f => xopsQ E ops A h rest f p mkQ), Option.bind_assoc]
          congr 1; funext r
          rw [fputK_eq, fputK_eq, Option.bind_assoc]
          congr 1; funext f'
          exact xopsQ_bind hN rest _ _
      · funext g
        rw [fputK_eq, fputK_eq, Option.bind_assoc]
        congr 1; funext f'
        exact xopsQ_bind hN rest _ _
theorem xflt_bind {R : Type} {n : Nat} {ops : Array Oper} {K : Fr → Option R} : ∀ (l : List Nat) (f : Fr), xflt n ops l f K = (xflt n ops l f some).bind K
  | [], f => rfl
  | i :: l, f => by
    rw [xflt_cons, xflt_cons]
    rcases ops[i]? with _ | o
    · rfl
    · simp only
      rcases mvOf o with _ | x
      · rfl
      · simp only
        rw [fputK_eq, fputK_eq, Option.bind_assoc]
        congr 1; funext f'
        exact xflt_bind l _
theorem pdFill_bind {R : Type} {n : Nat} {K : Fr → Option R} : ∀ (p : Pd) (b : Nat) (f : Fr), pdFill n p b f K = (pdFill n p b f some).bind K
  | [], b, f => rfl
  | (d, m, cs) :: p, b, f => by
    simp only [pdFill]
    rw [fputK_eq, fputK_eq, Option.bind_assoc]
    congr 1; funext f'
    exact pdFill_bind p _ _
def xdone (e : Exit) (f : Fr) (h : AHeap) : Option XR := some (e, f, h)
theorem xexec_bind (E : XE) (hN : CT.Nat E.C) (c : Code) : ∀ (R : Type) (f : Fr) (h : AHeap) (K : XK R), xexec E c R f h K = (xexec E c XR f h xdone).bind (rets K) := by
  induction c with
  | skip => intro R f h K; rfl
  | region id ops draw =>
    intro R f h K
    cases draw with
    | false =>
      show xops E id ops ops.toList 0 f h _ = (xops E id ops ops.toList 0 f h _).bind _
      rw [xops_bind hN, xops_bind hN (K := fun f h => xdone .normal f h), Option.bind_assoc]; rfl
    | true =>
      show (match findN E.D id with
        | some D => xflt E.n ops D.F f fun f => xopsQ E ops D.A h D.Hd f [] fun f p => cond (pdShut D.A p) (pdFill E.n p h.length f fun f => xops E id ops (opsAt ops D.Tl) 500 f (pdOn h p) fun f h => K .normal f h) none
        | none => none) = (match findN E.D id with
        | some D => xflt E.n ops D.F f fun f => xopsQ E ops D.A h D.Hd f [] fun f p => cond (pdShut D.A p) (pdFill E.n p h.length f fun f => xops E id ops (opsAt ops D.Tl) 500 f (pdOn h p) fun f h => xdone .normal f h) none
        | none => none).bind _
      cases findN E.D id with
      | none => rfl
      | some D =>
        simp only
        rw [xflt_bind, xflt_bind (K := fun f => xopsQ E ops D.A h D.Hd f [] fun f p => cond (pdShut D.A p) (pdFill E.n p h.length f fun f => xops E id ops (opsAt ops D.Tl) 500 f (pdOn h p) fun f h => xdone .normal f h) none), Option.bind_assoc]
        congr 1; funext f0
        rw [xopsQ_bind hN, xopsQ_bind hN (K := fun f p => cond (pdShut D.A p) (pdFill E.n p h.length f fun f => xops E id ops (opsAt ops D.Tl) 500 f (pdOn h p) fun f h => xdone .normal f h) none), Option.bind_assoc]
        congr 1; funext r
        cases pdShut D.A r.2 with
        | false => rfl
        | true =>
          simp only [cond_true]
          rw [pdFill_bind, pdFill_bind (K := fun f => xops E id ops (opsAt ops D.Tl) 500 f (pdOn h r.2) fun f h => xdone .normal f h), Option.bind_assoc]
          congr 1; funext f'
          rw [xops_bind hN, xops_bind hN (K := fun f h => xdone .normal f h), Option.bind_assoc]; rfl
  | seq a b iha ihb =>
    intro R f h K
    refine (iha R f h _).trans (Eq.trans ?_ (congrArg (Option.bind · (rets K)) (iha XR f h _)).symm)
    rw [Option.bind_assoc]
    congr 1; funext r
    obtain ⟨e, f', h'⟩ := r
    cases e with
    | normal =>
      show atSeq E.Ms (firstR b) f' (fun f => xexec E b R f h' K) = (atSeq E.Ms (firstR b) f' fun f => xexec E b XR f h' xdone).bind (rets K)
      rw [atSeq_eq, atSeq_eq]
      exact ihb R _ _ _
    | _ => rfl
  | cond c a b iha ihb =>
    intro R f h K
    show (match fEval f c with
      | .lit (.bool b') => cond b' (xexec E a R f h K) (xexec E b R f h K)
      | _ => none) = (match fEval f c with
      | .lit (.bool b') => cond b' (xexec E a XR f h xdone) (xexec E b XR f h xdone)
      | _ => none).bind _
    split
    · rename_i b' _
      cases b'
      · exact ihb R f h K
      · exact iha R f h K
    · rfl
  | block id a iha =>
    intro R f h K
    refine (iha R f h _).trans (Eq.trans ?_ (congrArg (Option.bind · (rets K)) (iha XR f h _)).symm)
    rw [Option.bind_assoc]
    congr 1; funext r
    obtain ⟨e, f', h'⟩ := r
    cases e with
    | exit id' =>
      simp only [rets]
      cases Nat.beq id' id <;> rfl
    | _ => rfl
  | loop a iha =>
    intro R f h K
    show jn ((xloop _ _ _ _).bind (rets K)) = (jn ((xloop _ _ _ _).bind (rets xdone))).bind (rets K)
    rw [jn_eq, jn_eq]
    rw [Option.bind_assoc]
    congr 1
  | rangeFunc => intro R f h K; rfl
  | exit id => intro R f h K; rfl
  | scope => intro R f h K; rfl
  | label => intro R f h K; rfl
  | goto l => intro R f h K; rfl
  | ret => intro R f h K; rfl
  | refuse => intro R f h K; rfl

theorem xiter_mono {mask : Fr → Fr} {step : Fr → AHeap → Option XR} : ∀ {m : Nat} {f : Fr} {h : AHeap} {r : XR}, xiter mask step m f h = some r → xiter mask step (m + 1) f h = some r
  | 0, f, h, r, hx => by simp [xiter] at hx
  | m + 1, f, h, r, hx => by
    unfold xiter at hx ⊢
    obtain ⟨q, h1, h2⟩ := Option.bind_eq_some_iff.1 hx
    rw [h1, Option.bind_some]
    obtain ⟨e, f', h'⟩ := q
    cases e with
    | normal => exact xiter_mono h2
    | _ => exact h2
theorem xiter_le {mask : Fr → Fr} {step : Fr → AHeap → Option XR} {m n : Nat} (hmn : m ≤ n) {f : Fr} {h : AHeap} {r : XR} (hx : xiter mask step m f h = some r) : xiter mask step n f h = some r := by
  induction hmn with
  | refl => exact hx
  | step _ ih => exact xiter_mono ih
theorem xloop_some {mask : Fr → Fr} {step : Fr → AHeap → Option XR} {f : Fr} {h : AHeap} {r : XR} : xloop mask step f h = some r ↔ ∃ m, xiter mask step m f h = some r := by
  unfold xloop xlim
  constructor
  · intro hx
    split at hx
    · rename_i hh; cases hx; exact hh.choose_spec
    · cases hx
  · rintro ⟨m, hm⟩
    have hh : ∃ r m, xiter mask step m f h = some r := ⟨r, m, hm⟩
    rw [dif_pos hh]
    obtain ⟨m', hm'⟩ := hh.choose_spec
    have h1 := xiter_le (Nat.le_max_left m m') hm
    have h2 := xiter_le (Nat.le_max_right m m') hm'
    rw [h1] at h2
    exact h2.symm
theorem xloop_eq (mask : Fr → Fr) (step : Fr → AHeap → Option XR) (f : Fr) (h : AHeap) : xloop mask step f h = (step f h).bind fun r => match r with
    | (.normal, f', h') => xloop mask step (mask f') h'
    | r => some r := by
  apply Option.ext
  intro r
  show xloop mask step f h = some r ↔ _ = some r
  rw [xloop_some]
  constructor
  · rintro ⟨m, hm⟩
    cases m with
    | zero => simp [xiter] at hm
    | succ m =>
      unfold xiter at hm
      obtain ⟨q, h1, h2⟩ := Option.bind_eq_some_iff.1 hm
      rw [h1, Option.bind_some]
      obtain ⟨e, f', h'⟩ := q
      cases e with
      | normal => exact xloop_some.2 ⟨m, h2⟩
      | _ => exact h2
  · intro hx
    obtain ⟨q, h1, h2⟩ := Option.bind_eq_some_iff.1 hx
    obtain ⟨e, f', h'⟩ := q
    cases e with
    | normal =>
      obtain ⟨m, hm⟩ := xloop_some.1 h2
      refine ⟨m + 1, ?_⟩
      unfold xiter
      rw [h1, Option.bind_some]; exact hm
    | _ =>
      refine ⟨1, ?_⟩
      unfold xiter
      rw [h1, Option.bind_some]; exact h2
def xagain {R : Type} (L : Fr → AHeap → Option R) (K : XK R) : XK R := fun e f h => match e with
  | .normal => L f h
  | e => K e f h
/-- **A loop, unrolled once.** -/
theorem xexec_loop (E : XE) (hN : CT.Nat E.C) (c : Code) (R : Type) (f : Fr) (h : AHeap) (K : XK R) :
    xexec E (.loop c) R f h K = xexec E c R (maskAt E.Ml (firstR c) f) h (fun e f h => match e with
      | .normal => xexec E (.loop c) R f h K
      | e => K e f h) := by
  rw [xexec_bind E hN c R]
  show jn ((xloop _ _ _ _).bind (rets K)) = _
  rw [jn_eq]
  rw [xloop_eq, Option.bind_assoc]
  congr 1; funext r
  obtain ⟨e, f', h'⟩ := r
  cases e with
  | normal => exact (jn_eq _).symm
  | _ => rfl
end Go.Proofs.Ytpjocohpogihcaa.AL
