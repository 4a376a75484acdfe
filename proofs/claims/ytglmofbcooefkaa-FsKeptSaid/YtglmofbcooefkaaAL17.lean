/- A region that draws its order: what only reads comes in any order; what is behind it waits for all of it. -/
import Derived.Test.YtglmofbcooefkaaAL16
import Derived.Orders
import Derived.Still
namespace Go.Proofs.Ytglmofbcooefkaa.AL
set_option linter.unusedVariables false
set_option linter.unusedSimpArgs false
open Go

variable {G : Rnd} {ρ ρ' : Env} {h h' : AHeap} {w w' : World} {P : Program}

def Wants (ops : Array Oper) (o : Oper) (a : List AVal) : Option Bool :=
  match o.guard with
  | none => some true
  | some (j, want) => match (ops[j]?).bind (·.dst) with
    | some d => match aget a d with
      | .lit (.bool b) => some (b == want)
      | _ => none
    | none => none

/-- It hands back this value, and leaves the heap. -/
def AOpQ (P : Program) (o : Oper) (a : List AVal) (h : AHeap) (v : AVal) : Prop :=
  match o.op with
  | .call { callee := .value f, args, argTypes } => match aEval a f with
    | .fn (.func i) xs ys => callable P i = true ∧ ACalls P i (xs ++ evs a args ++ ys) h fun e h' => e = .ret v ∧ h' = h
    | _ => False
  | op => AOp P op o.type a h fun v' h' => v' = v ∧ h' = h

/-- One operation of the head. -/
def QStep (P : Program) (ops : Array Oper) (h : AHeap) (o : Oper) (K : List AVal → Prop) (a : List AVal) : Prop :=
  AGuard ops o a (∃ v, AOpQ P o a h v ∧ K (aset a o.dst v)) (K (aset a o.dst .any))

/-- The head in the order of the text; then the rest. -/
def AOpsQ (P : Program) (ops : Array Oper) (h : AHeap) (K : List AVal → Prop) : List Oper → List AVal → Prop
  | [], a => K a
  | o :: rest, a => QStep P ops h o (AOpsQ P ops h K rest) a

theorem aget_aset_ne {a : List AVal} {d : Option Nat} {t : Nat} {v : AVal} (hd : ∀ e, d = some e → e ≠ t) : aget (aset a d v) t = aget a t := by
  cases d with
  | none => rfl
  | some e =>
    have := hd e rfl
    simp [aget, aset, List.getD, List.getElem?_set_ne this]

theorem aEval_aset {a : List AVal} {d : Option Nat} {x : Operand} {v : AVal} (hd : ∀ e, d = some e → x ≠ .tmp e) : aEval (aset a d v) x = aEval a x := by
  cases x with
  | tmp t => exact aget_aset_ne fun e he heq => hd e he (by rw [heq])
  | _ => rfl

theorem aset_comm (a : List AVal) {x y : Option Nat} (v u : AVal) (hn : ∀ d, x = some d → y ≠ some d) : aset (aset a x v) y u = aset (aset a y u) x v := by
  cases x with
  | none => rfl
  | some d =>
    cases y with
    | none => rfl
    | some e =>
      have hne : d ≠ e := fun he => hn d rfl (by rw [he])
      simp [aset, List.set_comm _ _ hne]

theorem evs_congr {a a' : List AVal} {xs : Array Operand} (hx : ∀ x ∈ xs, aEval a x = aEval a' x) : evs a xs = evs a' xs := by
  unfold evs
  exact List.map_congr_left fun x hm => hx x (by simpa using hm)

theorem evParts_congr {a a' : List AVal} {ps : Array (Nat × Operand)} (hx : ∀ x ∈ (ps.toList.map (·.2)).toArray, aEval a x = aEval a' x) : evParts a ps = evParts a' ps := by
  unfold evParts
  refine List.map_congr_left fun p hm => ?_
  rw [hx p.2 (by simp; exact ⟨p.1, by simpa using hm⟩)]

theorem AOp_congr {o : Op} {ty : TypeId} {a a' : List AVal} {K : AVal → AHeap → Prop} (hx : ∀ x ∈ o.operands, aEval a x = aEval a' x) : AOp P o ty a h K = AOp P o ty a' h K := by
  cases o with
  | build t ps => simp only [AOp]; rw [evParts_congr (by simpa [Op.operands] using hx)]
  | buildSlice t len ps => simp only [AOp]; rw [evParts_congr (by simpa [Op.operands] using hx)]
  | makeFunc f xs ys =>
    simp only [AOp]
    rw [evs_congr (a' := a') (xs := xs) fun x hm => hx x (by simp [Op.operands, hm]), evs_congr (a' := a') (xs := ys) fun x hm => hx x (by simp [Op.operands, hm])]
  | slice t x lo hi mx =>
    simp only [AOp]
    have h1 : aEval a x = aEval a' x := hx x (by simp [Op.operands])
    have h2 : ∀ m : Option Operand, (∀ y ∈ m.toArray, aEval a y = aEval a' y) → m.map (aEval a) = m.map (aEval a') := by
      intro m hm
      cases m with
      | none => rfl
      | some y => simp [hm y (by simp)]
    rw [h1, h2 lo (fun y hy => hx y (by simp only [Op.operands]; simp at hy ⊢; simp [hy])), h2 hi (fun y hy => hx y (by simp only [Op.operands]; simp at hy ⊢; simp [hy])), h2 mx (fun y hy => hx y (by simp only [Op.operands]; simp at hy ⊢; simp [hy]))]
  | call c =>
    obtain ⟨callee, args, argTypes⟩ := c
    cases callee with
    | builtin b =>
      have h1 : ∀ x ∈ args, aEval a x = aEval a' x := fun x hm => hx x (by simp [Op.operands, Call.operands, hm])
      simp only [AOp]
      rw [evs_congr h1]
      have hmem : ∀ x ∈ args.toList, aEval a x = aEval a' x := fun x hm => h1 x (by simpa using hm)
      generalize args.toList = l at hmem
      match l, argTypes.toList with
      | [], _ => cases b <;> rfl
      | [x], [] => cases b <;> rfl
      | [x], [t] => have := hmem x (by simp); cases b <;> simp [this]
      | [x], _ :: _ :: _ => cases b <;> rfl
      | [x, y], [] => cases b <;> rfl
      | [x, y], [t] => cases b <;> rfl
      | [x, y], [t, s] => have e1 := hmem x (by simp); have e2 := hmem y (by simp); cases b <;> simp [e1, e2]
      | [x, y], _ :: _ :: _ :: _ => cases b <;> rfl
      | _ :: _ :: _ :: _, _ => cases b <;> rfl
    | value f => rfl
    | invoke r m => rfl
  | makeMap t r => cases r <;> rfl
  | next it isS =>
    cases isS with
    | false => simp only [AOp]; simp only [Op.operands, List.mem_toArray, List.mem_cons, List.not_mem_nil, or_false, forall_eq_or_imp, forall_eq] at hx; simp only [hx]
    | true => simp only [AOp]; simp only [Op.operands, List.mem_toArray, List.mem_cons, List.not_mem_nil, or_false, forall_eq_or_imp, forall_eq] at hx; simp only [hx]
  | _ => (try rfl) <;> (simp only [AOp]; simp only [Op.operands, List.mem_toArray, List.mem_cons, List.not_mem_nil, or_false, forall_eq_or_imp, forall_eq] at hx; simp only [hx])

theorem AOpQ_congr {o : Oper} {a a' : List AVal} {v : AVal} (hx : ∀ x ∈ o.op.operands, aEval a x = aEval a' x) : AOpQ P o a h v = AOpQ P o a' h v := by
  unfold AOpQ
  split
  · rename_i f args argTypes hop
    rw [hop] at hx
    have h1 : aEval a f = aEval a' f := hx f (by simp [Op.operands, Call.operands])
    rw [h1, evs_congr fun x hm => hx x (by simp [Op.operands, Call.operands, hm])]
  · exact AOp_congr hx

theorem looks {ops : Array Oper} {o : Oper} {d : Option Nat} (hd : ∀ e, d = some e → e ∉ o.looksAt ops) {a : List AVal} {v : AVal} :
    (∀ x ∈ o.op.operands, aEval (aset a d v) x = aEval a x) ∧ Wants ops o (aset a d v) = Wants ops o a := by
  refine ⟨fun x hm => aEval_aset fun e he hxe => ?_, ?_⟩
  · refine hd e he ?_
    simp only [Oper.looksAt, List.mem_append, List.mem_filterMap]
    exact .inl ⟨x, by simpa using hm, by rw [hxe]⟩
  · unfold Wants
    cases hg : o.guard with
    | none => rfl
    | some p =>
      obtain ⟨j, want⟩ := p
      cases hj : (ops[j]?).bind (·.dst) with
      | none => simp [hj]
      | some e =>
        have : aget (aset a d v) e = aget a e := aget_aset_ne fun e' he' heq => by
          refine hd e' he' ?_
          simp only [Oper.looksAt, List.mem_append]
          right
          rw [hg]
          simp [hj, heq]
        simp [hj, this]

theorem guard_iff {ops : Array Oper} {o : Oper} {a : List AVal} {yes no : Prop} : AGuard ops o a yes no ↔ (Wants ops o a = some true ∧ yes) ∨ (Wants ops o a = some false ∧ no) := by
  cases hg : o.guard with
  | none => simp [AGuard, Wants, hg]
  | some p =>
    obtain ⟨j, want⟩ := p
    cases hd : (ops[j]?).bind (·.dst) with
    | none => simp [AGuard, Wants, hg, hd]
    | some d =>
      have key : (∃ b, aget a d = .lit (.bool b)) ∨ ∀ b, aget a d ≠ .lit (.bool b) := by
        cases aget a d with
        | lit u => cases u with
          | bool b => exact .inl ⟨b, rfl⟩
          | _ => exact .inr fun b hb => by simp at hb
        | _ => exact .inr fun b hb => by simp at hb
      rcases key with ⟨b, hb⟩ | hn
      · cases b <;> cases want <;> simp [AGuard, Wants, hg, hd, hb]
      · have h1 : AGuard ops o a yes no ↔ False := by
          simp only [AGuard, hg, hd]
          try (split <;> first | rfl | (rename_i b hb; exact absurd hb (hn b)))
        have h2 : Wants ops o a = none := by
          simp only [Wants, hg, hd]
          try (split <;> first | rfl | (rename_i b hb; exact absurd hb (hn b)))
        rw [h1, h2]; simp

/-- In this state the operation leaves this value in its slot. -/
def AYields (P : Program) (ops : Array Oper) (h : AHeap) (o : Oper) (v : AVal) (a : List AVal) : Prop := (Wants ops o a = some true ∧ AOpQ P o a h v) ∨ (Wants ops o a = some false ∧ v = .any)

theorem QStep.yields {ops : Array Oper} {o : Oper} {K : List AVal → Prop} {a : List AVal} (hq : QStep P ops h o K a) : ∃ v, AYields P ops h o v a ∧ K (aset a o.dst v) := by
  rcases guard_iff.1 hq with ⟨hw, v, h1, h2⟩ | ⟨hw, h2⟩
  · exact ⟨v, .inl ⟨hw, h1⟩, h2⟩
  · exact ⟨.any, .inr ⟨hw, rfl⟩, h2⟩

theorem AYields.step {ops : Array Oper} {o : Oper} {K : List AVal → Prop} {a : List AVal} {v : AVal} (hy : AYields P ops h o v a) (hK : K (aset a o.dst v)) : QStep P ops h o K a := by
  refine guard_iff.2 ?_
  rcases hy with ⟨hw, h1⟩ | ⟨hw, rfl⟩
  · exact .inl ⟨hw, v, h1, hK⟩
  · exact .inr ⟨hw, hK⟩

theorem AYields.put {ops : Array Oper} {o : Oper} {a : List AVal} {v : AVal} {d : Option Nat} {u : AVal} (hd : ∀ e, d = some e → e ∉ o.looksAt ops) : AYields P ops h o v (aset a d u) ↔ AYields P ops h o v a := by
  obtain ⟨h1, h2⟩ := looks (ops := ops) (o := o) hd (a := a) (v := u)
  unfold AYields
  rw [h2, AOpQ_congr h1]

def QOp (P : Program) (ops : Array Oper) (h : AHeap) (i : Nat) (K : List AVal → Prop) (a : List AVal) : Prop :=
  match ops[i]? with
  | none => False
  | some o => QStep P ops h o K a

theorem QStep.mono {ops : Array Oper} {o : Oper} {K K' : List AVal → Prop} {a : List AVal} (hk : ∀ a, K a → K' a) (hq : QStep P ops h o K a) : QStep P ops h o K' a := by
  obtain ⟨v, h1, h2⟩ := hq.yields
  exact h1.step (hk _ h2)

theorem qOp_put' {ops : Array Oper} {oi oj : Oper} {v : AVal} (hap : oi.apart ops oj = true) {K : List AVal → Prop} {a : List AVal} (hy : AYields P ops h oi v a) (hq : QStep P ops h oj K (aset a oi.dst v)) :
    QStep P ops h oj (fun a' => AYields P ops h oi v a' ∧ K (aset a' oi.dst v)) a := by
  obtain ⟨h1, h2, h3⟩ := Oper.apart_spec hap
  obtain ⟨u, hu, hK⟩ := hq.yields
  refine ((AYields.put h1).1 hu).step ⟨(AYields.put h3).2 hy, ?_⟩
  rw [aset_comm a u v (fun d hd he => h2 d he hd)]
  exact hK

/-- The head, whatever order is picked. -/
def AnyH (P : Program) (md : Region.Mode) (ops : Array Oper) (h : AHeap) (n : Nat) (L : Array Bool → List AVal → Prop) : Nat → Array Bool → List AVal → Prop
  | 0, listed, a => L listed a
  | f + 1, listed, a => Region.ready md ops listed ≠ [] ∧ ∀ i ∈ Region.ready md ops listed, i < n ∧ QOp P ops h i (AnyH P md ops h n L f (listed.setIfInBounds i true)) a

/-- What stands behind the head waits for all of it. -/
def tailWaits (md : Region.Mode) (ops : Array Oper) (n : Nat) : Bool :=
  (List.range ops.size).all fun t => decide (t < n) || (List.range n).all fun i => match ops[t]? with
    | some ot => ot.after.any fun e => Region.binds md e && e.on == i
    | none => false

theorem tailWaits_spec {md : Region.Mode} {ops : Array Oper} {n t i : Nat} {listed : Array Bool} (ht : tailWaits md ops n = true) (hi : i < n) (hun : listed.getD i true = false) (hr : t ∈ Region.ready md ops listed) : t < n := by
  obtain ⟨_, ot, hot, hall⟩ := mem_ready.1 hr
  have hlt : t < ops.size := lt_of_get hot
  have h1 := List.all_eq_true.1 ht t (List.mem_range.2 hlt)
  simp only [Bool.or_eq_true, decide_eq_true_eq] at h1
  rcases h1 with h1 | h1
  · exact h1
  · have h2 := List.all_eq_true.1 h1 i (List.mem_range.2 hi)
    rw [hot] at h2
    obtain ⟨e, he, hb⟩ := Array.any_eq_true'.1 h2
    simp only [Bool.and_eq_true, beq_iff_eq] at hb
    have h3 := hall e he hb.1
    rw [hb.2] at h3
    rcases Nat.lt_or_ge i listed.size with h' | h'
    · simp [h'] at hun h3; rw [hun] at h3; cases h3
    · simp [Array.getElem?_eq_none h'] at hun

theorem anyH_first {md : Region.Mode} {ops : Array Oper} {n i : Nat} {oi : Oper} {v : AVal} {L : Array Bool → List AVal → Prop} (hi : ops[i]? = some oi) (hin : i < n) (ht : tailWaits md ops n = true)
    (hL : ∀ listed a, L listed a → ∀ j ∈ Region.ready md ops listed, n ≤ j) : ∀ (f : Nat) (listed : Array Bool) (a : List AVal),
      (∀ j oj, ops[j]? = some oj → j ≠ i → listed.getD j true = false → (∀ e ∈ oj.after, Region.binds md e = true → e.on ≠ i) → oi.apart ops oj = true) →
      i ∈ Region.ready md ops listed → AYields P ops h oi v a →
      AnyH P md ops h n L f (listed.setIfInBounds i true) (aset a oi.dst v) → AnyH P md ops h n L (f + 1) listed a := by
  intro f
  induction f with
  | zero =>
    intro listed a _ hr hy H
    refine ⟨fun h => (by rw [h] at hr; cases hr), fun j hj => ?_⟩
    by_cases hji : j = i
    · subst hji
      refine ⟨hin, ?_⟩
      unfold QOp; rw [hi]; exact hy.step H
    · have h1 := hL _ _ H j (ready_mono hj hji)
      have h2 := tailWaits_spec ht hin (mem_ready.1 hr).1 hj
      omega
  | succ f ih =>
    intro listed a hfree hr hy H
    refine ⟨fun h => (by rw [h] at hr; cases hr), fun j hj => ?_⟩
    by_cases hji : j = i
    · subst hji
      refine ⟨hin, ?_⟩
      unfold QOp; rw [hi]; exact hy.step H
    · obtain ⟨hjn, h1⟩ := H.2 j (ready_mono hj hji)
      obtain ⟨hjun, oj, hoj, hall⟩ := mem_ready.1 hj
      have hnot : ∀ e ∈ oj.after, Region.binds md e = true → e.on ≠ i := fun e he hb heq => by
        have h1 := hall e he hb
        have h0 := (mem_ready.1 hr).1
        rw [heq] at h1
        rcases Nat.lt_or_ge i listed.size with h' | h'
        · simp [h'] at h0 h1; rw [h0] at h1; cases h1
        · simp [Array.getElem?_eq_none h'] at h1
      refine ⟨hjn, ?_⟩
      unfold QOp at h1 ⊢
      rw [hoj] at h1 ⊢
      have h2 := qOp_put' (hfree j oj hoj hji hjun hnot) hy h1
      have hfree' : ∀ k ok, ops[k]? = some ok → k ≠ i → (listed.setIfInBounds j true).getD k true = false →
          (∀ e ∈ ok.after, Region.binds md e = true → e.on ≠ i) → oi.apart ops ok = true := fun k ok hk hki hun hno => by
        refine hfree k ok hk hki ?_ hno
        by_cases hjk : j = k
        · subst hjk; exact hjun
        · rw [getD_set_ne true hjk] at hun; exact hun
      refine h2.mono fun a' h3 => ih (listed.setIfInBounds j true) a' hfree' (ready_mono hr (Ne.symm hji)) h3.1 ?_
      rw [Array.setIfInBounds_comm _ _ hji]
      exact h3.2

/-- The text's order is one that may be picked, up to the tail. -/
def headFrom (md : Region.Mode) (ops : Array Oper) : Nat → Nat → Array Bool → Bool
  | 0, _, _ => true
  | f + 1, k, listed => (Region.ready md ops listed).contains k && Region.free md ops listed k && headFrom md ops f (k + 1) (listed.setIfInBounds k true)

def listedTo (ops : Array Oper) : Nat → Array Bool
  | 0 => Array.replicate ops.size false
  | n + 1 => (listedTo ops n).setIfInBounds n true

/-- Behind the head, one by one. -/
def tailFrom (md : Region.Mode) (ops : Array Oper) : Nat → Nat → Bool
  | 0, k => (Region.ready md ops (listedTo ops k)) == []
  | f + 1, k => (Region.ready md ops (listedTo ops k)) == [k] && tailFrom md ops f (k + 1)

theorem anyH_lex {md : Region.Mode} {ops : Array Oper} {n : Nat} {L : Array Bool → List AVal → Prop} (ht : tailWaits md ops n = true)
    (hL : ∀ listed a, L listed a → ∀ j ∈ Region.ready md ops listed, n ≤ j) : ∀ (l : List Oper) (k : Nat) (a : List AVal), (∀ j, l[j]? = if k + j < n then ops[k + j]? else none) → k + l.length = n →
    headFrom md ops l.length k (listedTo ops k) = true → AOpsQ P ops h (L (listedTo ops n)) l a → AnyH P md ops h n L l.length (listedTo ops k) a
  | [], k, a, hl, hk, hB, hq => by
    have : k = n := by simpa using hk
    subst this
    exact hq
  | o :: l, k, a, hl, hk, hB, hq => by
    simp only [List.length_cons] at hk
    have hkn : k < n := by omega
    have h0 : ops[k]? = some o := by
      have := hl 0
      simp only [List.getElem?_cons_zero, Nat.add_zero, hkn, if_true] at this
      exact this.symm
    simp only [List.length_cons, headFrom, Bool.and_eq_true] at hB
    obtain ⟨⟨hr, hf⟩, hB'⟩ := hB
    obtain ⟨v, hy, hK⟩ := QStep.yields hq
    refine anyH_first h0 hkn ht hL l.length (listedTo ops k) a (Region.free_spec h0 hf) (by simpa using hr) hy ?_
    exact anyH_lex ht hL l (k + 1) _ (fun j => by
      have := hl (j + 1)
      simp only [List.getElem?_cons_succ] at this
      rw [this]
      have e : k + (j + 1) = k + 1 + j := by omega
      rw [e]) (by omega) hB' hK

theorem aOpQ_sound {o : Oper} {a : List AVal} {ca : Act} {v : AVal} {K' : Act → World → Prop} {Q' : Exit → Act → World → Prop} (hR : Rel ρ h w) (ha : AR G ρ h w a ca) (hK : AOpQ P o a h v)
    (hk : ∀ ρ' w' ca', Evo ρ h w ρ' h w' → Rel ρ' h w' → AR G ρ' h w' (aset a o.dst v) ca' → K' ca' w') : o.wpIn (FW G.ro) 0 P ca w K' Q' := by
  unfold AOpQ at hK
  split at hK
  · rename_i f args argTypes hop
    refine aOper_sound (K := fun a' h' => a' = aset a o.dst v ∧ h' = h) (Q := fun _ _ _ => False) hR ha ?_ (fun ρ' h' w' a' ca' ev hR' ha' ⟨e1, e2⟩ => by subst e1; subst e2; exact hk ρ' w' ca' ev hR' ha') (fun c ρ' h' w' a' ca' _ _ _ hf => hf.elim)
    unfold AOper
    rw [hop]
    simp only
    unfold ACall
    split at hK
    · rename_i i xs ys hf
      rw [hf]
      exact ⟨hK.1, hK.2.mono fun e h' ⟨e1, e2⟩ => by subst e1; exact ⟨rfl, e2⟩⟩
    · exact hK.elim
  · obtain ⟨ρ', h', w', v', u, h1, ev, hR', hvu, rfl, rfl⟩ := aOp_sound hR ha hK
    refine owp_of (fun c hc => by rw [hc] at hK; exact hK) ?_
    rcases h1 with h1 | ⟨h1, rfl⟩
    · rw [h1, Oper.uponIn_value]
      exact hk _ _ _ ev hR' ((ha.evo ev).put hvu o.dst)
    · rw [h1, Oper.uponIn_skip]
      exact hk _ _ _ ev hR' ((ha.evo ev).put hvu o.dst)

theorem wants_wanted {ops : Array Oper} {o : Oper} {a : List AVal} {ca : Act} {b : Bool} (ha : AR G ρ h w a ca) (hw : Wants ops o a = some b) : Region.wanted o (yielded ops ca.tmps) = b := by
  unfold Wants at hw
  unfold Region.wanted
  split at hw
  · rename_i hg; rw [hg]; simpa using hw
  · rename_i j want hg
    rw [hg]
    split at hw
    · rename_i d hd
      split at hw
      · rename_i c hc
        have := yielded_of ha hd hc
        simp only [this]
        simp only [Option.some.injEq] at hw
        rw [← hw]
        cases c <;> cases want <;> rfl
      · simp at hw
    · simp at hw

theorem anyH_sound {md : Region.Mode} {ops : Array Oper} {n g : Nat} {L : Array Bool → List AVal → Prop} {Q : AQ} {ρ0 : Env} {h0 : AHeap} {w0 : World}
    (hL : ∀ listed a ρ w ca, L listed a → Evo ρ0 h0 w0 ρ h w → Rel ρ h w → AR G ρ h w a ca → wpAnyIn (FW G.ro) 0 P md ops (Post G ρ0 h0 w0 Q) g listed ca w) : ∀ (f : Nat) (listed : Array Bool) (a : List AVal) (ρ : Env) (w : World) (ca : Act),
      AnyH P md ops h n L f listed a → Evo ρ0 h0 w0 ρ h w → Rel ρ h w → AR G ρ h w a ca → wpAnyIn (FW G.ro) 0 P md ops (Post G ρ0 h0 w0 Q) (f + g) listed ca w
  | 0, listed, a, ρ, w, ca, hA, e0, hR, ha => by rw [Nat.zero_add]; exact hL listed a ρ w ca hA e0 hR ha
  | f + 1, listed, a, ρ, w, ca, hA, e0, hR, ha => by
    rw [show f + 1 + g = (f + g) + 1 by omega]
    refine ⟨fun h0 => absurd h0 hA.1, fun i hi => ?_⟩
    obtain ⟨_, hq⟩ := hA.2 i hi
    unfold QOp at hq
    unfold wpOpIn
    cases ho : ops[i]? with
    | none => rw [ho] at hq; exact hq.elim
    | some o =>
      rw [ho] at hq
      simp only at hq ⊢
      rcases guard_iff.1 hq with ⟨hw, v, h1, h2⟩ | ⟨hw, h2⟩
      · rw [if_pos (wants_wanted ha hw)]
        exact (aOpQ_sound hR ha h1 fun ρ' w' ca' ev hR' ha' => anyH_sound hL f _ _ ρ' w' ca' h2 (e0.trans ev) hR' ha')
      · rw [if_neg (by rw [wants_wanted ha hw]; simp)]
        refine ⟨fun _ _ => trivial, ?_⟩
        exact anyH_sound hL f _ _ ρ w _ h2 e0 hR (ha.put (.any _) _)

theorem listedTo_size (ops : Array Oper) : ∀ n, (listedTo ops n).size = ops.size
  | 0 => by simp [listedTo]
  | n + 1 => by simp [listedTo, listedTo_size ops n]

theorem tail_sound {md : Region.Mode} {ops : Array Oper} {Q : AQ} {ρ0 : Env} {h0 : AHeap} {w0 : World} : ∀ (f k : Nat) (a : List AVal) (h : AHeap) (ρ : Env) (w : World) (ca : Act), k + f = ops.size → tailFrom md ops f k = true →
    Evo ρ0 h0 w0 ρ h w → Rel ρ h w → AR G ρ h w a ca → AOps P ops Q (ops.toList.drop k) a h → wpAnyIn (FW G.ro) 0 P md ops (Post G ρ0 h0 w0 Q) f (listedTo ops k) ca w := by
  intro f
  induction f with
  | zero =>
    intro k a h ρ w ca hk hB e0 hR ha hA
    have hd : ops.toList.drop k = [] := List.drop_eq_nil_of_le (by simp; omega)
    rw [hd] at hA
    exact ⟨by simpa [tailFrom] using hB, ρ, h, a, e0, hR, ha, hA⟩
  | succ f ih =>
    intro k a h ρ w ca hk hB e0 hR ha hA
    simp only [tailFrom, Bool.and_eq_true, beq_iff_eq] at hB
    obtain ⟨hr, hB'⟩ := hB
    refine ⟨fun hn => (by rw [hr] at hn; cases hn), fun i hi => ?_⟩
    rw [hr] at hi
    obtain rfl : i = k := by simpa using hi
    have hlt : i < ops.size := by omega
    have hd : ops.toList.drop i = ops[i] :: ops.toList.drop (i + 1) := by
      rw [List.drop_eq_getElem_cons (by simpa using hlt)]; simp
    rw [hd] at hA
    unfold wpOpIn
    rw [Array.getElem?_eq_getElem hlt]
    simp only
    have hset : (listedTo ops i).setIfInBounds i true = listedTo ops (i + 1) := rfl
    rw [hset]
    simp only [AOps] at hA
    rcases guard_iff.1 hA with ⟨hw, h1⟩ | ⟨hw, h1⟩
    · rw [if_pos (wants_wanted ha hw)]
      exact (aOper_sound hR ha h1 (fun ρ' h' w' a' ca' ev hR' ha' hK => ih (i + 1) a' h' ρ' w' ca' (by omega) hB' (e0.trans ev) hR' ha' hK)
        (fun c ρ' h' w' a' ca' ev hR' ha' hq => ⟨ρ', h', a', e0.trans ev, hR', ha', hq⟩))
    · rw [if_neg (by rw [wants_wanted ha hw]; simp)]
      refine ⟨fun _ _ => trivial, ?_⟩
      exact ih (i + 1) _ h ρ w _ (by omega) hB' e0 hR (ha.put (.any _) _) h1

/-- What is asked of the region's text: reckoned by the kernel. -/
def drawOk (ops : Array Oper) (n : Nat) : Bool :=
  decide (n ≤ ops.size) && tailWaits .any ops n && headFrom .any ops n 0 (listedTo ops 0) && tailFrom .any ops (ops.size - n) n && (Region.ready .any ops (listedTo ops n)).all (n ≤ ·)

theorem AOpsQ_mono {ops : Array Oper} {K K' : List AVal → Prop} (hk : ∀ a, K a → K' a) : ∀ (l : List Oper) (a : List AVal), AOpsQ P ops h K l a → AOpsQ P ops h K' l a
  | [], a, hq => hk a hq
  | o :: l, a, hq => QStep.mono (fun a' h' => AOpsQ_mono hk l a' h') hq

/-- **A region that draws its order**: its first 'n' operations only read (or call what leaves no trace), the others wait for them, and for one another. -/
theorem awp_draw {id : Nat} {ops : Array Oper} {Q : AQ} {a : List AVal} (n : Nat) (hm : P.follows .mixedOrders = true) (hB : drawOk ops n = true)
    (hA : AOpsQ P ops h (fun a' => AOps P ops Q (ops.toList.drop n) a' h) (ops.toList.take n) a) : AWp P (.region id ops true) Q a h := by
  intro G ρ w ca hR ha
  simp only [drawOk, Bool.and_eq_true, decide_eq_true_eq] at hB
  obtain ⟨⟨⟨⟨hn, hW⟩, hH⟩, hT⟩, hr⟩ := hB
  refine wpIn_region_any hm ?_
  obtain ⟨hR1, e1⟩ := hR.like (w' := { w with drawn := w.drawn + 1 }) ⟨rfl, rfl, rfl⟩ rfl
  have hlen : (ops.toList.take n).length = n := by simp; omega
  have hsum : n + (ops.size - n) = ops.size := by omega
  have key := anyH_lex (P := P) (h := h) (md := .any) (ops := ops) (n := n) (L := fun listed a' => listed = listedTo ops n ∧ AOps P ops Q (ops.toList.drop n) a' h) hW
    (fun listed a' hL j hj => by
      rw [hL.1] at hj
      have := List.all_eq_true.1 hr j hj
      simpa using this) (ops.toList.take n) 0 a
    (fun j => by
      simp only [Nat.zero_add, List.getElem?_take]
      split <;> simp) (by rw [Nat.zero_add]; exact hlen) (by rw [hlen]; exact hH) (AOpsQ_mono (fun a' h' => ⟨rfl, h'⟩) _ _ hA)
  rw [hlen] at key
  have := anyH_sound (G := G) (P := P) (md := .any) (ops := ops) (n := n) (g := ops.size - n) (Q := Q) (ρ0 := ρ) (h0 := h) (w0 := w)
    (fun listed a' ρ' w' ca' hL e0 hR' ha' => by
      rw [hL.1]
      exact tail_sound (G := G) (ops.size - n) n a' h ρ' w' ca' hsum hT e0 hR' ha' hL.2) n _ a ρ _ ca key e1 hR1 (ha.evo e1)
  rw [hsum] at this
  exact this

end Go.Proofs.Ytglmofbcooefkaa.AL
