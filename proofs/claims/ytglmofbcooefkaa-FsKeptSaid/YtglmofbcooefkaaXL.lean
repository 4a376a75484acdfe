/- A region that draws its order, in which reads may come late: they are reckoned first, and asked again behind whatever might come ahead of them. -/
import Derived.Test.YtglmofbcooefkaaXD
namespace Go.Proofs.Ytglmofbcooefkaa.AL
set_option linter.unusedVariables false
set_option linter.unusedSimpArgs false
open Go

variable {G : Rnd} {ρ ρ' : Env} {h h' : AHeap} {w w' : World} {P : Program}

/-! ### One operation, its value told -/
def AOperV (P : Program) (o : Oper) (a : List AVal) (h : AHeap) (K : AVal → AHeap → Prop) : Prop :=
  match o.op with
  | .call { callee := .value f, args, argTypes } => match aEval a f with
    | .fn (.func i) vs ws => callable P i = true ∧ ACalls P i (vs ++ evs a args ++ ws) h fun e h' => ∃ v, e = .ret v ∧ K v h'
    | _ => False
  | op => AOp P op o.type a h K
theorem AOperV_congr {o : Oper} {a a' : List AVal} {K : AVal → AHeap → Prop} (hx : ∀ x ∈ o.op.operands, aEval a x = aEval a' x) : AOperV P o a h K = AOperV P o a' h K := by
  unfold AOperV
  split
  · rename_i f args argTypes hop
    rw [hop] at hx
    have h1 : aEval a f = aEval a' f := hx f (by simp [Op.operands, Call.operands])
    rw [h1, evs_congr fun x hm => hx x (by simp [Op.operands, Call.operands, hm])]
  · exact AOp_congr hx
theorem aOperV_sound {o : Oper} {a : List AVal} {ca : Act} {K : AVal → AHeap → Prop} {K' : Act → World → Prop} {Q' : Exit → Act → World → Prop} (hR : Rel ρ h w) (ha : AR G ρ h w a ca) (hK : AOperV P o a h K)
    (hk : ∀ ρ' h' w' v ca', Evo ρ h w ρ' h' w' → Rel ρ' h' w' → AR G ρ' h' w' (aset a o.dst v) ca' → K v h' → K' ca' w') : o.wpIn (FW G.ro) 0 P ca w K' Q' := by
  unfold AOperV at hK
  split at hK
  · rename_i f args argTypes hop
    split at hK
    · rename_i i vs ws hf
      obtain ⟨hc, hK⟩ := hK
      have hv := ha.eval f
      rw [hf] at hv
      generalize hu : ca.eval f = u at hv
      cases hv with | fn _ _ _ us xs hl hl' hv hw =>
      have hrun := run_enter (P := P) (w := w) (args := args) (argTypes := argTypes) (ty := o.type) hu hc
      have hx : execOp ca.eval o = (do let d ← resolve ca.eval { callee := .value f, args, argTypes } o.type; invoke d.target d.args) := by unfold execOp; rw [hop]
      refine owp_of (fun c hc => by rw [hop] at hc; cases hc) ?_
      rw [hx, hrun]
      rw [Oper.uponIn_enter]
      refine ⟨fun h => (by simp at h), (callsIn_fw (hK ρ w _ hR (evs_args ha args ⟨hl, hv⟩ ⟨hl', hw⟩))).mono ?_⟩
      rintro e w' ⟨ρ', h', e', ev, hR', hE, v, rfl, hr⟩
      cases hE with
      | ret v u hvu => exact hk _ _ _ _ _ ev hR' ((ha.evo ev).put hvu o.dst) hr
    · exact hK.elim
  · obtain ⟨ρ', h', w', v, u, h1, ev, hR', hvu, hr⟩ := aOp_sound hR ha hK
    refine owp_of (fun c hc => by rw [hc] at hK; exact hK) ?_
    rcases h1 with h1 | ⟨h1, rfl⟩
    · rw [h1, Oper.uponIn_value]
      exact hk _ _ _ _ _ ev hR' ((ha.evo ev).put hvu o.dst) hr
    · rw [h1, Oper.uponIn_skip]
      exact hk _ _ _ _ _ ev hR' ((ha.evo ev).put hvu o.dst) hr

/-! ### Slots that may not be set yet -/
def hid (ops : Array Oper) (U : List Nat) (t : Nat) : Bool := U.any fun i => dstOf ops i == some t
def hide (ops : Array Oper) (U : List Nat) (a : List AVal) : List AVal := a.mapIdx fun t v => if hid ops U t then .any else v
theorem hid_iff {ops : Array Oper} {U : List Nat} {t : Nat} : hid ops U t = true ↔ ∃ i ∈ U, dstOf ops i = some t := by simp [hid]
theorem hide_length (ops : Array Oper) (U : List Nat) (a : List AVal) : (hide ops U a).length = a.length := by simp [hide]
theorem aget_hide {ops : Array Oper} {U : List Nat} {a : List AVal} {t : Nat} (ht : hid ops U t = false) : aget (hide ops U a) t = aget a t := by
  unfold aget hide
  rw [List.getD_eq_getElem?_getD, List.getD_eq_getElem?_getD, List.getElem?_mapIdx]
  cases a[t]? with
  | none => rfl
  | some v => simp [ht]
theorem aEval_hide {ops : Array Oper} {U : List Nat} {a : List AVal} {x : Operand} (hx : ∀ t, x = .tmp t → hid ops U t = false) : aEval (hide ops U a) x = aEval a x := by
  cases x with
  | tmp t => exact aget_hide (hx t rfl)
  | _ => rfl
/-- None of the hidden slots is looked at. -/
def Clear (ops : Array Oper) (U : List Nat) (o : Oper) : Prop := ∀ j ∈ U, ∀ d, dstOf ops j = some d → d ∉ o.looksAt ops
theorem Clear.evals {ops : Array Oper} {U : List Nat} {o : Oper} (hc : Clear ops U o) (a : List AVal) : ∀ x ∈ o.op.operands, aEval a x = aEval (hide ops U a) x := by
  intro x hx
  refine (aEval_hide fun t ht => ?_).symm
  cases hb : hid ops U t with
  | false => rfl
  | true =>
    obtain ⟨j, hj, hd⟩ := hid_iff.1 hb
    refine absurd ?_ (hc j hj t hd)
    simp only [Oper.looksAt, List.mem_append, List.mem_filterMap]
    exact .inl ⟨x, by simpa using hx, by rw [ht]⟩
theorem Clear.want {ops : Array Oper} {U : List Nat} {o : Oper} (hc : Clear ops U o) (a : List AVal) : Want2 ops o (hide ops U a) = Want2 ops o a := by
  unfold Want2
  cases hg : o.guard with
  | none => rfl
  | some p =>
    obtain ⟨j, want⟩ := p
    cases hj : (ops[j]?).bind (·.dst) with
    | none => simp [hj]
    | some e =>
      have : aget (hide ops U a) e = aget a e := aget_hide (by
        cases hb : hid ops U e with
        | false => rfl
        | true =>
          obtain ⟨i, hi, hd⟩ := hid_iff.1 hb
          refine absurd ?_ (hc i hi e hd)
          simp only [Oper.looksAt, List.mem_append]
          right
          rw [hg]
          simp [hj])
      simp [hj, this]
theorem weak_get {a b : List AVal} (hl : a.length = b.length) (hg : ∀ i : Nat, i < b.length → aget b i = .any ∨ aget a i = aget b i) : Weak a b := by
  have key : ∀ {a b : List AVal}, a.length = b.length → (∀ (i : Nat) (h1 : i < a.length) (h2 : i < b.length), b[i] = .any ∨ a[i] = b[i]) → Weak a b := by
    intro a
    induction a with
    | nil => intro b hl hg; cases b with
      | nil => trivial
      | cons y b => simp at hl
    | cons x a ih => intro b hl hg; cases b with
      | nil => simp at hl
      | cons y b => exact ⟨hg 0 (by simp) (by simp), ih (by simpa using hl) fun i h1 h2 => hg (i + 1) (by simpa using h1) (by simpa using h2)⟩
  refine key hl fun i h1 h2 => ?_
  have := hg i h2
  simpa [aget, List.getD_eq_getElem?_getD, List.getElem?_eq_getElem h1, List.getElem?_eq_getElem h2] using this
theorem aget_aset {a : List AVal} {d : Option Nat} {v : AVal} {t : Nat} (ht : t < a.length) : aget (aset a d v) t = if d = some t then v else aget a t := by
  cases d with
  | none => simp [aset]
  | some e =>
    by_cases he : e = t
    · subst he; simp [aget, aset, List.getD_eq_getElem?_getD, ht]
    · rw [aget_aset_ne (fun x hx => by cases hx; exact he), if_neg (by simpa using he)]
theorem hide_any {ops : Array Oper} {U : List Nat} {a : List AVal} {t : Nat} (ht : hid ops U t = true) : aget (hide ops U a) t = .any := by
  unfold aget hide
  rw [List.getD_eq_getElem?_getD, List.getElem?_mapIdx]
  cases a[t]? with
  | none => rfl
  | some v => simp [ht]

/-! ### Marks -/
theorem markL_get {U : List Nat} : ∀ {listed : Array Bool} {k : Nat}, (markL listed U)[k]? = if k ∈ U ∧ k < listed.size then some true else listed[k]? := by
  induction U with
  | nil => intro listed k; simp [markL]
  | cons i U ih =>
    intro listed k
    simp only [markL, ih, Array.size_setIfInBounds, Array.getElem?_setIfInBounds, List.mem_cons]
    by_cases h1 : k ∈ U
    · by_cases h2 : k < listed.size
      · simp [h1, h2]
      · simp [h2]; omega
    · by_cases h2 : k < listed.size
      · by_cases h3 : i = k
        · subst h3; simp [h1, h2]
        · have h3' : ¬ k = i := fun e => h3 e.symm
          simp [h1, h2, h3, h3']
      · simp [h2]
        intro h; omega
theorem markL_size {U : List Nat} : ∀ {listed : Array Bool}, (markL listed U).size = listed.size := by
  induction U with
  | nil => intro listed; rfl
  | cons i U ih => intro listed; simp [markL, ih]
theorem markL_ext {listed listed' : Array Bool} {U U' : List Nat} (hs : listed.size = listed'.size) (h : ∀ k, k < listed.size → (if k ∈ U ∧ k < listed.size then some true else listed[k]?) = if k ∈ U' ∧ k < listed'.size then some true else listed'[k]?) : markL listed U = markL listed' U' := by
  apply Array.ext_getElem?
  intro k
  rw [markL_get, markL_get]
  rcases Nat.lt_or_ge k listed.size with h1 | h1
  · exact h k h1
  · rw [if_neg (by omega), if_neg (by omega), Array.getElem?_eq_none h1, Array.getElem?_eq_none (by omega)]
theorem markL_erase {listed : Array Bool} {U : List Nat} {i : Nat} (hi : i ∈ U) (hn : U.Nodup) : markL (listed.setIfInBounds i true) (U.erase i) = markL listed U := by
  refine markL_ext (by simp) fun k hk => ?_
  simp only [Array.size_setIfInBounds] at hk
  simp only [Array.size_setIfInBounds, Array.getElem?_setIfInBounds, hk, and_true, hn.mem_erase_iff]
  by_cases h1 : k = i
  · subst h1; simp [hi, hk]
  · have h1' : ¬ i = k := fun e => h1 e.symm
    simp [h1, h1']
theorem markL_set {listed : Array Bool} {U : List Nat} {i : Nat} : markL (listed.setIfInBounds i true) U = (markL listed U).setIfInBounds i true := by
  apply Array.ext_getElem?
  intro k
  rw [markL_get, Array.getElem?_setIfInBounds, Array.getElem?_setIfInBounds, markL_get, markL_size, Array.size_setIfInBounds]
  by_cases h1 : i = k
  · subst h1
    by_cases h2 : i < listed.size
    · simp [h2]
    · simp [h2]
  · simp [h1]
theorem ready_markL {md : Region.Mode} {ops : Array Oper} {i : Nat} : ∀ {U : List Nat} {listed : Array Bool}, i ∈ Region.ready md ops listed → i ∉ U → i ∈ Region.ready md ops (markL listed U)
  | [], listed, h, _ => h
  | j :: U, listed, h, hn => ready_markL (U := U) (ready_mono h (fun e => hn (by simp [e]))) (fun hm => hn (by simp [hm]))

/-! ### Reads that may come late -/
def HoldsAt (P : Program) (ops : Array Oper) (r : Nat × AVal) (b : List AVal) (h : AHeap) : Prop := ∃ o, ops[r.1]? = some o ∧ o.guard = none ∧ AOpQ P o b h r.2
/-- Those that may come behind the k-th operation still. -/
def hasN (pk : List Nat) (i : Nat) : Bool := match pk with
  | [] => false
  | k :: pk => match Nat.beq i k with
    | true => true
    | false => hasN pk i
theorem hasN_iff {i : Nat} : ∀ {pk : List Nat}, hasN pk i = true ↔ i ∈ pk
  | [] => by simp [hasN]
  | k :: pk => by
    unfold hasN
    cases hb : Nat.beq i k with
    | true => have := Nat.eq_of_beq_eq_true hb; simp [this]
    | false => have := Nat.ne_of_beq_eq_false hb; simp [this, hasN_iff (pk := pk)]
def pendAfter (pk : List Nat) : List (Nat × AVal) → List (Nat × AVal)
  | [] => []
  | r :: ls => match hasN pk r.1 with
    | true => r :: pendAfter pk ls
    | false => pendAfter pk ls
theorem pendAfter_mem {pk : List Nat} {r : Nat × AVal} : ∀ {ls : List (Nat × AVal)}, r ∈ pendAfter pk ls ↔ r ∈ ls ∧ r.1 ∈ pk
  | [] => by simp [pendAfter]
  | x :: ls => by
    unfold pendAfter
    split
    · rename_i hb
      have hb := hasN_iff.1 hb
      simp only [List.mem_cons, pendAfter_mem (ls := ls)]
      constructor
      · rintro (rfl | ⟨h1, h2⟩)
        · exact ⟨.inl rfl, hb⟩
        · exact ⟨.inr h1, h2⟩
      · rintro ⟨rfl | h1, h2⟩
        · exact .inl rfl
        · exact .inr ⟨h1, h2⟩
    · rename_i hb
      have hb : x.1 ∉ pk := fun hm => by rw [hasN_iff.2 hm] at hb; cases hb
      simp only [List.mem_cons, pendAfter_mem (ls := ls)]
      constructor
      · rintro ⟨h1, h2⟩; exact ⟨.inr h1, h2⟩
      · rintro ⟨rfl | h1, h2⟩
        · exact absurd h2 hb
        · exact ⟨h1, h2⟩
/-- The others, in order; with each the reads that may come behind it still. -/
abbrev TP := List (Nat × List Nat)
def TP.nums : TP → List Nat
  | [] => []
  | x :: l => x.1 :: TP.nums l
def LOps (P : Program) (ops : Array Oper) (Q : AQ) : TP → List (Nat × AVal) → List AVal → AHeap → Prop
  | [], _, b, h => Q .normal b h
  | (k, pk) :: ks, ls, b, h => ∃ o, ops[k]? = some o ∧
    ((Want2 ops o b = some true ∧ AOperV P o b h fun v h' => (∀ r ∈ pendAfter pk ls, HoldsAt P ops r (aset b o.dst v) h') ∧ LOps P ops Q ks (pendAfter pk ls) (aset b o.dst v) h') ∨
     (Want2 ops o b = some false ∧ (∀ r ∈ pendAfter pk ls, HoldsAt P ops r (aset b o.dst skipV) h) ∧ LOps P ops Q ks (pendAfter pk ls) (aset b o.dst skipV) h))
def bitOf (M : List Nat) (k i : Nat) : Bool := (M.getD k 0).testBit i
/-- The one's slot is nothing to the other. -/
def clr (ops : Array Oper) (x y : Oper) : Bool := match x.dst with
  | some d => !(y.looksAt ops).contains d && y.dst != some d
  | none => true
theorem clr_spec {ops : Array Oper} {x y : Oper} (h : clr ops x y = true) : (∀ d, x.dst = some d → d ∉ y.looksAt ops) ∧ (∀ d, x.dst = some d → y.dst ≠ some d) := by
  refine ⟨fun d hd => ?_, fun d hd => ?_⟩ <;> simp [clr, hd] at h
  · exact h.1
  · exact h.2
/-- What is asked of the text. -/
def lateOkB (md : Region.Mode) (ops : Array Oper) (M F L : List Nat) (T : TP) : Bool :=
  let Tl := T.nums
  (T.all fun x => (L.all fun i => x.2.contains i || bitOf M x.1 i) && x.2.all fun i => match ops[i]?, ops[x.1]? with
      | some oi, some ok => oi.apart ops ok
      | _, _ => false) && ((List.range ops.size).all fun j => F.contains j || L.contains j || Tl.contains j) && nodupB L &&
  L.all fun i => match ops[i]? with
    | none => false
    | some oi => oi.after.toList.all (fun e => !(Region.binds md e) || (Nat.blt e.on i && !Tl.contains e.on)) && (match oi.dst with
        | some d => !(oi.looksAt ops).contains d
        | none => true) &&
      (L ++ Tl).all fun j => Nat.beq j i || match ops[j]? with
        | none => false
        | some oj => bitOf M j i || clr ops oi oj
structure LateOk (md : Region.Mode) (ops : Array Oper) (F L : List Nat) (T : TP) (Tl : List Nat) : Prop where
  pend : ∀ k pk, (k, pk) ∈ T → ∀ i ∈ L, i ∈ pk ∨ Reach md ops k i
  sep : ∀ k pk, (k, pk) ∈ T → ∀ i ∈ pk, ∃ oi ok, ops[i]? = some oi ∧ ops[k]? = some ok ∧ oi.apart ops ok = true
  cover : ∀ j, j < ops.size → j ∈ F ∨ j ∈ L ∨ j ∈ Tl
  nd : L.Nodup
  after : ∀ i ∈ L, ∃ oi, ops[i]? = some oi ∧ (∀ e ∈ oi.after, Region.binds md e = true → e.on < i ∧ e.on ∉ Tl) ∧ (∀ d, oi.dst = some d → d ∉ oi.looksAt ops)
  apart : ∀ i ∈ L, ∀ j, j ∈ L ∨ j ∈ Tl → j ≠ i → ∀ oi oj, ops[i]? = some oi → ops[j]? = some oj → Reach md ops j i ∨ clr ops oi oj = true
theorem lateOkB_ok {md : Region.Mode} {ops : Array Oper} {F L : List Nat} {T : TP} (hB : lateOkB md ops (ancM md ops ops.size) F L T = true) : LateOk md ops F L T T.nums := by
  simp only [lateOkB, Bool.and_eq_true] at hB
  obtain ⟨⟨⟨h0, h1⟩, h2⟩, h3⟩ := hB
  refine ⟨fun k pk hk i hi => ?_, fun k pk hk i hi => ?_, fun j hj => ?_, nodupB_ok h2, fun i hi => ?_, fun i hi j hj hne oi oj ho ho' => ?_⟩
  · have h4 := List.all_eq_true.1 h0 _ hk
    simp only [Bool.and_eq_true] at h4
    have := List.all_eq_true.1 h4.1 i hi
    simp only [Bool.or_eq_true, List.contains_iff_mem] at this
    rcases this with h | h
    · exact .inl h
    · exact .inr (ancM_reach md ops _ _ _ h)
  · have h4 := List.all_eq_true.1 h0 _ hk
    simp only [Bool.and_eq_true] at h4
    have := List.all_eq_true.1 h4.2 i hi
    split at this
    · rename_i oi ok h5 h6
      exact ⟨oi, ok, h5, h6, this⟩
    · cases this
  · have := List.all_eq_true.1 h1 j (List.mem_range.2 hj)
    simp only [Bool.or_eq_true, List.contains_iff_mem] at this
    rcases this with (h | h) | h
    · exact .inl h
    · exact .inr (.inl h)
    · exact .inr (.inr h)
  · have := List.all_eq_true.1 h3 i hi
    split at this
    · cases this
    · rename_i oi ho
      simp only [Bool.and_eq_true] at this
      obtain ⟨⟨h4, h5⟩, _⟩ := this
      refine ⟨oi, ho, fun e he hb => ?_, fun d hd => ?_⟩
      · have h6 := List.all_eq_true.1 h4 e (by simpa using he)
        simp only [hb, Bool.not_true, Bool.false_or, Bool.and_eq_true, Nat.blt_eq, Bool.not_eq_true'] at h6
        exact ⟨h6.1, by simpa using h6.2⟩
      · rw [hd] at h5; simpa using h5
  · have := List.all_eq_true.1 h3 i hi
    rw [ho] at this
    simp only [Bool.and_eq_true] at this
    have h6 := List.all_eq_true.1 this.2 j (by simpa using hj)
    rw [ho'] at h6
    simp only [Bool.or_eq_true] at h6
    rcases h6 with h6 | h6 | h6
    · exact absurd (Nat.eq_of_beq_eq_true h6) hne
    · exact .inl (ancM_reach md ops _ _ _ h6)
    · exact .inr h6

theorem least_mem : ∀ {U : List Nat}, U ≠ [] → ∃ i ∈ U, ∀ j ∈ U, i ≤ j
  | [], h => absurd rfl h
  | [i], _ => ⟨i, by simp, fun j hj => by rw [List.mem_singleton.1 hj]; exact Nat.le_refl _⟩
  | i :: k :: U, _ => by
    obtain ⟨m, hm, hl⟩ := least_mem (U := k :: U) (by simp)
    rcases Nat.le_total i m with h | h
    · exact ⟨i, by simp, fun j hj => by
        rcases List.mem_cons.1 hj with rfl | hj
        · exact Nat.le_refl _
        · exact Nat.le_trans h (hl j hj)⟩
    · exact ⟨m, by simp [hm], fun j hj => by
        rcases List.mem_cons.1 hj with rfl | hj
        · exact h
        · exact hl j hj⟩
theorem un_true {l : Array Bool} {i : Nat} (h : l.getD i false = true) : l.getD i true = true := by
  rcases Nat.lt_or_ge i l.size with h' | h'
  · simp [h'] at h ⊢; exact h
  · simp [Array.getElem?_eq_none h'] at h

theorem nums_mem {T T' : TP} {Tl : List Nat} {k : Nat} (h : ∀ x ∈ T', x ∈ T ∧ x.1 ∈ Tl) (hk : k ∈ T'.nums) : k ∈ Tl := by
  have : ∃ x ∈ T', x.1 = k := by
    clear h
    induction T' with
    | nil => cases hk
    | cons x l ih =>
      rcases List.mem_cons.1 hk with rfl | hk
      · exact ⟨x, by simp, rfl⟩
      · obtain ⟨y, h1, h2⟩ := ih hk
        exact ⟨y, by simp [h1], h2⟩
  obtain ⟨x, h1, rfl⟩ := this
  exact (h x h1).2
theorem nums_of {T : TP} {x : Nat × List Nat} (h : x ∈ T) : x.1 ∈ T.nums := by
  induction T with
  | nil => cases h
  | cons y l ih =>
    rcases List.mem_cons.1 h with rfl | h
    · simp [TP.nums]
    · simp [TP.nums, ih h]
theorem nums_length : ∀ T : TP, T.nums.length = T.length
  | [] => rfl
  | x :: l => by simp [TP.nums, nums_length l]
theorem late_sound {md : Region.Mode} {ops : Array Oper} {F L Tl : List Nat} {T : TP} {Q : AQ} {ρ0 : Env} {h0 : AHeap} {w0 : World} (hB : LateOk md ops F L T Tl) : ∀ (n : Nat) (U : List Nat) (T' : TP) (ls : List (Nat × AVal)) (listed : Array Bool) (b : List AVal) (h : AHeap) (ρ : Env) (w : World) (ca : Act),
    U.length + T'.length = n → U.Nodup →
    (∀ i ∈ U, i ∈ L ∧ listed.getD i true = false ∧ ∃ v, (i, v) ∈ ls ∧ HoldsAt P ops (i, v) b h ∧ ∀ d, dstOf ops i = some d → d < b.length → aget b d = v) →
    (∀ x ∈ T', x ∈ T ∧ x.1 ∈ Tl) → (∀ j, j < ops.size → j ∉ U → j ∉ T'.nums → listed.getD j false = true) → tailOk md ops T'.nums (markL listed U) = true → Down md ops listed →
    Evo ρ0 h0 w0 ρ h w → Rel ρ h w → AR G ρ h w (hide ops U b) ca → LOps P ops Q T' ls b h → wpAnyIn (FW G.ro) 0 P md ops (Post G ρ0 h0 w0 Q) n listed ca w := by
  intro n
  induction n with
  | zero =>
    intro U T' ls listed b h ρ w ca hn hnd hU hT hl ht hdn e0 hR ha hL
    have h1 : U = [] := List.length_eq_zero_iff.1 (by omega)
    have h2 : T' = [] := List.length_eq_zero_iff.1 (by omega)
    subst h1; subst h2
    refine ⟨by simpa [tailOk, markL, TP.nums] using ht, ρ, h, b, e0, hR, ?_, hL⟩
    have : hide ops [] b = b := by
      unfold hide hid
      apply List.ext_getElem <;> simp
    rwa [this] at ha
  | succ n ih =>
    intro U T' ls listed b h ρ w ca hn hnd hU hT hl ht hdn e0 hR ha hL
    constructor
    · intro hr0
      exfalso
      by_cases hUe : U = []
      · subst hUe
        cases T' with
        | nil => simp at hn
        | cons k ks =>
          simp only [tailOk, TP.nums, Bool.and_eq_true, beq_iff_eq, markL] at ht
          rw [hr0] at ht; cases ht.1
      · obtain ⟨i, hi, hmin⟩ := least_mem hUe
        obtain ⟨hiL, hun, v, hv, ⟨o, ho, _, _⟩, _⟩ := hU i hi
        obtain ⟨oi, ho', haf, _⟩ := hB.after i hiL
        have : i ∈ Region.ready md ops listed := mem_ready.2 ⟨hun, oi, ho', fun e he hb => by
          obtain ⟨h1, h2⟩ := haf e he hb
          have hlt : i < ops.size := lt_of_get ho'
          refine hl e.on (by omega) (fun hm => ?_) (fun hm => h2 (nums_mem hT hm))
          have := hmin _ hm
          omega⟩
        rw [hr0] at this; cases this
    · intro i hi
      have hiun := (mem_ready.1 hi).1
      -- who is not listed is not waited for
      have noReach : ∀ j, j ∈ U → ¬ Reach md ops i j := fun j hj hre => by
        have := un_true (ready_reach hdn hi hre)
        rw [(hU j hj).2.1] at this; cases this
      by_cases hiU : i ∈ U
      · obtain ⟨hiL, hun, v, hv, ⟨o, ho, hg, hq⟩, hs⟩ := hU i hiU
        obtain ⟨oi, ho', haf, hself⟩ := hB.after i hiL
        rw [ho] at ho'; cases ho'
        have hclear : Clear ops U o := fun j hj d hd => by
          by_cases hji : j = i
          · subst hji
            unfold dstOf at hd
            rw [ho] at hd
            exact hself d hd
          · obtain ⟨oj, hoj, _⟩ := hB.after j (hU j hj).1
            unfold dstOf at hd
            rw [hoj] at hd
            rcases hB.apart j (hU j hj).1 i (.inl hiL) (fun e => hji e.symm) oj o hoj ho with hre | hap
            · exact absurd hre (noReach j hj)
            · exact (clr_spec hap).1 d hd
        unfold wpOpIn
        rw [ho]
        simp only
        rw [if_pos (by unfold Region.wanted; rw [hg])]
        refine (aOpQ_sound hR ha ((AOpQ_congr (hclear.evals b)) ▸ hq) fun ρ' w' ca' ev hR' ha' => ?_)
        refine ih (U.erase i) T' ls _ b h ρ' w' ca' (by rw [List.length_erase_of_mem hiU]; have := List.length_pos_of_mem hiU; omega) (hnd.erase i) (fun j hj => ?_) hT (fun j hj h1 h2 => ?_) (by rw [markL_erase hiU hnd]; exact ht) (hdn.add hi) (e0.trans ev) hR' (ha'.weak (weak_get (by rw [aset_length, hide_length, hide_length]) fun t ht => ?_)) hL
        · obtain ⟨hji, hjU⟩ := hnd.mem_erase_iff.1 hj
          obtain ⟨a1, a2, a3⟩ := hU j hjU
          exact ⟨a1, by rw [getD_set_ne true (Ne.symm hji)]; exact a2, a3⟩
        · by_cases hji : j = i
          · subst hji; exact getD_set_self hun
          · exact getD_set_keep (hl j hj (fun hm => h1 (hnd.mem_erase_iff.2 ⟨hji, hm⟩)) h2)
        · rw [hide_length] at ht
          cases hb : hid ops (U.erase i) t with
          | true => left; exact hide_any hb
          | false =>
            right
            rw [aget_hide hb, aget_aset (by rw [hide_length]; exact ht)]
            by_cases hd : o.dst = some t
            · rw [if_pos hd]; exact (hs t (by unfold dstOf; rw [ho]; exact hd) ht).symm
            · rw [if_neg hd]
              refine aget_hide ?_
              cases hb2 : hid ops U t with
              | false => rfl
              | true =>
                obtain ⟨j, hj, hjd⟩ := hid_iff.1 hb2
                by_cases hji : j = i
                · subst hji
                  unfold dstOf at hjd
                  rw [ho] at hjd
                  exact absurd hjd hd
                · rw [hid_iff.2 ⟨j, hnd.mem_erase_iff.2 ⟨hji, hj⟩, hjd⟩] at hb; cases hb
      · have hi2 := ready_markL (U := U) hi hiU
        cases T' with
        | nil =>
          simp only [tailOk, TP.nums, beq_iff_eq] at ht
          rw [ht] at hi2; cases hi2
        | cons k ks =>
          obtain ⟨k, pk⟩ := k
          simp only [tailOk, TP.nums, Bool.and_eq_true, beq_iff_eq] at ht
          obtain ⟨hr, ht'⟩ := ht
          rw [hr] at hi2
          obtain rfl : i = k := by simpa using hi2
          obtain ⟨o, ho, hL⟩ := hL
          have hiT : i ∈ Tl := (hT (i, pk) (by simp)).2
          have hap : ∀ j ∈ U, ∃ oj, ops[j]? = some oj ∧ clr ops oj o = true := fun j hj => by
            obtain ⟨oj, hoj, _⟩ := hB.after j (hU j hj).1
            refine ⟨oj, hoj, ?_⟩
            rcases hB.apart j (hU j hj).1 i (.inr hiT) (fun e => hiU (e ▸ hj)) oj o hoj ho with hre | hap
            · exact absurd hre (noReach j hj)
            · exact hap
          have hclear : Clear ops U o := fun j hj d hd => by
            obtain ⟨oj, hoj, h1⟩ := hap j hj
            unfold dstOf at hd
            rw [hoj] at hd
            exact (clr_spec h1).1 d hd
          have hpend : ∀ j ∈ U, ∀ v, (j, v) ∈ ls → (j, v) ∈ pendAfter pk ls := fun j hj v hv => by
            refine pendAfter_mem.2 ⟨hv, ?_⟩
            rcases hB.pend i pk (hT (i, pk) (by simp)).1 j (hU j hj).1 with h | h
            · exact h
            · exact absurd h (noReach j hj)
          have dst_ne : ∀ j ∈ U, ∀ d, dstOf ops j = some d → o.dst ≠ some d := fun j hj d hd => by
            obtain ⟨oj, hoj, h1⟩ := hap j hj
            unfold dstOf at hd
            rw [hoj] at hd
            exact (clr_spec h1).2 d hd
          -- behind it
          have next : ∀ (v : AVal) (h' : AHeap) (ρ' : Env) (w' : World) (ca' : Act), Evo ρ h w ρ' h' w' → Rel ρ' h' w' → AR G ρ' h' w' (aset (hide ops U b) o.dst v) ca' →
              (∀ r ∈ pendAfter pk ls, HoldsAt P ops r (aset b o.dst v) h') → LOps P ops Q ks (pendAfter pk ls) (aset b o.dst v) h' →
              wpAnyIn (FW G.ro) 0 P md ops (Post G ρ0 h0 w0 Q) n (listed.setIfInBounds i true) ca' w' := by
            intro v h' ρ' w' ca' ev hR' ha' hH hL'
            refine ih U ks _ _ (aset b o.dst v) h' ρ' w' ca' (by simp at hn; omega) hnd (fun j hj => ?_) (fun x hx => hT x (by simp [hx])) (fun j hj h1 h2 => ?_) (by rw [markL_set]; exact ht') (hdn.add hi) (e0.trans ev) hR' (ha'.weak (weak_get (by rw [aset_length, hide_length, hide_length, aset_length]) fun t ht => ?_)) hL'
            · obtain ⟨a1, a2, u, a3, a4, a5⟩ := hU j hj
              have hji : j ≠ i := fun e => hiU (e ▸ hj)
              refine ⟨a1, by rw [getD_set_ne true (Ne.symm hji)]; exact a2, u, hpend j hj u a3, hH _ (hpend j hj u a3), fun d hd hlt => ?_⟩
              rw [aset_length] at hlt
              rw [aget_aset hlt, if_neg (dst_ne j hj d hd)]
              exact a5 d hd hlt
            · by_cases hji : j = i
              · subst hji; exact getD_set_self hiun
              · exact getD_set_keep (hl j hj h1 (by simp only [TP.nums, List.mem_cons, not_or]; exact ⟨hji, h2⟩))
            · rw [hide_length, aset_length] at ht
              cases hb : hid ops U t with
              | true => left; exact hide_any hb
              | false =>
                right
                rw [aget_hide hb, aget_aset (by rw [hide_length]; exact ht), aget_aset ht, aget_hide hb]
          unfold wpOpIn
          rw [ho]
          simp only
          rcases hL with ⟨hw, hK⟩ | ⟨hw, hH, hL⟩
          · rw [if_pos (want2_wanted ha (by rw [hclear.want]; exact hw))]
            refine (aOperV_sound hR ha ((AOperV_congr (hclear.evals b)) ▸ hK) fun ρ' h' w' v ca' ev hR' ha' ⟨hH, hL⟩ => ?_)
            exact next v h' ρ' w' ca' ev hR' ha' hH hL
          · rw [if_neg (by rw [want2_wanted ha (by rw [hclear.want]; exact hw)]; simp)]
            refine ⟨fun _ _ => trivial, ?_⟩
            exact next skipV h ρ w _ (.refl ..) hR (ha.put (.lit undef) _) hH hL

/-- The reads, in their order; then the others. -/
def LRead (P : Program) (ops : Array Oper) (Q : AQ) (T : TP) (h : AHeap) : List Nat → List (Nat × AVal) → List AVal → Prop
  | [], ls, b => (∀ r ∈ ls, HoldsAt P ops r b h ∧ ∀ d, dstOf ops r.1 = some d → d < b.length → aget b d = r.2) ∧ LOps P ops Q T ls b h
  | i :: is, ls, b => ∃ o v, ops[i]? = some o ∧ LRead P ops Q T h is (ls ++ [(i, v)]) (aset b o.dst v)
def drawOkL (ops : Array Oper) (F L : List Nat) (T : TP) : Bool :=
  Nat.beq (F.length + L.length + T.length) ops.size && noSel ops && fltOk .any ops F (marks0 ops) && lateOkB .any ops (ancM .any ops ops.size) F L T && tailOk .any ops T.nums (markL (markL (marks0 ops) F) L) && L.all fun i => !F.contains i

theorem lread_end {ops : Array Oper} {Q : AQ} {T : TP} {h : AHeap} : ∀ (is : List Nat) (ls : List (Nat × AVal)) (b : List AVal), LRead P ops Q T h is ls b →
    ∃ ls' b', LRead P ops Q T h [] ls' b' ∧ ls'.map (·.1) = ls.map (·.1) ++ is ∧ b'.length = b.length ∧ ∀ t, (∀ i ∈ is, dstOf ops i ≠ some t) → aget b' t = aget b t
  | [], ls, b, hq => ⟨ls, b, hq, by simp, rfl, fun _ _ => rfl⟩
  | i :: is, ls, b, hq => by
    obtain ⟨o, v, ho, hq⟩ := hq
    obtain ⟨ls', b', h1, h2, h3, h4⟩ := lread_end is _ _ hq
    refine ⟨ls', b', h1, by rw [h2]; simp, by rw [h3, aset_length], fun t ht => ?_⟩
    rw [h4 t (fun j hj => ht j (by simp [hj]))]
    refine aget_aset_ne fun e he heq => ?_
    subst heq
    refine ht i (by simp) ?_
    unfold dstOf; rw [ho]; exact he

theorem awp_drawL {id : Nat} {ops : Array Oper} {Q : AQ} {a b : List AVal} {F L : List Nat} {T : TP} (hm : P.follows .mixedOrders = true) (hnp : ∀ c a h, ¬ Q (.panic c) a h) (hB : drawOkL ops F L T = true)
    (hFR : FltR P ops F a b) (hQ : LRead P ops Q T h L [] b) : AWp P (.region id ops true) Q a h := by
  intro G ρ w ca hR ha
  simp only [drawOkL, Bool.and_eq_true] at hB
  obtain ⟨⟨⟨⟨⟨hn, hs⟩, hF⟩, hLo⟩, hT⟩, hdis⟩ := hB
  have hn := Nat.eq_of_beq_eq_true hn
  have hL := lateOkB_ok hLo
  refine wpIn_region_any hm ?_
  obtain ⟨hR1, e1⟩ := hR.like (w' := { w with drawn := w.drawn + 1 }) ⟨rfl, rfl, rfl⟩ rfl
  show wpAnyIn (FW G.ro) 0 P .any ops (Post G ρ h w Q) ops.size (marks0 ops) ca { w with drawn := w.drawn + 1 }
  rw [show ops.size = (L.length + T.length) + F.length by omega]
  have hm0 : ∀ k, (marks0 ops).getD k false = false := fun k => by
    simp only [marks0, Array.getD_eq_getD_getElem?, Array.getElem?_replicate]
    split <;> rfl
  have hd0 : Down .any ops (marks0 ops) := fun k o e ho hk => by rw [hm0] at hk; cases hk
  refine floats_first (G := G) (Q := Post G ρ h w Q) (ρ := ρ) (h := h) (w := { w with drawn := w.drawn + 1 }) hs (fun c ca w hq => by obtain ⟨_, _, _, _, _, _, hq⟩ := hq; exact hnp _ _ _ hq) F (marks0 ops) a b ca _ hF hFR (ha.evo e1) fun ca1 ha1 hsz => ?_
  obtain ⟨ls, b', ⟨hH, hLO⟩, h2, h3, h4⟩ := lread_end L [] b hQ
  simp only [List.map_nil, List.nil_append] at h2
  have hget : ∀ k, k < ops.size → (markL (marks0 ops) F).getD k true = decide (k ∈ F) := fun k hk => by
    rw [Array.getD_eq_getD_getElem?, markL_get]
    simp only [marks0, Array.size_replicate, Array.getElem?_replicate, hk, and_true]
    by_cases hkF : k ∈ F <;> simp [hkF]
  have hget' : ∀ k, k < ops.size → (markL (marks0 ops) F).getD k false = decide (k ∈ F) := fun k hk => by
    rw [Array.getD_eq_getD_getElem?, markL_get]
    simp only [marks0, Array.size_replicate, Array.getElem?_replicate, hk, and_true]
    by_cases hkF : k ∈ F <;> simp [hkF]
  refine late_sound (G := G) (ρ0 := ρ) (h0 := h) (w0 := w) hL (L.length + T.length) L T ls (markL (marks0 ops) F) b' h ρ _ ca1 rfl hL.nd (fun i hi => ?_) (fun x hx => ⟨hx, nums_of hx⟩) (fun j hj h5 h6 => ?_) hT (flt_down hF hd0) e1 hR1 (ha1.weak (weak_get (by rw [hide_length, h3]) fun t ht => ?_)) hLO
  · have hmem : i ∈ ls.map (·.1) := by rw [h2]; exact hi
    obtain ⟨r, hr, rfl⟩ := List.mem_map.1 hmem
    obtain ⟨h5, h6⟩ := hH r hr
    obtain ⟨oi, ho, _⟩ := hL.after r.1 hi
    refine ⟨hi, ?_, r.2, hr, h5, h6⟩
    rw [hget r.1 (lt_of_get ho)]
    have := List.all_eq_true.1 hdis r.1 hi
    simpa using this
  · rw [hget' j hj]
    rcases hL.cover j hj with h | h | h
    · simpa using h
    · exact absurd h h5
    · exact absurd h h6
  · cases hb : hid ops L t with
    | true => left; exact hide_any hb
    | false =>
      right
      rw [aget_hide hb]
      exact (h4 t fun i hi he => by rw [hid_iff.2 ⟨i, hi, he⟩] at hb; cases hb).symm
/-! ### What a read hands back behind other operations -/
theorem HoldsAt.put {ops : Array Oper} {r : Nat × AVal} {b : List AVal} {h : AHeap} {d : Option Nat} {v : AVal} (hd : ∀ oi, ops[r.1]? = some oi → ∀ e, d = some e → e ∉ oi.looksAt ops) (hh : HoldsAt P ops r b h) : HoldsAt P ops r (aset b d v) h := by
  obtain ⟨o, ho, hg, hq⟩ := hh
  exact ⟨o, ho, hg, (AOpQ_congr (looks2 (ops := ops) (hd o ho) (a := b) (v := v)).1) ▸ hq⟩
def LRd (P : Program) (ops : Array Oper) (Q : AQ) (T : TP) (h : AHeap) : List Nat → List (Nat × AVal) → List AVal → Prop
  | [], ls, b => (∀ r ∈ ls, HoldsAt P ops r b h) → LOps P ops Q T ls b h
  | i :: is, ls, b => ∃ o v, ops[i]? = some o ∧ o.guard = none ∧ AOpQ P o b h v ∧ LRd P ops Q T h is (ls ++ [(i, v)]) (aset b o.dst v)
/-- No later read writes what an earlier one looks at, or its slot. -/
def readsOkB (ops : Array Oper) : List Nat → Bool
  | [] => true
  | i :: is => (is.all fun j => match ops[i]?, ops[j]? with
      | some oi, some oj => match oj.dst with
        | some d => !(oi.looksAt ops).contains d && !(oi.dst == some d)
        | none => true
      | _, _ => false) && (match ops[i]? with
      | some oi => match oi.dst with
        | some d => !(oi.looksAt ops).contains d
        | none => true
      | none => false) && readsOkB ops is
theorem lrd_read {ops : Array Oper} {Q : AQ} {T : TP} {h : AHeap} : ∀ (is : List Nat) (ls : List (Nat × AVal)) (b : List AVal), readsOkB ops is = true →
    (∀ r ∈ ls, (HoldsAt P ops r b h ∧ ∀ d, dstOf ops r.1 = some d → d < b.length → aget b d = r.2) ∧ ∀ j ∈ is, ∀ oi oj, ops[r.1]? = some oi → ops[j]? = some oj → ∀ d, oj.dst = some d → d ∉ oi.looksAt ops ∧ oi.dst ≠ some d) →
    LRd P ops Q T h is ls b → LRead P ops Q T h is ls b
  | [], ls, b, hB, hls, hq => ⟨fun r hr => (hls r hr).1, hq fun r hr => (hls r hr).1.1⟩
  | i :: is, ls, b, hB, hls, hq => by
    obtain ⟨o, v, ho, hg, hv, hq⟩ := hq
    simp only [readsOkB, Bool.and_eq_true] at hB
    obtain ⟨⟨h1, h2⟩, h3⟩ := hB
    refine ⟨o, v, ho, lrd_read is _ _ h3 (fun r hr => ?_) hq⟩
    rcases List.mem_append.1 hr with hr | hr
    · obtain ⟨⟨a1, a2⟩, a3⟩ := hls r hr
      refine ⟨⟨a1.put fun oi hoi e he => (a3 i (by simp) oi o hoi ho e he).1, fun d hd hlt => ?_⟩, fun j hj => a3 j (by simp [hj])⟩
      rw [aset_length] at hlt
      rw [aget_aset hlt, if_neg]
      · exact a2 d hd hlt
      · intro he
        unfold dstOf at hd
        cases hoi : ops[r.1]? with
        | none => rw [hoi] at hd; cases hd
        | some oi =>
          rw [hoi] at hd
          exact (a3 i (by simp) oi o hoi ho d he).2 hd
    · rw [List.mem_singleton.1 hr]
      rw [ho] at h2
      refine ⟨⟨HoldsAt.put (fun oi hoi e he => ?_) ⟨o, ho, hg, hv⟩, fun d hd hlt => ?_⟩, fun j hj oi oj hoi hoj d hd => ?_⟩
      · simp only at hoi
        rw [ho] at hoi; cases hoi
        simp only [he] at h2; simpa using h2
      · rw [aset_length] at hlt
        unfold dstOf at hd
        simp only [ho, Option.bind_some] at hd
        rw [aget_aset hlt, if_pos hd]
      · simp only at hoi
        rw [ho] at hoi; cases hoi
        have := List.all_eq_true.1 h1 j hj
        rw [ho, hoj] at this
        simp only [hd, Bool.and_eq_true, Bool.not_eq_true'] at this
        exact ⟨by simpa using this.1, by simpa using this.2⟩
/-- What it hands back does not hang on the memory. -/
def freeB : Op → Bool
  | .move _ | .assign _ | .pick _ _ _ | .nilCheck _ | .fieldAddr _ _ _ | .field _ _ _ | .indexAddr _ _ _ | .index _ _ _ | .binOp _ _ _ _ _ | .unOp _ _ _ | .extract _ _ | .makeFunc _ _ _ | .build _ _ | .typeAssert _ _ _ _ | .makeInterface _ _ => true
  | _ => false
theorem aOpQ_free {o : Oper} {a : List AVal} {h h' : AHeap} {v : AVal} (hf : freeB o.op = true) (hq : AOpQ P o a h v) : AOpQ P o a h' v := by
  obtain ⟨dst, op, ty, pos, after, guard⟩ := o
  unfold AOpQ at hq ⊢
  cases op with
  | pick c x y =>
    simp only [AOp] at hq ⊢
    split at hq
    · exact ⟨hq.1, by first | trivial | rfl⟩
    · exact hq.elim
  | nilCheck x =>
    simp only [AOp] at hq ⊢
    split at hq <;> first | exact ⟨hq.1, by first | trivial | rfl⟩ | exact hq.elim
  | _ => first
    | (simp [freeB] at hf; done)
    | (simp only [AOp, and_true] at hq ⊢; exact hq)
end Go.Proofs.Ytglmofbcooefkaa.AL
