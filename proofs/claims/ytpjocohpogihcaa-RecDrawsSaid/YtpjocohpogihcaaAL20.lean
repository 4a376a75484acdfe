/- Small steps: one operation at a time, what comes after hidden behind a name (no simp looks into it). -/
import Derived.Test.YtpjocohpogihcaaAL17
namespace Go.Proofs.Ytpjocohpogihcaa.AL
set_option linter.unusedVariables false
set_option linter.unusedSimpArgs false
open Go

variable {P : Program} {ops : Array Oper} {Q : AQ} {o : Oper} {rest : List Oper} {a : List AVal} {h : AHeap}

theorem AOper_mono {K K' : List AVal → AHeap → Prop} {Q' : AQ} (hk : ∀ a' h', K a' h' → K' a' h') (hq : ∀ c a' h', Q (.panic c) a' h' → Q' (.panic c) a' h')
    (ho : ∀ (K : List AVal → AHeap → Prop) (Q' : AQ), (∀ a' h', AOps P ops Q rest a' h' → K a' h') → (∀ c a' h', Q (.panic c) a' h' → Q' (.panic c) a' h') → AOper P o a h K Q') : AOper P o a h (AOps P ops Q rest) Q :=
  ho _ _ (fun _ _ h => h) (fun _ _ _ h => h)

theorem st_head (hq : AOps P ops Q rest a h) : AOps P ops Q rest a h := hq
theorem sq_head {L : List AVal → Prop} (hq : AOpsQ P ops h L rest a) : AOpsQ P ops h L rest a := hq
theorem wp_head {c : Code} (hq : AWp P c Q a h) : AWp P c Q a h := hq
theorem st_nil (hq : Q .normal a h) : AOps P ops Q [] a h := hq

theorem st_none (hg : o.guard = none) (hs : ∀ (K : List AVal → AHeap → Prop) (QK : AQ), (∀ a' h', AOps P ops Q rest a' h' → K a' h') → (∀ c a' h', Q (.panic c) a' h' → QK (.panic c) a' h') → AOper P o a h K QK) :
    AOps P ops Q (o :: rest) a h := by
  simp only [AOps, AGuard, hg]
  exact hs _ _ (fun _ _ h => h) (fun _ _ _ h => h)

/-- What a known test asks. -/
def GC (b want : Bool) (yes no : Prop) : Prop := (b = want → yes) ∧ (b = !want → no)
theorem gc_tt {X Y : Prop} (hx : X) : GC true true X Y := ⟨fun _ => hx, fun e => by cases e⟩
theorem gc_ff {X Y : Prop} (hx : X) : GC false false X Y := ⟨fun _ => hx, fun e => by cases e⟩
theorem gc_tf {X Y : Prop} (hy : Y) : GC true false X Y := ⟨fun e => (by cases e), fun _ => hy⟩
theorem gc_ft {X Y : Prop} (hy : Y) : GC false true X Y := ⟨fun e => (by cases e), fun _ => hy⟩

theorem st_test {j d : Nat} {want b : Bool} {a' : List AVal} (hg : o.guard = some (j, want)) (hd : (ops[j]?).bind (·.dst) = some d) (hb : aget a d = .lit (.bool b)) (ha : aset a o.dst .any = a')
    (hs : GC b want (∀ (K : List AVal → AHeap → Prop) (QK : AQ), (∀ a' h', AOps P ops Q rest a' h' → K a' h') → (∀ c a' h', Q (.panic c) a' h' → QK (.panic c) a' h') → AOper P o a h K QK) (AOps P ops Q rest a' h)) : AOps P ops Q (o :: rest) a h := by
  subst ha
  unfold AOps AGuard; rw [hg]; simp only; rw [hd]; simp only; rw [hb]
  exact ⟨fun e => hs.1 e _ _ (fun _ _ h => h) (fun _ _ _ h => h), hs.2⟩

theorem sq_nil {L : List AVal → Prop} (hq : L a) : AOpsQ P ops h L [] a := hq

theorem sq_none {L : List AVal → Prop} (hg : o.guard = none) (hs : ∀ (K : List AVal → Prop), (∀ a', AOpsQ P ops h L rest a' → K a') → ∃ v, AOpQ P o a h v ∧ K (aset a o.dst v)) :
    AOpsQ P ops h L (o :: rest) a := by
  simp only [AOpsQ, QStep, AGuard, hg]
  exact hs _ (fun _ h => h)

theorem sq_test {L : List AVal → Prop} {j d : Nat} {want b : Bool} {a' : List AVal} (hg : o.guard = some (j, want)) (hd : (ops[j]?).bind (·.dst) = some d) (hb : aget a d = .lit (.bool b)) (ha : aset a o.dst .any = a')
    (hs : GC b want (∀ (K : List AVal → Prop), (∀ a', AOpsQ P ops h L rest a' → K a') → ∃ v, AOpQ P o a h v ∧ K (aset a o.dst v)) (AOpsQ P ops h L rest a')) : AOpsQ P ops h L (o :: rest) a := by
  subst ha
  unfold AOpsQ QStep AGuard; rw [hg]; simp only; rw [hd]; simp only; rw [hb]
  exact ⟨fun e => hs.1 e _ (fun _ h => h), hs.2⟩

theorem aset_same {d : Nat} {v : AVal} (hv : aget a d = v) (hn : v ≠ default) : aset a (some d) v = a := by
  unfold aset aget at *
  rcases Nat.lt_or_ge d a.length with h1 | h1
  · simp only [List.getD, List.getElem?_eq_getElem h1, Option.getD_some] at hv
    subst hv
    simp
  · exact List.set_eq_of_length_le h1

theorem st_case {j d : Nat} {want b : Bool} {a1 a2 : List AVal} (hg : o.guard = some (j, want)) (hd : (ops[j]?).bind (·.dst) = some d) (hb : aget a d = .lit (.bool b))
    (h1 : aset a (some d) (.lit (.bool true)) = a1) (h2 : aset a (some d) (.lit (.bool false)) = a2)
    (hy : b = true → AOps P ops Q (o :: rest) a1 h) (hn : b = false → AOps P ops Q (o :: rest) a2 h) : AOps P ops Q (o :: rest) a h := by
  subst h1; subst h2
  cases b with
  | true => have := hy rfl; rwa [aset_same hb (by intro e; cases e)] at this
  | false => have := hn rfl; rwa [aset_same hb (by intro e; cases e)] at this

theorem sq_case {L : List AVal → Prop} {j d : Nat} {want b : Bool} {a1 a2 : List AVal} (hg : o.guard = some (j, want)) (hd : (ops[j]?).bind (·.dst) = some d) (hb : aget a d = .lit (.bool b))
    (h1 : aset a (some d) (.lit (.bool true)) = a1) (h2 : aset a (some d) (.lit (.bool false)) = a2)
    (hy : b = true → AOpsQ P ops h L (o :: rest) a1) (hn : b = false → AOpsQ P ops h L (o :: rest) a2) : AOpsQ P ops h L (o :: rest) a := by
  subst h1; subst h2
  cases b with
  | true => have := hy rfl; rwa [aset_same hb (by intro e; cases e)] at this
  | false => have := hn rfl; rwa [aset_same hb (by intro e; cases e)] at this

theorem awp_cond_case {d : Nat} {x y : Code} {b : Bool} {a1 a2 : List AVal} (hb : aget a d = .lit (.bool b)) (h1 : aset a (some d) (.lit (.bool true)) = a1) (h2 : aset a (some d) (.lit (.bool false)) = a2)
    (hy : b = true → AWp P x Q a1 h) (hn : b = false → AWp P y Q a2 h) : AWp P (.cond (.tmp d) x y) Q a h := by
  subst h1; subst h2
  refine awp_cond (b := b) hb (fun e => ?_) (fun e => ?_)
  · have := hy e; subst e; rwa [aset_same hb (by intro e; cases e)] at this
  · have := hn e; subst e; rwa [aset_same hb (by intro e; cases e)] at this

/-- A test, known or not. -/
def CC (b : Bool) (X Y : Prop) : Prop := (b = true → X) ∧ (b = false → Y)
theorem cc_t {X Y : Prop} (hx : X) : CC true X Y := ⟨fun _ => hx, fun e => by cases e⟩
theorem cc_f {X Y : Prop} (hy : Y) : CC false X Y := ⟨fun e => (by cases e), fun _ => hy⟩
theorem awp_test {c : Operand} {x y : Code} {b : Bool} (hb : aEval a c = .lit (.bool b)) (hc : CC b (AWp P x Q a h) (AWp P y Q a h)) : AWp P (.cond c x y) Q a h := awp_cond hb hc.1 hc.2

theorem awp_regionL {id : Nat} {l : List Oper} (hA : AOps P l.toArray Q l a h) : AWp P (.region id l.toArray false) Q a h := awp_region (by simpa using hA)

theorem awp_drawL {id : Nat} {l l1 l2 : List Oper} (n : Nat) (hm : P.follows .mixedOrders = true) (h1 : l.take n = l1) (h2 : l.drop n = l2) (hB : drawOk l.toArray n = true)
    (hA : AOpsQ P l.toArray h (fun a' => AOps P l.toArray Q l2 a' h) l1 a) : AWp P (.region id l.toArray true) Q a h := by
  subst h1; subst h2
  exact awp_draw n hm hB (by simpa using hA)

theorem th_normal {next : List AVal → AHeap → Prop} (hn : next a h) : AThen next Q .normal a h := hn
theorem th_ret {next : List AVal → AHeap → Prop} (hn : Q .ret a h) : AThen next Q .ret a h := hn
theorem th_exit {next : List AVal → AHeap → Prop} {id : Nat} (hn : Q (.exit id) a h) : AThen next Q (.exit id) a h := hn
theorem th_goto {next : List AVal → AHeap → Prop} {id : Nat} (hn : Q (.goto id) a h) : AThen next Q (.goto id) a h := hn
theorem th_panic {next : List AVal → AHeap → Prop} {c : List PanicEntry} (hn : Q (.panic c) a h) : AThen next Q (.panic c) a h := hn
theorem bl_normal {id : Nat} (hn : Q .normal a h) : AInBlock id Q .normal a h := hn
theorem bl_ret {id : Nat} (hn : Q .ret a h) : AInBlock id Q .ret a h := hn
theorem bl_goto {id l : Nat} (hn : Q (.goto l) a h) : AInBlock id Q (.goto l) a h := hn
theorem bl_panic {id : Nat} {c : List PanicEntry} (hn : Q (.panic c) a h) : AInBlock id Q (.panic c) a h := hn
theorem bl_exit {id : Nat} (hn : Q .normal a h) : AInBlock id Q (.exit id) a h := by simp only [AInBlock, if_true]; exact hn
theorem bl_exit_ne {id id' : Nat} (hne : id' ≠ id) (hn : Q (.exit id') a h) : AInBlock id Q (.exit id') a h := by simp only [AInBlock, if_neg hne]; exact hn

theorem body_ret {fn : Func} {h0 : AHeap} {R : AEnd → AHeap → Prop} {l : List ResultVar} (hl : fn.results.toList = l) (hn : aResults.go P a h l [] fun v => ABody.AEnds h0 h (.ret v) R) : ABody P fn h0 R .ret a h := by
  subst hl; exact hn
theorem body_normal {fn : Func} {h0 : AHeap} {R : AEnd → AHeap → Prop} {l : List ResultVar} (hl : fn.results.toList = l) (hn : aResults.go P a h l [] fun v => ABody.AEnds h0 h (.ret v) R) : ABody P fn h0 R .normal a h := by
  subst hl; exact hn

theorem call_head {f : FuncId} {args : List AVal} {R : AEnd → AHeap → Prop} (hc : ACalls P f args h R) : ACalls P f args h R := hc
theorem ex_head {f : FuncId} {args : List AVal} {X : AVal → Prop} (hc : ∃ u, ACalls P f args h (fun e h' => e = .ret u ∧ h' = h) ∧ X u) : ∃ u, ACalls P f args h (fun e h' => e = .ret u ∧ h' = h) ∧ X u := hc

theorem call_mono {f : FuncId} {args : List AVal} {v : AVal} {R : AEnd → AHeap → Prop} (hc : Pure1 P f args v) (hk : R (.ret v) h) : ACalls P f args h R :=
  (hc h).mono (by rintro _ _ ⟨rfl, rfl⟩; exact hk)

theorem call_ex {f : FuncId} {args : List AVal} {v : AVal} {X : AVal → Prop} (hc : Pure1 P f args v) (hk : X v) : ∃ u, ACalls P f args h (fun e h' => e = .ret u ∧ h' = h) ∧ X u :=
  ⟨v, hc h, hk⟩

/-- A round that leaves objects of its own behind: they are let go. -/
theorem wk_app {L : AHeap} {a b : List AVal} (hok : HOk h) (hw : Weak a b) (hc : ∀ v ∈ b, Below h.length v) : Wk h a (h ++ L) b h := ⟨hw, Fewer.app _ _, Nat.le_refl _, hc, hok⟩
theorem wk_same {L : AHeap} {a b : List AVal} (hok : HOk h) (hw : Weak a b) (hc : closedL b = true) : Wk h a (h ++ L) b h := wk_app hok hw (closedL_ids hc)
theorem wk_here {a b : List AVal} (hok : HOk h) (hw : Weak a b) (hc : ∀ v ∈ b, Below h.length v) : Wk h a h b h := ⟨hw, Fewer.refl _, Nat.le_refl _, hc, hok⟩

/-- A loop: the state is told anew at each round's end, what the round made is let go. -/
theorem awp_loop0 {c : Code} (I : List AVal → AHeap → Prop) (μ : List AVal → AHeap → Nat) (h₀ : ∃ b, Weak a b ∧ I b h)
    (round : ∀ a h, I a h → AWp P c (AThen (fun a' h' => ∃ b g, Wk h a' h' b g ∧ Inv I b g ∧ μ b g < μ a h) Q) a h) : AWp P (.loop c) Q a h := by
  obtain ⟨b, hw, hI⟩ := h₀
  exact awp_weak hw (awp_loopw I μ hI round)

theorem app_get0 {α : Type} (h L : List α) : (h ++ L)[h.length]? = L[0]? := by rw [List.getElem?_append_right (Nat.le_refl _), Nat.sub_self]
theorem app_get {α : Type} (h L : List α) (k : Nat) : (h ++ L)[h.length + k]? = L[k]? := by rw [List.getElem?_append_right (Nat.le_add_right _ _), Nat.add_sub_cancel_left]
theorem app_old {α : Type} {h : List α} {b : Nat} {o : α} (hb : h[b]? = some o) (L : List α) : (h ++ L)[b]? = some o := by
  have : b < h.length := (List.getElem?_eq_some_iff.1 hb).1
  rw [List.getElem?_append_left this, hb]
theorem app_set0 {α : Type} (h L : List α) (o : α) : (h ++ L).set h.length o = h ++ L.set 0 o := by rw [List.set_append_right _ _ (Nat.le_refl _), Nat.sub_self]
theorem app_set {α : Type} (h L : List α) (k : Nat) (o : α) : (h ++ L).set (h.length + k) o = h ++ L.set k o := by rw [List.set_append_right _ _ (Nat.le_add_right _ _), Nat.add_sub_cancel_left]

attribute [go_sem] app_get0 app_get app_set0 app_set
attribute [go_sem] AGuard AOper AOp aEval litA aset aget aBin aInt aStr aUn aConv aField aIndexAddr aPart aIndex aFieldV aExtract aAlloc aBox AVal.parts AVal.one AVal.isNil isConst aLoad aStore aSlice
  bnd mxOk aAppend srcCells srcLen aCopy aMake aLen aMinMax aBuild aBuildSlice aFill splice aIface aAssert evs evParts ACall aLeaf List.getD_cons_zero List.getD_cons_succ List.set_cons_zero
  List.set_cons_succ List.getElem?_toArray List.getElem?_cons_zero List.getElem?_cons_succ List.getElem?_nil Option.bind_some Option.bind_none List.map_cons List.map_nil List.length_cons
  List.length_nil List.drop_zero List.drop_succ_cons List.drop_nil List.take_zero List.take_succ_cons List.take_nil List.cons_append List.nil_append List.append_nil List.append_assoc List.all_cons
  List.all_nil List.length_append List.getElem?_concat_length List.length_set List.set_append_right List.getElem?_append_right Nat.sub_self Nat.le_refl Nat.zero_add Nat.add_zero Nat.zero_mul
  Nat.mul_one Nat.one_mul Nat.zero_le Int.toNat_natCast Int.toNat_zero Int.sub_zero Int.cast_ofNat_Int Option.map_some Option.map_none Option.isSome_some Option.isSome_none Option.isNone_some
  Option.isNone_none decide_true decide_false Bool.not_true Bool.not_false Bool.and_true Bool.true_and Bool.and_false Bool.false_and Bool.or_true Bool.true_or Bool.or_false Bool.false_or if_true
  if_false ite_true ite_false Bool.true_eq_false Bool.false_eq_true false_and and_false true_and and_true forall_const implies_true forall_false false_implies true_implies eq_self ne_eq
  not_true_eq_false not_false_eq_true Value.oneCell' AOpQ aResults.go

theorem set_get {α : Type} {h : List α} {b : Nat} {o : α} (hb : h[b]? = some o) (x : α) : (h.set b x)[b]? = some x := by
  have : b < h.length := (List.getElem?_eq_some_iff.1 hb).1
  rw [List.getElem?_set_self this]
theorem ends_at {h0 h' : AHeap} {v : AVal} {R : AEnd → AHeap → Prop} (hl : h0.length ≤ h'.length) (hr : R (.ret v) h') : ABody.AEnds h0 h' (.ret v) R :=
  ⟨h', .ret v, hl, hr, fun ρ w u hR hE => ⟨Fewer.refl _, hR, hE⟩⟩
theorem ends_set {h0 : AHeap} {b : Nat} {o : AObj} {v : AVal} {R : AEnd → AHeap → Prop} (hr : R (.ret v) (h0.set b o)) : ABody.AEnds h0 (h0.set b o) (.ret v) R :=
  ends_at (by simp) hr

end Go.Proofs.Ytpjocohpogihcaa.AL
