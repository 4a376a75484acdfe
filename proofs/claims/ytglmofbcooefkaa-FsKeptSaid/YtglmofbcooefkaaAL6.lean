/- Two operands: every comparison and every sum that the logic knows. -/
import Derived.Test.YtglmofbcooefkaaAL5
namespace Go.Proofs.Ytglmofbcooefkaa.AL
set_option linter.unusedVariables false
set_option linter.unusedSimpArgs false
open Go

variable {ρ ρ' : Env} {h h' : AHeap} {w w' : World} {P : Program}

theorem aInt_sound {op : BinOp} {k : IntKind} {x y : Int} {K : AVal → Prop} (hs : op ≠ .shl) (hs' : op ≠ .shr) (hK : aInt op k x y K) :
    ∃ v, (∀ t w, (binOp op t (.int k x) (.int k y)).run P w = .ok v w) ∧ K (.lit v) := by
  cases op <;> simp only [aInt] at hK <;> try (exact hK.elim)
  all_goals try (exact absurd rfl hs)
  all_goals try (exact absurd rfl hs')
  case add => exact ⟨_, fun t w => by simp [binOp, Op.intArith], hK⟩
  case sub => exact ⟨_, fun t w => by simp [binOp, Op.intArith], hK⟩
  case mul => exact ⟨_, fun t w => by simp [binOp, Op.intArith], hK⟩
  case quo => obtain ⟨h0, hK⟩ := hK; exact ⟨_, fun t w => by simp [binOp, Op.intDiv, h0], hK⟩
  case rem => obtain ⟨h0, hK⟩ := hK; exact ⟨_, fun t w => by simp [binOp, Op.intDiv, h0], hK⟩
  case and => exact ⟨_, fun t w => by simp only [binOp, Op.intBits, ne_eq, not_true_eq_false, if_false]; rfl, hK⟩
  case or => exact ⟨_, fun t w => by simp only [binOp, Op.intBits, ne_eq, not_true_eq_false, if_false]; rfl, hK⟩
  case xor => exact ⟨_, fun t w => by simp only [binOp, Op.intBits, ne_eq, not_true_eq_false, if_false]; rfl, hK⟩
  case andNot => exact ⟨_, fun t w => by simp only [binOp, Op.intBits, ne_eq, not_true_eq_false, if_false]; rfl, hK⟩
  case eql => exact ⟨_, fun t w => by simp only [binOp, Op.intCmp, ne_eq, not_true_eq_false, if_false]; rfl, hK⟩
  case neq => exact ⟨_, fun t w => by simp only [binOp, Op.intCmp, ne_eq, not_true_eq_false, if_false]; rfl, hK⟩
  case lss => exact ⟨_, fun t w => by simp only [binOp, Op.intCmp, ne_eq, not_true_eq_false, if_false]; rfl, hK⟩
  case leq => exact ⟨_, fun t w => by simp only [binOp, Op.intCmp, ne_eq, not_true_eq_false, if_false]; rfl, hK⟩
  case gtr => exact ⟨_, fun t w => by simp only [binOp, Op.intCmp, ne_eq, not_true_eq_false, if_false]; rfl, hK⟩
  case geq => exact ⟨_, fun t w => by simp only [binOp, Op.intCmp, ne_eq, not_true_eq_false, if_false]; rfl, hK⟩

theorem aStr_sound {op : BinOp} {x y : ByteArray} {K : AVal → Prop} (hK : aStr op x y K) :
    ∃ v, (∀ t w, (binOp op t (.string x) (.string y)).run P w = .ok v w) ∧ K (.lit v) := by
  cases op <;> simp only [aStr] at hK <;> try (exact hK.elim)
  case add =>
    obtain ⟨h0, hK⟩ := hK
    refine ⟨_, fun t w => ?_, hK⟩
    have : ¬ (((x.size + y.size : Nat) : Int) > IntKind.i64.max) := by simp [IntKind.max, IntKind.signed, IntKind.bits]; omega
    simp only [binOp, Op.stringOp, this, if_false]
    rfl
  case eql => exact ⟨_, fun t w => by simp only [binOp, Op.stringOp, ba_beq]; rfl, hK⟩
  case neq => exact ⟨_, fun t w => by simp only [binOp, Op.stringOp, ba_beq]; rfl, hK⟩
  case lss => exact ⟨_, fun t w => by simp only [binOp, Op.stringOp]; rfl, hK⟩
  case leq => exact ⟨_, fun t w => by simp only [binOp, Op.stringOp, ba_beq]; rfl, hK⟩
  case gtr => exact ⟨_, fun t w => by simp only [binOp, Op.stringOp, ba_beq]; rfl, hK⟩
  case geq => exact ⟨_, fun t w => by simp only [binOp, Op.stringOp]; rfl, hK⟩

/-- Structs of such leaves, held against one another. -/
def aLeaf : List Leaf → List AVal → List AVal → (Bool → Prop) → Prop
  | [], [], [], K => K true
  | .int :: ls, .lit (.int k a) :: xs, .lit (.int k' b) :: ys, K => k = k' ∧ aLeaf ls xs ys fun r => K (decide (a = b) && r)
  | .str :: ls, .lit (.string a) :: xs, .lit (.string b) :: ys, K => aLeaf ls xs ys fun r => K (decide (a = b) && r)
  | .bool :: ls, .lit (.bool a) :: xs, .lit (.bool b) :: ys, K => aLeaf ls xs ys fun r => K (decide (a = b) && r)
  | _, _, _, _ => False

theorem aLeaf_sound : ∀ {ls : List Leaf} {xs ys : List AVal} {K : Bool → Prop} {us vs : List Value}, aLeaf ls xs ys K → xs.length = us.length → ys.length = vs.length →
    (∀ (i : Nat) (hi : i < xs.length), VR ρ h w xs[i] (us.getD i undef)) → (∀ (i : Nat) (hi : i < ys.length), VR ρ h w ys[i] (vs.getD i undef)) →
    ∃ r, LeafEq ls us vs r ∧ K r := by
  intro ls xs ys K us vs hK h1 h2 h3 h4
  induction ls generalizing xs ys K us vs with
  | nil =>
    match xs, ys, hK with
    | [], [], hK =>
      obtain rfl : us = [] := List.eq_nil_of_length_eq_zero h1.symm
      obtain rfl : vs = [] := List.eq_nil_of_length_eq_zero h2.symm
      exact ⟨true, .nil, hK⟩
  | cons l ls ih =>
    match l, xs, ys, us, vs, hK, h1, h2 with
    | .int, .lit (.int k a) :: xs, .lit (.int k' b) :: ys, u :: us, v :: vs, hK, h1, h2 =>
      obtain ⟨hk, hK⟩ := hK
      have e1 := h3 0 (by simp)
      have e2 := h4 0 (by simp)
      simp at e1 e2
      cases e1; cases e2
      obtain ⟨r, hr, hK⟩ := ih hK (by simpa using h1) (by simpa using h2) (fun i hi => h3 (i + 1) (by simpa using hi)) (fun i hi => h4 (i + 1) (by simpa using hi))
      exact ⟨_, .int _ _ _ _ k k' a b hk hr, hK⟩
    | .str, .lit (.string a) :: xs, .lit (.string b) :: ys, u :: us, v :: vs, hK, h1, h2 =>
      have e1 := h3 0 (by simp)
      have e2 := h4 0 (by simp)
      simp at e1 e2
      cases e1; cases e2
      obtain ⟨r, hr, hK⟩ := ih hK (by simpa using h1) (by simpa using h2) (fun i hi => h3 (i + 1) (by simpa using hi)) (fun i hi => h4 (i + 1) (by simpa using hi))
      exact ⟨_, .str _ _ _ _ a b hr, hK⟩
    | .bool, .lit (.bool a) :: xs, .lit (.bool b) :: ys, u :: us, v :: vs, hK, h1, h2 =>
      have e1 := h3 0 (by simp)
      have e2 := h4 0 (by simp)
      simp at e1 e2
      cases e1; cases e2
      obtain ⟨r, hr, hK⟩ := ih hK (by simpa using h1) (by simpa using h2) (fun i hi => h3 (i + 1) (by simpa using hi)) (fun i hi => h4 (i + 1) (by simpa using hi))
      exact ⟨_, .bool _ _ _ _ a b hr, hK⟩

def tyBool (P : Program) (t : TypeId) : Bool := match P.underlying t with
  | some .bool => true
  | _ => false

/-- What a value of a kind is against nil. -/
inductive NilKind where
  | ptr | slice | func | iface | map

def tyNil (P : Program) (t : TypeId) : Option NilKind := match P.underlying t with
  | some (.pointer _) => some .ptr
  | some (.slice _) => some .slice
  | some (.func _ _ _) => some .func
  | some (.interface _) => some .iface
  | some (.map _ _) => some .map
  | _ => none

/-- Is it nil? -/
def AVal.isNil : NilKind → AVal → Option Bool
  | .ptr, .lit (.pointer none) => some true
  | .ptr, .lit (.pointer (some _)) => some false
  | .ptr, .ptr _ _ => some false
  | .ptr, .rop _ => some false
  | .slice, .lit (.slice none _ _) => some true
  | .slice, .lit (.slice (some _) _ _) => some false
  | .slice, .sl _ _ _ _ => some false
  | .slice, .ros _ (_ + 1) => some false
  | .func, .lit .nilFunc => some true
  | .func, .fn _ _ _ => some false
  | .iface, .lit .nilIface => some true
  | .iface, .ifc _ _ => some false
  | .map, .lit (.map none) => some true
  | .map, .lit (.map (some _)) => some false
  | .map, .map _ => some false
  | _, _ => none

def isConst : Operand → Bool
  | .const _ => true
  | _ => false

def aBin (P : Program) (op : BinOp) (t : TypeId) (ox oy : Operand) (x y : AVal) (K : AVal → Prop) : Prop :=
  match x, y with
  | .lit (.int k a), .lit (.int k' b) => match op with
    | .shl => 0 ≤ b ∧ K (.lit (.int k (shlI k a b)))
    | .shr => 0 ≤ b ∧ K (.lit (.int k (shrI k a b)))
    | op => k = k' ∧ aInt op k a b K
  | .lit (.string a), .lit (.string b) => aStr op a b K
  | .lit (.bool a), .lit (.bool b) => tyBool P t = true ∧ match op with
    | .eql => K (.lit (.bool (decide (a = b))))
    | .neq => K (.lit (.bool (!decide (a = b))))
    | _ => False
  | .agg xs, .agg ys => match leaves P 20 t with
    | none => False
    | some ls => tyAgg P t = some true ∧ P.eqGuardType P.depth t = false ∧ aLeaf ls xs ys fun r => match op with
      | .eql => K (.lit (.bool r))
      | .neq => K (.lit (.bool (!r)))
      | _ => False
  | x, y => match tyNil P t with
    | none => False
    | some k => match x.isNil k, y.isNil k with
      | some p, some q => (p = true ∨ q = true) ∧ (isConst ox = true ∨ isConst oy = true) ∧ match op with
        | .eql => K (.lit (.bool (p && q)))
        | .neq => K (.lit (.bool (!(p && q))))
        | _ => False
      | _, _ => False

/-- One step of the model's comparison, where one side is nil. -/
def equalStep (d : TypeDesc) (x y : Value) : Option Bool :=
  match d, x, y with
  | .pointer _, .pointer none, .pointer b => some b.isNone
  | .pointer _, .pointer _, .pointer none => some false
  | .interface _, .nilIface, .nilIface => some true
  | .interface _, .nilIface, .iface _ _ | .interface _, .iface _ _, .nilIface => some false
  | .slice _, .slice none _ _, .slice b _ _ => some b.isNone
  | .slice _, .slice _ _ _, .slice none _ _ => some false
  | .map _ _, .map none, .map b => some b.isNone
  | .map _ _, .map _, .map none => some false
  | .func _ _ _, .nilFunc, .nilFunc => some true
  | .func _ _ _, .nilFunc, .func _ _ _ | .func _ _ _, .func _ _ _, .nilFunc => some false
  | _, _, _ => none

theorem equal_once {t : TypeId} {d : TypeDesc} {x y : Value} {r : Bool} (hu : P.underlying t = some d) (hr : equalStep d x y = some r) : (Op.equal t x y).run P w = .ok r w := by
  show (Op.equalIn (9999 + 1) t x y).run P w = _
  unfold Op.equalIn
  rw [Sem.run_bind, run_underlying hu, Result.andThen_ok]
  unfold equalStep at hr
  split at hr <;> simp only [Option.some.injEq, reduceCtorEq] at hr <;> subst hr <;> first | rfl | simp_all

theorem isNil_eq {k : NilKind} {t : TypeId} {x y : AVal} {u v : Value} {p q : Bool} (hk : tyNil P t = some k) (hx : VR ρ h w x u) (hy : VR ρ h w y v) (hp : x.isNil k = some p) (hq : y.isNil k = some q)
    (hpq : p = true ∨ q = true) : (Op.equal t u v).run P w = .ok (p && q) w := by
  unfold tyNil at hk
  split at hk <;> simp only [Option.some.injEq, reduceCtorEq] at hk <;> subst hk
  all_goals
    rename_i hu
    unfold AVal.isNil at hp hq
    split at hp <;> simp only [Option.some.injEq, reduceCtorEq] at hp <;> (try contradiction) <;> subst hp
    all_goals
      split at hq <;> simp only [Option.some.injEq, reduceCtorEq] at hq <;> (try contradiction) <;> subst hq
      all_goals
        first
        | (simp at hpq; done)
        | (cases hx <;> cases hy <;> (refine equal_once hu ?_; rfl))

/-- The whole operation: what is looked at ahead of a comparison, and the comparison. -/
def binSem (op : BinOp) (t : TypeId) (ox oy : Operand) (u v : Value) : Sem Value := do
  eqGuard op t ox oy u v
  binOp op t u v

theorem guard_nil {op : BinOp} {t : TypeId} {ox oy : Operand} {k : NilKind} {x y : AVal} {u v : Value} {p q : Bool} (hx : VR ρ h w x u) (hy : VR ρ h w y v) (hp : x.isNil k = some p) (hq : y.isNil k = some q)
    (hc : isConst ox = true ∨ isConst oy = true) : (eqGuard op t ox oy u v).run P w = .ok () w := by
  have key : (u = .nilIface ∧ v = .nilIface) ∨ ∀ op, (eqGuard op t ox oy u v).run P w = .ok () w := by
    unfold AVal.isNil at hp hq
    split at hp <;> simp only [Option.some.injEq, reduceCtorEq] at hp <;> (try contradiction)
    all_goals
      split at hq <;> simp only [Option.some.injEq, reduceCtorEq] at hq <;> (try contradiction)
      all_goals (cases hx <;> cases hy <;> first | exact .inl ⟨rfl, rfl⟩ | exact .inr fun op => by cases op <;> rfl)
  rcases key with ⟨rfl, rfl⟩ | key
  · cases op <;> first | rfl | (cases ox <;> cases oy <;> first | rfl | (simp [isConst] at hc; done))
  · exact key op

theorem bin_eql {t : TypeId} {k : NilKind} {x y : AVal} {u v : Value} {p q : Bool} (hx : VR ρ h w x u) (hy : VR ρ h w y v) (hp : x.isNil k = some p) (hq : y.isNil k = some q) :
    binOp .eql t u v = (do pure (.bool (← Op.equal t u v))) ∧ binOp .neq t u v = (do pure (.bool (!(← Op.equal t u v)))) := by
  unfold AVal.isNil at hp hq
  split at hp <;> simp only [Option.some.injEq, reduceCtorEq] at hp <;> (try contradiction)
  all_goals
    split at hq <;> simp only [Option.some.injEq, reduceCtorEq] at hq <;> (try contradiction)
    all_goals (cases hx <;> cases hy <;> exact ⟨rfl, rfl⟩)

theorem guard_scalar {op : BinOp} {t : TypeId} {ox oy : Operand} {u v : Value} (hu : (match u with | .int _ _ | .string _ | .bool _ => true | _ => false) = true) : (eqGuard op t ox oy u v).run P w = .ok () w := by
  cases u <;> simp only [reduceCtorEq, Bool.false_eq_true] at hu <;> (cases op <;> rfl)

theorem aBin_sound {op : BinOp} {t : TypeId} {ox oy : Operand} {x y : AVal} {u v : Value} {K : AVal → Prop} (hx : VR ρ h w x u) (hy : VR ρ h w y v) (hK : aBin P op t ox oy x y K) :
    ∃ z r, (binSem op t ox oy u v).run P w = .ok r w ∧ VR ρ h w z r ∧ K z := by
  unfold aBin at hK
  split at hK
  · rename_i k a k' b
    cases hx; cases hy
    have hg := guard_scalar (P := P) (w := w) (op := op) (t := t) (ox := ox) (oy := oy) (u := .int k a) (v := .int k' b) rfl
    split at hK
    · obtain ⟨h0, hK⟩ := hK
      refine ⟨_, _, ?_, .lit _, hK⟩
      simp only [binSem, Sem.run_bind, hg, Result.andThen_ok, binOp, Op.shift]
      rw [if_neg (by omega)]
      rfl
    · obtain ⟨h0, hK⟩ := hK
      refine ⟨_, _, ?_, .lit _, hK⟩
      simp only [binSem, Sem.run_bind, hg, Result.andThen_ok, binOp, Op.shift]
      rw [if_neg (by omega)]
      rfl
    · rename_i h1 h2
      obtain ⟨rfl, hK⟩ := hK
      obtain ⟨z, hz, hK⟩ := aInt_sound (P := P) (fun e => h1 e) (fun e => h2 e) hK
      exact ⟨_, _, by simp only [binSem, Sem.run_bind, hg, Result.andThen_ok, hz], .lit _, hK⟩
  · rename_i a b
    cases hx; cases hy
    have hg := guard_scalar (P := P) (w := w) (op := op) (t := t) (ox := ox) (oy := oy) (u := .string a) (v := .string b) rfl
    obtain ⟨z, hz, hK⟩ := aStr_sound (P := P) hK
    exact ⟨_, _, by simp only [binSem, Sem.run_bind, hg, Result.andThen_ok, hz], .lit _, hK⟩
  · rename_i a b
    cases hx; cases hy
    have hg := guard_scalar (P := P) (w := w) (op := op) (t := t) (ox := ox) (oy := oy) (u := .bool a) (v := .bool b) rfl
    obtain ⟨ht, hK⟩ := hK
    have hu : P.underlying t = some .bool := by
      unfold tyBool at ht
      split at ht
      · assumption
      · simp at ht
    have he : (Op.equal t (.bool a) (.bool b)).run P w = .ok (a == b) w := run_equalIn_bool' w 9999 t a b hu
    split at hK
    · refine ⟨_, _, ?_, .lit _, hK⟩
      simp only [binSem, Sem.run_bind, hg, Result.andThen_ok, binOp, he]
      cases a <;> cases b <;> rfl
    · refine ⟨_, _, ?_, .lit _, hK⟩
      simp only [binSem, Sem.run_bind, hg, Result.andThen_ok, binOp, he]
      cases a <;> cases b <;> rfl
    · exact hK.elim
  · rename_i xs ys
    split at hK
    · exact hK.elim
    · rename_i ls hls
      obtain ⟨hag, hgt, hK⟩ := hK
      cases hx with | agg _ us hl hv =>
      cases hy with | agg _ vs hl' hv' =>
      obtain ⟨r, hr, hK⟩ := aLeaf_sound (us := us.toList) (vs := vs.toList) hK (by simpa using hl) (by simpa using hl')
        (fun i hi => by simpa [Array.getD_eq_getD_getElem?, List.getD] using hv i hi) (fun i hi => by simpa [Array.getD_eq_getD_getElem?, List.getD] using hv' i hi)
      have hrun := run_leafEq (P := P) 20 10000 t ls us.toList vs.toList r w (by omega) hls hr
      simp only [valOf, hag, Array.toArray_toList] at hrun
      have hg : (eqGuard op t ox oy (.agg us) (.agg vs)).run P w = .ok () w := run_eqGuard_agg w op t ox oy us vs hgt
      have he : (Op.equal t (.agg us) (.agg vs)).run P w = .ok r w := hrun
      split at hK
      · exact ⟨_, _, by simp only [binSem, Sem.run_bind, hg, Result.andThen_ok, binOp, he]; rfl, .lit _, hK⟩
      · exact ⟨_, _, by simp only [binSem, Sem.run_bind, hg, Result.andThen_ok, binOp, he]; rfl, .lit _, hK⟩
      · exact hK.elim
  · split at hK
    · exact hK.elim
    · rename_i k hk
      split at hK
      · rename_i p q hp hq
        obtain ⟨h0, h1, hK⟩ := hK
        have hg : (eqGuard op t ox oy u v).run P w = .ok () w := guard_nil hx hy hp hq h1
        have he := isNil_eq (P := P) hk hx hy hp hq h0
        obtain ⟨b1, b2⟩ := bin_eql (t := t) hx hy hp hq
        split at hK
        · exact ⟨_, _, by simp only [binSem, Sem.run_bind, hg, Result.andThen_ok, b1, he]; rfl, .lit _, hK⟩
        · exact ⟨_, _, by simp only [binSem, Sem.run_bind, hg, Result.andThen_ok, b2, he]; rfl, .lit _, hK⟩
        · exact hK.elim
      · exact hK.elim

end Go.Proofs.Ytglmofbcooefkaa.AL
