/- Tables of types; pieces of code; what stands behind a piece. -/
import Derived.Test.YtglmofbcooefkaaX5
namespace Go.Proofs.Ytglmofbcooefkaa.AL
set_option linter.unusedVariables false
set_option linter.unusedSimpArgs false
open Go

structure TyRow where
  desc : TypeDesc
  siz : Nat
  byt : Nat
  zer : Option AVal
  fit : Bool
  lvs : Option (List Leaf)
structure RowOk (P : Program) (t : Nat) (r : TyRow) : Prop where
  und : P.underlying t = some r.desc
  siz : tySize P t = some r.siz
  byt : tyBytes P t = some r.byt
  zer : ∀ z, r.zer = some z → tyZero P t = some z
  fit : r.fit = true → zeroFits P t
  lvs : ∀ l, r.lvs = some l → leaves P 20 t = some l ∧ tyAgg P t = some true ∧ P.eqGuardType P.depth t = false
noncomputable def tabOf (rows : List (Nat × TyRow)) : Tab where
  und t := match findN rows t with
    | some r => some r.desc
    | none => none
  siz t := match findN rows t with
    | some r => some r.siz
    | none => none
  byt t := match findN rows t with
    | some r => some r.byt
    | none => none
  zer t := match findN rows t with
    | some r => r.zer
    | none => none
  fit t := match findN rows t with
    | some r => r.fit
    | none => false
  lvs t := match findN rows t with
    | some r => r.lvs
    | none => none
def RowsOk (P : Program) : List (Nat × TyRow) → Prop
  | [] => True
  | (t, r) :: l => RowOk P t r ∧ RowsOk P l
theorem RowsOk.find {P : Program} : ∀ {l : List (Nat × TyRow)} {t : Nat} {r : TyRow}, RowsOk P l → findN l t = some r → RowOk P t r
  | [], t, r, _, h => by cases h
  | (k, x) :: l, t, r, hl, h => by
    rcases findN_some h with ⟨rfl, rfl⟩ | h
    · exact hl.1
    · exact RowsOk.find hl.2 h
theorem tabOf_ok {P : Program} {rows : List (Nat × TyRow)} (hl : RowsOk P rows) : (tabOf rows).Ok P := by
  constructor
  · intro t d h; simp only [tabOf] at h; split at h
    · rename_i hf; cases h; exact (hl.find hf).und
    · cases h
  · intro t d h; simp only [tabOf] at h; split at h
    · rename_i hf; cases h; exact (hl.find hf).siz
    · cases h
  · intro t d h; simp only [tabOf] at h; split at h
    · rename_i hf; cases h; exact (hl.find hf).byt
    · cases h
  · intro t d h; simp only [tabOf] at h; split at h
    · rename_i hf; exact (hl.find hf).zer _ h
    · cases h
  · intro t h; simp only [tabOf] at h; split at h
    · rename_i hf; exact (hl.find hf).fit h
    · cases h
  · intro t d h; simp only [tabOf] at h; split at h
    · rename_i hf; exact (hl.find hf).lvs _ h
    · cases h

/-- What a function that calls itself is said to do. -/
abbrev XP := List AVal → AHeap → Option (AVal × AHeap)
def recC (P : XP) : XC := .l fun _ args h K => (P args h).bind fun r => K r.1 r.2
theorem recC_nat (P : XP) : XC.Nat (recC P) := fun R args h K => by simp [mkP, Option.bind_assoc]
def psh (h : AHeap) (o : AObj) : AHeap := h ++ [o]
def apd (h : AHeap) (l : List AObj) : AHeap := h ++ l
def bodyOf (fn : Func) : Code := match fn.body with
  | some c => c
  | none => .skip
def ca : Code → Code
  | .seq a _ => a
  | .cond _ a _ => a
  | .block _ a => a
  | .loop a => a
  | .scope a => a
  | .rangeFunc _ _ a _ => a
  | c => c
def cb : Code → Code
  | .seq _ b => b
  | .cond _ _ b => b
  | .rangeFunc _ _ _ b => b
  | c => c
def rops : Code → Array Oper
  | .region _ ops _ => ops
  | _ => #[]
noncomputable def kSeq {R : Type} (E : XE) (b : Code) (K : XK R) : XK R := fun e f h => match e with
  | .normal => atSeq E.Ms (firstR b) f fun f => xexec E b R f h K
  | e => K e f h
def kBlk {R : Type} (id : Nat) (K : XK R) : XK R := fun e f h => match e with
  | .exit id' => match Nat.beq id' id with
    | true => K .normal f h
    | false => K (.exit id') f h
  | e => K e f h
noncomputable def kLoop {R : Type} (E : XE) (c : Code) (K : XK R) : XK R := fun e f h => match e with
  | .normal => xexec E (.loop c) R f h K
  | e => K e f h
def kN {R : Type} (K : XK R) : Fr → AHeap → Option R := fun f h => K .normal f h
end Go.Proofs.Ytglmofbcooefkaa.AL
