/- One operation, reckoned: what it hands back is computed, and what is computed is what the logic says. -/
import Derived.Test.YtglmofbcooefkaaAL15
namespace Go.Proofs.Ytglmofbcooefkaa.AL
set_option linter.unusedVariables false
set_option linter.unusedSimpArgs false
open Go

/-- What is known of the types. -/
structure Tab where
  und : Nat → Option TypeDesc
  siz : Nat → Option Nat
  byt : Nat → Option Nat
  zer : Nat → Option AVal
  fit : Nat → Bool
  lvs : Nat → Option (List Leaf)

structure Tab.Ok (T : Tab) (P : Program) : Prop where
  und : ∀ t d, T.und t = some d → P.underlying t = some d
  siz : ∀ t n, T.siz t = some n → tySize P t = some n
  byt : ∀ t n, T.byt t = some n → tyBytes P t = some n
  zer : ∀ t z, T.zer t = some z → tyZero P t = some z
  fit : ∀ t, T.fit t = true → zeroFits P t
  lvs : ∀ t l, T.lvs t = some l → leaves P 20 t = some l ∧ tyAgg P t = some true ∧ P.eqGuardType P.depth t = false

section tabs
variable {T : Tab} {P : Program} (hT : T.Ok P)
def Tab.mkey (T : Tab) (t : Nat) : Option (MKey × Nat × Nat) := match T.und t with
  | some (.map kt et) => match T.und kt with
    | some .string => some (.str, kt, et)
    | some .bool => some (.bool, kt, et)
    | some (.int k) => some (.int k, kt, et)
    | _ => none
  | _ => none
def Tab.agg (T : Tab) (t : Nat) : Option Bool := match T.und t with
  | some (.struct _) | some (.array _ _) => some true
  | some _ => some false
  | none => none
def Tab.field (T : Tab) (t i : Nat) : Option (Nat × Nat) := match T.und t with
  | some (.struct fs) => (fs[i]?).map fun f => (f.offset, f.type)
  | _ => none
def Tab.slice (T : Tab) (t : Nat) : Option Nat := match T.und t with
  | some (.slice e) => some e
  | _ => none
def Tab.array (T : Tab) (t : Nat) : Option (Nat × Nat) := match T.und t with
  | some (.array n e) => some (n, e)
  | _ => none
def Tab.int (T : Tab) (t : Nat) : Option IntKind := match T.und t with
  | some (.int k) => some k
  | _ => none
def Tab.nilK (T : Tab) (t : Nat) : Option NilKind := match T.und t with
  | some (.pointer _) => some .ptr
  | some (.slice _) => some .slice
  | some (.func _ _ _) => some .func
  | some (.interface _) => some .iface
  | some (.map _ _) => some .map
  | _ => none
include hT
theorem Tab.Ok.mkey {t : Nat} {p : MKey × Nat × Nat} (h : T.mkey t = some p) : tyMap P t = some p ∧ ∃ kt et, T.und t = some (.map kt et) := by
  unfold Tab.mkey at h; unfold tyMap
  cases hu : T.und t with
  | none => simp [hu] at h
  | some d =>
    rw [hu] at h; rw [hT.und t d hu]
    cases d with
    | map kt et =>
      simp only at h ⊢
      cases hk : T.und kt with
      | none => simp [hk] at h
      | some dk => rw [hk] at h; rw [hT.und kt dk hk]; exact ⟨h, kt, et, rfl⟩
    | _ => cases h
theorem Tab.Ok.agg {t : Nat} {b : Bool} (h : T.agg t = some b) : tyAgg P t = some b := by
  unfold Tab.agg at h; unfold tyAgg
  cases hu : T.und t with
  | none => simp [hu] at h
  | some d => rw [hu] at h; rw [hT.und t d hu]; exact h
theorem Tab.Ok.field {t i : Nat} {p : Nat × Nat} (h : T.field t i = some p) : tyField P t i = some p := by
  unfold Tab.field at h; unfold tyField
  cases hu : T.und t with
  | none => simp [hu] at h
  | some d => rw [hu] at h; rw [hT.und t d hu]; exact h
theorem Tab.Ok.slice {t e : Nat} (h : T.slice t = some e) : tySlice P t = some e ∧ tyArray P t = none := by
  unfold Tab.slice at h; unfold tySlice tyArray
  cases hu : T.und t with
  | none => simp [hu] at h
  | some d => rw [hu] at h; rw [hT.und t d hu]; cases d <;> simp_all
theorem Tab.Ok.array {t : Nat} {p : Nat × Nat} (h : T.array t = some p) : tyArray P t = some p := by
  unfold Tab.array at h; unfold tyArray
  cases hu : T.und t with
  | none => simp [hu] at h
  | some d => rw [hu] at h; rw [hT.und t d hu]; exact h
theorem Tab.Ok.int {t : Nat} {k : IntKind} (h : T.int t = some k) : tyInt P t = some k := by
  unfold Tab.int at h; unfold tyInt
  cases hu : T.und t with
  | none => simp [hu] at h
  | some d => rw [hu] at h; rw [hT.und t d hu]; exact h
theorem Tab.Ok.nilK {t : Nat} {k : NilKind} (h : T.nilK t = some k) : tyNil P t = some k := by
  unfold Tab.nilK at h; unfold tyNil
  cases hu : T.und t with
  | none => simp [hu] at h
  | some d => rw [hu] at h; rw [hT.und t d hu]; exact h
theorem Tab.Ok.str {t : Nat} (h : T.und t = some .string) : tyString P t = true ∧ tyArray P t = none ∧ tySlice P t = none := by
  simp [tyString, tyArray, tySlice, hT.und t _ h]
theorem Tab.Ok.bool {t : Nat} (h : T.und t = some .bool) : tyBool P t = true := by
  simp [tyBool, hT.und t _ h]
end tabs

/-! ### What is read typed -/
def kindEq : IntKind → IntKind → Bool
  | .i8, .i8 | .i16, .i16 | .i32, .i32 | .i64, .i64 | .u8, .u8 | .u16, .u16 | .u32, .u32 | .u64, .u64 => true
  | _, _ => false
theorem kindEq_eq {k k' : IntKind} (h : kindEq k k' = true) : k = k' := by cases k <;> cases k' <;> first | rfl | (simp [kindEq] at h)
def asI (k : IntKind) (v : AVal) : Option Int := match v with
  | .lit (.int k' n) => match kindEq k k' with
    | true => some n
    | false => none
  | _ => none
def asS (v : AVal) : Option ByteArray := match v with
  | .lit (.string s) => some s
  | _ => none
def asB (v : AVal) : Option Bool := match v with
  | .lit (.bool b) => some b
  | _ => none
def asA (v : AVal) : Option (List AVal) := match v with
  | .agg xs => some xs
  | _ => none
def castT (T : Tab) (t : Nat) (v : AVal) : Option AVal := match T.und t with
  | some (.int k) => (asI k v).bind fun n => some (.lit (.int k n))
  | some .string => (asS v).bind fun s => some (.lit (.string s))
  | some .bool => (asB v).bind fun b => some (.lit (.bool b))
  | some (.struct _) => (asA v).bind fun xs => some (.agg xs)
  | some (.array _ _) => (asA v).bind fun xs => some (.agg xs)
  | _ => some v
theorem asI_some {k : IntKind} {v : AVal} {n : Int} (h : asI k v = some n) : v = .lit (.int k n) := by
  unfold asI at h
  split at h
  · split at h
    · rename_i hk; cases h; rw [kindEq_eq hk]
    · cases h
  · cases h
theorem asS_some {v : AVal} {s : ByteArray} (h : asS v = some s) : v = .lit (.string s) := by unfold asS at h; split at h <;> cases h; rfl
theorem asB_some {v : AVal} {b : Bool} (h : asB v = some b) : v = .lit (.bool b) := by unfold asB at h; split at h <;> cases h; rfl
theorem asA_some {v : AVal} {xs : List AVal} (h : asA v = some xs) : v = .agg xs := by unfold asA at h; split at h <;> cases h; rfl
theorem castT_eq {T : Tab} {t : Nat} {v v' : AVal} (hc : castT T t v = some v') : v' = v := by
  unfold castT at hc
  split at hc
  · obtain ⟨n, h1, h2⟩ := Option.bind_eq_some_iff.1 hc; cases h2; exact (asI_some h1).symm
  · obtain ⟨n, h1, h2⟩ := Option.bind_eq_some_iff.1 hc; cases h2; exact (asS_some h1).symm
  · obtain ⟨n, h1, h2⟩ := Option.bind_eq_some_iff.1 hc; cases h2; exact (asB_some h1).symm
  · obtain ⟨n, h1, h2⟩ := Option.bind_eq_some_iff.1 hc; cases h2; exact (asA_some h1).symm
  · obtain ⟨n, h1, h2⟩ := Option.bind_eq_some_iff.1 hc; cases h2; exact (asA_some h1).symm
  · cases hc; rfl

/-! ### Operations that leave the heap -/
def req (p : Prop) [Decidable p] : Option Unit := if p then some () else none
theorem req_some {p : Prop} [Decidable p] {u : Unit} (h : req p = some u) : p := by unfold req at h; split at h <;> simp_all
def cellsAt (h : AHeap) (b : Nat) : Option (List AVal) := match h[b]? with
  | some (.cells cs) => some cs
  | _ => none
theorem cellsAt_some {h : AHeap} {b : Nat} {cs : List AVal} (hc : cellsAt h b = some cs) : h[b]? = some (.cells cs) := by
  unfold cellsAt at hc; split at hc <;> simp_all
def ld1 (h : AHeap) (v : AVal) : Option AVal := match v with
  | .ptr b off => (cellsAt h b).bind fun cs => cs[off]?
  | .rop cs => cs[0]?
  | _ => none
def ldn (n : Nat) (h : AHeap) (v : AVal) : Option (List AVal) := match v with
  | .ptr b off => (cellsAt h b).bind fun cs => (req (off + n ≤ cs.length)).bind fun _ => some ((cs.drop off).take n)
  | .rop cs => (req (n ≤ cs.length)).bind fun _ => some (cs.take n)
  | _ => none
def xLoad (T : Tab) (t : Nat) (h : AHeap) (v : AVal) : Option AVal := match T.agg t with
  | some false => ld1 h v
  | some true => match T.siz t with
    | some n => (ldn n h v).bind fun xs => some (.agg xs)
    | none => none
  | none => none
theorem xLoad_ok {T : Tab} {P : Program} (hT : T.Ok P) {t : Nat} {h : AHeap} {v x : AVal} {K : AVal → Prop} (hx : xLoad T t h v = some x) (hK : K x) : aLoad P t h v K := by
  unfold xLoad at hx; unfold aLoad
  split at hx
  · rename_i ha
    simp only [hT.agg ha]
    unfold ld1 at hx
    split at hx
    · obtain ⟨cs, h1, h2⟩ := Option.bind_eq_some_iff.1 hx
      simp only [cellsAt_some h1, h2]; exact hK
    · rename_i cs
      cases cs with
      | nil => simp at hx
      | cons y ys => simp at hx; subst hx; exact hK
    · cases hx
  · rename_i ha
    simp only [hT.agg ha]
    split at hx
    · rename_i n hs
      simp only [hT.siz _ _ hs]
      obtain ⟨xs, hl, h2⟩ := Option.bind_eq_some_iff.1 hx
      cases h2
      unfold ldn at hl
      split at hl
      · obtain ⟨cs, h1, hl⟩ := Option.bind_eq_some_iff.1 hl
        obtain ⟨u, h2, hl⟩ := Option.bind_eq_some_iff.1 hl
        cases hl
        simp only [cellsAt_some h1]
        exact ⟨req_some h2, hK⟩
      · obtain ⟨u, h2, hl⟩ := Option.bind_eq_some_iff.1 hl
        cases hl
        exact ⟨req_some h2, hK⟩
      · cases hl
    · cases hx
  · cases hx

/-! Whole numbers, texts, bools -/
def xInt (op : BinOp) (k : IntKind) (x y : Int) : Option AVal := match op with
  | .add => some (.lit (.int k (k.wrap (x + y))))
  | .sub => some (.lit (.int k (k.wrap (x - y))))
  | .mul => some (.lit (.int k (k.wrap (x * y))))
  | .quo => (req (y ≠ 0)).bind fun _ => some (.lit (.int k (k.wrap (x.tdiv y))))
  | .rem => (req (y ≠ 0)).bind fun _ => some (.lit (.int k (x.tmod y)))
  | .and => some (.lit (.int k (andI k x y)))
  | .or => some (.lit (.int k (orI k x y)))
  | .xor => some (.lit (.int k (xorI k x y)))
  | .andNot => some (.lit (.int k (andNotI k x y)))
  | .eql => some (.lit (.bool (decide (x = y))))
  | .neq => some (.lit (.bool (!decide (x = y))))
  | .lss => some (.lit (.bool (decide (x < y))))
  | .leq => some (.lit (.bool (decide (x ≤ y))))
  | .gtr => some (.lit (.bool (decide (x > y))))
  | .geq => some (.lit (.bool (decide (x ≥ y))))
  | _ => none
def xStr (op : BinOp) (x y : ByteArray) : Option AVal := match op with
  | .add => (req (x.size + y.size ≤ 9223372036854775807)).bind fun _ => some (.lit (.string (x ++ y)))
  | .eql => some (.lit (.bool (decide (x = y))))
  | .neq => some (.lit (.bool (!decide (x = y))))
  | .lss => some (.lit (.bool (sless x y)))
  | .leq => some (.lit (.bool (sless x y || decide (x = y))))
  | .gtr => some (.lit (.bool (!(sless x y || decide (x = y)))))
  | .geq => some (.lit (.bool (!sless x y)))
  | _ => none
theorem xInt_ok {op : BinOp} {k : IntKind} {x y : Int} {v : AVal} {K : AVal → Prop} (hv : xInt op k x y = some v) (hK : K v) : aInt op k x y K := by
  unfold xInt at hv; unfold aInt
  cases op <;> first
    | (cases hv; done)
    | (cases hv; exact hK)
    | (obtain ⟨u, h1, h2⟩ := Option.bind_eq_some_iff.1 hv; cases h2; exact ⟨req_some h1, hK⟩)
theorem xStr_ok {op : BinOp} {x y : ByteArray} {v : AVal} {K : AVal → Prop} (hv : xStr op x y = some v) (hK : K v) : aStr op x y K := by
  unfold xStr at hv; unfold aStr
  cases op <;> first
    | (cases hv; done)
    | (cases hv; exact hK)
    | (obtain ⟨u, h1, h2⟩ := Option.bind_eq_some_iff.1 hv; cases h2; exact ⟨req_some h1, hK⟩)
def leafEq : List Leaf → List AVal → List AVal → Option Bool
  | [], [], [] => some true
  | .int :: ls, .lit (.int k a) :: xs, .lit (.int k' b) :: ys => match kindEq k k' with
    | true => (leafEq ls xs ys).bind fun r => some (decide (a = b) && r)
    | false => none
  | .str :: ls, .lit (.string a) :: xs, .lit (.string b) :: ys => (leafEq ls xs ys).bind fun r => some (decide (a = b) && r)
  | .bool :: ls, .lit (.bool a) :: xs, .lit (.bool b) :: ys => (leafEq ls xs ys).bind fun r => some (decide (a = b) && r)
  | _, _, _ => none
theorem leafEq_ok : ∀ {ls : List Leaf} {xs ys : List AVal} {r : Bool} {K : Bool → Prop}, leafEq ls xs ys = some r → K r → aLeaf ls xs ys K := by
  intro ls xs ys
  fun_induction leafEq ls xs ys <;> intro r K h hK
  · cases h; exact hK
  · rename_i hk ih
    obtain ⟨r', h1, h2⟩ := Option.bind_eq_some_iff.1 h
    cases h2
    exact ⟨kindEq_eq hk, ih h1 hK⟩
  · cases h
  · rename_i ih
    obtain ⟨r', h1, h2⟩ := Option.bind_eq_some_iff.1 h
    cases h2
    exact ih h1 hK
  · rename_i ih
    obtain ⟨r', h1, h2⟩ := Option.bind_eq_some_iff.1 h
    cases h2
    exact ih h1 hK
  · cases h
/-- A comparison with nil: one side is a nil that is written out. -/
def isNilC (o : Operand) (k : NilKind) (x : AVal) : Bool := match isConst o, x.isNil k with
  | true, some true => true
  | _, _ => false
def xNil (T : Tab) (op : BinOp) (t : Nat) (ox oy : Operand) (x y : AVal) : Option AVal := match T.nilK t with
  | none => none
  | some k => match isNilC oy k y with
    | true => (x.isNil k).bind fun p => match op with
      | .eql => some (.lit (.bool p))
      | .neq => some (.lit (.bool (!p)))
      | _ => none
    | false => match isNilC ox k x with
      | true => (y.isNil k).bind fun p => match op with
        | .eql => some (.lit (.bool p))
        | .neq => some (.lit (.bool (!p)))
        | _ => none
      | false => none
def xBin (T : Tab) (op : BinOp) (t : Nat) (ox oy : Operand) (x y : AVal) : Option AVal := match T.nilK t with
  | some _ => xNil T op t ox oy x y
  | none => match x, y with
    | .lit (.int k a), .lit (.int k' b) => match op with
      | .shl => (req (0 ≤ b)).bind fun _ => some (.lit (.int k (shlI k a b)))
      | .shr => (req (0 ≤ b)).bind fun _ => some (.lit (.int k (shrI k a b)))
      | op => match kindEq k k' with
        | true => xInt op k a b
        | false => none
    | .lit (.string a), .lit (.string b) => xStr op a b
    | .lit (.bool a), .lit (.bool b) => match T.und t, op with
      | some .bool, .eql => some (.lit (.bool (decide (a = b))))
      | some .bool, .neq => some (.lit (.bool (!decide (a = b))))
      | _, _ => none
    | .agg xs, .agg ys => match T.lvs t with
      | none => none
      | some ls => (leafEq ls xs ys).bind fun r => match op with
        | .eql => some (.lit (.bool r))
        | .neq => some (.lit (.bool (!r)))
        | _ => none
    | _, _ => none
theorem xNil_ok {T : Tab} {P : Program} (hT : T.Ok P) {op : BinOp} {t : Nat} {ox oy : Operand} {x y v : AVal} {K : AVal → Prop} (hv : xNil T op t ox oy x y = some v) (hK : K v) :
    ∃ k p q, tyNil P t = some k ∧ x.isNil k = some p ∧ y.isNil k = some q ∧ (p = true ∨ q = true) ∧ (isConst ox = true ∨ isConst oy = true) ∧ ((op = .eql ∧ K (.lit (.bool (p && q)))) ∨ (op = .neq ∧ K (.lit (.bool (!(p && q)))))) := by
  unfold xNil at hv
  have isC : ∀ {o : Operand} {k : NilKind} {x : AVal}, isNilC o k x = true → isConst o = true ∧ x.isNil k = some true := by
    intro o k x h
    unfold isNilC at h
    split at h
    · rename_i h1 h2; exact ⟨h1, h2⟩
    · cases h
  split at hv
  · cases hv
  · rename_i k hk
    split at hv
    · rename_i hc
      obtain ⟨c1, c2⟩ := isC hc
      obtain ⟨p, h1, hv⟩ := Option.bind_eq_some_iff.1 hv
      refine ⟨k, p, true, hT.nilK hk, h1, c2, .inr rfl, .inr c1, ?_⟩
      split at hv
      · cases hv; exact .inl ⟨rfl, by rw [Bool.and_true]; exact hK⟩
      · cases hv; exact .inr ⟨rfl, by rw [Bool.and_true]; exact hK⟩
      · cases hv
    · split at hv
      · rename_i hc
        obtain ⟨c1, c2⟩ := isC hc
        obtain ⟨p, h1, hv⟩ := Option.bind_eq_some_iff.1 hv
        refine ⟨k, true, p, hT.nilK hk, c2, h1, .inl rfl, .inl c1, ?_⟩
        split at hv
        · cases hv; exact .inl ⟨rfl, by rw [Bool.true_and]; exact hK⟩
        · cases hv; exact .inr ⟨rfl, by rw [Bool.true_and]; exact hK⟩
        · cases hv
      · cases hv
theorem xBin_ok {T : Tab} {P : Program} (hT : T.Ok P) {op : BinOp} {t : Nat} {ox oy : Operand} {x y v : AVal} {K : AVal → Prop} (hv : xBin T op t ox oy x y = some v) (hK : K v) : aBin P op t ox oy x y K := by
  unfold xBin at hv
  split at hv
  · obtain ⟨k, p, q, e1, e2, e3, e4, e5, e6⟩ := xNil_ok hT hv hK
    unfold aBin
    split
    · simp [AVal.isNil] at e2
    · simp [AVal.isNil] at e2
    · simp [AVal.isNil] at e2
    · simp [AVal.isNil] at e2
    · simp only [e1, e2, e3]
      rcases e6 with ⟨rfl, e6⟩ | ⟨rfl, e6⟩
      · exact ⟨e4, e5, e6⟩
      · exact ⟨e4, e5, e6⟩
  · split at hv
    · rename_i k a k' b
      unfold aBin
      simp only
      split at hv
      · obtain ⟨u, h1, h2⟩ := Option.bind_eq_some_iff.1 hv
        cases h2; exact ⟨req_some h1, hK⟩
      · obtain ⟨u, h1, h2⟩ := Option.bind_eq_some_iff.1 hv
        cases h2; exact ⟨req_some h1, hK⟩
      · rename_i h1 h2
        split at hv
        · rename_i hk
          split
          · exact absurd rfl h1
          · exact absurd rfl h2
          · exact ⟨kindEq_eq hk, xInt_ok hv hK⟩
        · cases hv
    · unfold aBin; exact xStr_ok hv hK
    · unfold aBin
      split at hv
      · rename_i hu; cases hv; exact ⟨hT.bool hu, hK⟩
      · rename_i hu; cases hv; exact ⟨hT.bool hu, hK⟩
      · cases hv
    · unfold aBin
      split at hv
      · cases hv
      · rename_i ls hl
        obtain ⟨h1, h2, h3⟩ := hT.lvs _ _ hl
        simp only [h1]
        obtain ⟨r, h4, h5⟩ := Option.bind_eq_some_iff.1 hv
        refine ⟨h2, h3, leafEq_ok h4 ?_⟩
        split at h5 <;> first | (cases h5; exact hK) | cases h5
    · cases hv
end Go.Proofs.Ytglmofbcooefkaa.AL
