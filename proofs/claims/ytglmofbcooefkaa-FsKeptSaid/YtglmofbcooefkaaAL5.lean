/- Sums, comparisons, conversions, addresses, slices: one operation each, over abstract values. -/
import Derived.Test.YtglmofbcooefkaaAL4
import Derived.Laws.StructEq
import Derived.Laws.Slices
namespace Go.Proofs.Ytglmofbcooefkaa.AL
set_option linter.unusedVariables false
set_option linter.unusedSimpArgs false
open Go

variable {ρ ρ' : Env} {h h' : AHeap} {w w' : World} {P : Program}

/-! ### Whole numbers -/
def bitsOf (k : IntKind) (n : Nat → Nat → Nat) (x y : Int) : Int := k.wrap (n (BitVec.ofInt k.bits x).toNat (BitVec.ofInt k.bits y).toNat)
def andI (k : IntKind) (x y : Int) : Int := k.wrap (BitVec.ofInt k.bits x &&& BitVec.ofInt k.bits y).toNat
def orI (k : IntKind) (x y : Int) : Int := k.wrap (BitVec.ofInt k.bits x ||| BitVec.ofInt k.bits y).toNat
def xorI (k : IntKind) (x y : Int) : Int := k.wrap (BitVec.ofInt k.bits x ^^^ BitVec.ofInt k.bits y).toNat
def andNotI (k : IntKind) (x y : Int) : Int := k.wrap (BitVec.ofInt k.bits x &&& ~~~BitVec.ofInt k.bits y).toNat
def shlI (k : IntKind) (x y : Int) : Int := k.wrap (x * 2 ^ (min y.toNat k.bits))
def shrI (k : IntKind) (x y : Int) : Int := x.fdiv (2 ^ (min y.toNat k.bits))

def aInt (op : BinOp) (k : IntKind) (x y : Int) (K : AVal → Prop) : Prop :=
  match op with
  | .add => K (.lit (.int k (k.wrap (x + y))))
  | .sub => K (.lit (.int k (k.wrap (x - y))))
  | .mul => K (.lit (.int k (k.wrap (x * y))))
  | .quo => y ≠ 0 ∧ K (.lit (.int k (k.wrap (x.tdiv y))))
  | .rem => y ≠ 0 ∧ K (.lit (.int k (x.tmod y)))
  | .and => K (.lit (.int k (andI k x y)))
  | .or => K (.lit (.int k (orI k x y)))
  | .xor => K (.lit (.int k (xorI k x y)))
  | .andNot => K (.lit (.int k (andNotI k x y)))
  | .eql => K (.lit (.bool (decide (x = y))))
  | .neq => K (.lit (.bool (!decide (x = y))))
  | .lss => K (.lit (.bool (decide (x < y))))
  | .leq => K (.lit (.bool (decide (x ≤ y))))
  | .gtr => K (.lit (.bool (decide (x > y))))
  | .geq => K (.lit (.bool (decide (x ≥ y))))
  | _ => False

def sless (x y : ByteArray) : Bool := Op.bytesLess x.toList y.toList

def aStr (op : BinOp) (x y : ByteArray) (K : AVal → Prop) : Prop :=
  match op with
  | .add => x.size + y.size ≤ 9223372036854775807 ∧ K (.lit (.string (x ++ y)))
  | .eql => K (.lit (.bool (decide (x = y))))
  | .neq => K (.lit (.bool (!decide (x = y))))
  | .lss => K (.lit (.bool (sless x y)))
  | .leq => K (.lit (.bool (sless x y || decide (x = y))))
  | .gtr => K (.lit (.bool (!(sless x y || decide (x = y)))))
  | .geq => K (.lit (.bool (!sless x y)))
  | _ => False

theorem ba_ext {x y : ByteArray} (h : x.toList = y.toList) : x = y := by
  rw [ByteArray.toList_eq, ByteArray.toList_eq] at h
  obtain ⟨⟨x⟩⟩ := x
  obtain ⟨⟨y⟩⟩ := y
  simp at h
  rw [h]

theorem ba_beq (x y : ByteArray) : (x.toList == y.toList) = decide (x = y) := by
  rw [Bool.eq_iff_iff]
  simp only [beq_iff_eq, decide_eq_true_eq]
  exact ⟨ba_ext, fun h => by rw [h]⟩

inductive Leaf where
  | int | str | bool

def leavesGo (P : Program) (rec : TypeId → Option (List Leaf)) : List Field → Nat → Option (List Leaf)
  | [], _ => some []
  | f :: fs, o => if f.name = "_" ∨ f.offset ≠ o then none else
    match rec f.type with
    | none => none
    | some ls => if tySize P f.type = some ls.length then (leavesGo P rec fs (o + ls.length)).map (ls ++ ·) else none

/-- The leaves of a struct that holds nothing but whole numbers, texts and bools, in order. -/
def leaves (P : Program) : Nat → TypeId → Option (List Leaf)
  | 0, _ => none
  | d + 1, t => match P.underlying t with
    | some (.int _) => some [.int]
    | some .string => some [.str]
    | some .bool => some [.bool]
    | some (.struct fs) => if P.stoodInHeld t then none else leavesGo P (leaves P d) fs.toList 0
    | _ => none

inductive LeafEq : List Leaf → List Value → List Value → Bool → Prop
  | nil : LeafEq [] [] [] true
  | int (ls xs ys r) (k k' : IntKind) (a b : Int) (hk : k = k') (h : LeafEq ls xs ys r) : LeafEq (.int :: ls) (.int k a :: xs) (.int k' b :: ys) (decide (a = b) && r)
  | str (ls xs ys r) (a b : ByteArray) (h : LeafEq ls xs ys r) : LeafEq (.str :: ls) (.string a :: xs) (.string b :: ys) (decide (a = b) && r)
  | bool (ls xs ys r) (a b : Bool) (h : LeafEq ls xs ys r) : LeafEq (.bool :: ls) (.bool a :: xs) (.bool b :: ys) (decide (a = b) && r)

theorem LeafEq.split {ls1 ls2 : List Leaf} : ∀ {xs ys : List Value} {r : Bool}, LeafEq (ls1 ++ ls2) xs ys r →
    ∃ xs1 xs2 ys1 ys2 r1 r2, xs = xs1 ++ xs2 ∧ ys = ys1 ++ ys2 ∧ r = (r1 && r2) ∧ xs1.length = ls1.length ∧ ys1.length = ls1.length ∧ LeafEq ls1 xs1 ys1 r1 ∧ LeafEq ls2 xs2 ys2 r2 := by
  induction ls1 with
  | nil => intro xs ys r h; exact ⟨[], xs, [], ys, true, r, rfl, rfl, by simp, rfl, rfl, .nil, h⟩
  | cons l ls1 ih =>
    intro xs ys r h
    cases h with
    | int _ xs ys r k k' a b hk h =>
      obtain ⟨xs1, xs2, ys1, ys2, r1, r2, rfl, rfl, rfl, h1, h2, h3, h4⟩ := ih h
      exact ⟨.int k a :: xs1, xs2, .int k' b :: ys1, ys2, (decide (a = b) && r1), r2, rfl, rfl, by rw [Bool.and_assoc], by simp [h1], by simp [h2], .int _ _ _ _ k k' a b hk h3, h4⟩
    | str _ xs ys r a b h =>
      obtain ⟨xs1, xs2, ys1, ys2, r1, r2, rfl, rfl, rfl, h1, h2, h3, h4⟩ := ih h
      exact ⟨.string a :: xs1, xs2, .string b :: ys1, ys2, (decide (a = b) && r1), r2, rfl, rfl, by rw [Bool.and_assoc], by simp [h1], by simp [h2], .str _ _ _ _ a b h3, h4⟩
    | bool _ xs ys r a b h =>
      obtain ⟨xs1, xs2, ys1, ys2, r1, r2, rfl, rfl, rfl, h1, h2, h3, h4⟩ := ih h
      exact ⟨.bool a :: xs1, xs2, .bool b :: ys1, ys2, (decide (a = b) && r1), r2, rfl, rfl, by rw [Bool.and_assoc], by simp [h1], by simp [h2], .bool _ _ _ _ a b h3, h4⟩

/-- A value whose cells are these. -/
def valOf (P : Program) (t : TypeId) (l : List Value) : Value := match tyAgg P t with
  | some true => .agg l.toArray
  | _ => l.getD 0 undef

theorem leaves_agg {d : Nat} {t : TypeId} {ls : List Leaf} (h : leaves P d t = some ls) : tyAgg P t = some true ∨ (tyAgg P t = some false ∧ ls.length = 1) := by
  cases d with
  | zero => simp [leaves] at h
  | succ d =>
    unfold leaves at h
    unfold tyAgg
    cases hu : P.underlying t with
    | none => rw [hu] at h; simp at h
    | some D => rw [hu] at h; cases D <;> simp_all <;> (subst h; rfl)

theorem run_part {t : TypeId} {X : Array Value} {o : Nat} {xs1 xs2 : List Value} {d : Nat} {ls : List Leaf} (hl : leaves P d t = some ls) (hs : tySize P t = some ls.length)
    (hx : X.toList.drop o = xs1 ++ xs2) (hn : xs1.length = ls.length) : (part t X o).run P w = .ok (valOf P t xs1) w := by
  have hlen : X.size - o = xs1.length + xs2.length := by
    have := congrArg List.length hx
    simpa using this
  rcases leaves_agg hl with ha | ⟨ha, h1⟩
  · simp only [part, Sem.run_bind, run_isAgg ha, Result.andThen_ok, if_true, run_sizeOf hs, valOf, ha, Sem.run_pure]
    congr 2
    apply Array.ext'
    simp only [Array.toList_extract, List.extract_eq_take_drop]
    rw [hx]
    simp [← hn]
  · simp only [part, Sem.run_bind, run_isAgg ha, Result.andThen_ok, Bool.false_eq_true, if_false, valOf, ha]
    match xs1, hn.trans h1 with
    | [x], _ =>
      have : X[o]? = some x := by
        have h2 := congrArg (fun l : List Value => l[0]?) hx
        simpa using h2
      simp [this]

theorem run_leafEq : ∀ (d D : Nat) (t : TypeId) (ls : List Leaf) (xs ys : List Value) (r : Bool) (w : World), d ≤ D → leaves P d t = some ls → LeafEq ls xs ys r →
    (Op.equalIn D t (valOf P t xs) (valOf P t ys)).run P w = .ok r w := by
  intro d
  induction d with
  | zero => intro D t ls xs ys r w _ h; simp [leaves] at h
  | succ d ih =>
    intro D t ls xs ys r w hD h he
    obtain ⟨D, rfl⟩ : ∃ D', D = D' + 1 := ⟨D - 1, by omega⟩
    unfold leaves at h
    split at h
    · rename_i k hu
      simp only [Option.some.injEq] at h
      subst h
      cases he with | int _ xs ys r k1 k2 a b hk he =>
      cases he
      subst hk
      simp only [valOf, tyAgg, hu, List.getD_cons_zero]
      rw [run_equalIn_int w D t k1 k a b hu, Bool.and_true]
      rfl
    · rename_i hu
      simp only [Option.some.injEq] at h
      subst h
      cases he with | str _ xs ys r a b he =>
      cases he
      simp only [valOf, tyAgg, hu, List.getD_cons_zero]
      rw [run_equalIn_string w D t a b hu, ba_beq, Bool.and_true]
    · rename_i hu
      simp only [Option.some.injEq] at h
      subst h
      cases he with | bool _ xs ys r a b he =>
      cases he
      simp only [valOf, tyAgg, hu, List.getD_cons_zero]
      rw [run_equalIn_bool' w D t a b hu, Bool.and_true]
      congr 1
    · rename_i fs hu
      split at h
      · simp at h
      · rename_i hst
        have hfo : P.fieldsOf t = fs := by unfold Program.fieldsOf; rw [hu]
        have hag : tyAgg P t = some true := by unfold tyAgg; rw [hu]
        simp only [valOf, hag]
        rw [run_equalIn_struct w D t _ _ (by rw [hfo]; exact hu) (by simpa using hst), hfo]
        have key : ∀ (l : List Field) (o : Nat) (ls : List Leaf) (r : Bool), leavesGo P (leaves P d) l o = some ls → LeafEq ls (xs.toArray.toList.drop o) (ys.toArray.toList.drop o) r →
            (Op.eqFields D xs.toArray ys.toArray l).run P w = .ok r w := by
          intro l
          induction l with
          | nil =>
            intro o ls r hg hle
            simp only [leavesGo, Option.some.injEq] at hg
            subst hg
            generalize xs.toArray.toList.drop o = X at hle
            generalize ys.toArray.toList.drop o = Y at hle
            cases hle
            simp [Op.eqFields]
          | cons f l ihl =>
            intro o ls r hg hle
            simp only [leavesGo] at hg
            split at hg
            · simp at hg
            · rename_i hno
              have hname : f.name ≠ "_" := fun h => hno (.inl h)
              have hoff : f.offset = o := Classical.byContradiction fun h => hno (.inr h)
              split at hg
              · simp at hg
              · rename_i ls1 hl1
                split at hg
                · rename_i hsz
                  cases hg2 : leavesGo P (leaves P d) l (o + ls1.length) with
                  | none => rw [hg2] at hg; simp at hg
                  | some ls2 =>
                    rw [hg2] at hg
                    simp only [Option.map_some, Option.some.injEq] at hg
                    subst hg
                    obtain ⟨xs1, xs2, ys1, ys2, r1, r2, hx, hy, rfl, n1, n2, e1, e2⟩ := hle.split
                    simp only [Op.eqFields]
                    rw [if_pos hname]
                    rw [hoff]
                    simp only [Sem.run_bind, run_part hl1 hsz hx n1, run_part hl1 hsz hy n2, Result.andThen_ok, ih D f.type ls1 xs1 ys1 r1 w (by omega) hl1 e1]
                    have hx2 : xs.toArray.toList.drop (o + ls1.length) = xs2 := by
                      rw [← List.drop_drop, hx]; simp [← n1]
                    have hy2 : ys.toArray.toList.drop (o + ls1.length) = ys2 := by
                      rw [← List.drop_drop, hy]; simp [← n2]
                    have := ihl (o + ls1.length) ls2 r2 hg2 (by rw [hx2, hy2]; exact e2)
                    cases r1
                    · simp
                    · simpa using this
                · simp at hg
        exact key fs.toList 0 ls r h (by simpa using he)
    · simp at h

end Go.Proofs.Ytglmofbcooefkaa.AL
