/- Of sources whose heads rise all heads come, in order: the count, and the walk. -/
import Derived.Test.YtpjocohpogihcaaLawMerge
import Derived.Test.YtpjocohpogihcaaFam
namespace Go.Proofs.Ytpjocohpogihcaa.AL
set_option linter.unusedVariables false
set_option linter.unusedSimpArgs false
set_option maxRecDepth 100000
open Go
open Go.Proofs.Try
/-! ### Plain -/
def sumV (r : List Nat) : Nat → Nat
  | 0 => r.getD 0 0
  | k + 1 => sumV r k + r.getD (k + 1) 0
theorem sumV_le {r : List Nat} (hb : ∀ x ∈ r, x < 256) : ∀ k, sumV r k ≤ 255 * (k + 1)
  | 0 => by
    unfold sumV
    cases r with
    | nil => simp
    | cons x r => have := hb x (by simp); simp; omega
  | k + 1 => by
    have := sumV_le hb k
    have h2 : r.getD (k + 1) 0 < 256 := by
      rw [List.getD_eq_getElem?_getD]
      cases h : r[k + 1]? with
      | none => simp
      | some x => simpa using hb x (List.mem_of_getElem? h)
    unfold sumV; omega
theorem sumV_mono (r : List Nat) {i j : Nat} (h : i ≤ j) : sumV r i ≤ sumV r j := by
  induction h with
  | refl => exact Nat.le_refl _
  | step _ ih => exact Nat.le_trans ih (by unfold sumV; split <;> simp_all [sumV] <;> omega)
def pcnt (r : List Nat) (v : Nat) : Nat → Nat
  | 0 => 0
  | k + 1 => pcnt r v k + if sumV r k = v then 1 else 0
theorem pcnt_mono (r : List Nat) (v : Nat) {i j : Nat} (h : i ≤ j) : pcnt r v i ≤ pcnt r v j := by
  induction h with
  | refl => exact Nat.le_refl _
  | step _ ih => exact Nat.le_trans ih (by simp [pcnt])
theorem pcnt_le (r : List Nat) (v : Nat) : ∀ k, pcnt r v k ≤ k
  | 0 => Nat.le_refl _
  | k + 1 => by have := pcnt_le r v k; unfold pcnt; split <;> omega
def sumP : List (List Nat) → List Nat → Nat → Nat
  | r :: L, a :: ps, v => pcnt r v a + sumP L ps v
  | _, _, _ => 0
def rowN (L : List (List Nat)) (i : Nat) : List Nat := L.getD i []
def atN (ps : List Nat) (i : Nat) : Nat := ps.getD i 0
theorem sumP_set : ∀ {L : List (List Nat)} {ps : List Nat} {i : Nat} (v : Nat), L.length = ps.length → i < ps.length → sumP L (ps.set i (atN ps i + 1)) v = sumP L ps v + if sumV (rowN L i) (atN ps i) = v then 1 else 0
  | r :: L, a :: ps, 0, v, _, _ => by simp [sumP, rowN, atN, pcnt]; omega
  | r :: L, a :: ps, i + 1, v, hl, hi => by
    have := sumP_set (L := L) (ps := ps) (i := i) v (by simpa using hl) (by simpa using hi)
    have e1 : rowN (r :: L) (i + 1) = rowN L i := by simp [rowN]
    have e2 : atN (a :: ps) (i + 1) = atN ps i := by simp [atN]
    rw [e1, e2, List.set_cons_succ]
    simp only [sumP]
    omega
  | [], a :: ps, _, v, hl, _ => by simp at hl
  | _, [], i, v, _, hi => by simp at hi
theorem sum_set : ∀ {ps : List Nat} {i : Nat} (x : Nat), i < ps.length → (ps.set i x).sum + atN ps i = ps.sum + x
  | a :: ps, 0, x, _ => by simp [atN]; omega
  | a :: ps, i + 1, x, hi => by
    have := sum_set (ps := ps) (i := i) x (by simpa using hi)
    have e2 : atN (a :: ps) (i + 1) = atN ps i := by simp [atN]
    rw [e2]; simp; omega
theorem sum_le : ∀ {ps bs : List Nat}, ps.length = bs.length → (∀ i, i < ps.length → atN ps i ≤ atN bs i) → ps.sum ≤ bs.sum ∧ (ps.sum = bs.sum → ps = bs)
  | [], [], _, _ => by simp
  | a :: ps, b :: bs, hl, h => by
    obtain ⟨h1, h2⟩ := sum_le (ps := ps) (bs := bs) (by simpa using hl) fun i hi => by simpa [atN] using h (i + 1) (by simpa using hi)
    have h0 := h 0 (by simp)
    simp only [atN, List.getD_cons_zero] at h0
    simp only [List.sum_cons]
    refine ⟨by omega, fun e => ?_⟩
    rw [h2 (by omega), show a = b by omega]
  | [], b :: bs, hl, _ => by simp at hl
  | a :: ps, [], hl, _ => by simp at hl
theorem atN_set {ps : List Nat} {i j x : Nat} (hi : i < ps.length) : atN (ps.set i x) j = if i = j then x else atN ps j := getD_set hi
theorem txtN_less {a b : Nat} (ha : a < 65536) (hb : b < 65536) : sless (txtN a) (txtN b) = decide (a < b) := by
  rw [sless_list]
  have h1 : ∀ m n : Nat, m < 256 → n < 256 → (UInt8.ofNat m < UInt8.ofNat n ↔ m < n) := fun m n hm hn => by
    rw [UInt8.lt_iff_toNat_lt]; simp [Nat.mod_eq_of_lt hm, Nat.mod_eq_of_lt hn]
  have h2 : ∀ m n : Nat, m < 256 → n < 256 → (UInt8.ofNat m = UInt8.ofNat n ↔ m = n) := fun m n hm hn => by
    rw [← UInt8.toNat_inj]; simp [Nat.mod_eq_of_lt hm, Nat.mod_eq_of_lt hn]
  have e1 := h1 (a / 256) (b / 256) (by omega) (by omega)
  have e2 := h1 (a % 256) (b % 256) (by omega) (by omega)
  have e3 := h2 (a / 256) (b / 256) (by omega) (by omega)
  simp only [txtN, Op.bytesLess, Bool.or_false, Bool.and_false]
  rw [Bool.eq_iff_iff]
  simp only [Bool.or_eq_true, Bool.and_eq_true, decide_eq_true_eq, beq_iff_eq, e1, e2, e3]
  omega
theorem txtN_inj {a b : Nat} (ha : a < 65536) (hb : b < 65536) (h : txtN a = txtN b) : a = b := by
  have h1 := txtN_less ha hb
  have h2 := txtN_less hb ha
  rw [h, sl_irrefl] at h1
  rw [h, sl_irrefl] at h2
  have := of_decide_eq_false h1.symm
  have := of_decide_eq_false h2.symm
  omega
/-! ### What came in -/
def u8Vs (r : List Nat) : List AVal := r.map fun n : Nat => .lit (.int .u8 (n : Int))
theorem u8Vs_get {r : List Nat} {k : Nat} (hk : k < r.length) : (u8Vs r)[k]? = some (.lit (.int .u8 (r.getD k 0 : Nat))) := by simp [u8Vs, hk, List.getD_eq_getElem?_getD]
theorem sumV_step {r : List Nat} {k : Nat} : sumV r (k + 1) = sumV r k + r.getD (k + 1) 0 := rfl
abbrev Row := AVal × List Nat
def RowOk2 (a : Row) : Prop := (∀ g, Sl 1 g a.1 a.2.length (u8Vs a.2)) ∧ ∀ x ∈ a.2, x < 256
structure Rows (l0 : AVal) (A : List Row) : Prop where
  sl : ∀ g, Sl 1 g l0 A.length (A.map (·.1))
  ok : ∀ a ∈ A, RowOk2 a
  few : A.length ≤ 12
variable {l0 : AVal} {A : List Row}
def rowsOf (A : List Row) : List (List Nat) := A.map (·.2)
theorem rowN_of {i : Nat} (hi : i < A.length) : rowN (rowsOf A) i = A[i].2 := by simp [rowN, rowsOf, hi, List.getD_eq_getElem?_getD]
theorem Rows.row (R : Rows l0 A) {i : Nat} (hi : i < A.length) (g : AHeap) : ∃ p v, idxP 1 l0 (i : Nat) = some p ∧ ld1 g p = some v ∧ (∀ g, Sl 1 g v (rowN (rowsOf A) i).length (u8Vs (rowN (rowsOf A) i))) ∧ ∀ x ∈ rowN (rowsOf A) i, x < 256 := by
  obtain ⟨p, p1, _, _, p2⟩ := (R.sl g).idx hi
  have p2 := p2 (by omega)
  rw [Nat.mul_one] at p2
  obtain ⟨h1, h2⟩ := R.ok A[i] (List.getElem_mem hi)
  rw [rowN_of hi]
  exact ⟨p, A[i].1, p1, by rw [p2]; simp [hi], h1, h2⟩
theorem Rows.elem {v : AVal} {r : List Nat} (h : ∀ g, Sl 1 g v r.length (u8Vs r)) {k : Nat} (hk : k < r.length) (g : AHeap) : ∃ p, idxP 1 v (k : Nat) = some p ∧ ld1 g p = some (.lit (.int .u8 (r.getD k 0 : Nat))) := by
  obtain ⟨p, p1, _, _, p2⟩ := (h g).idx hk
  have p2 := p2 (by omega)
  rw [Nat.mul_one, u8Vs_get hk] at p2
  exact ⟨p, p1, p2⟩
/-! ### The sums are laid -/
def natVs (l : List Nat) : List AVal := l.map fun n : Nat => .lit (.int .i64 (n : Int))
theorem natVs_get {l : List Nat} {i : Nat} (hi : i < (natVs l).length) : (natVs l)[i] = .lit (.int .i64 (atN l i : Nat)) := by
  have : i < l.length := by simpa [natVs] using hi
  simp [natVs, atN, List.getD_eq_getElem?_getD, this]
theorem natVs_set (l : List Nat) (i x : Nat) : (natVs l).set i (.lit (.int .i64 (x : Int))) = natVs (l.set i x) := by simp [natVs, List.map_set]
theorem idx_nat {i : Int} {n : Nat} (h : i = n) : i = (n : Int) := h
/-- The family: heads, over, at, now, all. -/
structure Laid (h : AHeap) (f : FamT) (hd : List ByteArray) (ov : List Bool) (at_ now all : List Nat) : Prop where
  F : Fam h f
  e0 : (f 0).2 = strVs hd
  e1 : (f 1).2 = boolVs ov
  e2 : (f 2).2 = natVs at_
  e3 : (f 3).2 = natVs now
  e4 : (f 4).2 = natVs all
  big : all.length = 4096
def pAll (L : List (List Nat)) (i k v : Nat) : Nat := sumP (L.take i) ((L.take i).map (·.length)) v + pcnt (rowN L i) v k
theorem pAll_next {L : List (List Nat)} {i v : Nat} (hi : i < L.length) : pAll L (i + 1) 0 v = pAll L i (rowN L i).length v := by
  unfold pAll
  have e : rowN L i = L[i] := by simp [rowN, hi, List.getD_eq_getElem?_getD]
  rw [List.take_succ_eq_append_getElem hi, e]
  have key : ∀ (M : List (List Nat)) (r : List Nat), sumP (M ++ [r]) ((M ++ [r]).map (·.length)) v = sumP M (M.map (·.length)) v + pcnt r v r.length := by
    intro M
    induction M with
    | nil => intro r; simp [sumP]
    | cons m M ih => intro r; simp only [List.cons_append, List.map_cons, sumP]; rw [ih]; omega
  rw [key, show pcnt (rowN L (i + 1)) v 0 = 0 from rfl]; omega
theorem sumV_eq (r : List Nat) (k : Nat) : ∀ (v : Nat), (k = 0 → v = 0) → (0 < k → v = sumV r (k - 1)) → v + r.getD k 0 = sumV r k := by
  intro v h0 h1
  cases k with
  | zero => rw [h0 rfl]; simp [sumV]
  | succ k => rw [h1 (by omega), sumV_step]; rfl
theorem sumP_le {u : Nat} : ∀ {M : List (List Nat)}, (∀ r ∈ M, r.length ≤ 12) → sumP M (M.map (·.length)) u ≤ M.length * 12
  | [], _ => by simp [sumP]
  | m :: M, hm => by
    have h1 := sumP_le (u := u) (M := M) fun r hr => hm r (by simp [hr])
    have h2 := pcnt_le m u m.length
    have h3 := hm m (by simp)
    simp only [List.map_cons, sumP, List.length_cons]
    omega
theorem inner_loop (R : Rows l0 A) {i : Nat} (hi : i < A.length) (hlen : (rowN (rowsOf A) i).length ≤ 12) (hprev : ∀ r ∈ (rowsOf A).take i, r.length ≤ 12) (h3 h4 h5 h6 : AVal) : ∀ (d k : Nat) (v cnt : Nat) (g : AHeap) (f : FamT) (all : List Nat), (rowN (rowsOf A) i).length - k = d → k ≤ (rowN (rowsOf A) i).length →
    (k = 0 → v = 0) → (0 < k → v = sumV (rowN (rowsOf A) i) (k - 1)) → cnt + d ≤ 200 →
    Fam g f → (f 4).2 = natVs all → all.length = 4096 → (∀ u, u < 4096 → atN all u = pAll (rowsOf A) i k u) →
    ∃ g' all', S_chainmanlaw15_LoserMerges_1 l0 h3 h4 h5 h6 (f 4).1 (cnt : Nat) (i : Nat) (v : Nat) (k : Nat) g = S_chainmanlaw15_LoserMerges_3 l0 h3 h4 h5 h6 (f 4).1 ((cnt + d : Nat) : Int) (i : Nat) g' ∧
      Fam g' (upd f 4 ((f 4).1, natVs all')) ∧ all'.length = 4096 ∧ (∀ u, u < 4096 → atN all' u = pAll (rowsOf A) i (rowN (rowsOf A) i).length u) ∧ g.length = g'.length ∧ ∀ c, ¬ At (f 4).1 c → g'[c]? = g[c]? := by
  intro d
  induction d with
  | zero =>
    intro k v cnt g f all hd hk hv0 hv1 hcnt F e4 hbig hall
    have hkl : k = (rowN (rowsOf A) i).length := by omega
    obtain ⟨p, x, p1, p2, hS, _⟩ := R.row hi g
    refine ⟨g, all, ?_, ?_, hbig, fun u hu => by rw [hall u hu, hkl], rfl, fun _ _ => rfl⟩
    · rw [S_chainmanlaw15_LoserMerges_1_eq, p1, Option.bind_some, p2, Option.bind_some, (hS g).len, Option.bind_some, decide_eq_false (by omega), cond_false]; rfl
    · have : upd f 4 ((f 4).1, natVs all) = f := by
        funext j; by_cases hj : j = 4
        · subst hj; rw [upd_same, ← e4]
        · rw [upd_ne _ _ hj]
      rw [this]; exact F
  | succ d ih =>
    intro k v cnt g f all hd hk hv0 hv1 hcnt F e4 hbig hall
    have hlt : k < (rowN (rowsOf A) i).length := by omega
    obtain ⟨p, x, p1, p2, hS, hb⟩ := R.row hi g
    obtain ⟨q, q1, q2⟩ := Rows.elem hS hlt g
    have hsum := sumV_eq (rowN (rowsOf A) i) k v hv0 hv1
    have hle := sumV_le hb k
    have hv' : IntKind.wrap .i64 ((v : Int) + IntKind.wrap .i64 (((rowN (rowsOf A) i).getD k 0 : Nat) : Int)) = ((sumV (rowN (rowsOf A) i) k : Nat) : Int) := by
      have h2 : (rowN (rowsOf A) i).getD k 0 ≤ sumV (rowN (rowsOf A) i) k := by omega
      rw [wrap_nat (by omega), ← Int.natCast_add, hsum, wrap_nat (by omega)]
    have hu : sumV (rowN (rowsOf A) i) k < (f 4).2.length := by rw [e4]; simp [natVs, hbig]; omega
    obtain ⟨s, s1, s2⟩ := F.get 4 hu
    have hcell : (f 4).2[sumV (rowN (rowsOf A) i) k] = .lit (.int .i64 (atN all (sumV (rowN (rowsOf A) i) k) : Nat)) := by
      have h' : sumV (rowN (rowsOf A) i) k < (natVs all).length := by rw [← e4]; exact hu
      rw [← natVs_get h']; congr 1
    rw [hcell] at s2
    have hsmall : atN all (sumV (rowN (rowsOf A) i) k) ≤ 1000 := by
      rw [hall _ (by omega)]
      unfold pAll
      have h1 := sumP_le (u := sumV (rowN (rowsOf A) i) k) hprev
      have h2 : ((rowsOf A).take i).length ≤ 12 := by have := R.few; simp [rowsOf]; omega
      have h3 := pcnt_le (rowN (rowsOf A) i) (sumV (rowN (rowsOf A) i) k) k
      omega
    obtain ⟨t, b, g1, t1, t2, tb, F1, len1, K1⟩ := F.set 4 (x := .lit (.int .i64 ((atN all (sumV (rowN (rowsOf A) i) k) + 1 : Nat) : Int))) hu rfl
    rw [s1] at t1; cases t1
    rw [e4, natVs_set] at F1
    have hnew : ∀ u, u < 4096 → atN (all.set (sumV (rowN (rowsOf A) i) k) (atN all (sumV (rowN (rowsOf A) i) k) + 1)) u = pAll (rowsOf A) i (k + 1) u := fun u hu' => by
      rw [atN_set (by omega)]
      unfold pAll
      rw [show pcnt (rowN (rowsOf A) i) u (k + 1) = pcnt (rowN (rowsOf A) i) u k + if sumV (rowN (rowsOf A) i) k = u then 1 else 0 from rfl]
      by_cases e : sumV (rowN (rowsOf A) i) k = u
      · rw [if_pos e, if_pos e, e, hall u hu']; unfold pAll; omega
      · rw [if_neg e, if_neg e, hall u hu']; rfl
    have hupd : ∀ (y : AVal × List AVal), upd (upd f 4 ((f 4).1, natVs (all.set (sumV (rowN (rowsOf A) i) k) (atN all (sumV (rowN (rowsOf A) i) k) + 1)))) 4 y = upd f 4 y := fun y => by
      funext j; by_cases hj : j = 4
      · subst hj; rw [upd_same, upd_same]
      · rw [upd_ne _ _ hj, upd_ne _ _ hj, upd_ne _ _ hj]
    obtain ⟨g', all', r1, r2, r3, r4, r5, r6⟩ := ih (k + 1) (sumV (rowN (rowsOf A) i) k) (cnt + 1) g1 _ _ (by omega) (by omega) (fun h => by omega) (fun _ => rfl) (by omega) F1 (by rw [upd_same]) (by simpa using hbig) hnew
    rw [upd_same, hupd] at r2
    rw [upd_same] at r1 r6
    refine ⟨g', all', ?_, r2, r3, r4, by omega, fun c hc => ?_⟩
    · rw [show cnt + (d + 1) = cnt + 1 + d by omega, ← r1, S_chainmanlaw15_LoserMerges_1_eq]
      simp only [p1, p2, (hS g).len, Option.bind_some]
      rw [decide_eq_true (by omega), cond_true]
      simp only [q1, q2, asI, kindEq, Option.bind_some, hv', s1, s2]
      rw [int_of_wrap (by omega), t2, Option.bind_some, int_of_wrap (by omega), int_of_wrap (by omega)]
    · rw [r6 c hc, K1 c fun e => hc (by rw [e]; exact tb)]
/-! ### Heads, ends, places, sums: list by list -/
def hdOf (L : List (List Nat)) : List ByteArray := L.map fun r => txtN (r.getD 0 0)
def ovOf (L : List (List Nat)) : List Bool := L.map fun r => decide (((r.length : Nat) : Int) = 0)
def fsOf (L : List (List Nat)) : List Nat := L.map fun r => r.getD 0 0
def lnOf (L : List (List Nat)) : List Nat := L.map (·.length)
theorem rowN_eq {L : List (List Nat)} {i : Nat} (hi : i < L.length) : rowN L i = L[i] := by simp [rowN, hi, List.getD_eq_getElem?_getD]
theorem outer_loop (R : Rows l0 A) (hK : ∀ (g : AHeap) (f : FamT) (all : List Nat), (∀ r ∈ rowsOf A, r.length ≤ 12) → Laid g f (hdOf (rowsOf A)) (ovOf (rowsOf A)) (List.replicate A.length 0) (fsOf (rowsOf A)) all →
      (∀ u, u < 4096 → atN all u = sumP (rowsOf A) (lnOf (rowsOf A)) u) → Tru (S_chainmanlaw15_LoserMerges_2 l0 (f 0).1 (f 1).1 (f 2).1 (f 3).1 (f 4).1 ((lnOf (rowsOf A)).sum : Nat) g)) :
    ∀ (d i : Nat) (g : AHeap) (f : FamT) (all : List Nat), A.length - i = d → i ≤ A.length → (∀ r ∈ (rowsOf A).take i, r.length ≤ 12) →
      Laid g f (hdOf ((rowsOf A).take i)) (ovOf ((rowsOf A).take i)) (List.replicate i 0) (fsOf ((rowsOf A).take i)) all → (∀ u, u < 4096 → atN all u = pAll (rowsOf A) i 0 u) →
      Tru (S_chainmanlaw15_LoserMerges_0 l0 (f 0).1 (f 1).1 (f 2).1 (f 3).1 (f 4).1 ((lnOf ((rowsOf A).take i)).sum : Nat) (i : Nat) g) := by
  intro d
  have hrl : (rowsOf A).length = A.length := by simp [rowsOf]
  have hfew := R.few
  induction d with
  | zero =>
    intro i g f all hd hi hprev La hall
    have : i = A.length := by omega
    subst this
    rw [show (rowsOf A).take A.length = rowsOf A from List.take_of_length_le (by omega)] at La hprev ⊢
    rw [S_chainmanlaw15_LoserMerges_0_eq, (R.sl g).len, Option.bind_some, decide_eq_false (by omega), cond_false]
    refine hK g f all hprev La fun u hu => ?_
    rw [hall u hu]
    unfold pAll lnOf
    rw [show (rowsOf A).take A.length = rowsOf A from List.take_of_length_le (by omega)]
    show _ + 0 = _
    omega
  | succ d ih =>
    intro i g f all hd hi hprev La hall
    have hlt : i < A.length := by omega
    have hlt' : i < (rowsOf A).length := by omega
    obtain ⟨p, x, p1, p2, hS, hb⟩ := R.row hlt g
    have hcnt : (lnOf ((rowsOf A).take i)).sum ≤ 144 := by
      have key : ∀ M : List (List Nat), (∀ r ∈ M, r.length ≤ 12) → (lnOf M).sum ≤ M.length * 12 := by
        intro M
        induction M with
        | nil => intro _; simp [lnOf]
        | cons m M ih => intro hm; have h1 := ih fun r hr => hm r (by simp [hr]); have h2 := hm m (by simp); simp only [lnOf, List.map_cons, List.sum_cons, List.length_cons] at h1 ⊢; omega
      have h1 := key _ hprev
      have : ((rowsOf A).take i).length ≤ 12 := by simp; omega
      omega
    rw [S_chainmanlaw15_LoserMerges_0_eq, (R.sl g).len, Option.bind_some, decide_eq_true (by omega), cond_true]
    simp only [p1, p2, (hS g).len, Option.bind_some]
    by_cases h12 : (((rowN (rowsOf A) i).length : Nat) : Int) > 12
    · rw [decide_eq_true h12, cond_true]; exact .here
    · rw [decide_eq_false h12, cond_false]
      obtain ⟨g1, all1, r1, F1, big1, hall1, len1, K1⟩ := inner_loop R hlt (by omega) hprev (f 0).1 (f 1).1 (f 2).1 (f 3).1 (rowN (rowsOf A) i).length 0 0 ((lnOf ((rowsOf A).take i)).sum) g f all (by omega) (by omega) (fun _ => rfl) (fun h => by omega) (by omega) La.F La.e4 La.big hall
      have r1' : S_chainmanlaw15_LoserMerges_1 l0 (f 0).1 (f 1).1 (f 2).1 (f 3).1 (f 4).1 ((lnOf ((rowsOf A).take i)).sum : Nat) (i : Nat) 0 0 g = _ := r1
      rw [r1']
      have hrow := rowN_eq hlt'
      have htk : (rowsOf A).take (i + 1) = (rowsOf A).take i ++ [rowN (rowsOf A) i] := by rw [List.take_succ_eq_append_getElem hlt', hrow]
      -- over
      obtain ⟨q1, b1, v1, g2, c1, F2, len2, at2, K2⟩ := F1.push 1 (w := 1) (z := .lit (.bool false)) (x := .lit (.bool (decide ((((rowN (rowsOf A) i).length : Nat) : Int) = 0)))) rfl (by rw [upd_ne _ _ (by omega), La.e1]; simp [boolVs, ovOf]; omega)
      rw [upd_ne _ _ (by omega)] at c1 F2
      have first : Tru (S_chainmanlaw15_LoserMerges_5 l0 (f 0).1 v1 (f 2).1 (f 3).1 (f 4).1 (((lnOf ((rowsOf A).take i)).sum + (rowN (rowsOf A) i).length : Nat) : Int) (i : Nat) (((rowN (rowsOf A) i).getD 0 0 : Nat) : Int) g2) := by
        have hf : (rowN (rowsOf A) i).getD 0 0 < 256 := by
          rw [List.getD_eq_getElem?_getD]
          cases h : (rowN (rowsOf A) i)[0]? with
          | none => simp
          | some y => simpa using hb y (List.mem_of_getElem? h)
        obtain ⟨q0, b0, v0, g3, c0, F3, len3, at3, K3⟩ := F2.push 0 (w := 16) (z := .lit (.string { data := #[] })) (x := .lit (.string (txtN ((((rowN (rowsOf A) i).getD 0 0 : Nat) : Int)).toNat))) rfl (by rw [upd_ne _ _ (by omega), upd_ne _ _ (by omega), La.e0]; simp [strVs, hdOf]; omega)
        rw [upd_ne _ _ (by omega), upd_ne _ _ (by omega)] at c0 F3
        obtain ⟨q2, b2, v2, g4, c2, F4, len4, at4, K4⟩ := F3.push 2 (w := 8) (z := .lit (.int .i64 0)) (x := .lit (.int .i64 0)) rfl (by rw [upd_ne _ _ (by omega), upd_ne _ _ (by omega), upd_ne _ _ (by omega), La.e2]; simp [natVs]; omega)
        rw [upd_ne _ _ (by omega), upd_ne _ _ (by omega), upd_ne _ _ (by omega)] at c2 F4
        obtain ⟨q3, b3, v3, g5, c3, F5, len5, at5, K5⟩ := F4.push 3 (w := 8) (z := .lit (.int .i64 0)) (x := .lit (.int .i64 (((rowN (rowsOf A) i).getD 0 0 : Nat) : Int))) rfl (by rw [upd_ne _ _ (by omega), upd_ne _ _ (by omega), upd_ne _ _ (by omega), upd_ne _ _ (by omega), La.e3]; simp [natVs, fsOf]; omega)
        rw [upd_ne _ _ (by omega), upd_ne _ _ (by omega), upd_ne _ _ (by omega), upd_ne _ _ (by omega)] at c3 F5
        rw [S_chainmanlaw15_LoserMerges_5_eq, req_true (by omega), Option.bind_some, b0, Option.bind_some, c0, Option.bind_some, b2, Option.bind_some, c2, Option.bind_some, b3, Option.bind_some, c3, Option.bind_some, S_chainmanlaw15_LoserMerges_8_eq, int_of_wrap (by omega)]
        have hcnt' : (lnOf ((rowsOf A).take i)).sum + (rowN (rowsOf A) i).length = (lnOf ((rowsOf A).take (i + 1))).sum := by rw [htk]; simp [lnOf]
        rw [hcnt']
        refine ih (i + 1) g5 _ all1 (by omega) (by omega) (fun r hr => ?_) ⟨F5, ?_, ?_, ?_, ?_, ?_, big1⟩ (fun u hu => by rw [hall1 u hu, pAll_next hlt'])
        · rw [htk] at hr
          rcases List.mem_append.1 hr with hr | hr
          · exact hprev r hr
          · rw [List.mem_singleton.1 hr]; omega
        · simp only [upd]
          simp [La.e0, htk, hdOf, strVs]
        · simp only [upd]
          simp [La.e1, htk, ovOf, boolVs]
        · simp only [upd]
          simp [La.e2, natVs, List.replicate_succ']
        · simp only [upd]
          simp [La.e3, htk, fsOf, natVs]
        · simp [upd]
      obtain ⟨p', x', p1', p2', hS', _⟩ := R.row hlt g1
      obtain ⟨p'', x'', p1'', p2'', hS'', _⟩ := R.row hlt g2
      rw [S_chainmanlaw15_LoserMerges_3_eq]
      simp only [p1', p2', (hS' g1).len, Option.bind_some]
      rw [b1, Option.bind_some, c1, Option.bind_some]
      rw [p1'] at p1''; cases p1''
      simp only [p1', p2'', (hS'' g2).len, Option.bind_some]
      by_cases h0 : (((rowN (rowsOf A) i).length : Nat) : Int) > 0
      · rw [decide_eq_true h0, cond_true]
        obtain ⟨s, s1, s2⟩ := Rows.elem hS'' (show 0 < (rowN (rowsOf A) i).length by omega) g2
        have s1' : idxP 1 x'' 0 = some s := s1
        have hf : (rowN (rowsOf A) i).getD 0 0 < 256 := by
          rw [List.getD_eq_getElem?_getD]
          cases h : (rowN (rowsOf A) i)[0]? with
          | none => simp
          | some y => simpa using hb y (List.mem_of_getElem? h)
        simp only [s1', s2, asI, kindEq, Option.bind_some]
        rw [wrap_nat (by omega)]
        exact first
      · rw [decide_eq_false h0, cond_false]
        have : rowN (rowsOf A) i = [] := List.length_eq_zero_iff.1 (by omega)
        rw [this] at first ⊢
        exact first
end Go.Proofs.Ytpjocohpogihcaa.AL
