/- The law: of sources whose heads rise all heads come, in order. -/
import Derived.Test.YtpjocohpogihcaaLawMerge3
namespace Go.Proofs.Ytpjocohpogihcaa.AL
set_option linter.unusedVariables false
set_option linter.unusedSimpArgs false
set_option maxRecDepth 100000
open Go
open Go.Proofs.Try
variable {l0 : AVal} {A : List Row}
theorem srcN_of {hd : List ByteArray} {ov : List Bool} {i : Nat} (hi : i < hd.length) : srcN (srcOf hd ov) i = (hd[i], ov.getD i false) := by
  simp [srcN, srcOf, List.getD_eq_getElem?_getD, hi]
theorem sumP_zero : ∀ (L : List (List Nat)) (n u : Nat), sumP L (List.replicate n 0) u = 0
  | [], n, u => by cases n <;> simp [sumP]
  | r :: L, 0, u => by simp [sumP]
  | r :: L, n + 1, u => by simp [List.replicate_succ, sumP, pcnt, sumP_zero L n u]
theorem merge_start (R : Rows l0 A) {g : AHeap} {f : FamT} {all : List Nat} (h12 : ∀ r ∈ rowsOf A, r.length ≤ 12) (La : Laid g f (hdOf (rowsOf A)) (ovOf (rowsOf A)) (List.replicate A.length 0) (fsOf (rowsOf A)) all)
    (hall : ∀ u, u < 4096 → atN all u = sumP (rowsOf A) (lnOf (rowsOf A)) u) : Tru (S_chainmanlaw15_LoserMerges_2 l0 (f 0).1 (f 1).1 (f 2).1 (f 3).1 (f 4).1 ((lnOf (rowsOf A)).sum : Nat) g) := by
  have hrl : (rowsOf A).length = A.length := by simp [rowsOf]
  have hfew := R.few
  have hdl : (hdOf (rowsOf A)).length = A.length := by simp [hdOf, hrl]
  have ovl : (ovOf (rowsOf A)).length = A.length := by simp [ovOf, hrl]
  have S1 : Sl 1 g (f 0).1 (hdOf (rowsOf A)).length (strVs (hdOf (rowsOf A))) := by
    have := (La.F.own 0).sl
    rw [La.e0] at this
    simpa [strVs] using this
  have S2 : Sl 1 g (f 1).1 (ovOf (rowsOf A)).length (boolVs (ovOf (rowsOf A))) := by
    have := (La.F.own 1).sl
    rw [La.e1] at this
    simpa [boolVs] using this
  obtain ⟨h', ls, n1, T, I, al, K, len⟩ := New_run S1 S2 (by omega)
  rw [S_chainmanlaw15_LoserMerges_2_eq, n1, Option.bind_some]
  have hsl := srcOf_length (hdOf (rowsOf A)) (ovOf (rowsOf A))
  have rowi : ∀ i, i < A.length → srcN (srcOf (hdOf (rowsOf A)) (ovOf (rowsOf A))) i = (txtN ((rowN (rowsOf A) i).getD 0 0), decide ((((rowN (rowsOf A) i).length : Nat) : Int) = 0)) := fun i hi => by
    rw [srcN_of (by omega), rowN_eq (by omega)]
    simp [hdOf, ovOf, List.getD_eq_getElem?_getD, hrl, hi]
  have at0 : ∀ i, atN (List.replicate A.length 0) i = 0 := fun i => by
    simp only [atN, List.getD_eq_getElem?_getD, List.getElem?_replicate]
    split <;> rfl
  have M : Mg A g.length h' f (g.length + 2) g.length (g.length + 1) (List.replicate A.length 0) (fsOf (rowsOf A)) all (srcOf (hdOf (rowsOf A)) (ovOf (rowsOf A))) ls 0 :=
    { F := La.F.keep fun i b hb => K.get b (La.F.lt hb) (by simp), e2 := La.e2, e3 := La.e3, e4 := La.e4, big := La.big, low := fun i b hb => La.F.lt hb, tlow := by omega,
      B := ⟨T, I, fun k hk => by have := al k hk; omega, by omega⟩, l1 := by omega, l2 := by simp, l3 := by simp [fsOf, hrl],
      le := fun i hi => by rw [at0]; omega
      on := fun i hi hion => by
        rw [at0] at hion ⊢
        refine ⟨by rw [rowi i hi, decide_eq_false (by omega)]; rfl, ?_, by omega⟩
        show atN (fsOf (rowsOf A)) i = (rowN (rowsOf A) i).getD 0 0
        rw [rowN_eq (by omega)]
        simp [atN, fsOf, List.getD_eq_getElem?_getD, hrl, hi]
      off := fun i hi hioff => by
        rw [at0] at hioff
        rw [rowi i hi]
        exact decide_eq_true (by omega)
      al := fun u hu => by rw [hall u hu, sumP_zero, Nat.add_zero] }
  have := merge_loop R h12 _ _ _ _ _ _ _ _ _ rfl M
  rw [show (List.replicate A.length 0).sum = 0 by simp] at this
  exact this
theorem loserMerges_run (R' : (∀ g, Sl 1 g l0 A.length (A.map (·.1))) ∧ ∀ a ∈ A, RowOk2 a) : Tru (S_chainmanlaw15_LoserMerges l0 []) := by
  obtain ⟨h1, h2⟩ := R'
  rw [S_chainmanlaw15_LoserMerges_eq, (h1 []).len, Option.bind_some]
  by_cases h12 : ((A.length : Nat) : Int) > 12
  · rw [decide_eq_true h12, cond_true]; exact .here
  · rw [decide_eq_false h12, cond_false]
    have R : Rows l0 A := ⟨h1, h2, by omega⟩
    have hm : mkS 1 8 [.lit (.int .i64 0)] 4096 4096 [] = some (.sl 1 0 0 4096, [.cells (natVs (List.replicate 4096 0))]) := by
      unfold mkS
      rw [req_true (by omega), Option.bind_some]
      have e : (List.replicate (4096 : Int).toNat [AVal.lit (.int .i64 0)]).flatten = natVs (List.replicate 4096 0) := by
        rw [flat_one]; simp [natVs]
      rw [e]; rfl
    rw [hm, Option.bind_some]
    have hl : (natVs (List.replicate 4096 0)).length = 4096 := by simp [natVs]
    have F0 : Fam [.cells (natVs (List.replicate 4096 0))] (upd fam0 4 (.sl 1 0 0 4096, natVs (List.replicate 4096 0))) := by
      constructor
      · intro i
        by_cases hi : i = 4
        · subst hi
          rw [upd_same]
          show Own 1 _ (.sl 1 0 0 4096) (natVs (List.replicate 4096 0)).length (natVs (List.replicate 4096 0))
          rw [hl]
          exact ⟨by rw [hl], .inr ⟨0, rfl, rfl⟩⟩
        · rw [upd_ne _ _ hi]; exact Own.nil _ _
      · intro i j hij b hb hb'
        by_cases hi : i = 4
        · have hj : j ≠ 4 := fun e => hij (by rw [hi, e])
          rw [upd_ne _ _ hj] at hb'
          obtain ⟨_, _, _, e⟩ := hb'; cases e
        · rw [upd_ne _ _ hi] at hb
          obtain ⟨_, _, _, e⟩ := hb; cases e
    have := outer_loop R (fun g f all h12 La hall => merge_start R h12 La hall) A.length 0 _ _ (List.replicate 4096 0) (by omega) (by omega) (fun r hr => by simp at hr)
      ⟨F0, rfl, rfl, rfl, rfl, by rw [upd_same], by simp⟩ (fun u hu => by
        simp only [atN, List.getD_eq_getElem?_getD, List.getElem?_replicate, hu, if_true, Option.getD_some]
        simp [pAll, sumP, pcnt])
    exact this
theorem loserMerges {H : Type} {d0 : DataW H} (f0 : Fits (.slice (.slice (.int .u8))) d0) : ACalls Try.prog 6 [(absD d0).headD .any] [] fun e h' => e = .ret (.lit (.bool true)) ∧ True := by
  have any : ∀ {k n : Nat} {v : AVal} {cs : List AVal}, Sl k [] v n cs → ∀ g, Sl k g v n cs := fun S g => S.keep (X := []) ⟨by simp, fun c hc => by simp at hc⟩ (fun _ _ _ _ => by simp)
  obtain ⟨A, S1, hQ, _⟩ := slice_fits (α := Row) (k := 1) (cells := fun a => [a.1]) (Q := RowOk2) (fun _ => rfl) (fun x hx => by
    obtain ⟨r, S2, hq, _⟩ := slice_fits (α := Nat) (k := 1) (cells := fun n => [.lit (.int .u8 (n : Int))]) (Q := fun n => n < 256) (fun _ => rfl) (fun y hy => by
      simp only [Fits] at hy
      obtain ⟨n, rfl, l1, l2⟩ := hy
      have e1 : IntKind.min .u8 = 0 := rfl
      have e2 : IntKind.max .u8 = 255 := rfl
      refine ⟨n.toNat, ?_, by omega⟩
      simp only [absD, litV]
      rw [Int.toNat_of_nonneg (by omega)]) hx []
    have e : (r.flatMap fun n : Nat => [AVal.lit (.int .u8 (n : Int))]) = u8Vs r := by simp [u8Vs, List.map_eq_flatMap]
    rw [e] at S2
    refine ⟨((absD x).headD .any, r), ?_, any S2, hq⟩
    simp only [Fits] at hx
    rcases hx with rfl | ⟨es, sp, rfl, _⟩ <;> simp [absD]) f0 []
  have e : (A.flatMap fun a => [a.1]) = A.map (·.1) := by simp [List.map_eq_flatMap]
  rw [e] at S1
  obtain ⟨h', hx⟩ := loserMerges_run ⟨any S1, hQ⟩
  exact S_chainmanlaw15_LoserMerges_ends hx fun hok _ => ends_same (L := h') hok rfl ⟨rfl, trivial⟩
end Go.Proofs.Ytpjocohpogihcaa.AL
