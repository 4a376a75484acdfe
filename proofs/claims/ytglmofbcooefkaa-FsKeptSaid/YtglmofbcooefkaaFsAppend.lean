/- slices.AppendSeq, Collect, Sorted of a map's keys. -/
import Derived.Test.YtglmofbcooefkaaFsKeys
import Derived.Test.YtglmofbcooefkaaSrtStr
namespace Go.Proofs.Ytglmofbcooefkaa.AL
set_option linter.unusedVariables false
set_option linter.unusedSimpArgs false
set_option maxRecDepth 100000
open Go
open Go.Proofs.Try

-- a piece of slices.AppendSeq[[]string,string]
noncomputable def c35 : Code := bodyOf f35
noncomputable def Ep35_0 : XE := { T := tabOf [(9, r9), (22, r22)], C := [], D := [], Ms := [], Ml := [], Mo := [], n := 13 }
theorem Ep35_0_ok : XE.Ok Ep35_0 Try.prog := ⟨tabOf_ok (⟨r9_ok, ⟨r22_ok, trivial⟩⟩), trivial⟩
noncomputable def p35_0 (s0 : AVal) (seq1 : AVal) (h : AHeap) : Option XPc := xexec Ep35_0 (ca c35) XPc [(0, s0), (1, seq1)] h (pcK [1, 2])
theorem p35_0_eq (s0 : AVal) (seq1 : AVal) (h : AHeap) : p35_0 s0 seq1 h =
 (AVal.parts s0).bind fun vs1 =>
 some (.normal, [seq1, (.ptr h.length 0)], (psh h (.cells vs1))) := by kernel_rfl
theorem p35_0_awp {s0 : AVal} {seq1 : AVal} {h h' : AHeap} {e : Exit} {vs : List AVal} {Q : AQ} (hx : p35_0 s0 seq1 h = some (e, vs, h')) (hQ : ∀ a, Outs 13 [1, 2] vs a → Q e a h') : AWp Try.prog (ca c35) Q (Fr.lst 13 [(0, s0), (1, seq1)]) h := awp_piece Ep35_0_ok tmix (by kernel_rfl) (by kernel_rfl) hx hQ
-- a piece of slices.AppendSeq[[]string,string]
noncomputable def Ep35_1 : XE := { T := tabOf [(66, r66)], C := [], D := [], Ms := [], Ml := [], Mo := [], n := 13 }
theorem Ep35_1_ok : XE.Ok Ep35_1 Try.prog := ⟨tabOf_ok (⟨r66_ok, trivial⟩), trivial⟩
noncomputable def p35_1 (seq1 : AVal) (s2 : AVal) (h : AHeap) : Option XPc := xexec Ep35_1 (ca (ca (cb c35))) XPc [(1, seq1), (2, s2)] h (pcK [2, 6])
theorem p35_1_eq (seq1 : AVal) (s2 : AVal) (h : AHeap) : p35_1 seq1 s2 h =
 some (.normal, [s2, seq1], h) := by kernel_rfl
theorem p35_1_awp {seq1 : AVal} {s2 : AVal} {h h' : AHeap} {e : Exit} {vs : List AVal} {Q : AQ} (hx : p35_1 seq1 s2 h = some (e, vs, h')) (hQ : ∀ a, Outs 13 [2, 6] vs a → Q e a h') : AWp Try.prog (ca (ca (cb c35))) Q (Fr.lst 13 [(1, seq1), (2, s2)]) h := awp_piece Ep35_1_ok tmix (by kernel_rfl) (by kernel_rfl) hx hQ
-- a piece of slices.AppendSeq[[]string,string]
noncomputable def Ep35_a : XE := { T := tabOf [(9, r9)], C := [], D := [], Ms := [], Ml := [], Mo := [], n := 13 }
theorem Ep35_a_ok : XE.Ok Ep35_a Try.prog := ⟨tabOf_ok (⟨r9_ok, trivial⟩), trivial⟩
noncomputable def p35_a (s2 : AVal) (t7 : ByteArray) (h : AHeap) : Option XPc := xexec Ep35_a (ca (ca (cb (ca (cb c35))))) XPc [(2, s2), (7, (.lit (.string t7)))] h (pcK [2, 5])
theorem p35_a_eq (s2 : AVal) (t7 : ByteArray) (h : AHeap) : p35_a s2 t7 h =
 some (.normal, [s2, (.lit (.string t7))], h) := by kernel_rfl
theorem p35_a_awp {s2 : AVal} {t7 : ByteArray} {h h' : AHeap} {e : Exit} {vs : List AVal} {Q : AQ} (hx : p35_a s2 t7 h = some (e, vs, h')) (hQ : ∀ a, Outs 13 [2, 5] vs a → Q e a h') : AWp Try.prog (ca (ca (cb (ca (cb c35))))) Q (Fr.lst 13 [(2, s2), (7, (.lit (.string t7)))]) h := awp_piece Ep35_a_ok tmix (by kernel_rfl) (by kernel_rfl) hx hQ
-- a piece of slices.AppendSeq[[]string,string]
noncomputable def Ep35_b : XE := { T := tabOf [(9, r9), (22, r22)], C := [], D := [], Ms := [], Ml := [], Mo := [], n := 13 }
theorem Ep35_b_ok : XE.Ok Ep35_b Try.prog := ⟨tabOf_ok (⟨r9_ok, ⟨r22_ok, trivial⟩⟩), trivial⟩
noncomputable def p35_b (s2 : Nat) (v5 : ByteArray) (h : AHeap) : Option XPc := xexec Ep35_b (cb (ca (cb (ca (cb c35))))) XPc [(2, (.ptr s2 0)), (5, (.lit (.string v5)))] h (pcK [])
theorem p35_b_eq (s2 : Nat) (v5 : ByteArray) (h : AHeap) : p35_b s2 v5 h =
 (ld1 h (.ptr s2 0)).bind fun x1 =>
 (blitS 1 [(.lit (.string ({ data := #[] })))] 1 [(0, (.lit (.string v5)))] h).bind fun r2 =>
 (appV 1 16 r2.2 x1 r2.1).bind fun r3 =>
 (st1 r3.2 (.ptr s2 0) r3.1).bind fun h4 =>
 some (.normal, [], h4) := by kernel_rfl
theorem p35_b_awp {s2 : Nat} {v5 : ByteArray} {h h' : AHeap} {e : Exit} {vs : List AVal} {Q : AQ} (hx : p35_b s2 v5 h = some (e, vs, h')) (hQ : ∀ a, Outs 13 [] vs a → Q e a h') : AWp Try.prog (cb (ca (cb (ca (cb c35))))) Q (Fr.lst 13 [(2, (.ptr s2 0)), (5, (.lit (.string v5)))]) h := awp_piece Ep35_b_ok tmix (by kernel_rfl) (by kernel_rfl) hx hQ
-- a piece of slices.AppendSeq[[]string,string]
noncomputable def Ep35_4 : XE := { T := tabOf [(9, r9), (22, r22)], C := [], D := [], Ms := [], Ml := [], Mo := [], n := 13 }
theorem Ep35_4_ok : XE.Ok Ep35_4 Try.prog := ⟨tabOf_ok (⟨r9_ok, ⟨r22_ok, trivial⟩⟩), trivial⟩
noncomputable def p35_4 (s2 : Nat) (h : AHeap) : Option XPc := xexec Ep35_4 (cb (cb c35)) XPc [(2, (.ptr s2 0))] h (pcK [4])
theorem p35_4_eq (s2 : Nat) (h : AHeap) : p35_4 s2 h =
 (ld1 h (.ptr s2 0)).bind fun x1 =>
 some (.ret, [x1], h) := by kernel_rfl
theorem p35_4_awp {s2 : Nat} {h h' : AHeap} {e : Exit} {vs : List AVal} {Q : AQ} (hx : p35_4 s2 h = some (e, vs, h')) (hQ : ∀ a, Outs 13 [4] vs a → Q e a h') : AWp Try.prog (cb (cb c35)) Q (Fr.lst 13 [(2, (.ptr s2 0))]) h := awp_piece Ep35_4_ok tmix (by kernel_rfl) (by kernel_rfl) hx hQ
theorem s35 : c35 = .seq (ca c35) (.seq (.seq (ca (ca (cb c35))) (.block 0 (.rangeFunc (.tmp 6) #[7] (ca (ca (cb (ca (cb c35))))) (cb (ca (cb (ca (cb c35)))))))) (cb (cb c35))) := by kernel_rfl

/-- What has been collected. -/
def SlK (lo : Nat) (g : AHeap) (v : AVal) (ks : List ByteArray) : Prop := (ks = [] ∧ v = .lit (.slice none 0 0)) ∨ (ks ≠ [] ∧ ∃ b, lo ≤ b ∧ v = .sl 1 b 0 ks.length ∧ g[b]? = some (.cells (ks.map strV)))

theorem blitS_key (k : ByteArray) (g : AHeap) : blitS 1 [(.lit (.string ({ data := #[] })))] 1 [(0, (.lit (.string k)))] g = some (.sl 1 g.length 0 1, g ++ [AObj.cells [strV k]]) := by
  simp [blitS, aFill, req, strV, AVal.parts, splice]
theorem src_one (k : ByteArray) (g : AHeap) : srcCells (g ++ [AObj.cells [strV k]]) 1 (.sl 1 g.length 0 1) 1 = some [strV k] := by simp [srcCells]

theorem body35 {sb lo : Nat} {g : AHeap} {v : AVal} {ks : List ByteArray} (k : ByteArray) (hsb : g[sb]? = some (.cells [v])) (hlo : lo ≤ g.length) (hlt : sb < lo) (hk : SlK lo g v ks) (hsz : (ks.length + 1) * 16 ≤ 140737488355328) :
    ∃ g' v', p35_b sb k g = some (.normal, [], g') ∧ g'[sb]? = some (.cells [v']) ∧ SlK lo g' v' (ks ++ [k]) ∧ (∀ c, c < lo → c ≠ sb → g'[c]? = g[c]?) ∧ g.length ≤ g'.length := by
  have hsg := lt_of_getL hsb
  have hld : ld1 g (.ptr sb 0) = some v := by simp [ld1, cellsAt, hsb]
  have fin : ∀ (G2 : AHeap) (u : AVal) (n : Nat), u = .sl 1 (g.length + 1) 0 n → n = ks.length + 1 → appV 1 16 (g ++ [AObj.cells [strV k]]) v (.sl 1 g.length 0 1) = some (u, G2) → G2[sb]? = some (.cells [v]) → G2[g.length + 1]? = some (.cells ((ks ++ [k]).map strV)) → (∀ c, c < lo → G2[c]? = g[c]?) → g.length ≤ G2.length →
      ∃ g' v', p35_b sb k g = some (.normal, [], g') ∧ g'[sb]? = some (.cells [v']) ∧ SlK lo g' v' (ks ++ [k]) ∧ (∀ c, c < lo → c ≠ sb → g'[c]? = g[c]?) ∧ g.length ≤ g'.length := by
    rintro G2 u n rfl rfl hap h1 h2 h3 h4
    have hst : st1 G2 (.ptr sb 0) (.sl 1 (g.length + 1) 0 (ks.length + 1)) = some (G2.set sb (.cells [.sl 1 (g.length + 1) 0 (ks.length + 1)])) := by
      rw [st1_of (cs := [v]) (by simp [cellsAt, h1]) rfl (by simp)]; rfl
    refine ⟨_, .sl 1 (g.length + 1) 0 (ks.length + 1), ?_, List.getElem?_set_self (lt_of_getL h1), .inr ⟨by simp, g.length + 1, by omega, by simp, ?_⟩, fun c hc hcs => ?_, by simpa using h4⟩
    · rw [p35_b_eq, hld, Option.bind_some, blitS_key, Option.bind_some, hap, Option.bind_some, hst]; rfl
    · rw [List.getElem?_set_ne (by omega)]; exact h2
    · rw [List.getElem?_set_ne (Ne.symm hcs)]; exact h3 c hc
  rcases hk with ⟨rfl, rfl⟩ | ⟨hne, b, hb, rfl, hcb⟩
  · refine fin (g ++ [AObj.cells [strV k]] ++ [AObj.cells [strV k]]) _ 1 rfl rfl ?_ ?_ ?_ (fun c hc => ?_) (by simp)
    · simp [appV, srcLen, src_one, req]
    · rw [List.append_assoc, List.getElem?_append_left (by omega)]; exact hsb
    · simp
    · rw [List.append_assoc, List.getElem?_append_left (by omega)]
  · have hbg := lt_of_getL hcb
    refine fin ((g ++ [AObj.cells [strV k]]).set b .dead ++ [AObj.cells (ks.map strV ++ [strV k])]) _ (ks.length + 1) rfl rfl ?_ ?_ ?_ (fun c hc => ?_) (by simp; omega)
    · have h1 : cellsAt (g ++ [AObj.cells [strV k]]) b = some (ks.map strV) := cellsAt_more _ (by simp [cellsAt, hcb])
      have h3 : (List.take (ks.length * 1) (List.drop 0 (ks.map strV))) = ks.map strV := by rw [List.drop_zero, List.take_of_length_le (by simp)]
      simp only [appV, srcLen, Option.bind_some, src_one, h1]
      rw [req_true (by refine ⟨?_, ?_, hsz, ?_⟩ <;> simp [strV, AVal.one, Value.oneCell']), Option.bind_some, h3]
      simp
    · rw [List.getElem?_append_left (by simp; omega), List.getElem?_set_ne (by omega), List.getElem?_append_left (by omega)]; exact hsb
    · simp
    · rw [List.getElem?_append_left (by simp; omega), List.getElem?_set_ne (by omega), List.getElem?_append_left (by omega)]

def nilS : AVal := .lit (.slice none 0 0)
def keyAt (bs : List Nat) (L : List (ByteArray × AVal)) (s : Nat) : ByteArray := (L.map (·.1)).getD (bs.idxOf s) ByteArray.empty
def strE (L : List (ByteArray × AVal)) : List (Value × AVal) := L.map fun p => (.string p.1, p.2)
theorem keyAt_get {bs : List Nat} {L : List (ByteArray × AVal)} (hn : bs.Nodup) {i s : Nat} (hs : bs[i]? = some s) (hi : i < L.length) : keyAt bs L s = L[i].1 := by
  unfold keyAt
  obtain ⟨hb, rfl⟩ := List.getElem?_eq_some_iff.1 hs
  rw [hn.idxOf_getElem]
  simp [List.getD_eq_getElem?_getD, hi]
theorem keyAt_all {bs : List Nat} {L : List (ByteArray × AVal)} (hn : bs.Nodup) (hl : bs.length = L.length) : bs.map (keyAt bs L) = L.map (·.1) := by
  apply List.ext_getElem (by simp [hl])
  intro i h1 h2
  have hi : i < L.length := by simpa using h2
  simp only [List.getElem_map]
  exact keyAt_get hn (List.getElem?_eq_getElem (by omega)) hi
noncomputable abbrev cA : Code := ca (ca (cb (ca (cb c35))))
noncomputable abbrev cB : Code := cb (ca (cb (ca (cb c35))))
theorem a35_weak (sb : Nat) (f : AVal) (k : ByteArray) : Weak (aputs (Fr.lst 13 [(2, .ptr sb 0), (6, f)]) (#[7] : Array Nat).toList [.lit (.string k)]) (Fr.lst 13 [(2, .ptr sb 0), (7, .lit (.string k))]) :=
  Outs.weak (outs := [2, 7]) (vs := [.ptr sb 0, .lit (.string k)]) ⟨by kernel_rfl, by kernel_rfl⟩ (by kernel_rfl)

theorem append_keys {bx mb clock : Nat} {L : List (ByteArray × AVal)} {bs : List Nat} {h : AHeap} (hbx : h[bx]? = some (.cells [.map mb])) (hm : h[mb]? = some (.mapS .str (strE L) bs clock)) (hl : bs.length = L.length) (hbn : bs.Nodup)
    (hbc : ∀ s ∈ bs, s < clock) (hsz : L.length * 16 ≤ 140737488355328) :
    ACalls Try.prog 35 [nilS, .fn (.func 34) [] [.ptr bx 0]] h fun e g =>
      ∃ v ks, e = .ret v ∧ ks.Perm (L.map (·.1)) ∧ SlK h.length g v ks ∧ (∀ c, c < h.length → g[c]? = h[c]?) ∧ h.length ≤ g.length := by
  refine acalls_pieces (c := c35) (fn := f35) (by rfl) (by kernel_rfl) (by kernel_rfl) fun hok => ?_
  generalize hfv : AVal.fn (.func 34) [] [.ptr bx 0] = fv
  have main : AWp Try.prog c35 (fun e a g => e = .ret ∧ ∃ ks, ks.Perm (L.map (·.1)) ∧ SlK h.length g (aget a 4) ks ∧ (∀ c, c < h.length → g[c]? = h[c]?)) ((fargs [nilS, fv] 0).lst f35.ntmps) h := by
    rw [show (fargs [nilS, fv] 0).lst f35.ntmps = Fr.lst 13 [(0, nilS), (1, fv)] from by kernel_rfl, s35]
    refine awp_seq (p35_0_awp (p35_0_eq _ _ _) fun a ho => ?_)
    refine awp_weak (ho.weak (by kernel_rfl)) ?_
    refine awp_seq (awp_seq (p35_1_awp (p35_1_eq _ _ _) fun a ho => ?_))
    refine awp_weak (ho.weak (by kernel_rfl)) (awp_block (awp_rangeFunc ?_))
    have hlt1 : bx < h.length := lt_of_getL hbx
    have hlt2 : mb < h.length := lt_of_getL hm
    have hev : aEval (Fr.lst 13 ([2, 6].zip [.ptr h.length 0, fv])) (.tmp 6) = fv := by kernel_rfl
    unfold ARange
    rw [hev, ← hfv]
    refine ⟨by kernel_rfl, ?_⟩
    rw [hfv]
    change ACalls Try.prog _ ([] ++ [.yld (psh h (.cells [nilS])).length] ++ [.ptr bx 0]) (psh h (.cells [nilS]) ++ [.loop .ready none (Fr.lst 13 [(2, .ptr h.length 0), (6, fv)]) #[7] cA cB]) _
    rw [psh_length]
    have hlen : (psh h (.cells [nilS]) ++ [AObj.loop .ready none (Fr.lst 13 [(2, .ptr h.length 0), (6, fv)]) #[7] cA cB]).length = h.length + 2 := by simp [psh]
    have old : ∀ c, c < h.length → (psh h (.cells [nilS]) ++ [AObj.loop .ready none (Fr.lst 13 [(2, .ptr h.length 0), (6, fv)]) #[7] cA cB])[c]? = h[c]? := fun c hc => by
      rw [List.getElem?_append_left (by simp [psh]; omega)]; simp [psh, List.getElem?_append_left hc]
    have atS : (psh h (.cells [nilS]) ++ [AObj.loop .ready none (Fr.lst 13 [(2, .ptr h.length 0), (6, fv)]) #[7] cA cB])[h.length]? = some (.cells [nilS]) := by simp [psh]
    have atL : (psh h (.cells [nilS]) ++ [AObj.loop .ready none (Fr.lst 13 [(2, .ptr h.length 0), (6, fv)]) #[7] cA cB])[h.length + 1]? = some (AObj.loop .ready none (Fr.lst 13 [(2, .ptr h.length 0), (6, fv)]) #[7] cA cB) := by simp [psh]
    generalize psh h (.cells [nilS]) ++ [AObj.loop .ready none (Fr.lst 13 [(2, .ptr h.length 0), (6, fv)]) #[7] cA cB] = H2 at hlen old atS atL
    refine keys_iter (mb := mb) (clock := clock) (d := .str) (es := strE L) (bs := bs) (fun seen g => g[h.length + 1]? = some (AObj.loop .ready none (Fr.lst 13 [(2, .ptr h.length 0), (6, fv)]) #[7] cA cB) ∧ (∃ v, g[h.length]? = some (.cells [v]) ∧ SlK (h.length + 3) g v (seen.map (keyAt bs L))) ∧ (∀ c, c < h.length → g[c]? = h[c]?) ∧ h.length + 3 ≤ g.length)
      ((old bx hlt1).trans hbx) ((old mb hlt2).trans hm) (by simp [strE, hl]) hbn hbc ?_ ?_ ?_
    · refine ⟨⟨?_, ⟨nilS, ?_, .inl ⟨rfl, rfl⟩⟩, fun c hc => ?_, by simp [hlen]⟩, ?_, ⟨clock, Nat.le_refl _, by simp⟩, List.nodup_nil, fun s hs => by cases hs⟩
      · rw [List.getElem?_append_left (by omega)]; exact atL
      · rw [List.getElem?_append_left (by omega)]; exact atS
      · rw [List.getElem?_append_left (by omega)]; exact old c hc
      · rw [List.getElem?_append_left (by omega)]; exact (old mb hlt2).trans hm
    · intro seen h1 i s hi hI hs hns
      obtain ⟨⟨hL, ⟨v, hS, hK⟩, hO, hG⟩, hM, ⟨c0, hc0, hit⟩, hnd, hsub⟩ := hI
      have hiL : i < L.length := by simpa [strE] using hi
      have hkey : ((strE L)[i]).1 = .string L[i].1 := by simp [strE]
      rw [hkey, hlen]
      have hb2 : (h1.set (h.length + 2) (.mit mb clock (seen ++ [s]) clock))[h.length + 1]? = some (AObj.loop .ready none (Fr.lst 13 [(2, .ptr h.length 0), (6, fv)]) #[7] cA cB) := by rw [List.getElem?_set_ne (by omega)]; exact hL
      refine ayield_round (p := none) (a := Fr.lst 13 [(2, .ptr h.length 0), (6, fv)]) (ps := #[7]) (x := cA) (y := cB) hb2 rfl ?_
      refine awp_weak (a35_weak h.length fv _) (p35_a_awp (p35_a_eq _ _ _) fun a1 ho => ⟨none, hb2, ?_⟩)
      refine awp_weak (ho.weak (by kernel_rfl)) ?_
      have hlk : (seen.map (keyAt bs L)).length + 1 ≤ L.length := by
        have h2 : (seen ++ [s]).length ≤ bs.length := nodup_le (List.nodup_append.2 ⟨hnd, by simp, fun a ha b hb e => by
          obtain rfl : b = s := by simpa using hb
          subst e; exact hns ha⟩) (fun x hx => by
            rcases List.mem_append.1 hx with hx | hx
            · exact hsub x hx
            · obtain rfl : x = s := by simpa using hx
              exact List.mem_of_getElem? hs)
        simp only [List.length_append, List.length_cons, List.length_nil] at h2
        rw [List.length_map]; omega
      have hSK : SlK (h.length + 3) ((h1.set (h.length + 2) (.mit mb clock (seen ++ [s]) clock)).set (h.length + 1) (.loop .busy none (Fr.lst 13 [(2, .ptr h.length 0), (6, fv)]) #[7] cA cB)) v (seen.map (keyAt bs L)) := by
        rcases hK with hK | ⟨k1, b, k2, k3, k4⟩
        · exact .inl hK
        · exact .inr ⟨k1, b, k2, k3, by rw [List.getElem?_set_ne (by omega), List.getElem?_set_ne (by omega)]; exact k4⟩
      obtain ⟨g', v', hrun, hS', hK', hO', hG'⟩ := body35 (sb := h.length) (lo := h.length + 3) (g := (h1.set (h.length + 2) (.mit mb clock (seen ++ [s]) clock)).set (h.length + 1) (.loop .busy none (Fr.lst 13 [(2, .ptr h.length 0), (6, fv)]) #[7] cA cB)) L[i].1
        (by rw [List.getElem?_set_ne (by omega), List.getElem?_set_ne (by omega)]; exact hS) (by simp; omega) (by omega) hSK (by omega)
      refine p35_b_awp hrun fun a2 _ => ?_
      have hloop : g'[h.length + 1]? = some (.loop .busy none (Fr.lst 13 [(2, .ptr h.length 0), (6, fv)]) #[7] cA cB) := by
        rw [hO' _ (by omega) (by omega)]; exact List.getElem?_set_self (by simp; omega)
      refine ⟨_, _, _, _, _, _, hloop, rfl, ⟨List.getElem?_set_self (lt_of_getL hloop), ⟨v', ?_, ?_⟩, fun c hc => ?_, ?_⟩, ?_, ⟨clock, Nat.le_refl _, ?_⟩, ?_, ?_⟩
      · rw [List.getElem?_set_ne (by omega)]; exact hS'
      · rw [List.map_append, List.map_cons, List.map_nil, keyAt_get hbn hs hiL]
        rcases hK' with hK | ⟨k1, b, k2, k3, k4⟩
        · exact .inl hK
        · exact .inr ⟨k1, b, k2, k3, by rw [List.getElem?_set_ne (by omega)]; exact k4⟩
      · rw [List.getElem?_set_ne (by omega), hO' c (by omega) (by omega), List.getElem?_set_ne (by omega), List.getElem?_set_ne (by omega)]; exact hO c hc
      · simp only [List.length_set] at hG' ⊢; omega
      · rw [List.getElem?_set_ne (by omega), hO' mb (by omega) (by omega), List.getElem?_set_ne (by omega), List.getElem?_set_ne (by omega)]; exact hM
      · rw [List.getElem?_set_ne (by omega), hO' _ (by omega) (by omega), List.getElem?_set_ne (by omega)]; exact List.getElem?_set_self (by omega)
      · exact List.nodup_append.2 ⟨hnd, by simp, fun a ha b hb e => by
          obtain rfl : b = s := by simpa using hb
          subst e; exact hns ha⟩
      · intro x hx
        rcases List.mem_append.1 hx with hx | hx
        · exact hsub x hx
        · obtain rfl : x = s := by simpa using hx
          exact List.mem_of_getElem? hs
    · rintro seen h1 ⟨⟨hL, ⟨v, hS, hK⟩, hO, hG⟩, hM, hit, hnd, hsub⟩ hall
      have hpl : (psh h (.cells [nilS])).length = h.length + 1 := psh_length _ _
      refine ⟨.ready, none, _, _, _, _, (show h1[(psh h (.cells [nilS])).length]? = _ by rw [hpl]; exact hL), by simp, ?_⟩
      show AWp Try.prog (cb (cb c35)) _ (Fr.lst 13 [(2, .ptr h.length 0), (6, fv)]) (h1.set (psh h (.cells [nilS])).length .dead)
      rw [hpl]
      show AWp Try.prog (cb (cb c35)) _ (Fr.lst 13 [(2, .ptr h.length 0), (6, fv)]) (h1.set (h.length + 1) .dead)
      refine awp_weak (Outs.weak (n := 13) (outs := [2]) (vs := [.ptr h.length 0]) ⟨by kernel_rfl, by kernel_rfl⟩ (by kernel_rfl)) ?_
      have hrun : p35_4 h.length (h1.set (h.length + 1) .dead) = some (.ret, [v], h1.set (h.length + 1) .dead) := by
        rw [p35_4_eq, ld1_of (cs := [v]) (by simp [cellsAt, List.getElem?_set_ne, hS])]; rfl
      refine p35_4_awp hrun fun a ho => ⟨rfl, seen.map (keyAt bs L), ?_, ?_, fun c hc => ?_⟩
      · rw [← keyAt_all hbn hl]
        exact ((List.perm_ext_iff_of_nodup hnd hbn).2 fun x => ⟨hsub x, hall x⟩).map _
      · have h4 : aget a 4 = v := by have := ho.2; simpa using this
        rw [h4]
        rcases hK with hK | ⟨k1, b, k2, k3, k4⟩
        · exact .inl hK
        · exact .inr ⟨k1, b, by omega, k3, by rw [List.getElem?_set_ne (by omega)]; exact k4⟩
      · rw [List.getElem?_set_ne (by omega)]; exact hO c hc
  refine awp_mono (awp_len main) ?_
  rintro e a g ⟨⟨rfl, ks, hp, hk, ho⟩, hlen⟩
  show aResults Try.prog f35 a g _
  unfold aResults
  rw [show f35.results.toList = [.tmp 4] from by kernel_rfl]
  simp only [aResults.go, List.nil_append]
  exact ends_now hlen ⟨_, ks, rfl, hp, hk, ho, hlen⟩
end Go.Proofs.Ytglmofbcooefkaa.AL
