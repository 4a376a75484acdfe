/- maps.Keys: its iterator, whatever order the keys come in. -/
import Derived.Test.YtglmofbcooefkaaX8
import Derived.Test.YtglmofbcooefkaaTx
namespace Go.Proofs.Ytglmofbcooefkaa.AL
set_option linter.unusedVariables false
set_option linter.unusedSimpArgs false
set_option maxRecDepth 100000
open Go
open Go.Proofs.Try

noncomputable def c34 : Code := bodyOf f34
theorem k34_1 : ca (ca (ca (cb c34))) = Code.region 1 #[{ dst := some 6, op := Go.Op.next (Go.Operand.tmp 5) false, type := 0, pos := "iter.go:27", after := #[], guard := none }, { dst := some 7, op := Go.Op.extract (Go.Operand.tmp 6) 0, type := 4, pos := "iter.go:27", after := #[{ on := 0, ground := Go.Ground.data }], guard := none }] false := by kernel_rfl
theorem k34_2 : ca (ca (cb (cb (ca (ca (cb c34)))))) = Code.region 2 #[{ dst := some 8, op := Go.Op.entry (Go.Operand.tmp 5), type := 0, pos := "iter.go:27", after := #[], guard := none }, { dst := some 9, op := Go.Op.extract (Go.Operand.tmp 8) 0, type := 9, pos := "iter.go:27", after := #[{ on := 0, ground := Go.Ground.data }], guard := none }, { dst := some 3, op := Go.Op.assign (Go.Operand.tmp 9), type := 9, pos := "iter.go:27", after := #[{ on := 1, ground := Go.Ground.data }, { on := 0, ground := Go.Ground.phase }, { on := 1, ground := Go.Ground.phase }], guard := none }] false := by kernel_rfl
theorem k34_0 : ca c34 = Code.region 0 #[{ dst := some 4, op := Go.Op.load 43 (Go.Operand.tmp 1), type := 43, pos := "iter.go:27", after := #[], guard := none }, { dst := some 5, op := Go.Op.range 43 (Go.Operand.tmp 4), type := 0, pos := "iter.go:27", after := #[{ on := 0, ground := Go.Ground.data }], guard := none }] false := by kernel_rfl
theorem k34_3 : ca (cb (ca (cb (cb (ca (ca (cb c34))))))) = Code.region 3 #[{ dst := some 10, op := Go.Op.move (Go.Operand.tmp 0), type := 59, pos := "iter.go:28", after := #[], guard := none }, { dst := some 11, op := Go.Op.move (Go.Operand.tmp 3), type := 9, pos := "iter.go:28", after := #[], guard := none }, { dst := some 12, op := Go.Op.call { callee := Go.Callee.value (Go.Operand.tmp 10), args := #[Go.Operand.tmp 11], argTypes := #[9] }, type := 4, pos := "iter.go:28", after := #[{ on := 0, ground := Go.Ground.data }, { on := 1, ground := Go.Ground.data }], guard := none }, { dst := some 13, op := Go.Op.unOp Go.UnOp.not 4 (Go.Operand.tmp 12), type := 4, pos := "iter.go:28", after := #[{ on := 2, ground := Go.Ground.data }], guard := none }] false := by kernel_rfl

theorem s34 : c34 = .seq (ca c34) (.block 0 (.loop (.seq (ca (ca (ca (cb c34)))) (.seq (.cond (.tmp 7) .skip (.exit 0)) (.block 1 (.seq (ca (ca (cb (cb (ca (ca (cb c34))))))) (.seq (ca (cb (ca (cb (cb (ca (ca (cb c34)))))))) (.cond (.tmp 13) .ret .skip)))))))) := by kernel_rfl

/-- Between two rounds: the map lies as it lay, these have come. -/
structure KeysI (mb it clock : Nat) (d : MKey) (es : List (Value × AVal)) (bs : List Nat) (J : List Nat → AHeap → Prop) (seen : List Nat) (h : AHeap) : Prop where
  j : J seen h
  map : h[mb]? = some (.mapS d es bs clock)
  iter : ∃ c, clock ≤ c ∧ h[it]? = some (.mit mb clock seen c)
  nodup : seen.Nodup
  sub : ∀ s ∈ seen, s ∈ bs

def keysMu (it n : Nat) (h : AHeap) : Nat := match h[it]? with
  | some (.mit _ _ seen _) => n - seen.length
  | _ => 0

theorem nodup_le : ∀ {l m : List Nat}, l.Nodup → (∀ x ∈ l, x ∈ m) → l.length ≤ m.length
  | [], _, _, _ => Nat.zero_le _
  | x :: l, m, hn, hs => by
    have h1 := List.nodup_cons.1 hn
    have hx : x ∈ m := hs x (List.mem_cons_self ..)
    have h2 : l.length ≤ (m.erase x).length := nodup_le h1.2 fun y hy => (List.mem_erase_of_ne (fun e : y = x => h1.1 (by rw [← e]; exact hy))).2 (hs y (List.mem_cons_of_mem _ hy))
    rw [List.length_erase_of_mem hx] at h2
    have := List.length_pos_of_mem hx
    simp only [List.length_cons]; omega

theorem keys_iter {yb bx mb clock : Nat} {d : MKey} {es : List (Value × AVal)} {bs : List Nat} {h : AHeap} {R : AEnd → AHeap → Prop} (J : List Nat → AHeap → Prop)
    (hbx : h[bx]? = some (.cells [.map mb])) (hm : h[mb]? = some (.mapS d es bs clock)) (hl : bs.length = es.length) (hbn : bs.Nodup) (hbc : ∀ s ∈ bs, s < clock)
    (h0 : KeysI mb h.length clock d es bs J [] (h ++ [.mit mb clock [] clock]))
    (hstep : ∀ (seen : List Nat) (h1 : AHeap) (i s : Nat) (hi : i < es.length), KeysI mb h.length clock d es bs J seen h1 → bs[i]? = some s → s ∉ seen →
      AYield Try.prog yb [.lit es[i].1] (h1.set h.length (.mit mb clock (seen ++ [s]) clock)) fun e h2 => e = .ret (.lit (.bool true)) ∧ KeysI mb h.length clock d es bs J (seen ++ [s]) h2)
    (hend : ∀ (seen : List Nat) (h1 : AHeap), KeysI mb h.length clock d es bs J seen h1 → (∀ s ∈ bs, s ∈ seen) → R (.ret (.tup [])) h1) :
    ACalls Try.prog 34 [.yld yb, .ptr bx 0] h R := by
  refine acalls_pieces (c := c34) (fn := f34) (by rfl) (by kernel_rfl) (by kernel_rfl) fun hok => ?_
  have main : AWp Try.prog c34 (fun e a g => e = .normal ∧ R (.ret (.tup [])) g) ((fargs [.yld yb, .ptr bx 0] 0).lst f34.ntmps) h := by
    rw [s34]
    refine awp_seq ?_
    rw [k34_0]
    refine awp_region ?_
    have hlen : ((fargs [.yld yb, .ptr bx 0] 0).lst f34.ntmps).length = 14 := by kernel_rfl
    have g1 : aget ((fargs [.yld yb, .ptr bx 0] 0).lst f34.ntmps) 1 = .ptr bx 0 := by kernel_rfl
    have g0 : aget ((fargs [.yld yb, .ptr bx 0] 0).lst f34.ntmps) 0 = .yld yb := by kernel_rfl
    generalize (fargs [.yld yb, .ptr bx 0] 0).lst f34.ntmps = a0 at hlen g0 g1
    simp only [AOps, AGuard, AOper, AOp, aEval, g1]
    refine xLoad_ok (T := tabOf [(43, r43)]) (x := .map mb) (tabOf_ok ⟨r43_ok, trivial⟩) ?_ ?_
    · have : xLoad (tabOf [(43, r43)]) 43 h (.ptr bx 0) = ld1 h (.ptr bx 0) := by kernel_rfl
      rw [this]; simp [ld1, cellsAt, hbx]
    rw [aget_aset (by omega), if_pos rfl]
    unfold aRange aRangeM
    simp only [hm]
    refine ⟨by kernel_rfl, ?_⟩
    show AWp Try.prog (.block 0 _) _ _ _
    refine awp_block (awp_loop (fun a g => (a.length = 14 ∧ aget a 0 = .yld yb ∧ aget a 5 = .ptr h.length 0) ∧ ∃ seen, KeysI mb h.length clock d es bs J seen g) (fun _ g => keysMu h.length es.length g) ⟨⟨by simp [aset_length, hlen], ?_, ?_⟩, [], h0⟩ ?_)
    · rw [aget_aset (by simp [aset_length, hlen]), if_neg (by simp), aget_aset (by omega), if_neg (by simp)]; exact g0
    · rw [aget_aset (by simp [aset_length, hlen]), if_pos rfl]
    clear g0 g1 hlen a0
    rintro a g ⟨⟨hlen, g0, g5⟩, seen, hI⟩
    obtain ⟨c, hc, hit⟩ := hI.iter
    refine awp_seq ?_
    rw [k34_1]
    refine awp_region ?_
    simp only [AOps, AGuard, AOper, AOp, aEval, g5]
    unfold aNextM
    simp only [hit, hI.map]
    refine ⟨hbc, hc, fun hall => ?_, fun i hi s hs hns => ?_⟩
    · rw [aget_aset (by omega), if_pos rfl]
      show AWp Try.prog (.seq (.cond (.tmp 7) .skip (.exit 0)) _) _ _ _
      refine awp_seq (awp_cond (b := false) ?_ (fun e => by cases e) fun _ => awp_exit ?_)
      · simp only [aEval]
        rw [aget_aset (by simp [aset_length, hlen]), if_pos rfl]
      · exact ⟨rfl, hend seen g hI hall⟩
    · rw [aget_aset (by omega), if_pos rfl]
      show AWp Try.prog (.seq (.cond (.tmp 7) .skip (.exit 0)) _) _ _ _
      refine awp_seq (awp_cond (b := true) ?_ (fun _ => awp_skip ?_) fun e => by cases e)
      · simp only [aEval]
        rw [aget_aset (by simp [aset_length, hlen]), if_pos rfl]
      show AWp Try.prog (.block 1 _) _ _ _
      refine awp_block (awp_seq ?_)
      rw [k34_2]
      refine awp_region ?_
      have hlt : h.length < g.length := lt_of_getL hit
      have hne : h.length ≠ mb := fun e => by have h1 := hI.map; rw [← e, hit] at h1; cases h1
      have e5 : aget (aset (aset a (some 6) (.tup [.lit (.bool true), .lit es[i].1, es[i].2])) (some 7) (.lit (.bool true))) 5 = .ptr h.length 0 := by
        rw [aget_aset (by simp [aset_length, hlen]), if_neg (by simp), aget_aset (by omega), if_neg (by simp)]; exact g5
      have e0 : aget (aset (aset a (some 6) (.tup [.lit (.bool true), .lit es[i].1, es[i].2])) (some 7) (.lit (.bool true))) 0 = .yld yb := by
        rw [aget_aset (by simp [aset_length, hlen]), if_neg (by simp), aget_aset (by omega), if_neg (by simp)]; exact g0
      have glen : (aset (aset a (some 6) (.tup [.lit (.bool true), .lit es[i].1, es[i].2])) (some 7) (.lit (.bool true))).length = 14 := by simp [aset_length, hlen]
      generalize aset (aset a (some 6) (.tup [.lit (.bool true), .lit es[i].1, es[i].2])) (some 7) (.lit (.bool true)) = a1 at e5 e0 glen
      have hit2 : (g.set h.length (.mit mb clock (seen ++ [s]) clock))[h.length]? = some (.mit mb clock (seen ++ [s]) clock) := List.getElem?_set_self hlt
      have hm2 : (g.set h.length (.mit mb clock (seen ++ [s]) clock))[mb]? = some (.mapS d es bs clock) := by rw [List.getElem?_set_ne hne]; exact hI.map
      simp only [AOps, AGuard, AOper, AOp, aEval, e5]
      unfold aEntry
      simp only [hit2, hm2]
      refine ⟨seen, s, i, hi, rfl, hs, trivial, ?_⟩
      rw [aget_aset (by omega), if_pos rfl]
      simp only [aExtract, List.getElem?_cons_zero]
      rw [aget_aset (a := aset a1 (some 8) _) (by simp [aset_length, glen]), if_pos rfl]
      show AWp Try.prog (.seq (ca (cb (ca (cb (cb (ca (ca (cb c34)))))))) (.cond (.tmp 13) .ret .skip)) _ _ _
      refine awp_seq ?_
      rw [k34_3]
      refine awp_region ?_
      have f0 : aget (aset (aset (aset a1 (some 8) (.tup [.lit es[i].1, es[i].2])) (some 9) (.lit es[i].1)) (some 3) (.lit es[i].1)) 0 = .yld yb := by
        rw [aget_aset (by simp [aset_length, glen]), if_neg (by simp), aget_aset (by simp [aset_length, glen]), if_neg (by simp), aget_aset (by omega), if_neg (by simp)]; exact e0
      have f5 : aget (aset (aset (aset a1 (some 8) (.tup [.lit es[i].1, es[i].2])) (some 9) (.lit es[i].1)) (some 3) (.lit es[i].1)) 5 = .ptr h.length 0 := by
        rw [aget_aset (by simp [aset_length, glen]), if_neg (by simp), aget_aset (by simp [aset_length, glen]), if_neg (by simp), aget_aset (by omega), if_neg (by simp)]; exact e5
      have f3 : aget (aset (aset (aset a1 (some 8) (.tup [.lit es[i].1, es[i].2])) (some 9) (.lit es[i].1)) (some 3) (.lit es[i].1)) 3 = .lit es[i].1 := by
        rw [aget_aset (by simp [aset_length, glen]), if_pos rfl]
      have flen : (aset (aset (aset a1 (some 8) (.tup [.lit es[i].1, es[i].2])) (some 9) (.lit es[i].1)) (some 3) (.lit es[i].1)).length = 14 := by simp [aset_length, glen]
      generalize aset (aset (aset a1 (some 8) (.tup [.lit es[i].1, es[i].2])) (some 9) (.lit es[i].1)) (some 3) (.lit es[i].1) = a2 at f0 f5 f3 flen
      simp only [AOps, AGuard, AOper, AOp, aEval, f0]
      have e10 : aget (aset a2 (some 10) (.yld yb)) 10 = .yld yb := by rw [aget_aset (by omega), if_pos rfl]
      have e3 : aget (aset a2 (some 10) (.yld yb)) 3 = .lit es[i].1 := by rw [aget_aset (by omega), if_neg (by simp)]; exact f3
      have e10' : aget (aset (aset a2 (some 10) (.yld yb)) (some 11) (.lit es[i].1)) 10 = .yld yb := by rw [aget_aset (by simp [aset_length, flen]), if_neg (by simp)]; exact e10
      have e11 : aget (aset (aset a2 (some 10) (.yld yb)) (some 11) (.lit es[i].1)) 11 = .lit es[i].1 := by rw [aget_aset (by simp [aset_length, flen]), if_pos rfl]
      rw [e3]
      simp only [e10, e10', ACall, AL.evs, List.map_cons, List.map_nil, aEval, e11]
      refine (hstep seen g i s hi hI hs hns).mono ?_
      rintro e g3 ⟨rfl, hI3⟩
      simp only
      rw [aget_aset (by simp [aset_length, flen]), if_pos rfl]
      simp only [aUn]
      show AWp Try.prog (.cond (.tmp 13) .ret .skip) _ _ _
      refine awp_cond (b := false) ?_ (fun e => by cases e) fun _ => awp_skip ?_
      · simp only [aEval]
        rw [aget_aset (by simp [aset_length, flen]), if_pos rfl]; rfl
      · refine ⟨⟨⟨by simp [aset_length, flen], ?_, ?_⟩, _, hI3⟩, ?_⟩
        · rw [aget_aset (by simp [aset_length, flen]), if_neg (by simp), aget_aset (by simp [aset_length, flen]), if_neg (by simp), aget_aset (by simp [aset_length, flen]), if_neg (by simp), aget_aset (by omega), if_neg (by simp)]; exact f0
        · rw [aget_aset (by simp [aset_length, flen]), if_neg (by simp), aget_aset (by simp [aset_length, flen]), if_neg (by simp), aget_aset (by simp [aset_length, flen]), if_neg (by simp), aget_aset (by omega), if_neg (by simp)]; exact f5
        · obtain ⟨c3, _, hit3⟩ := hI3.iter
          unfold keysMu
          simp only [hit, hit3, List.length_append, List.length_cons, List.length_nil]
          have := nodup_le hI3.nodup hI3.sub
          rw [hl, List.length_append] at this
          simp only [List.length_cons, List.length_nil] at this
          omega
  refine awp_mono (awp_len main) ?_
  rintro e a g ⟨⟨rfl, hr⟩, hlen⟩
  exact ends_now hlen hr
end Go.Proofs.Ytglmofbcooefkaa.AL
