/- slices.Sorted of a map's keys. -/
import Derived.Test.YtglmofbcooefkaaFsAppend
namespace Go.Proofs.Ytglmofbcooefkaa.AL
set_option linter.unusedVariables false
set_option linter.unusedSimpArgs false
set_option maxRecDepth 100000
open Go
open Go.Proofs.Try

-- a piece of slices.Collect[string]
noncomputable def c32 : Code := bodyOf f32
noncomputable def Ep32_0 : XE := { T := tabOf [(9, r9), (22, r22)], C := [], D := [], Ms := [], Ml := [], Mo := [], n := 5 }
theorem Ep32_0_ok : XE.Ok Ep32_0 Try.prog := ⟨tabOf_ok (⟨r9_ok, ⟨r22_ok, trivial⟩⟩), trivial⟩
noncomputable def p32_0 (seq0 : AVal) (h : AHeap) : Option XPc := xexec Ep32_0 (ca c32) XPc [(0, seq0)] h (pcK [0])
theorem p32_0_eq (seq0 : AVal) (h : AHeap) : p32_0 seq0 h =
 some (.normal, [seq0], h) := by kernel_rfl
theorem p32_0_awp {seq0 : AVal} {h h' : AHeap} {e : Exit} {vs : List AVal} {Q : AQ} (hx : p32_0 seq0 h = some (e, vs, h')) (hQ : ∀ a, Outs 5 [0] vs a → Q e a h') : AWp Try.prog (ca c32) Q (Fr.lst 5 [(0, seq0)]) h := awp_piece Ep32_0_ok tmix (by kernel_rfl) (by kernel_rfl) hx hQ
theorem k32_1 : ca (cb c32) = Code.region 1 #[{ dst := some 3, op := Go.Op.move (Go.Operand.tmp 0), type := 66, pos := "iter.go:60", after := #[], guard := none }, { dst := some 4, op := Go.Op.call { callee := Go.Callee.value (Go.Operand.func 35), args := #[Go.Operand.const (Go.Value.slice none 0 0), Go.Operand.tmp 3], argTypes := #[22, 66] }, type := 22, pos := "iter.go:60", after := #[{ on := 0, ground := Go.Ground.data }], guard := none }, { dst := some 2, op := Go.Op.assign (Go.Operand.tmp 4), type := 22, pos := "iter.go:60", after := #[{ on := 1, ground := Go.Ground.data }, { on := 1, ground := Go.Ground.chain }, { on := 0, ground := Go.Ground.phase }, { on := 1, ground := Go.Ground.phase }], guard := none }] false := by kernel_rfl
theorem s32 : c32 = .seq (ca c32) (.seq (ca (cb c32)) .ret) := by kernel_rfl
-- a piece of slices.Sorted[string]
noncomputable def c29 : Code := bodyOf f29
noncomputable def Ep29_0 : XE := { T := tabOf [(9, r9), (22, r22)], C := [], D := [], Ms := [], Ml := [], Mo := [], n := 9 }
theorem Ep29_0_ok : XE.Ok Ep29_0 Try.prog := ⟨tabOf_ok (⟨r9_ok, ⟨r22_ok, trivial⟩⟩), trivial⟩
noncomputable def p29_0 (seq0 : AVal) (h : AHeap) : Option XPc := xexec Ep29_0 (ca c29) XPc [(0, seq0)] h (pcK [0])
theorem p29_0_eq (seq0 : AVal) (h : AHeap) : p29_0 seq0 h =
 some (.normal, [seq0], h) := by kernel_rfl
theorem p29_0_awp {seq0 : AVal} {h h' : AHeap} {e : Exit} {vs : List AVal} {Q : AQ} (hx : p29_0 seq0 h = some (e, vs, h')) (hQ : ∀ a, Outs 9 [0] vs a → Q e a h') : AWp Try.prog (ca c29) Q (Fr.lst 9 [(0, seq0)]) h := awp_piece Ep29_0_ok tmix (by kernel_rfl) (by kernel_rfl) hx hQ
theorem k29_1 : ca (cb c29) = Code.region 1 #[{ dst := some 4, op := Go.Op.move (Go.Operand.tmp 0), type := 66, pos := "iter.go:67", after := #[], guard := none }, { dst := some 5, op := Go.Op.call { callee := Go.Callee.value (Go.Operand.func 32), args := #[Go.Operand.tmp 4], argTypes := #[66] }, type := 22, pos := "iter.go:67", after := #[{ on := 0, ground := Go.Ground.data }], guard := none }, { dst := some 3, op := Go.Op.assign (Go.Operand.tmp 5), type := 22, pos := "iter.go:67", after := #[{ on := 1, ground := Go.Ground.data }, { on := 1, ground := Go.Ground.chain }, { on := 0, ground := Go.Ground.phase }, { on := 1, ground := Go.Ground.phase }], guard := none }] false := by kernel_rfl
theorem k29_2 : ca (cb (cb c29)) = Code.region 2 #[{ dst := some 6, op := Go.Op.move (Go.Operand.tmp 3), type := 22, pos := "iter.go:68", after := #[], guard := none }, { dst := some 7, op := Go.Op.call { callee := Go.Callee.value (Go.Operand.func 33), args := #[Go.Operand.tmp 6], argTypes := #[22] }, type := 0, pos := "iter.go:68", after := #[{ on := 0, ground := Go.Ground.data }], guard := none }] false := by kernel_rfl
-- a piece of slices.Sorted[string]
noncomputable def Ep29_3 : XE := { T := tabOf [(9, r9), (22, r22)], C := [], D := [], Ms := [], Ml := [], Mo := [], n := 9 }
theorem Ep29_3_ok : XE.Ok Ep29_3 Try.prog := ⟨tabOf_ok (⟨r9_ok, ⟨r22_ok, trivial⟩⟩), trivial⟩
noncomputable def p29_3 (s3 : AVal) (h : AHeap) : Option XPc := xexec Ep29_3 (cb (cb (cb c29))) XPc [(3, s3)] h (pcK [2])
theorem p29_3_eq (s3 : AVal) (h : AHeap) : p29_3 s3 h =
 some (.ret, [s3], h) := by kernel_rfl
theorem p29_3_awp {s3 : AVal} {h h' : AHeap} {e : Exit} {vs : List AVal} {Q : AQ} (hx : p29_3 s3 h = some (e, vs, h')) (hQ : ∀ a, Outs 9 [2] vs a → Q e a h') : AWp Try.prog (cb (cb (cb c29))) Q (Fr.lst 9 [(3, s3)]) h := awp_piece Ep29_3_ok tmix (by kernel_rfl) (by kernel_rfl) hx hQ
theorem s29 : c29 = .seq (ca c29) (.seq (ca (cb c29)) (.seq (ca (cb (cb c29))) (cb (cb (cb c29))))) := by kernel_rfl

abbrev keysF (bx : Nat) : AVal := .fn (.func 34) [] [.ptr bx 0]

theorem collect_keys {bx mb clock : Nat} {L : List (ByteArray × AVal)} {bs : List Nat} {h : AHeap} (hbx : h[bx]? = some (.cells [.map mb])) (hm : h[mb]? = some (.mapS .str (strE L) bs clock)) (hl : bs.length = L.length) (hbn : bs.Nodup)
    (hbc : ∀ s ∈ bs, s < clock) (hsz : L.length * 16 ≤ 140737488355328) :
    ACalls Try.prog 32 [keysF bx] h fun e g =>
      ∃ v ks, e = .ret v ∧ ks.Perm (L.map (·.1)) ∧ SlK h.length g v ks ∧ (∀ c, c < h.length → g[c]? = h[c]?) ∧ h.length ≤ g.length := by
  refine acalls_pieces (c := c32) (fn := f32) (by rfl) (by kernel_rfl) (by kernel_rfl) fun hok => ?_
  have hcall := append_keys hbx hm hl hbn hbc hsz
  rw [show (AVal.fn (.func 34) [] [.ptr bx 0]) = keysF bx from rfl] at hcall
  generalize keysF bx = fv at hcall
  have main : AWp Try.prog c32 (fun e a g => e = .ret ∧ ∃ ks, ks.Perm (L.map (·.1)) ∧ SlK h.length g (aget a 2) ks ∧ (∀ c, c < h.length → g[c]? = h[c]?)) ((fargs [fv] 0).lst f32.ntmps) h := by
    rw [show (fargs [fv] 0).lst f32.ntmps = Fr.lst 5 [(0, fv)] from by kernel_rfl, s32]
    refine awp_seq (p32_0_awp (p32_0_eq _ _) fun a ho => ?_)
    obtain ⟨hlen, hout⟩ := ho
    have g0 : aget a 0 = fv := by simpa using hout
    show AWp Try.prog (.seq (ca (cb c32)) .ret) _ _ _
    refine awp_seq ?_
    rw [k32_1]
    refine awp_region ?_
    simp only [AOps, AGuard, AOper, AOp, aEval, g0]
    simp only [ACall, AL.evs, List.map_cons, List.map_nil, aEval, List.nil_append, List.append_nil]
    rw [aget_aset (by omega), if_pos rfl]
    refine ⟨by kernel_rfl, hcall.mono ?_⟩
    rintro e g ⟨v, ks, rfl, hp, hk, ho, _⟩
    simp only
    rw [aget_aset (by simp [aset_length, hlen]), if_pos rfl]
    show AWp Try.prog .ret _ _ _
    refine awp_ret ⟨rfl, ks, hp, ?_, ho⟩
    rw [aget_aset (by simp [aset_length, hlen]), if_pos rfl]; exact hk
  refine awp_mono (awp_len main) ?_
  rintro e a g ⟨⟨rfl, ks, hp, hk, ho⟩, hlen⟩
  show aResults Try.prog f32 a g _
  unfold aResults
  rw [show f32.results.toList = [.tmp 2] from by kernel_rfl]
  simp only [aResults.go, List.nil_append]
  exact ends_now hlen ⟨_, ks, rfl, hp, hk, ho, hlen⟩

/-- slices.Sort of what has been collected. -/
theorem sort_coll {lo : Nat} {g : AHeap} {v : AVal} {ks : List ByteArray} (hk : SlK lo g v ks) (hsz : ks.length < 4611686018427387904) :
    ACalls Try.prog 33 [v] g fun e g' => e = .ret (.tup []) ∧ SlK lo g' v (sortB ks) ∧ (∀ c, c < lo → g'[c]? = g[c]?) ∧ g'.length = g.length := by
  rcases hk with ⟨rfl, rfl⟩ | ⟨hne, b, hb, rfl, hcb⟩
  · refine sort_none.mono ?_
    rintro e g' ⟨rfl, rfl⟩
    exact ⟨rfl, .inl ⟨by simp [sortB], rfl⟩, fun _ _ => rfl, rfl⟩
  · refine (sort_str hcb (List.length_pos_iff.2 hne) hsz).mono ?_
    rintro e g' ⟨rfl, rfl⟩
    refine ⟨rfl, .inr ⟨fun h0 => hne ?_, b, hb, by rw [sortB_length], List.getElem?_set_self (lt_of_getL hcb)⟩, fun c hc => List.getElem?_set_ne (by omega), by simp⟩
    have := congrArg List.length h0
    rw [sortB_length] at this
    exact List.eq_nil_of_length_eq_zero (by simpa using this)

theorem sorted_keys {bx mb clock : Nat} {L : List (ByteArray × AVal)} {bs : List Nat} {h : AHeap} (hbx : h[bx]? = some (.cells [.map mb])) (hm : h[mb]? = some (.mapS .str (strE L) bs clock)) (hl : bs.length = L.length) (hbn : bs.Nodup)
    (hbc : ∀ s ∈ bs, s < clock) (hsz : L.length * 16 ≤ 140737488355328) :
    ACalls Try.prog 29 [keysF bx] h fun e g => ∃ v, e = .ret v ∧ SlK h.length g v (sortB (L.map (·.1))) ∧ (∀ c, c < h.length → g[c]? = h[c]?) ∧ h.length ≤ g.length := by
  refine acalls_pieces (c := c29) (fn := f29) (by rfl) (by kernel_rfl) (by kernel_rfl) fun hok => ?_
  have hcall := collect_keys hbx hm hl hbn hbc hsz
  generalize keysF bx = fv at hcall
  have main : AWp Try.prog c29 (fun e a g => e = .ret ∧ SlK h.length g (aget a 2) (sortB (L.map (·.1))) ∧ (∀ c, c < h.length → g[c]? = h[c]?)) ((fargs [fv] 0).lst f29.ntmps) h := by
    rw [show (fargs [fv] 0).lst f29.ntmps = Fr.lst 9 [(0, fv)] from by kernel_rfl, s29]
    refine awp_seq (p29_0_awp (p29_0_eq _ _) fun a ho => ?_)
    obtain ⟨hlen, hout⟩ := ho
    have g0 : aget a 0 = fv := by simpa using hout
    show AWp Try.prog (.seq (ca (cb c29)) _) _ _ _
    refine awp_seq ?_
    rw [k29_1]
    refine awp_region ?_
    simp only [AOps, AGuard, AOper, AOp, aEval, g0]
    simp only [ACall, AL.evs, List.map_cons, List.map_nil, aEval, List.nil_append, List.append_nil]
    rw [aget_aset (by omega), if_pos rfl]
    refine ⟨by kernel_rfl, hcall.mono ?_⟩
    rintro e g ⟨v, ks, rfl, hp, hk, ho, _⟩
    simp only
    rw [aget_aset (by simp [aset_length, hlen]), if_pos rfl]
    have f3 : aget (aset (aset (aset a (some 4) fv) (some 5) v) (some 3) v) 3 = v := by rw [aget_aset (by simp [aset_length, hlen]), if_pos rfl]
    have flen : (aset (aset (aset a (some 4) fv) (some 5) v) (some 3) v).length = 9 := by simp [aset_length, hlen]
    generalize aset (aset (aset a (some 4) fv) (some 5) v) (some 3) v = a1 at f3 flen
    show AWp Try.prog (.seq (ca (cb (cb c29))) _) _ _ _
    refine awp_seq ?_
    rw [k29_2]
    refine awp_region ?_
    simp only [AOps, AGuard, AOper, AOp, aEval, f3]
    simp only [ACall, AL.evs, List.map_cons, List.map_nil, aEval, List.nil_append, List.append_nil]
    rw [aget_aset (by omega), if_pos rfl]
    have hkl : ks.length < 4611686018427387904 := by rw [hp.length_eq, List.length_map]; omega
    refine ⟨by kernel_rfl, (sort_coll hk hkl).mono ?_⟩
    rintro e g2 ⟨rfl, hk2, ho2, hlen2⟩
    simp only
    show AWp Try.prog (cb (cb (cb c29))) _ _ _
    have e3 : aget (aset (aset a1 (some 6) v) (some 7) (.tup [])) 3 = v := by
      rw [aget_aset (by simp [aset_length, flen]), if_neg (by simp), aget_aset (by omega), if_neg (by simp)]; exact f3
    refine awp_weak (Outs.weak (n := 9) (outs := [3]) (vs := [v]) ⟨by simp [aset_length, flen], by simp [e3]⟩ (by kernel_rfl)) ?_
    refine p29_3_awp (p29_3_eq _ _) fun a ho3 => ⟨rfl, ?_, fun c hc => (ho2 c hc).trans (ho c hc)⟩
    have h2 : aget a 2 = v := by have := ho3.2; simpa using this
    rw [h2, ← sortB_perm hp]; exact hk2
  refine awp_mono (awp_len main) ?_
  rintro e a g ⟨⟨rfl, hk, ho⟩, hlen⟩
  show aResults Try.prog f29 a g _
  unfold aResults
  rw [show f29.results.toList = [.tmp 2] from by kernel_rfl]
  simp only [aResults.go, List.nil_append]
  exact ends_now hlen ⟨_, rfl, hk, ho, hlen⟩

/-- What slices.Sorted(maps.Keys(m)) hands back. -/
def sortedV (h : AHeap) (ks : List ByteArray) : AVal := if ks = [] then nilS else .sl 1 h.length 0 ks.length
def sortedH (h : AHeap) (ks : List ByteArray) : AHeap := if ks = [] then h else h ++ [.cells (ks.map strV)]

theorem sorted_run {bx mb : Nat} {L : List (ByteArray × AVal)} {h : AHeap} (hbx : h[bx]? = some (.cells [.map mb])) (hm : h[mb]? = some (.map .str (strE L))) (hsz : L.length * 16 ≤ 140737488355328) :
    ACalls Try.prog 29 [keysF bx] h fun e g => e = .ret (sortedV h (sortB (L.map (·.1)))) ∧ g = sortedH h (sortB (L.map (·.1))) := by
  have hbm : mb ≠ bx := fun e => by rw [e, hbx] at hm; cases hm
  have hlm := lt_of_getL hm
  refine acalls_freeze hm fun bs clock hbl hbn hbc => ?_
  have hok0 : ∀ (ρ : Env) (w : World), Rel ρ (h.set mb (.mapS .str (strE L) bs clock)) w → HOk (h.set mb (.mapS .str (strE L) bs clock)) := fun ρ w hR i o ho => hR.idsObj ho
  have key := sorted_keys (bx := bx) (mb := mb) (clock := clock) (L := L) (bs := bs) (h := h.set mb (.mapS .str (strE L) bs clock)) (by rw [List.getElem?_set_ne hbm]; exact hbx) (List.getElem?_set_self hlm) (by simpa [strE] using hbl) hbn hbc hsz
  generalize hH : h.set mb (AObj.mapS .str (strE L) bs clock) = H at key hok0
  have hHl : H.length = h.length := by rw [← hH]; simp
  have hHm : H[mb]? = some (.mapS .str (strE L) bs clock) := by rw [← hH]; exact List.getElem?_set_self hlm
  have hHset : H.set mb (.map .str (strE L)) = h := by
    rw [← hH, List.set_set]; exact set_self hm
  generalize sortB (L.map (·.1)) = ks at key ⊢
  have fin : ACalls Try.prog 29 [keysF bx] H fun e g => e = .ret (sortedV H ks) ∧ g = sortedH H ks := by
    intro ρ w us hR hv
    have hok := hok0 ρ w hR
    refine (ACalls.tell key ?_) ρ w us hR hv
    rintro e g ⟨v, rfl, hk, hpre, _⟩ hlg
    unfold sortedV sortedH
    rcases hk with ⟨rfl, rfl⟩ | ⟨hne, b, hb, rfl, hcb⟩
    · refine ⟨_, _, ⟨by rw [if_pos rfl], by rw [if_pos rfl]⟩, Nat.le_refl _, fun ρ w u hR hE => ?_⟩
      obtain ⟨h1, h2⟩ := rel_none hR hok hpre
      refine ⟨ρ, fun _ _ => rfl, h1, h2, ?_⟩
      cases hE with | ret v u hv => cases hv; exact .ret _ _ (.lit _)
    · refine ⟨_, _, ⟨by rw [if_neg hne], by rw [if_neg hne]⟩, by simp, fun ρ w u hR hE => ?_⟩
      obtain ⟨ρ', k1, k2, k3, k4⟩ := rel_pick hR hok hpre hb hcb (by simp) (fun v hv => by
        obtain ⟨s, _, rfl⟩ := List.mem_map.1 hv; exact .lit _)
      refine ⟨ρ', k1, k3, k4, ?_⟩
      cases hE with | ret v u hv =>
      refine .ret _ _ ?_
      generalize ks.length = n at hv ⊢
      cases hv with
      | sl _ _ _ _ cap _ hl hc => rw [← k2] at hc ⊢; exact .sl 1 _ 0 _ cap (by simp) hl hc
      | slZ _ _ _ o _ => rw [← k2]; exact .slZ 1 _ 0 o (by simp)
  refine fin.mono ?_
  rintro e g ⟨rfl, rfl⟩
  unfold sortedV sortedH
  by_cases h0 : ks = []
  · simp only [h0, if_true]
    exact ⟨hHm, trivial, hHset⟩
  · simp only [h0, if_false]
    refine ⟨by rw [List.getElem?_append_left (by omega)]; exact hHm, by rw [hHl], ?_⟩
    rw [List.set_append_left _ _ (by omega), hHset]
end Go.Proofs.Ytglmofbcooefkaa.AL
