import Derived.Test.YteclkehnppeobaaG4
import Derived.Test.YteclkehnppeobaaG3
/- Octets, through the reckoner. -/
namespace Go.Proofs.Yteclkehnppeobaa.AL
set_option linter.unusedVariables false
set_option linter.unusedSimpArgs false
set_option maxRecDepth 100000
open Go
open Go.Proofs.Try
-- chainman/octet.Put: function 101
noncomputable def Eoctet_Put : XE := { T := tabOf [(3, r3), (4, r4), (5, r5), (9, r9), (121, r121), (173, r173)], C := [], D := [], Ms := [(9, [1, 6]), (15, [1, 6])], Ml := [(5, [0, 1, 6, 7]), (10, [1, 6, 32, 33, 34])], Mo := [(1006, [0, 1, 15]), (1010, [0, 1, 19])], n := 45 }
theorem Eoctet_Put_ok : XE.Ok Eoctet_Put Try.prog := ⟨tabOf_ok (⟨r3_ok, ⟨r4_ok, ⟨r5_ok, ⟨r9_ok, ⟨r121_ok, ⟨r173_ok, trivial⟩⟩⟩⟩⟩⟩), trivial, ydOk_none, trivial⟩
noncomputable def c101 : Code := bodyOf f101
noncomputable def S_octet_Put (n0 : Int) (k1 : Int) (h : AHeap) : Option (AVal × AHeap) := xfun Eoctet_Put f101 [(.lit (.int .i64 n0)), (.lit (.int .i64 k1))] h
noncomputable def S_octet_Put_0 (n0 : Int) (k1 : Int) (t15 : Bool) (h : AHeap) : Option (AVal × AHeap) := jo Eoctet_Put 1 (rops (ca (ca (cb c101)))) ((rops (ca (ca (cb c101)))).toList.drop 6) 6 [(0, (.lit (.int .i64 n0))), (1, (.lit (.int .i64 k1))), (15, (.lit (.bool t15)))] h (kN (kSeq Eoctet_Put (cb (ca (cb c101))) (kSeq Eoctet_Put (cb (cb c101)) (xend Eoctet_Put f101))))
noncomputable def S_octet_Put_1 (n0 : Int) (k1 : Int) (t19 : Bool) (h : AHeap) : Option (AVal × AHeap) := jo Eoctet_Put 1 (rops (ca (ca (cb c101)))) ((rops (ca (ca (cb c101)))).toList.drop 10) 10 [(0, (.lit (.int .i64 n0))), (1, (.lit (.int .i64 k1))), (19, (.lit (.bool t19)))] h (kN (kSeq Eoctet_Put (cb (ca (cb c101))) (kSeq Eoctet_Put (cb (cb c101)) (xend Eoctet_Put f101))))
noncomputable def S_octet_Put_2 (n0 : Int) (k1 : Int) (b6 : Nat) (i7 : Int) (h : AHeap) : Option (AVal × AHeap) := xexec Eoctet_Put (.loop (ca (ca (cb (ca (cb (cb (cb c101)))))))) (AVal × AHeap) [(0, (.lit (.int .i64 n0))), (1, (.lit (.int .i64 k1))), (6, (.ptr b6 0)), (7, (.lit (.int .i64 i7)))] h (kBlk 0 (kSeq Eoctet_Put (cb (cb (cb (cb c101)))) (xend Eoctet_Put f101)))
noncomputable def S_octet_Put_3 (k1 : Int) (b6 : Nat) (h : AHeap) : Option (AVal × AHeap) := jn (xexec Eoctet_Put (cb (cb (cb (cb c101)))) (AVal × AHeap) [(1, (.lit (.int .i64 k1))), (6, (.ptr b6 0))] h (xend Eoctet_Put f101))
noncomputable def S_octet_Put_4 (k1 : Int) (b6 : Nat) (t32 : AVal) (t33 : Int) (t34 : Int) (h : AHeap) : Option (AVal × AHeap) := xexec Eoctet_Put (.loop (ca (ca (cb (ca (cb (cb (cb (cb c101))))))))) (AVal × AHeap) [(1, (.lit (.int .i64 k1))), (6, (.ptr b6 0)), (32, t32), (33, (.lit (.int .i64 t33))), (34, (.lit (.int .i64 t34)))] h (kBlk 2 (kSeq Eoctet_Put (cb (cb (cb (cb (cb c101))))) (xend Eoctet_Put f101)))
noncomputable def S_octet_Put_5 (k1 : Int) (b6 : Nat) (h : AHeap) : Option (AVal × AHeap) := jn (xexec Eoctet_Put (cb (cb (cb (cb (cb c101))))) (AVal × AHeap) [(1, (.lit (.int .i64 k1))), (6, (.ptr b6 0))] h (xend Eoctet_Put f101))
theorem S_octet_Put_eq (n0 : Int) (k1 : Int) (h : AHeap) : S_octet_Put n0 k1 h =
 bif (decide (n0 < 0)) then (S_octet_Put_0 n0 k1 true h)
 else (S_octet_Put_0 n0 k1 (decide (k1 < 1)) h) := by kernel_rfl
theorem S_octet_Put_0_eq (n0 : Int) (k1 : Int) (t15 : Bool) (h : AHeap) : S_octet_Put_0 n0 k1 t15 h =
 bif t15 then (S_octet_Put_1 n0 k1 true h)
 else (S_octet_Put_1 n0 k1 (decide (k1 > 8)) h) := (jo_eq ..).trans (by kernel_rfl)
theorem S_octet_Put_1_eq (n0 : Int) (k1 : Int) (t19 : Bool) (h : AHeap) : S_octet_Put_1 n0 k1 t19 h =
 bif t19 then (some ((.tup [(.lit (.string (⟨#[]⟩ : ByteArray))), (.lit (.bool false))]), h))
 else (S_octet_Put_2 n0 k1 h.length 7 ((psh h (.cells [(.lit (.int .u8 0)), (.lit (.int .u8 0)), (.lit (.int .u8 0)), (.lit (.int .u8 0)), (.lit (.int .u8 0)), (.lit (.int .u8 0)), (.lit (.int .u8 0)), (.lit (.int .u8 0))])))) := (jo_eq ..).trans (by kernel_rfl)
theorem S_octet_Put_2_eq (n0 : Int) (k1 : Int) (b6 : Nat) (i7 : Int) (h : AHeap) : S_octet_Put_2 n0 k1 b6 i7 h =
 bif (decide (i7 ≥ 0)) then ((aidxP 8 1 (.ptr b6 0) i7).bind fun p1 =>
 (st1 h p1 (.lit (.int .u8 (IntKind.wrap .u8 n0)))).bind fun h2 =>
 S_octet_Put_2 (shrI .i64 n0 8) k1 b6 (IntKind.wrap .i64 (i7 - 1)) h2)
 else (S_octet_Put_3 k1 b6 h) := (xexec_loop Eoctet_Put Eoctet_Put_ok.C.nat _ _ _ _ _).trans (by kernel_rfl)
theorem S_octet_Put_3_eq (k1 : Int) (b6 : Nat) (h : AHeap) : S_octet_Put_3 k1 b6 h =
 (cutA 8 1 h (.ptr b6 0) 0 (IntKind.wrap .i64 (8 - k1))).bind fun v3 =>
 (lenV v3).bind fun n4 =>
 S_octet_Put_4 k1 b6 v3 n4 0 h := (jn_eq _).trans (by kernel_rfl)
theorem S_octet_Put_4_eq (k1 : Int) (b6 : Nat) (t32 : AVal) (t33 : Int) (t34 : Int) (h : AHeap) : S_octet_Put_4 k1 b6 t32 t33 t34 h =
 bif (decide (t34 < t33)) then ((idxP 1 t32 t34).bind fun p5 =>
 (ld1 h p5).bind fun x6 =>
 (asI .u8 x6).bind fun n7 =>
 bif (decide (n7 > 0)) then (some ((.tup [(.lit (.string (⟨#[]⟩ : ByteArray))), (.lit (.bool false))]), h))
 else (S_octet_Put_4 k1 b6 t32 t33 (IntKind.wrap .i64 (t34 + 1)) h))
 else (S_octet_Put_5 k1 b6 h) := (xexec_loop Eoctet_Put Eoctet_Put_ok.C.nat _ _ _ _ _).trans (by kernel_rfl)
theorem S_octet_Put_5_eq (k1 : Int) (b6 : Nat) (h : AHeap) : S_octet_Put_5 k1 b6 h =
 (cutA 8 1 h (.ptr b6 0) (IntKind.wrap .i64 (8 - k1)) 8).bind fun v8 =>
 (bytesOf h v8).bind fun s9 =>
 some ((.tup [(.lit (.string s9)), (.lit (.bool true))]), h) := (jn_eq _).trans (by kernel_rfl)
theorem S_octet_Put_ends {n0 : Int} {k1 : Int} {h h' : AHeap} {v : AVal} {R : AEnd → AHeap → Prop} (hx : S_octet_Put n0 k1 h = some (v, h')) (hR : HOk h → h.length ≤ h'.length → ABody.AEnds h h' (.ret v) R) : ACalls Try.prog 101 [(.lit (.int .i64 n0)), (.lit (.int .i64 k1))] h R := xfun_ends Eoctet_Put_ok tmix (i := 101) (by rfl) (by kernel_rfl) (by kernel_rfl) hx hR
def by8 (n i : Nat) : UInt8 := UInt8.ofNat (n / 256 ^ i)
def be8 (n : Nat) : List UInt8 := [by8 n 7, by8 n 6, by8 n 5, by8 n 4, by8 n 3, by8 n 2, by8 n 1, by8 n 0]
theorem by8_wrap (n i : Nat) : IntKind.wrap .u8 ((n / 256 ^ i : Nat) : Int) = ((by8 n i).toNat : Int) := by
  rw [wrap_u8]
  unfold by8
  simp
theorem shr8x (n i : Nat) : shrI .i64 ((n / 256 ^ i : Nat) : Int) 8 = ((n / 256 ^ (i + 1) : Nat) : Int) := by
  unfold shrI
  show ((n / 256 ^ i : Nat) : Int).fdiv 256 = _
  rw [Int.fdiv_eq_ediv_of_nonneg _ (by omega), Nat.pow_succ, ← Nat.div_div_eq_div_mul]
  exact (Int.natCast_ediv _ 256).symm
theorem put_cells {n : Nat} {k : Int} {b : Nat} {h : AHeap} (H : cellsAt h b = some (List.replicate 8 (.lit (.int .u8 0)))) : ∃ g, S_octet_Put_2 (n : Int) k b 7 h = S_octet_Put_3 k b g ∧ cellsAt g b = some ((be8 n).map byteV) ∧ g.length = h.length ∧ ∀ c, c ≠ b → g[c]? = h[c]? := by
  have step : ∀ (j i : Nat) (g : AHeap) (cs : List AVal), i < 8 → cellsAt g b = some cs → cs.length = 8 → S_octet_Put_2 ((n / 256 ^ j : Nat) : Int) k b (i : Int) g = S_octet_Put_2 ((n / 256 ^ (j + 1) : Nat) : Int) k b ((i : Int) - 1) (g.set b (.cells (cs.set i (byteV (by8 n j))))) := fun j i g cs hi H hc => by
    have ix : aidxP 8 1 (.ptr b 0) (i : Int) = some (.ptr b i) := by
      unfold aidxP; rw [req_true (by omega)]; simp
    rw [S_octet_Put_2_eq, decide_eq_true (by omega), cond_true, ix, Option.bind_some, by8_wrap, show (AVal.lit (.int .u8 ((by8 n j).toNat : Int))) = byteV (by8 n j) from rfl, st1_of H rfl (by omega), Option.bind_some, shr8x, wrap_i64 (by omega) (by omega)]
  have h0 : (n : Int) = ((n / 256 ^ 0 : Nat) : Int) := by simp
  rw [h0]
  have E := step 0 7 h _ (by omega) H rfl
  have last : ∀ g, S_octet_Put_2 ((n / 256 ^ (7 + 1) : Nat) : Int) k b (((0 : Nat) : Int) - 1) g = S_octet_Put_3 k b g := fun g => by rw [S_octet_Put_2_eq]; rfl
  refine ⟨_, E.trans ((step 1 6 _ _ (by omega) (cellsAt_set H) rfl).trans ((step 2 5 _ _ (by omega) (cellsAt_set (cellsAt_set H)) rfl).trans ((step 3 4 _ _ (by omega) (cellsAt_set (cellsAt_set (cellsAt_set H))) rfl).trans ((step 4 3 _ _ (by omega) (cellsAt_set (cellsAt_set (cellsAt_set (cellsAt_set H)))) rfl).trans
    ((step 5 2 _ _ (by omega) (cellsAt_set (cellsAt_set (cellsAt_set (cellsAt_set (cellsAt_set H))))) rfl).trans ((step 6 1 _ _ (by omega) (cellsAt_set (cellsAt_set (cellsAt_set (cellsAt_set (cellsAt_set (cellsAt_set H)))))) rfl).trans ((step 7 0 _ _ (by omega) (cellsAt_set (cellsAt_set (cellsAt_set (cellsAt_set (cellsAt_set (cellsAt_set (cellsAt_set H))))))) rfl).trans (last _)))))))), ?_, ?_, ?_⟩
  · exact cellsAt_set (cellsAt_set (cellsAt_set (cellsAt_set (cellsAt_set (cellsAt_set (cellsAt_set (cellsAt_set H)))))))
  · simp
  · intro c hc
    simp [List.getElem?_set_ne (Ne.symm hc)]
theorem hi_loop {k : Int} {b : Nat} {h : AHeap} {l : List UInt8} {z : Nat} (H : cellsAt h b = some (l.map byteV)) (hz : z ≤ l.length) (hl : l.length ≤ 8) : ∀ (m i : Nat), i + m = z → (∀ x ∈ l.take i, x = 0) →
    S_octet_Put_4 k b (.sl 1 b 0 z) (z : Int) (i : Int) h = if (∀ x ∈ l.take z, x = 0) then S_octet_Put_5 k b h else some (.tup [.lit (.string ⟨#[]⟩), .lit (.bool false)], h)
  | 0, i, hi, h0 => by
    obtain rfl : i = z := by omega
    rw [S_octet_Put_4_eq, decide_eq_false (by omega), cond_false, if_pos h0]
  | m + 1, i, hi, h0 => by
    have hil : i < l.length := by omega
    have hnext : IntKind.wrap .i64 ((i : Int) + 1) = ((i + 1 : Nat) : Int) := by rw [wrap_i64 (by omega) (by omega)]; omega
    have idx : idxP 1 (.sl 1 b 0 z) (i : Int) = some (.ptr b i) := by
      unfold idxP; simp only [Nat.beq_refl]; rw [req_true (by omega)]; simp
    rw [S_octet_Put_4_eq, decide_eq_true (by omega), cond_true, idx, Option.bind_some, ld1_of H, List.getElem?_map, List.getElem?_eq_getElem hil, show Option.map byteV (some l[i]) = some (byteV l[i]) from rfl, Option.bind_some, show asI .u8 (byteV l[i]) = some (l[i].toNat : Int) from rfl, Option.bind_some]
    by_cases hx : l[i] = 0
    · rw [decide_eq_false (by rw [hx]; decide), cond_false, hnext]
      refine hi_loop H hz hl m (i + 1) (by omega) fun x hx' => ?_
      rw [← List.take_append_getElem hil, List.mem_append, List.mem_singleton] at hx'
      rcases hx' with hx' | rfl
      · exact h0 x hx'
      · exact hx
    · have hn : l[i].toNat ≠ 0 := fun e => hx (UInt8.toNat_inj.1 (by simpa using e))
      rw [decide_eq_true (by omega), cond_true, if_neg]
      intro hall
      refine hx (hall _ ?_)
      rw [List.mem_take_iff_getElem]
      exact ⟨i, by omega, rfl⟩
def putB (n k : Nat) : Option ByteArray := if ∀ x ∈ (be8 n).take (8 - k), x = 0 then some ⟨((be8 n).drop (8 - k)).toArray⟩ else none
def putV (r : Option ByteArray) : AVal := .tup [.lit (.string (r.getD ⟨#[]⟩)), .lit (.bool r.isSome)]
theorem put_run (n : Nat) {k : Nat} (h1 : 1 ≤ k) (h2 : k ≤ 8) (h : AHeap) : ∃ g, S_octet_Put (n : Int) (k : Int) h = some (putV (putB n k), g) := by
  have Z : cellsAt (psh h (.cells (List.replicate 8 (.lit (.int .u8 0))))) h.length = some (List.replicate 8 (.lit (.int .u8 0))) := cellsAt_new h _
  obtain ⟨g, e1, e2, e3, e4⟩ := put_cells (n := n) (k := (k : Int)) Z
  rw [S_octet_Put_eq, decide_eq_false (by omega), cond_false, decide_eq_false (by omega), S_octet_Put_0_eq, cond_false, decide_eq_false (by omega), S_octet_Put_1_eq, cond_false]
  refine ⟨g, ?_⟩
  refine (show _ = _ from e1).trans ?_
  have hw : IntKind.wrap .i64 (8 - (k : Int)) = ((8 - k : Nat) : Int) := by rw [wrap_i64 (by omega) (by omega)]; omega
  have hlen : ((be8 n).map byteV).length = 8 := rfl
  have c1 : cutA 8 1 g (.ptr h.length 0) 0 ((8 - k : Nat) : Int) = some (.sl 1 h.length 0 (8 - k)) := by
    unfold cutA
    dsimp only
    rw [e2, Option.bind_some, req_true (by rw [hlen]; omega)]
    simp
  rw [S_octet_Put_3_eq, hw, c1, Option.bind_some]
  show S_octet_Put_4 (k : Int) h.length (.sl 1 h.length 0 (8 - k)) ((8 - k : Nat) : Int) ((0 : Nat) : Int) g = _
  rw [hi_loop e2 (show 8 - k ≤ (be8 n).length from by show 8 - k ≤ 8; omega) (Nat.le_refl _) (8 - k) 0 (by omega) (by simp)]
  unfold putB
  by_cases hz : ∀ x ∈ (be8 n).take (8 - k), x = 0
  · rw [if_pos hz, if_pos hz, S_octet_Put_5_eq, hw]
    have c2 : cutA 8 1 g (.ptr h.length 0) ((8 - k : Nat) : Int) 8 = some (.sl 1 h.length (8 - k) k) := by
      unfold cutA
      dsimp only
      rw [e2, Option.bind_some, req_true (by rw [hlen]; omega)]
      have : (8 - ((8 - k : Nat) : Int)).toNat = k := by omega
      simp [this]
    have hb : bytesOf g (.sl 1 h.length (8 - k) k) = some ⟨((be8 n).drop (8 - k)).toArray⟩ := by
      show (cellsAt g h.length).bind _ = _
      have hd : ((be8 n).drop (8 - k)).length = k := by rw [List.length_drop]; show 8 - (8 - k) = k; omega
      rw [e2, Option.bind_some, ← List.map_drop, ← List.map_take, List.take_of_length_le (by omega), unbytes_map, Option.bind_some, req_true hd]; rfl
    rw [c2, Option.bind_some, hb]; rfl
  · rw [if_neg hz, if_neg hz]; rfl
noncomputable def putI (n k : Int) : Option ByteArray := jn (if 0 ≤ n ∧ 1 ≤ k ∧ k ≤ 8 then putB n.toNat k.toNat else none)
theorem putI_nat (n : Nat) {k : Nat} (h1 : 1 ≤ k) (h2 : k ≤ 8) : putI (n : Int) (k : Int) = putB n k := by
  unfold putI
  rw [jn_eq, if_pos (by omega)]; rfl
theorem put_all (n k : Int) (h : AHeap) : ∃ g, S_octet_Put n k h = some (putV (putI n k), g) := by
  unfold putI
  rw [jn_eq]
  by_cases hc : 0 ≤ n ∧ 1 ≤ k ∧ k ≤ 8
  · rw [if_pos hc]
    obtain ⟨m, rfl⟩ := Int.eq_ofNat_of_zero_le hc.1
    obtain ⟨j, rfl⟩ := Int.eq_ofNat_of_zero_le (show 0 ≤ k by omega)
    exact put_run m (by omega) (by omega) h
  · rw [if_neg hc]
    have bad : S_octet_Put_1 n k true h = some (putV none, h) := by rw [S_octet_Put_1_eq, cond_true]; rfl
    refine ⟨h, ?_⟩
    rw [S_octet_Put_eq]
    by_cases h0 : n < 0
    · rw [decide_eq_true h0, cond_true, S_octet_Put_0_eq, cond_true, bad]
    · rw [decide_eq_false h0, cond_false, S_octet_Put_0_eq]
      by_cases h1 : k < 1
      · rw [decide_eq_true h1, cond_true, bad]
      · rw [decide_eq_false h1, cond_false, decide_eq_true (by omega), bad]
theorem put_of (n k : Int) (h : AHeap) : ACalls Try.prog 101 [.lit (.int .i64 n), .lit (.int .i64 k)] h fun e g => e = .ret (putV (putI n k)) ∧ g = h := by
  obtain ⟨g, e⟩ := put_all n k []
  exact acalls_plain rfl rfl ((S_octet_Put_ends e selfR).mono fun e g h => h.1) h
noncomputable def w_octet_Put : XC := .q fun R args h K => match args with
  | [.lit (.int .i64 n), .lit (.int .i64 k)] => K (.tup [(.lit (.string (((putI n k).getD ⟨#[]⟩)))), (.lit (.bool (((putI n k).isSome))))])
  | _ => none
theorem w_octet_Put_ok : XC.Nat w_octet_Put ∧ XC.Ok Try.prog 101 w_octet_Put := by
  refine ⟨fun R args h K => ?_, tc101, fun args h v hx => ?_⟩
  · dsimp only; split <;> simp [Option.bind_assoc, mkP]
  · dsimp only at hx; split at hx
    · cases hx
      exact put_of _ _ _
    · cases hx
-- chainman/octet.Get: function 129
noncomputable def Eoctet_Get : XE := { T := tabOf [(3, r3), (4, r4), (5, r5), (9, r9), (121, r121), (187, r187)], C := [], D := [], Ms := [(9, [8])], Ml := [(5, [8, 35, 36, 37])], Mo := [(1006, [0, 1, 2, 16]), (1010, [0, 1, 2, 20]), (1018, [0, 1, 2, 28])], n := 52 }
theorem Eoctet_Get_ok : XE.Ok Eoctet_Get Try.prog := ⟨tabOf_ok (⟨r3_ok, ⟨r4_ok, ⟨r5_ok, ⟨r9_ok, ⟨r121_ok, ⟨r187_ok, trivial⟩⟩⟩⟩⟩⟩), trivial, ydOk_none, trivial⟩
noncomputable def c129 : Code := bodyOf f129
noncomputable def S_octet_Get (s0 : ByteArray) (at1 : Int) (k2 : Int) (h : AHeap) : Option (AVal × AHeap) := xfun Eoctet_Get f129 [(.lit (.string s0)), (.lit (.int .i64 at1)), (.lit (.int .i64 k2))] h
noncomputable def S_octet_Get_0 (s0 : ByteArray) (at1 : Int) (k2 : Int) (t16 : Bool) (h : AHeap) : Option (AVal × AHeap) := jo Eoctet_Get 1 (rops (ca (ca (cb c129)))) ((rops (ca (ca (cb c129)))).toList.drop 6) 6 [(0, (.lit (.string s0))), (1, (.lit (.int .i64 at1))), (2, (.lit (.int .i64 k2))), (16, (.lit (.bool t16)))] h (kN (kSeq Eoctet_Get (cb (ca (cb c129))) (kSeq Eoctet_Get (cb (cb c129)) (xend Eoctet_Get f129))))
noncomputable def S_octet_Get_1 (s0 : ByteArray) (at1 : Int) (k2 : Int) (t20 : Bool) (h : AHeap) : Option (AVal × AHeap) := jo Eoctet_Get 1 (rops (ca (ca (cb c129)))) ((rops (ca (ca (cb c129)))).toList.drop 10) 10 [(0, (.lit (.string s0))), (1, (.lit (.int .i64 at1))), (2, (.lit (.int .i64 k2))), (20, (.lit (.bool t20)))] h (kN (kSeq Eoctet_Get (cb (ca (cb c129))) (kSeq Eoctet_Get (cb (cb c129)) (xend Eoctet_Get f129))))
noncomputable def S_octet_Get_2 (s0 : ByteArray) (at1 : Int) (k2 : Int) (t28 : Bool) (h : AHeap) : Option (AVal × AHeap) := jo Eoctet_Get 1 (rops (ca (ca (cb c129)))) ((rops (ca (ca (cb c129)))).toList.drop 18) 18 [(0, (.lit (.string s0))), (1, (.lit (.int .i64 at1))), (2, (.lit (.int .i64 k2))), (28, (.lit (.bool t28)))] h (kN (kSeq Eoctet_Get (cb (ca (cb c129))) (kSeq Eoctet_Get (cb (cb c129)) (xend Eoctet_Get f129))))
noncomputable def S_octet_Get_3 (n8 : Int) (t35 : AVal) (t36 : Int) (t37 : Int) (h : AHeap) : Option (AVal × AHeap) := xexec Eoctet_Get (.loop (ca (ca (cb (ca (cb (cb (cb c129)))))))) (AVal × AHeap) [(8, (.lit (.int .u64 n8))), (35, t35), (36, (.lit (.int .i64 t36))), (37, (.lit (.int .i64 t37)))] h (kBlk 0 (kSeq Eoctet_Get (cb (cb (cb (cb c129)))) (xend Eoctet_Get f129)))
noncomputable def S_octet_Get_4 (n8 : Int) (h : AHeap) : Option (AVal × AHeap) := jn (xexec Eoctet_Get (cb (cb (cb (cb c129)))) (AVal × AHeap) [(8, (.lit (.int .u64 n8)))] h (xend Eoctet_Get f129))
theorem S_octet_Get_eq (s0 : ByteArray) (at1 : Int) (k2 : Int) (h : AHeap) : S_octet_Get s0 at1 k2 h =
 bif (decide (k2 < 1)) then (S_octet_Get_0 s0 at1 k2 true h)
 else (S_octet_Get_0 s0 at1 k2 (decide (k2 > 8)) h) := by kernel_rfl
theorem S_octet_Get_0_eq (s0 : ByteArray) (at1 : Int) (k2 : Int) (t16 : Bool) (h : AHeap) : S_octet_Get_0 s0 at1 k2 t16 h =
 bif t16 then (S_octet_Get_1 s0 at1 k2 true h)
 else (S_octet_Get_1 s0 at1 k2 (decide (at1 < 0)) h) := (jo_eq ..).trans (by kernel_rfl)
theorem S_octet_Get_1_eq (s0 : ByteArray) (at1 : Int) (k2 : Int) (t20 : Bool) (h : AHeap) : S_octet_Get_1 s0 at1 k2 t20 h =
 bif t20 then (S_octet_Get_2 s0 at1 k2 true h)
 else (S_octet_Get_2 s0 at1 k2 (decide ((IntKind.wrap .i64 ((s0.size : Int) - k2)) < at1)) h) := (jo_eq ..).trans (by kernel_rfl)
theorem S_octet_Get_2_eq (s0 : ByteArray) (at1 : Int) (k2 : Int) (t28 : Bool) (h : AHeap) : S_octet_Get_2 s0 at1 k2 t28 h =
 bif t28 then (some ((.tup [(.lit (.int .i64 0)), (.lit (.bool false))]), h))
 else ((cutS s0 at1 (IntKind.wrap .i64 (at1 + k2))).bind fun s1 =>
 (lenV (.sl 1 h.length 0 s1.size)).bind fun n2 =>
 S_octet_Get_3 0 (.sl 1 h.length 0 s1.size) n2 0 ((psh h (.cells ((s1).data.toList.map byteV))))) := (jo_eq ..).trans (by kernel_rfl)
theorem S_octet_Get_3_eq (n8 : Int) (t35 : AVal) (t36 : Int) (t37 : Int) (h : AHeap) : S_octet_Get_3 n8 t35 t36 t37 h =
 bif (decide (t37 < t36)) then ((idxP 1 t35 t37).bind fun p3 =>
 (ld1 h p3).bind fun x4 =>
 (asI .u8 x4).bind fun n5 =>
 S_octet_Get_3 (orI .u64 (shlI .u64 n8 8) (IntKind.wrap .u64 n5)) t35 t36 (IntKind.wrap .i64 (t37 + 1)) h)
 else (S_octet_Get_4 n8 h) := (xexec_loop Eoctet_Get Eoctet_Get_ok.C.nat _ _ _ _ _).trans (by kernel_rfl)
theorem S_octet_Get_4_eq (n8 : Int) (h : AHeap) : S_octet_Get_4 n8 h =
 bif (decide ((shrI .u64 n8 63) > 0)) then (some ((.tup [(.lit (.int .i64 0)), (.lit (.bool false))]), h))
 else (some ((.tup [(.lit (.int .i64 (IntKind.wrap .i64 n8))), (.lit (.bool true))]), h)) := (jn_eq _).trans (by kernel_rfl)
theorem S_octet_Get_ends {s0 : ByteArray} {at1 : Int} {k2 : Int} {h h' : AHeap} {v : AVal} {R : AEnd → AHeap → Prop} (hx : S_octet_Get s0 at1 k2 h = some (v, h')) (hR : HOk h → h.length ≤ h'.length → ABody.AEnds h h' (.ret v) R) : ACalls Try.prog 129 [(.lit (.string s0)), (.lit (.int .i64 at1)), (.lit (.int .i64 k2))] h R := xfun_ends Eoctet_Get_ok tmix (i := 129) (by rfl) (by kernel_rfl) (by kernel_rfl) hx hR
def beV (l : List UInt8) (n : Nat) : Nat := l.foldl (fun n b => 256 * n + b.toNat) n
theorem wrap_u64n {n : Nat} (h : n < 18446744073709551616) : IntKind.u64.wrap (n : Int) = (n : Int) := by
  simp only [IntKind.wrap, IntKind.signed, IntKind.bits]; simp; omega
theorem or_step {n b : Nat} (hn : n < 72057594037927936) (hb : b < 256) : orI .u64 (shlI .u64 (n : Int) 8) (IntKind.wrap .u64 (b : Int)) = ((256 * n + b : Nat) : Int) := by
  have h1 : shlI .u64 (n : Int) 8 = ((256 * n : Nat) : Int) := by
    unfold shlI
    show IntKind.u64.wrap ((n : Int) * 256) = _
    rw [show (n : Int) * 256 = ((256 * n : Nat) : Int) by omega, wrap_u64n (by omega)]
  rw [h1, wrap_u64n (by omega)]
  unfold orI
  show IntKind.u64.wrap ((BitVec.ofInt 64 ((256 * n : Nat) : Int) ||| BitVec.ofInt 64 (b : Int)).toNat : Int) = _
  rw [BitVec.ofInt_natCast, BitVec.ofInt_natCast, BitVec.toNat_or, BitVec.toNat_ofNat, BitVec.toNat_ofNat, Nat.mod_eq_of_lt (by omega), Nat.mod_eq_of_lt (by omega)]
  have h2 : 256 * n ||| b = 256 * n + b := by
    have := Nat.shiftLeft_add_eq_or_of_lt (show b < 2 ^ 8 by omega) n
    rw [Nat.shiftLeft_eq] at this
    rw [show 256 * n = n * 2 ^ 8 by omega]
    exact this.symm
  rw [h2, wrap_u64n (by omega)]
theorem get_loop {h : AHeap} {b : Nat} {l : List UInt8} (H : cellsAt h b = some (l.map byteV)) (hl : l.length ≤ 8) : ∀ (m i n : Nat), i + m = l.length → n < 256 ^ i → S_octet_Get_3 (n : Int) (.sl 1 b 0 l.length) (l.length : Int) (i : Int) h = S_octet_Get_4 ((beV (l.drop i) n : Nat) : Int) h
  | 0, i, n, hi, hn => by
    rw [S_octet_Get_3_eq, decide_eq_false (by omega), cond_false, List.drop_eq_nil_of_le (by omega)]; rfl
  | m + 1, i, n, hi, hn => by
    have hil : i < l.length := by omega
    have hnext : IntKind.wrap .i64 ((i : Int) + 1) = ((i + 1 : Nat) : Int) := by rw [wrap_i64 (by omega) (by omega)]; omega
    have idx : idxP 1 (.sl 1 b 0 l.length) (i : Int) = some (.ptr b i) := by
      unfold idxP; simp only [Nat.beq_refl]; rw [req_true (by omega)]; simp
    have hb : l[i].toNat < 256 := l[i].toNat_lt
    have h7 : 256 ^ i ≤ 256 ^ 7 := Nat.pow_le_pow_right (by omega) (by omega)
    have h8 : (256 : Nat) ^ 7 = 72057594037927936 := by decide
    rw [S_octet_Get_3_eq, decide_eq_true (by omega), cond_true, idx, Option.bind_some, ld1_of H, List.getElem?_map, List.getElem?_eq_getElem hil, show Option.map byteV (some l[i]) = some (byteV l[i]) from rfl, Option.bind_some, show asI .u8 (byteV l[i]) = some (l[i].toNat : Int) from rfl, Option.bind_some, or_step (by omega) hb, hnext]
    rw [get_loop H hl m (i + 1) _ (by omega) (by rw [Nat.pow_succ]; omega), List.drop_eq_getElem_cons hil]
    rfl
theorem beV_lt : ∀ (l : List UInt8) (n i : Nat), n < 256 ^ i → beV l n < 256 ^ (i + l.length)
  | [], n, i, h => h
  | c :: l, n, i, h => by
    have hb : c.toNat < 256 := c.toNat_lt
    have := beV_lt l (256 * n + c.toNat) (i + 1) (by rw [Nat.pow_succ]; omega)
    rw [List.length_cons, show i + (l.length + 1) = i + 1 + l.length by omega]
    exact this
def getN (s : ByteArray) (a k : Nat) : Nat := beV (s.extract a (a + k)).data.toList 0
def getB (s : ByteArray) (a k : Int) : Option Nat := if 1 ≤ k ∧ k ≤ 8 ∧ 0 ≤ a ∧ a + k ≤ s.size then (if getN s a.toNat k.toNat < 9223372036854775808 then some (getN s a.toNat k.toNat) else none) else none
def getV (r : Option Nat) : AVal := .tup [.lit (.int .i64 ((r.getD 0 : Nat) : Int)), .lit (.bool r.isSome)]
theorem get_all {s : ByteArray} (hs : s.size ≤ 4611686018427387904) (a k : Int) (ha : -9223372036854775808 ≤ a ∧ a ≤ 9223372036854775807) (h : AHeap) : ∃ g, S_octet_Get s a k h = some (getV (getB s a k), g) := by
  have bad : S_octet_Get_2 s a k true h = some (getV none, h) := by rw [S_octet_Get_2_eq, cond_true]; rfl
  rw [S_octet_Get_eq]
  unfold getB
  by_cases h1 : k < 1
  · rw [decide_eq_true h1, cond_true, S_octet_Get_0_eq, cond_true, S_octet_Get_1_eq, cond_true, bad, if_neg (by omega)]; exact ⟨_, rfl⟩
  · rw [decide_eq_false h1, cond_false, S_octet_Get_0_eq]
    by_cases h2 : k > 8
    · rw [decide_eq_true h2, cond_true, S_octet_Get_1_eq, cond_true, bad, if_neg (by omega)]; exact ⟨_, rfl⟩
    · rw [decide_eq_false h2, cond_false, S_octet_Get_1_eq]
      by_cases h3 : a < 0
      · rw [decide_eq_true h3, cond_true, bad, if_neg (by omega)]; exact ⟨_, rfl⟩
      · rw [decide_eq_false h3, cond_false, wrap_i64 (by omega) (by omega)]
        by_cases h4 : (s.size : Int) - k < a
        · rw [decide_eq_true h4, bad, if_neg (by omega)]; exact ⟨_, rfl⟩
        · rw [decide_eq_false h4, if_pos (by omega), S_octet_Get_2_eq, cond_false, wrap_i64 (by omega) (by omega)]
          obtain ⟨p, rfl⟩ := Int.eq_ofNat_of_zero_le (show 0 ≤ a by omega)
          obtain ⟨j, rfl⟩ := Int.eq_ofNat_of_zero_le (show 0 ≤ k by omega)
          have hc : cutS s (p : Int) ((p : Int) + (j : Int)) = some (s.extract p (p + j)) := by
            unfold cutS
            rw [req_true (by omega), Option.bind_some, show ((p : Int) + (j : Int)).toNat = p + j by omega]; rfl
          have hz : (s.extract p (p + j)).data.toList.length = j := by
            have : (s.extract p (p + j)).size = j := by rw [ByteArray.size_extract]; omega
            exact Array.length_toList.trans this
          rw [hc, Option.bind_some]
          have hsz : (s.extract p (p + j)).size = j := by rw [ByteArray.size_extract]; omega
          rw [hsz]
          have L := get_loop (b := h.length) (cellsAt_new h ((s.extract p (p + j)).data.toList.map byteV)) (by omega) j 0 0 (by omega) (by simp)
          rw [hz] at L
          show ∃ g, S_octet_Get_3 ((0 : Nat) : Int) (.sl 1 h.length 0 j) (j : Int) ((0 : Nat) : Int) _ = _
          rw [L, List.drop_zero, S_octet_Get_4_eq]
          have hv := beV_lt (s.extract p (p + j)).data.toList 0 0 (by simp)
          rw [hz, Nat.zero_add] at hv
          have h8 : 256 ^ j ≤ 256 ^ 8 := Nat.pow_le_pow_right (by omega) (by omega)
          have h88 : (256 : Nat) ^ 8 = 18446744073709551616 := by decide
          rw [show beV (s.extract p (p + j)).data.toList 0 = getN s p j from rfl] at hv ⊢
          have hg : getN s p j < 18446744073709551616 := by omega
          have hsh : shrI .u64 ((getN s p j : Nat) : Int) 63 = ((getN s p j / 9223372036854775808 : Nat) : Int) := by
            unfold shrI
            show ((getN s p j : Nat) : Int).fdiv 9223372036854775808 = _
            rw [Int.fdiv_eq_ediv_of_nonneg _ (by omega)]; exact (Int.natCast_ediv _ 9223372036854775808).symm
          rw [hsh, Int.toNat_natCast, Int.toNat_natCast]
          by_cases hb : getN s p j < 9223372036854775808
          · rw [decide_eq_false (by omega), cond_false, if_pos hb, wrap_i64 (by omega) (by omega)]
            exact ⟨_, rfl⟩
          · rw [decide_eq_true (by omega), cond_true, if_neg hb]
            exact ⟨_, rfl⟩
noncomputable def getO (s : ByteArray) (a k : Int) : Option (Option Nat) := jn (if s.size ≤ 4611686018427387904 ∧ -9223372036854775808 ≤ a ∧ a ≤ 9223372036854775807 then some (getB s a k) else none)
theorem getO_some {s : ByteArray} {a : Int} (hs : s.size ≤ 4611686018427387904) (ha : -9223372036854775808 ≤ a ∧ a ≤ 9223372036854775807) (k : Int) : getO s a k = some (getB s a k) := by unfold getO; rw [jn_eq, if_pos ⟨hs, ha⟩]
theorem get_of {s : ByteArray} {a k : Int} {z : Option Nat} (h0 : getO s a k = some z) (h : AHeap) : ACalls Try.prog 129 [.lit (.string s), .lit (.int .i64 a), .lit (.int .i64 k)] h fun e g => e = .ret (getV z) ∧ g = h := by
  unfold getO at h0
  rw [jn_eq] at h0
  split at h0
  · rename_i hb
    cases h0
    obtain ⟨g, e⟩ := get_all hb.1 a k hb.2 []
    exact acalls_plain rfl rfl ((S_octet_Get_ends e selfR).mono fun e g h => h.1) h
  · cases h0
noncomputable def w_octet_Get : XC := .q fun R args h K => match args with
  | [.lit (.string s), .lit (.int .i64 a), .lit (.int .i64 k)] => (getO s a k).bind fun z => K (.tup [(.lit (.int .i64 (((z.getD 0 : Nat) : Int)))), (.lit (.bool (z.isSome)))])
  | _ => none
theorem w_octet_Get_ok : XC.Nat w_octet_Get ∧ XC.Ok Try.prog 129 w_octet_Get := by
  refine ⟨fun R args h K => ?_, tc129, fun args h v hx => ?_⟩
  · dsimp only; split <;> simp [Option.bind_assoc, mkP]
  · dsimp only at hx; split at hx
    · obtain ⟨z, hopt, hx⟩ := Option.bind_eq_some_iff.1 hx
      cases hx
      exact get_of hopt _
    · cases hx
end Go.Proofs.Yteclkehnppeobaa.AL
/- Half a byte's sum; the plain law of the sum. -/
namespace Go.Proofs.Yteclkehnppeobaa.AL
set_option linter.unusedVariables false
set_option linter.unusedSimpArgs false
set_option maxRecDepth 100000
open Go
open Go.Proofs.Try
def u32 (b : BitVec 32) : Int := (b.toNat : Int)
theorem u32_bd (b : BitVec 32) : 0 ≤ u32 b ∧ u32 b < 4294967296 := by
  have := b.isLt
  unfold u32; omega
theorem wrap_u32' {n : Nat} (h : n < 4294967296) : IntKind.u32.wrap (n : Int) = (n : Int) := by
  simp only [IntKind.wrap, IntKind.signed, IntKind.bits]; simp; omega
theorem of_u32 (b : BitVec 32) : BitVec.ofInt 32 (u32 b) = b := by
  unfold u32
  rw [BitVec.ofInt_natCast]; simp
theorem xor_u32 (a b : BitVec 32) : xorI .u32 (u32 a) (u32 b) = u32 (a ^^^ b) := by
  unfold xorI
  show IntKind.u32.wrap ((BitVec.ofInt 32 (u32 a) ^^^ BitVec.ofInt 32 (u32 b)).toNat : Int) = _
  rw [of_u32, of_u32, wrap_u32' (BitVec.isLt _)]; rfl
theorem and_u32 (a b : BitVec 32) : andI .u32 (u32 a) (u32 b) = u32 (a &&& b) := by
  unfold andI
  show IntKind.u32.wrap ((BitVec.ofInt 32 (u32 a) &&& BitVec.ofInt 32 (u32 b)).toNat : Int) = _
  rw [of_u32, of_u32, wrap_u32' (BitVec.isLt _)]; rfl
def nibT : List (BitVec 32) := [0x00000000#32, 0x1db71064#32, 0x3b6e20c8#32, 0x26d930ac#32, 0x76dc4190#32, 0x6b6b51f4#32, 0x4db26158#32, 0x5005713c#32, 0xedb88320#32, 0xf00f9344#32, 0xd6d6a3e8#32, 0xcb61b38c#32, 0x9b64c2b0#32, 0x86d3d2d4#32, 0xa00ae278#32, 0xbdbdf21c#32]
def nibB (a : BitVec 32) : BitVec 32 := nibT.getD (a &&& 15#32).toNat 0#32
def nibZ : List Int := [0, 498536548, 997073096, 651767980, 1994146192, 1802195444, 1303535960, 1342533948, 3988292384, 4027552580, 3604390888, 3412177804, 2607071920, 2262029012, 2685067896, 3183342108]
theorem nibZ_eq : nibZ = nibT.map u32 := by decide
def nibV : List AVal := nibZ.map fun z => .lit (.int .u32 z)
theorem nib_lt (a : BitVec 32) : (a &&& 15#32).toNat < 16 := by
  rw [BitVec.toNat_and]
  have : (15#32).toNat = 2 ^ 4 - 1 := rfl
  rw [this, Nat.and_two_pow_sub_one_eq_mod]; omega
theorem stAll {n : Nat} {h : AHeap} {b : Nat} {cs vs : List AVal} (H : cellsAt h b = some cs) (hc : cs.length = n) (hv : vs.length = n) (ho : vs.all (·.one) = true) : stn n h (.ptr b 0) vs = some (h.set b (.cells vs)) := by
  have e : splice cs 0 vs = vs := by
    unfold splice
    rw [List.take_zero, List.nil_append, List.drop_of_length_le (by omega), List.append_nil]
  rw [stn_of H ho hv.symm (by omega), e]
-- chainman/crc.nibble: function 99
noncomputable def Ecrc_nibble : XE := { T := tabOf [(50, r50), (170, r170)], C := [], D := [], Ms := [], Ml := [], Mo := [], n := 9 }
theorem Ecrc_nibble_ok : XE.Ok Ecrc_nibble Try.prog := ⟨tabOf_ok (⟨r50_ok, ⟨r170_ok, trivial⟩⟩), trivial, ydOk_none, trivial⟩
noncomputable def c99 : Code := bodyOf f99
noncomputable def S_crc_nibble (n0 : Int) (h : AHeap) : Option (AVal × AHeap) := xfun Ecrc_nibble f99 [(.lit (.int .u32 n0))] h
theorem S_crc_nibble_eq (n0 : Int) (h : AHeap) : S_crc_nibble n0 h =
 (stn 16 ((psh h (.cells [(.lit (.int .u32 0)), (.lit (.int .u32 0)), (.lit (.int .u32 0)), (.lit (.int .u32 0)), (.lit (.int .u32 0)), (.lit (.int .u32 0)), (.lit (.int .u32 0)), (.lit (.int .u32 0)), (.lit (.int .u32 0)), (.lit (.int .u32 0)), (.lit (.int .u32 0)), (.lit (.int .u32 0)), (.lit (.int .u32 0)), (.lit (.int .u32 0)), (.lit (.int .u32 0)), (.lit (.int .u32 0))]))) (.ptr h.length 0) ([(.lit (.int .u32 0)), (.lit (.int .u32 498536548)), (.lit (.int .u32 997073096)), (.lit (.int .u32 651767980)), (.lit (.int .u32 1994146192)), (.lit (.int .u32 1802195444)), (.lit (.int .u32 1303535960)), (.lit (.int .u32 1342533948)), (.lit (.int .u32 3988292384)), (.lit (.int .u32 4027552580)), (.lit (.int .u32 3604390888)), (.lit (.int .u32 3412177804)), (.lit (.int .u32 2607071920)), (.lit (.int .u32 2262029012)), (.lit (.int .u32 2685067896)), (.lit (.int .u32 3183342108))])).bind fun h1 =>
 (aidxP 16 1 (.ptr h.length 0) (andI .u32 n0 15)).bind fun p2 =>
 (ld1 h1 p2).bind fun x3 =>
 (asI .u32 x3).bind fun n4 =>
 some ((.lit (.int .u32 n4)), h1) := by kernel_rfl
theorem S_crc_nibble_ends {n0 : Int} {h h' : AHeap} {v : AVal} {R : AEnd → AHeap → Prop} (hx : S_crc_nibble n0 h = some (v, h')) (hR : HOk h → h.length ≤ h'.length → ABody.AEnds h h' (.ret v) R) : ACalls Try.prog 99 [(.lit (.int .u32 n0))] h R := xfun_ends Ecrc_nibble_ok tmix (i := 99) (by rfl) (by kernel_rfl) (by kernel_rfl) hx hR
theorem nibble_x (a : BitVec 32) (h : AHeap) : ∃ g, S_crc_nibble (u32 a) h = some (.lit (.int .u32 (u32 (nibB a))), g) := by
  have Z : cellsAt (psh h (.cells (List.replicate 16 (.lit (.int .u32 0))))) h.length = some (List.replicate 16 (.lit (.int .u32 0))) := cellsAt_new h _
  have e1 := stAll (n := 16) (vs := nibV) Z rfl rfl (by decide)
  have hk := nib_lt a
  have e2 : aidxP 16 1 (.ptr h.length 0) (andI .u32 (u32 a) 15) = some (.ptr h.length (a &&& 15#32).toNat) := by
    rw [show (15 : Int) = u32 15#32 from rfl, and_u32]
    unfold aidxP u32
    rw [req_true (by omega)]; simp
  have hv : nibV[(a &&& 15#32).toNat]? = some (.lit (.int .u32 (u32 (nibB a)))) := by
    have hl : (a &&& 15#32).toNat < nibT.length := hk
    unfold nibV nibB
    rw [nibZ_eq, List.getElem?_map, List.getElem?_map, List.getElem?_eq_getElem hl, List.getD_eq_getElem?_getD, List.getElem?_eq_getElem hl]; rfl
  refine ⟨(psh h (.cells (List.replicate 16 (.lit (.int .u32 0))))).set h.length (.cells nibV), ?_⟩
  rw [S_crc_nibble_eq]
  refine (congrArg (Option.bind · _) (show _ = _ from e1)).trans ?_
  rw [Option.bind_some, e2, Option.bind_some, ld1_of (cellsAt_set Z), hv, Option.bind_some]
  rfl
noncomputable def nibO (n : Int) : Option Int := jn (if 0 ≤ n ∧ n < 4294967296 then some (u32 (nibB (BitVec.ofInt 32 n))) else none)   -- hidden from the kernel's comparison
theorem nibO_u32 (a : BitVec 32) : nibO (u32 a) = some (u32 (nibB a)) := by
  unfold nibO
  rw [jn_eq, if_pos (u32_bd a), of_u32]
theorem nibble_of {n z : Int} (h0 : nibO n = some z) (h : AHeap) : ACalls Try.prog 99 [.lit (.int .u32 n)] h fun e g => e = .ret (.lit (.int .u32 z)) ∧ g = h := by
  unfold nibO at h0
  rw [jn_eq] at h0
  split at h0
  · rename_i hb
    cases h0
    have hn : n = u32 (BitVec.ofInt 32 n) := by
      unfold u32
      obtain ⟨m, rfl⟩ := Int.eq_ofNat_of_zero_le hb.1
      rw [BitVec.ofInt_natCast, BitVec.toNat_ofNat, Nat.mod_eq_of_lt (by omega)]
    obtain ⟨g, e⟩ := nibble_x (BitVec.ofInt 32 n) []
    rw [← hn] at e
    exact acalls_plain rfl rfl ((S_crc_nibble_ends e selfR).mono fun e g h => h.1) h
  · cases h0
noncomputable def w_crc_nibble : XC := .q fun R args h K => match args with
  | [.lit (.int .u32 n)] => (nibO n).bind fun z => K (.lit (.int .u32 z))
  | _ => none
theorem w_crc_nibble_ok : XC.Nat w_crc_nibble ∧ XC.Ok Try.prog 99 w_crc_nibble := by
  refine ⟨fun R args h K => ?_, tc99, fun args h v hx => ?_⟩
  · dsimp only; split <;> simp [Option.bind_assoc, mkP]
  · dsimp only at hx; split at hx
    · obtain ⟨z, hopt, hx⟩ := Option.bind_eq_some_iff.1 hx
      cases hx
      exact nibble_of hopt _
    · cases hx
-- chainman/crc.More: function 56
noncomputable def Ecrc_More : XE := { T := tabOf [(3, r3), (5, r5), (9, r9), (50, r50), (121, r121)], C := [(99, w_crc_nibble)], D := [], Ms := [(9, [5])], Ml := [(3, [5, 11, 12, 13])], Mo := [], n := 34 }
theorem Ecrc_More_ok : XE.Ok Ecrc_More Try.prog := ⟨tabOf_ok (⟨r3_ok, ⟨r5_ok, ⟨r9_ok, ⟨r50_ok, ⟨r121_ok, trivial⟩⟩⟩⟩⟩), (⟨w_crc_nibble_ok, trivial⟩), ydOk_none, trivial⟩
noncomputable def c56 : Code := bodyOf f56
noncomputable def S_crc_More (sum0 : Int) (s1 : ByteArray) (h : AHeap) : Option (AVal × AHeap) := xfun Ecrc_More f56 [(.lit (.int .u32 sum0)), (.lit (.string s1))] h
noncomputable def S_crc_More_0 (n5 : Int) (t11 : AVal) (t12 : Int) (t13 : Int) (h : AHeap) : Option (AVal × AHeap) := xexec Ecrc_More (.loop (ca (ca (cb (ca (cb (cb c56))))))) (AVal × AHeap) [(5, (.lit (.int .u32 n5))), (11, t11), (12, (.lit (.int .i64 t12))), (13, (.lit (.int .i64 t13)))] h (kBlk 0 (kSeq Ecrc_More (cb (cb (cb c56))) (xend Ecrc_More f56)))
noncomputable def S_crc_More_1 (n5 : Int) (h : AHeap) : Option (AVal × AHeap) := jn (xexec Ecrc_More (cb (cb (cb c56))) (AVal × AHeap) [(5, (.lit (.int .u32 n5)))] h (xend Ecrc_More f56))
theorem S_crc_More_eq (sum0 : Int) (s1 : ByteArray) (h : AHeap) : S_crc_More sum0 s1 h =
 (lenV (.sl 1 h.length 0 s1.size)).bind fun n1 =>
 S_crc_More_0 (notI .u32 sum0) (.sl 1 h.length 0 s1.size) n1 0 ((psh h (.cells ((s1).data.toList.map byteV)))) := by kernel_rfl
theorem S_crc_More_0_eq (n5 : Int) (t11 : AVal) (t12 : Int) (t13 : Int) (h : AHeap) : S_crc_More_0 n5 t11 t12 t13 h =
 bif (decide (t13 < t12)) then ((idxP 1 t11 t13).bind fun p2 =>
 (ld1 h p2).bind fun x3 =>
 (asI .u8 x3).bind fun n4 =>
 (nibO (xorI .u32 n5 (IntKind.wrap .u32 n4))).bind fun r5 =>
 (nibO (xorI .u32 (shrI .u32 (xorI .u32 n5 (IntKind.wrap .u32 n4)) 4) r5)).bind fun r6 =>
 S_crc_More_0 (xorI .u32 (shrI .u32 (xorI .u32 (shrI .u32 (xorI .u32 n5 (IntKind.wrap .u32 n4)) 4) r5) 4) r6) t11 t12 (IntKind.wrap .i64 (t13 + 1)) h)
 else (S_crc_More_1 n5 h) := (xexec_loop Ecrc_More Ecrc_More_ok.C.nat _ _ _ _ _).trans (by kernel_rfl)
theorem S_crc_More_1_eq (n5 : Int) (h : AHeap) : S_crc_More_1 n5 h =
 some ((.lit (.int .u32 (notI .u32 n5))), h) := (jn_eq _).trans (by kernel_rfl)
theorem S_crc_More_ends {sum0 : Int} {s1 : ByteArray} {h h' : AHeap} {v : AVal} {R : AEnd → AHeap → Prop} (hx : S_crc_More sum0 s1 h = some (v, h')) (hR : HOk h → h.length ≤ h'.length → ABody.AEnds h h' (.ret v) R) : ACalls Try.prog 56 [(.lit (.int .u32 sum0)), (.lit (.string s1))] h R := xfun_ends Ecrc_More_ok tmix (i := 56) (by rfl) (by kernel_rfl) (by kernel_rfl) hx hR
theorem not_u32 (a : BitVec 32) : notI .u32 (u32 a) = u32 (~~~a) := by
  unfold notI
  show xorI .u32 (u32 (BitVec.allOnes 32)) (u32 a) = _
  rw [xor_u32, BitVec.allOnes_xor]
theorem shr_u32 (a : BitVec 32) : shrI .u32 (u32 a) 4 = u32 (a >>> 4) := by
  unfold shrI u32
  rw [BitVec.toNat_ushiftRight, Nat.shiftRight_eq_div_pow]
  show ((a.toNat : Int).fdiv 16) = _
  rw [Int.fdiv_eq_ediv_of_nonneg _ (by omega)]; omega
def stepB (n : BitVec 32) (b : UInt8) : BitVec 32 :=
  let n := n ^^^ BitVec.ofNat 32 b.toNat
  let n := (n >>> 4) ^^^ nibB n
  (n >>> 4) ^^^ nibB n
def moreB (a : BitVec 32) (l : List UInt8) : BitVec 32 := ~~~(l.foldl stepB (~~~a))
theorem more_loop {h : AHeap} {b : Nat} {l : List UInt8} (H : cellsAt h b = some (l.map byteV)) (hl : l.length ≤ 4611686018427387904) : ∀ (m i : Nat) (a : BitVec 32), i + m = l.length → S_crc_More_0 (u32 a) (.sl 1 b 0 l.length) (l.length : Int) (i : Int) h = some (.lit (.int .u32 (u32 (~~~((l.drop i).foldl stepB a)))), h)
  | 0, i, a, hi => by
    rw [S_crc_More_0_eq, decide_eq_false (by omega), cond_false, S_crc_More_1_eq, List.drop_eq_nil_of_le (by omega), not_u32]; rfl
  | m + 1, i, a, hi => by
    have hil : i < l.length := by omega
    have hnext : IntKind.wrap .i64 ((i : Int) + 1) = ((i + 1 : Nat) : Int) := by rw [wrap_i64 (by omega) (by omega)]; omega
    have idx : idxP 1 (.sl 1 b 0 l.length) (i : Int) = some (.ptr b i) := by
      unfold idxP; simp only [Nat.beq_refl]; rw [req_true (by omega)]; simp
    have hb : l[i].toNat < 256 := l[i].toNat_lt
    have hw : IntKind.wrap .u32 (l[i].toNat : Int) = u32 (BitVec.ofNat 32 l[i].toNat) := by
      rw [wrap_u32' (by omega)]
      unfold u32
      rw [BitVec.toNat_ofNat, Nat.mod_eq_of_lt (by omega)]
    rw [S_crc_More_0_eq, decide_eq_true (by omega), cond_true, idx, Option.bind_some, ld1_of H, List.getElem?_map, List.getElem?_eq_getElem hil]
    rw [show Option.map byteV (some l[i]) = some (byteV l[i]) from rfl, Option.bind_some, show asI .u8 (byteV l[i]) = some (l[i].toNat : Int) from rfl, Option.bind_some, hw, xor_u32, nibO_u32, Option.bind_some, shr_u32, xor_u32, nibO_u32, Option.bind_some, shr_u32, xor_u32, hnext, more_loop H hl m (i + 1) _ (by omega), List.drop_eq_getElem_cons hil]
    rfl
theorem more_run (a : BitVec 32) {s : ByteArray} (hs : s.size ≤ 4611686018427387904) (h : AHeap) : S_crc_More (u32 a) s h = some (.lit (.int .u32 (u32 (moreB a s.data.toList))), psh h (.cells (s.data.toList.map byteV))) := by
  have hl : s.data.toList.length = s.size := Array.length_toList
  rw [S_crc_More_eq, not_u32]
  have := more_loop (b := h.length) (cellsAt_new h (s.data.toList.map byteV)) (by omega) s.data.toList.length 0 (~~~a) (by omega)
  rw [hl] at this
  exact this
end Go.Proofs.Yteclkehnppeobaa.AL
/- Bytes closed by their sum. -/
namespace Go.Proofs.Yteclkehnppeobaa.AL
set_option linter.unusedVariables false
set_option linter.unusedSimpArgs false
set_option maxRecDepth 100000
open Go
open Go.Proofs.Try
noncomputable def moreO (n : Int) (s : ByteArray) : Option Int := jn (if (0 ≤ n ∧ n < 4294967296) ∧ s.size ≤ 4611686018427387904 then some (u32 (moreB (BitVec.ofInt 32 n) s.data.toList)) else none)
theorem moreO_u32 (a : BitVec 32) {s : ByteArray} (hs : s.size ≤ 4611686018427387904) : moreO (u32 a) s = some (u32 (moreB a s.data.toList)) := by
  unfold moreO
  rw [jn_eq, if_pos ⟨u32_bd a, hs⟩, of_u32]
theorem more_of {n z : Int} {s : ByteArray} (h0 : moreO n s = some z) (h : AHeap) : ACalls Try.prog 56 [.lit (.int .u32 n), .lit (.string s)] h fun e g => e = .ret (.lit (.int .u32 z)) ∧ g = h := by
  unfold moreO at h0
  rw [jn_eq] at h0
  split at h0
  · rename_i hb
    cases h0
    have hn : n = u32 (BitVec.ofInt 32 n) := by
      unfold u32
      obtain ⟨m, rfl⟩ := Int.eq_ofNat_of_zero_le hb.1.1
      rw [BitVec.ofInt_natCast, BitVec.toNat_ofNat, Nat.mod_eq_of_lt (by omega)]
    have e := more_run (BitVec.ofInt 32 n) hb.2 []
    rw [← hn] at e
    exact acalls_plain rfl rfl ((S_crc_More_ends e selfR).mono fun e g h => h.1) h
  · cases h0
noncomputable def w_crc_More : XC := .q fun R args h K => match args with
  | [.lit (.int .u32 n), .lit (.string s)] => (moreO n s).bind fun z => K (.lit (.int .u32 z))
  | _ => none
theorem w_crc_More_ok : XC.Nat w_crc_More ∧ XC.Ok Try.prog 56 w_crc_More := by
  refine ⟨fun R args h K => ?_, tc56, fun args h v hx => ?_⟩
  · dsimp only; split <;> simp [Option.bind_assoc, mkP]
  · dsimp only at hx; split at hx
    · obtain ⟨z, hopt, hx⟩ := Option.bind_eq_some_iff.1 hx
      cases hx
      exact more_of hopt _
    · cases hx
-- chainman/crc.Of: function 122
noncomputable def Ecrc_Of : XE := { T := tabOf [(9, r9), (50, r50)], C := [(56, w_crc_More)], D := [], Ms := [], Ml := [], Mo := [], n := 5 }
theorem Ecrc_Of_ok : XE.Ok Ecrc_Of Try.prog := ⟨tabOf_ok (⟨r9_ok, ⟨r50_ok, trivial⟩⟩), (⟨w_crc_More_ok, trivial⟩), ydOk_none, trivial⟩
noncomputable def c122 : Code := bodyOf f122
noncomputable def S_crc_Of (s0 : ByteArray) (h : AHeap) : Option (AVal × AHeap) := xfun Ecrc_Of f122 [(.lit (.string s0))] h
theorem S_crc_Of_eq (s0 : ByteArray) (h : AHeap) : S_crc_Of s0 h =
 (moreO 0 s0).bind fun r1 =>
 some ((.lit (.int .u32 r1)), h) := by kernel_rfl
theorem S_crc_Of_ends {s0 : ByteArray} {h h' : AHeap} {v : AVal} {R : AEnd → AHeap → Prop} (hx : S_crc_Of s0 h = some (v, h')) (hR : HOk h → h.length ≤ h'.length → ABody.AEnds h h' (.ret v) R) : ACalls Try.prog 122 [(.lit (.string s0))] h R := xfun_ends Ecrc_Of_ok tmix (i := 122) (by rfl) (by kernel_rfl) (by kernel_rfl) hx hR
noncomputable def w_crc_Of : XC := .q fun R args h K => match args with
  | [.lit (.string a0)] => (onlyR (S_crc_Of a0 h) h).bind fun r => K r
  | _ => none
theorem w_crc_Of_ok : XC.Nat w_crc_Of ∧ XC.Ok Try.prog 122 w_crc_Of := by
  refine ⟨fun R args h K => ?_, tc122, fun args h v hx => ?_⟩
  · dsimp only; split <;> simp [Option.bind_assoc, mkP]
  · dsimp only at hx; split at hx
    · obtain ⟨r, hopt, hx⟩ := Option.bind_eq_some_iff.1 hx
      cases hx
      exact (by have hopt := onlyR_some hopt; exact S_crc_Of_ends hopt selfR)
    · cases hx
-- chainman/crc.Close: function 85
noncomputable def Ecrc_Close : XE := { T := tabOf [(3, r3), (5, r5), (9, r9), (50, r50), (121, r121), (164, r164)], C := [(122, w_crc_Of)], D := [], Ms := [(8, [0, 3])], Ml := [(4, [0, 3, 4, 8])], Mo := [], n := 23 }
theorem Ecrc_Close_ok : XE.Ok Ecrc_Close Try.prog := ⟨tabOf_ok (⟨r3_ok, ⟨r5_ok, ⟨r9_ok, ⟨r50_ok, ⟨r121_ok, ⟨r164_ok, trivial⟩⟩⟩⟩⟩⟩), (⟨w_crc_Of_ok, trivial⟩), ydOk_none, trivial⟩
noncomputable def c85 : Code := bodyOf f85
noncomputable def S_crc_Close (s0 : ByteArray) (h : AHeap) : Option (AVal × AHeap) := xfun Ecrc_Close f85 [(.lit (.string s0))] h
noncomputable def S_crc_Close_0 (s0 : ByteArray) (b3 : Nat) (n4 : Int) (t8 : Int) (h : AHeap) : Option (AVal × AHeap) := xexec Ecrc_Close (.loop (ca (ca (cb (ca (cb (cb (cb c85)))))))) (AVal × AHeap) [(0, (.lit (.string s0))), (3, (.ptr b3 0)), (4, (.lit (.int .u32 n4))), (8, (.lit (.int .i64 t8)))] h (kBlk 0 (kSeq Ecrc_Close (cb (cb (cb (cb c85)))) (xend Ecrc_Close f85)))
noncomputable def S_crc_Close_1 (s0 : ByteArray) (b3 : Nat) (h : AHeap) : Option (AVal × AHeap) := jn (xexec Ecrc_Close (cb (cb (cb (cb c85)))) (AVal × AHeap) [(0, (.lit (.string s0))), (3, (.ptr b3 0))] h (xend Ecrc_Close f85))
theorem S_crc_Close_eq (s0 : ByteArray) (h : AHeap) : S_crc_Close s0 h =
 (onlyR (S_crc_Of s0 ((psh h (.cells [(.lit (.int .u8 0)), (.lit (.int .u8 0)), (.lit (.int .u8 0)), (.lit (.int .u8 0))])))) ((psh h (.cells [(.lit (.int .u8 0)), (.lit (.int .u8 0)), (.lit (.int .u8 0)), (.lit (.int .u8 0))])))).bind fun r1 =>
 (asI .u32 r1).bind fun n2 =>
 S_crc_Close_0 s0 h.length n2 0 ((psh h (.cells [(.lit (.int .u8 0)), (.lit (.int .u8 0)), (.lit (.int .u8 0)), (.lit (.int .u8 0))]))) := by kernel_rfl
theorem S_crc_Close_0_eq (s0 : ByteArray) (b3 : Nat) (n4 : Int) (t8 : Int) (h : AHeap) : S_crc_Close_0 s0 b3 n4 t8 h =
 bif (decide (t8 < 4)) then ((req (0 ≤ (IntKind.wrap .i64 (8 * t8)))).bind fun u3 =>
 (aidxP 4 1 (.ptr b3 0) t8).bind fun p4 =>
 (st1 h p4 (.lit (.int .u8 (IntKind.wrap .u8 (shrI .u32 n4 (IntKind.wrap .i64 (8 * t8))))))).bind fun h5 =>
 S_crc_Close_0 s0 b3 n4 (IntKind.wrap .i64 (t8 + 1)) h5)
 else (S_crc_Close_1 s0 b3 h) := (xexec_loop Ecrc_Close Ecrc_Close_ok.C.nat _ _ _ _ _).trans (by kernel_rfl)
theorem S_crc_Close_1_eq (s0 : ByteArray) (b3 : Nat) (h : AHeap) : S_crc_Close_1 s0 b3 h =
 (cutA 4 1 h (.ptr b3 0) 0 4).bind fun v6 =>
 (bytesOf h v6).bind fun s7 =>
 (req (s0.size + s7.size ≤ 9223372036854775807)).bind fun u8 =>
 some ((.lit (.string (s0 ++ s7))), h) := (jn_eq _).trans (by kernel_rfl)
theorem S_crc_Close_ends {s0 : ByteArray} {h h' : AHeap} {v : AVal} {R : AEnd → AHeap → Prop} (hx : S_crc_Close s0 h = some (v, h')) (hR : HOk h → h.length ≤ h'.length → ABody.AEnds h h' (.ret v) R) : ACalls Try.prog 85 [(.lit (.string s0))] h R := xfun_ends Ecrc_Close_ok tmix (i := 85) (by rfl) (by kernel_rfl) (by kernel_rfl) hx hR
def sumB (s : ByteArray) : BitVec 32 := moreB 0#32 s.data.toList
theorem sum_run {s : ByteArray} (hs : s.size ≤ 4611686018427387904) (h : AHeap) : S_crc_Of s h = some (.lit (.int .u32 (u32 (sumB s))), h) := by
  rw [S_crc_Of_eq, show (0 : Int) = u32 0#32 from rfl, moreO_u32 _ hs]; rfl
def sumAt (s : ByteArray) (i : Nat) : UInt8 := UInt8.ofNat ((sumB s).toNat / 2 ^ (8 * i))
def closeB (s : ByteArray) : ByteArray := s ++ (⟨#[sumAt s 0, sumAt s 1, sumAt s 2, sumAt s 3]⟩ : ByteArray)
theorem sumAt_u8 (s : ByteArray) (i : Nat) : IntKind.wrap .u8 (((sumB s).toNat / 2 ^ (8 * i) : Nat) : Int) = ((sumAt s i).toNat : Int) := by
  rw [wrap_u8]
  unfold sumAt
  simp
theorem close_byte (s : ByteArray) {i : Nat} (hi : i < 4) : IntKind.wrap .u8 (shrI .u32 (u32 (sumB s)) (IntKind.wrap .i64 (8 * (i : Int)))) = ((sumAt s i).toNat : Int) := by
  rw [← sumAt_u8, wrap_i64 (by omega) (by omega)]
  congr 1
  unfold shrI u32
  have e : min (8 * (i : Int)).toNat IntKind.u32.bits = 8 * i := by
    show min (8 * (i : Int)).toNat 32 = _
    omega
  rw [e]
  have : ((2 : Int) ^ (8 * i)) = ((2 ^ (8 * i) : Nat) : Int) := by simp
  rw [this, Int.fdiv_eq_ediv_of_nonneg _ (Int.natCast_nonneg _)]
  exact (Int.natCast_ediv _ _).symm
theorem close_run {s : ByteArray} (hs : s.size ≤ 4611686018427387904) (h : AHeap) : ∃ g, S_crc_Close s h = some (.lit (.string (closeB s)), g) := by
  have Z : cellsAt (psh h (.cells [(.lit (.int .u8 0)), (.lit (.int .u8 0)), (.lit (.int .u8 0)), (.lit (.int .u8 0))])) h.length = some [(.lit (.int .u8 0)), (.lit (.int .u8 0)), (.lit (.int .u8 0)), (.lit (.int .u8 0))] := cellsAt_new h _
  have step : ∀ (i : Nat) (g : AHeap) (cs : List AVal), i < 4 → cellsAt g h.length = some cs → cs.length = 4 → S_crc_Close_0 s h.length (u32 (sumB s)) (i : Int) g = S_crc_Close_0 s h.length (u32 (sumB s)) ((i + 1 : Nat) : Int) (g.set h.length (.cells (cs.set i (byteV (sumAt s i))))) := fun i g cs hi H hc => by
    have hnext : IntKind.wrap .i64 ((i : Int) + 1) = ((i + 1 : Nat) : Int) := by rw [wrap_i64 (by omega) (by omega)]; omega
    rw [S_crc_Close_0_eq, decide_eq_true (by omega), cond_true, req_true (by rw [wrap_i64 (by omega) (by omega)]; omega), Option.bind_some, close_byte s hi]
    have ix : aidxP 4 1 (.ptr h.length 0) (i : Int) = some (.ptr h.length i) := by
      unfold aidxP; rw [req_true (by omega)]; simp
    rw [ix, Option.bind_some, show (AVal.lit (.int .u8 ((sumAt s i).toNat : Int))) = byteV (sumAt s i) from rfl, st1_of H rfl (by omega), Option.bind_some, hnext]
  rw [S_crc_Close_eq, sum_run hs, onlyR_same]
  show ∃ g, S_crc_Close_0 s h.length (u32 (sumB s)) ((0 : Nat) : Int) _ = _
  rw [step 0 _ _ (by omega) Z rfl, step 1 _ _ (by omega) (cellsAt_set Z) rfl, step 2 _ _ (by omega) (cellsAt_set (cellsAt_set Z)) rfl, step 3 _ _ (by omega) (cellsAt_set (cellsAt_set (cellsAt_set Z))) rfl]
  generalize hg : List.set (List.set (List.set (List.set (psh h (.cells [(.lit (.int .u8 0)), (.lit (.int .u8 0)), (.lit (.int .u8 0)), (.lit (.int .u8 0))])) h.length _) h.length _) h.length _) h.length _ = g
  have F : cellsAt g h.length = some ([sumAt s 0, sumAt s 1, sumAt s 2, sumAt s 3].map byteV) := by
    rw [← hg]
    exact cellsAt_set (cellsAt_set (cellsAt_set (cellsAt_set Z)))
  have hb : bytesOf g (.sl 1 h.length 0 4) = some (⟨#[sumAt s 0, sumAt s 1, sumAt s 2, sumAt s 3]⟩ : ByteArray) := by
    show (cellsAt g h.length).bind _ = _
    rw [F, Option.bind_some]
    exact (congrArg (Option.bind · _) (unbytes_map [sumAt s 0, sumAt s 1, sumAt s 2, sumAt s 3])).trans rfl
  have hz : (⟨#[sumAt s 0, sumAt s 1, sumAt s 2, sumAt s 3]⟩ : ByteArray).size = 4 := rfl
  rw [S_crc_Close_0_eq]
  show ∃ g', S_crc_Close_1 s h.length g = _
  rw [S_crc_Close_1_eq]
  have hcut : cutA 4 1 g (.ptr h.length 0) 0 4 = some (.sl 1 h.length 0 4) := by
    unfold cutA
    dsimp only
    rw [F, Option.bind_some, req_true (by simp)]; rfl
  rw [hcut, Option.bind_some, hb, Option.bind_some, req_true (by omega), Option.bind_some]
  exact ⟨g, rfl⟩
noncomputable def closeO (s : ByteArray) : Option ByteArray := jn (if s.size ≤ 4611686018427387904 then some (closeB s) else none)
theorem closeO_some {s : ByteArray} (hs : s.size ≤ 4611686018427387904) : closeO s = some (closeB s) := by unfold closeO; rw [jn_eq, if_pos hs]
theorem close_of {s z : ByteArray} (h0 : closeO s = some z) (h : AHeap) : ACalls Try.prog 85 [.lit (.string s)] h fun e g => e = .ret (.lit (.string z)) ∧ g = h := by
  unfold closeO at h0
  rw [jn_eq] at h0
  split at h0
  · rename_i hb
    cases h0
    obtain ⟨g, e⟩ := close_run hb []
    exact acalls_plain rfl rfl ((S_crc_Close_ends e selfR).mono fun e g h => h.1) h
  · cases h0
noncomputable def w_crc_Close : XC := .q fun R args h K => match args with
  | [.lit (.string s)] => (closeO s).bind fun z => K (.lit (.string z))
  | _ => none
theorem w_crc_Close_ok : XC.Nat w_crc_Close ∧ XC.Ok Try.prog 85 w_crc_Close := by
  refine ⟨fun R args h K => ?_, tc85, fun args h v hx => ?_⟩
  · dsimp only; split <;> simp [Option.bind_assoc, mkP]
  · dsimp only at hx; split at hx
    · obtain ⟨z, hopt, hx⟩ := Option.bind_eq_some_iff.1 hx
      cases hx
      exact close_of hopt _
    · cases hx
-- chainman/crc.Open: function 92
noncomputable def Ecrc_Open : XE := { T := tabOf [(3, r3), (4, r4), (9, r9)], C := [(85, w_crc_Close)], D := [], Ms := [], Ml := [], Mo := [(2010, [0, 4, 17])], n := 21 }
theorem Ecrc_Open_ok : XE.Ok Ecrc_Open Try.prog := ⟨tabOf_ok (⟨r3_ok, ⟨r4_ok, ⟨r9_ok, trivial⟩⟩⟩), (⟨w_crc_Close_ok, trivial⟩), ydOk_none, trivial⟩
noncomputable def c92 : Code := bodyOf f92
noncomputable def S_crc_Open (s0 : ByteArray) (h : AHeap) : Option (AVal × AHeap) := xfun Ecrc_Open f92 [(.lit (.string s0))] h
noncomputable def S_crc_Open_0 (s0 : ByteArray) (at4 : Int) (t17 : Bool) (h : AHeap) : Option (AVal × AHeap) := jo Ecrc_Open 2 (rops (ca (ca (cb (cb c92))))) ((rops (ca (ca (cb (cb c92))))).toList.drop 10) 10 [(0, (.lit (.string s0))), (4, (.lit (.int .i64 at4))), (17, (.lit (.bool t17)))] h (kN (kSeq Ecrc_Open (cb (ca (cb (cb c92)))) (kSeq Ecrc_Open (cb (cb (cb c92))) (xend Ecrc_Open f92))))
theorem S_crc_Open_eq (s0 : ByteArray) (h : AHeap) : S_crc_Open s0 h =
 bif (decide ((IntKind.wrap .i64 ((s0.size : Int) - 4)) < 0)) then (S_crc_Open_0 s0 (IntKind.wrap .i64 ((s0.size : Int) - 4)) true h)
 else ((cutS s0 0 (IntKind.wrap .i64 ((s0.size : Int) - 4))).bind fun s2 =>
 (closeO s2).bind fun r3 =>
 S_crc_Open_0 s0 (IntKind.wrap .i64 ((s0.size : Int) - 4)) (!decide (r3 = s0)) h) := by kernel_rfl
theorem S_crc_Open_0_eq (s0 : ByteArray) (at4 : Int) (t17 : Bool) (h : AHeap) : S_crc_Open_0 s0 at4 t17 h =
 bif t17 then (some ((.tup [(.lit (.string (⟨#[]⟩ : ByteArray))), (.lit (.bool false))]), h))
 else ((cutS s0 0 at4).bind fun s4 =>
 some ((.tup [(.lit (.string s4)), (.lit (.bool true))]), h)) := (jo_eq ..).trans (by kernel_rfl)
theorem S_crc_Open_ends {s0 : ByteArray} {h h' : AHeap} {v : AVal} {R : AEnd → AHeap → Prop} (hx : S_crc_Open s0 h = some (v, h')) (hR : HOk h → h.length ≤ h'.length → ABody.AEnds h h' (.ret v) R) : ACalls Try.prog 92 [(.lit (.string s0))] h R := xfun_ends Ecrc_Open_ok tmix (i := 92) (by rfl) (by kernel_rfl) (by kernel_rfl) hx hR
def openB (s : ByteArray) : Option ByteArray := if s.size < 4 then none else if closeB (s.extract 0 (s.size - 4)) = s then some (s.extract 0 (s.size - 4)) else none
theorem open_run {s : ByteArray} (hs : s.size ≤ 4611686018427387904) (h : AHeap) : S_crc_Open s h = some (.tup [.lit (.string ((openB s).getD ⟨#[]⟩)), .lit (.bool (openB s).isSome)], h) := by
  rw [S_crc_Open_eq, wrap_i64 (by omega) (by omega)]
  unfold openB
  by_cases h4 : s.size < 4
  · rw [decide_eq_true (by omega), cond_true, S_crc_Open_0_eq, cond_true, if_pos h4]; rfl
  · rw [decide_eq_false (by omega), cond_false, if_neg h4]
    have hc : cutS s 0 ((s.size : Int) - 4) = some (s.extract 0 (s.size - 4)) := by
      unfold cutS
      rw [req_true (by omega), Option.bind_some, show ((s.size : Int) - 4).toNat = s.size - 4 by omega]; rfl
    have hz : (s.extract 0 (s.size - 4)).size ≤ 4611686018427387904 := by
      rw [ByteArray.size_extract]; omega
    rw [hc, Option.bind_some, closeO_some hz, Option.bind_some, S_crc_Open_0_eq]
    by_cases he : closeB (s.extract 0 (s.size - 4)) = s
    · rw [decide_eq_true he, if_pos he, hc]; rfl
    · rw [decide_eq_false he, if_neg he]; rfl
theorem closeB_size (s : ByteArray) : (closeB s).size = s.size + 4 := ByteArray.size_append
theorem open_close (s : ByteArray) : openB (closeB s) = some s := by
  have e : (closeB s).extract 0 ((closeB s).size - 4) = s := by
    rw [closeB_size, Nat.add_sub_cancel]
    unfold closeB
    apply ByteArray.ext
    rw [ByteArray.data_extract, ByteArray.data_append]
    apply Array.toList_inj.1
    rw [Array.toList_extract, Array.toList_append, List.extract_eq_take_drop, List.drop_zero, Nat.sub_zero]
    exact List.take_left' Array.length_toList
  unfold openB
  rw [if_neg (by rw [closeB_size]; omega), e, if_pos rfl]
noncomputable def openO (s : ByteArray) : Option (Option ByteArray) := jn (if s.size ≤ 4611686018427387904 then some (openB s) else none)
theorem openO_some {s : ByteArray} (hs : s.size ≤ 4611686018427387904) : openO s = some (openB s) := by unfold openO; rw [jn_eq, if_pos hs]
theorem open_of {s : ByteArray} {z : Option ByteArray} (h0 : openO s = some z) (h : AHeap) : ACalls Try.prog 92 [.lit (.string s)] h fun e g => e = .ret (.tup [.lit (.string (z.getD ⟨#[]⟩)), .lit (.bool z.isSome)]) ∧ g = h := by
  unfold openO at h0
  rw [jn_eq] at h0
  split at h0
  · rename_i hb
    cases h0
    exact S_crc_Open_ends (open_run hb h) selfR
  · cases h0
noncomputable def w_crc_Open : XC := .q fun R args h K => match args with
  | [.lit (.string s)] => (openO s).bind fun z => K (.tup [(.lit (.string (z.getD ⟨#[]⟩))), (.lit (.bool (z.isSome)))])
  | _ => none
theorem w_crc_Open_ok : XC.Nat w_crc_Open ∧ XC.Ok Try.prog 92 w_crc_Open := by
  refine ⟨fun R args h K => ?_, tc92, fun args h v hx => ?_⟩
  · dsimp only; split <;> simp [Option.bind_assoc, mkP]
  · dsimp only at hx; split at hx
    · obtain ⟨z, hopt, hx⟩ := Option.bind_eq_some_iff.1 hx
      cases hx
      exact open_of hopt _
    · cases hx
end Go.Proofs.Yteclkehnppeobaa.AL
/- A closure that captured what nobody turns: its object may be let go. -/
namespace Go.Proofs.Yteclkehnppeobaa.AL
set_option linter.unusedVariables false
set_option linter.unusedSimpArgs false
open Go
theorem ptr_rop {ρ : Env} {h0 : AHeap} {w : World} {cs : List AVal} (hb : HOk h0) (hc : closedL cs = true) (hR : Rel ρ (psh h0 (.cells cs)) w) {u : Value} (hv : VR ρ (psh h0 (.cells cs)) w (.ptr h0.length 0) u) : VR ρ h0 w (.rop cs) u := by
  cases hv with | ptr _ _ hlt =>
  obtain ⟨C, T, fz, h1, _, _, h4, h5⟩ := hR.obj h0.length (.cells cs) (by simp [psh])
  have hf : Fewer h0 (psh h0 (.cells cs)) := Fewer.app _ _
  refine .rop cs _ _ C T fz h1 ?_ (fun i hi => by omega) fun i hi => (h5 i hi).fewer hf (closedL_ids hc _ (List.getElem_mem hi))
  rintro ⟨b, o, hbo, hd, he⟩
  have e1 : (psh h0 (.cells cs))[b]? = some o := by
    show (h0 ++ [AObj.cells cs])[b]? = _
    rw [List.getElem?_append_left (lt_of_getL hbo)]; exact hbo
  have e2 : (psh h0 (.cells cs))[h0.length]? = some (.cells cs) := by simp [psh]
  have := hR.inj b h0.length o _ e1 e2 hd (by simp) he
  have := lt_of_getL hbo
  omega
theorem ends_rop {h0 : AHeap} {cs : List AVal} {f : Fn} {R : AEnd → AHeap → Prop} (hb : HOk h0) (hc : closedL cs = true) (hr : R (.ret (.fn f [] [.rop cs])) h0) : ABody.AEnds h0 (psh h0 (.cells cs)) (.ret (.fn f [] [.ptr h0.length 0])) R :=
  ⟨h0, .ret (.fn f [] [.rop cs]), Nat.le_refl _, hr, fun ρ w u hR hE => ⟨Fewer.app _ _, hR.fewer (Fewer.app _ _) hb, by
    cases hE with | ret _ u hv =>
    cases hv with | fn _ _ _ us xs hl hl' hv hw =>
    refine .ret _ _ (.fn _ _ _ us xs hl (by simpa using hl') (fun i hi => by simp at hi) fun i hi => ?_)
    match i, hi with
    | 0, _ => exact ptr_rop hb hc hR (hw 0 (by simp))⟩⟩
end Go.Proofs.Yteclkehnppeobaa.AL
/- A block of records, its end, a file's head: printed. -/
namespace Go.Proofs.Yteclkehnppeobaa.AL
set_option linter.unusedVariables false
set_option linter.unusedSimpArgs false
set_option maxRecDepth 100000
open Go
open Go.Proofs.Try
-- chainman/recfile.PutHead: function 51
noncomputable def Erecfile_PutHead : XE := { T := tabOf [(3, r3), (4, r4), (9, r9), (21, r21)], C := [(85, w_crc_Close)], D := [], Ms := [], Ml := [], Mo := [(1006, [0, 9])], n := 15 }
theorem Erecfile_PutHead_ok : XE.Ok Erecfile_PutHead Try.prog := ⟨tabOf_ok (⟨r3_ok, ⟨r4_ok, ⟨r9_ok, ⟨r21_ok, trivial⟩⟩⟩⟩), (⟨w_crc_Close_ok, trivial⟩), ydOk_none, trivial⟩
noncomputable def c51 : Code := bodyOf f51
noncomputable def S_recfile_PutHead (size0 : Int) (h : AHeap) : Option (AVal × AHeap) := xfun Erecfile_PutHead f51 [(.lit (.int .i64 size0))] h
noncomputable def S_recfile_PutHead_0 (size0 : Int) (t9 : Bool) (h : AHeap) : Option (AVal × AHeap) := jo Erecfile_PutHead 1 (rops (ca (ca (cb c51)))) ((rops (ca (ca (cb c51)))).toList.drop 6) 6 [(0, (.lit (.int .i64 size0))), (9, (.lit (.bool t9)))] h (kN (kSeq Erecfile_PutHead (cb (ca (cb c51))) (kSeq Erecfile_PutHead (cb (cb c51)) (xend Erecfile_PutHead f51))))
theorem S_recfile_PutHead_eq (size0 : Int) (h : AHeap) : S_recfile_PutHead size0 h =
 bif (decide (size0 < 1)) then (S_recfile_PutHead_0 size0 true h)
 else (S_recfile_PutHead_0 size0 (decide (size0 > 64)) h) := by kernel_rfl
theorem S_recfile_PutHead_0_eq (size0 : Int) (t9 : Bool) (h : AHeap) : S_recfile_PutHead_0 size0 t9 h =
 bif t9 then (some ((.tup [(.lit (.string (⟨#[]⟩ : ByteArray))), (.lit (.bool false))]), h))
 else ((req ((⟨#[67, 72, 65, 73, 78, 49]⟩ : ByteArray).size + (Utf8.encode (IntKind.wrap .i32 size0)).size ≤ 9223372036854775807)).bind fun u1 =>
 (closeO ((⟨#[67, 72, 65, 73, 78, 49]⟩ : ByteArray) ++ (Utf8.encode (IntKind.wrap .i32 size0)))).bind fun r2 =>
 some ((.tup [(.lit (.string r2)), (.lit (.bool true))]), h)) := (jo_eq ..).trans (by kernel_rfl)
theorem S_recfile_PutHead_ends {size0 : Int} {h h' : AHeap} {v : AVal} {R : AEnd → AHeap → Prop} (hx : S_recfile_PutHead size0 h = some (v, h')) (hR : HOk h → h.length ≤ h'.length → ABody.AEnds h h' (.ret v) R) : ACalls Try.prog 51 [(.lit (.int .i64 size0))] h R := xfun_ends Erecfile_PutHead_ok tmix (i := 51) (by rfl) (by kernel_rfl) (by kernel_rfl) hx hR
-- chainman/frame.PutEnd: function 58
noncomputable def Eframe_PutEnd : XE := { T := tabOf [(3, r3), (4, r4), (9, r9), (50, r50), (52, r52)], C := [(85, w_crc_Close), (101, w_octet_Put)], D := [], Ms := [], Ml := [], Mo := [(3006, [1, 4, 6, 26]), (3011, [4, 6, 31])], n := 37 }
theorem Eframe_PutEnd_ok : XE.Ok Eframe_PutEnd Try.prog := ⟨tabOf_ok (⟨r3_ok, ⟨r4_ok, ⟨r9_ok, ⟨r50_ok, ⟨r52_ok, trivial⟩⟩⟩⟩⟩), (⟨w_crc_Close_ok, ⟨w_octet_Put_ok, trivial⟩⟩), ydOk_none, trivial⟩
noncomputable def c58 : Code := bodyOf f58
noncomputable def S_frame_PutEnd (x0 : List AVal) (h : AHeap) : Option (AVal × AHeap) := xfun Eframe_PutEnd f58 [(.agg x0)] h
noncomputable def S_frame_PutEnd_0 (x1 : Nat) (n4 : ByteArray) (c6 : ByteArray) (t26 : Bool) (h : AHeap) : Option (AVal × AHeap) := jo Eframe_PutEnd 3 (rops (ca (ca (cb (cb (cb c58)))))) ((rops (ca (ca (cb (cb (cb c58)))))).toList.drop 6) 6 [(1, (.ptr x1 0)), (4, (.lit (.string n4))), (6, (.lit (.string c6))), (26, (.lit (.bool t26)))] h (kN (kSeq Eframe_PutEnd (cb (ca (cb (cb (cb c58))))) (kSeq Eframe_PutEnd (cb (cb (cb (cb c58)))) (xend Eframe_PutEnd f58))))
noncomputable def S_frame_PutEnd_1 (n4 : ByteArray) (c6 : ByteArray) (t31 : Bool) (h : AHeap) : Option (AVal × AHeap) := jo Eframe_PutEnd 3 (rops (ca (ca (cb (cb (cb c58)))))) ((rops (ca (ca (cb (cb (cb c58)))))).toList.drop 11) 11 [(4, (.lit (.string n4))), (6, (.lit (.string c6))), (31, (.lit (.bool t31)))] h (kN (kSeq Eframe_PutEnd (cb (ca (cb (cb (cb c58))))) (kSeq Eframe_PutEnd (cb (cb (cb (cb c58)))) (xend Eframe_PutEnd f58))))
theorem S_frame_PutEnd_eq (x0 : List AVal) (h : AHeap) : S_frame_PutEnd x0 h =
 (ld1 ((psh h (.cells x0))) (.ptr h.length 0)).bind fun x2 =>
 (asI .i64 x2).bind fun n3 =>
 (ld1 ((psh h (.cells x0))) (.ptr h.length 1)).bind fun x4 =>
 (asI .u32 x4).bind fun n5 =>
 bif (!(((putI n3 8).isSome))) then (S_frame_PutEnd_0 h.length (((putI n3 8).getD ⟨#[]⟩)) (((putI (IntKind.wrap .i64 n5) 4).getD ⟨#[]⟩)) true ((psh h (.cells x0))))
 else (S_frame_PutEnd_0 h.length (((putI n3 8).getD ⟨#[]⟩)) (((putI (IntKind.wrap .i64 n5) 4).getD ⟨#[]⟩)) (!(((putI (IntKind.wrap .i64 n5) 4).isSome))) ((psh h (.cells x0)))) := by kernel_rfl
theorem S_frame_PutEnd_0_eq (x1 : Nat) (n4 : ByteArray) (c6 : ByteArray) (t26 : Bool) (h : AHeap) : S_frame_PutEnd_0 x1 n4 c6 t26 h =
 bif t26 then (S_frame_PutEnd_1 n4 c6 true h)
 else ((ld1 h (.ptr x1 0)).bind fun x6 =>
 (asI .i64 x6).bind fun n7 =>
 S_frame_PutEnd_1 n4 c6 (decide (n7 > 4611686018427387904)) h) := (jo_eq ..).trans (by kernel_rfl)
theorem S_frame_PutEnd_1_eq (n4 : ByteArray) (c6 : ByteArray) (t31 : Bool) (h : AHeap) : S_frame_PutEnd_1 n4 c6 t31 h =
 bif t31 then (some ((.tup [(.lit (.string (⟨#[]⟩ : ByteArray))), (.lit (.bool false))]), h))
 else ((req ((⟨#[0]⟩ : ByteArray).size + n4.size ≤ 9223372036854775807)).bind fun u8 =>
 (req (((⟨#[0]⟩ : ByteArray) ++ n4).size + c6.size ≤ 9223372036854775807)).bind fun u9 =>
 (closeO (((⟨#[0]⟩ : ByteArray) ++ n4) ++ c6)).bind fun r10 =>
 some ((.tup [(.lit (.string r10)), (.lit (.bool true))]), h)) := (jo_eq ..).trans (by kernel_rfl)
theorem S_frame_PutEnd_ends {x0 : List AVal} {h h' : AHeap} {v : AVal} {R : AEnd → AHeap → Prop} (hx : S_frame_PutEnd x0 h = some (v, h')) (hR : HOk h → h.length ≤ h'.length → ABody.AEnds h h' (.ret v) R) : ACalls Try.prog 58 [(.agg x0)] h R := xfun_ends Eframe_PutEnd_ok tmix (i := 58) (by rfl) (by kernel_rfl) (by kernel_rfl) hx hR
-- chainman/frame.sized: function 132
noncomputable def Eframe_sized : XE := { T := tabOf [(3, r3), (4, r4)], C := [], D := [], Ms := [], Ml := [], Mo := [(1006, [8])], n := 9 }
theorem Eframe_sized_ok : XE.Ok Eframe_sized Try.prog := ⟨tabOf_ok (⟨r3_ok, ⟨r4_ok, trivial⟩⟩), trivial, ydOk_none, trivial⟩
noncomputable def c132 : Code := bodyOf f132
noncomputable def S_frame_sized (size0 : Int) (h : AHeap) : Option (AVal × AHeap) := xfun Eframe_sized f132 [(.lit (.int .i64 size0))] h
noncomputable def S_frame_sized_0 (t8 : Bool) (h : AHeap) : Option (AVal × AHeap) := jo Eframe_sized 1 (rops (ca (cb c132))) ((rops (ca (cb c132))).toList.drop 6) 6 [(8, (.lit (.bool t8)))] h (kN (kSeq Eframe_sized (cb (cb c132)) (xend Eframe_sized f132)))
theorem S_frame_sized_eq (size0 : Int) (h : AHeap) : S_frame_sized size0 h =
 bif (decide (size0 ≥ 1)) then (S_frame_sized_0 (decide (size0 ≤ 64)) h)
 else (S_frame_sized_0 false h) := by kernel_rfl
theorem S_frame_sized_0_eq (t8 : Bool) (h : AHeap) : S_frame_sized_0 t8 h =
 some ((.lit (.bool t8)), h) := (jo_eq ..).trans (by kernel_rfl)
theorem S_frame_sized_ends {size0 : Int} {h h' : AHeap} {v : AVal} {R : AEnd → AHeap → Prop} (hx : S_frame_sized size0 h = some (v, h')) (hR : HOk h → h.length ≤ h'.length → ABody.AEnds h h' (.ret v) R) : ACalls Try.prog 132 [(.lit (.int .i64 size0))] h R := xfun_ends Eframe_sized_ok tmix (i := 132) (by rfl) (by kernel_rfl) (by kernel_rfl) hx hR
noncomputable def w_frame_sized : XC := .q fun R args h K => match args with
  | [.lit (.int .i64 a0)] => (onlyR (S_frame_sized a0 h) h).bind fun r => K r
  | _ => none
theorem w_frame_sized_ok : XC.Nat w_frame_sized ∧ XC.Ok Try.prog 132 w_frame_sized := by
  refine ⟨fun R args h K => ?_, tc132, fun args h v hx => ?_⟩
  · dsimp only; split <;> simp [Option.bind_assoc, mkP]
  · dsimp only at hx; split at hx
    · obtain ⟨r, hopt, hx⟩ := Option.bind_eq_some_iff.1 hx
      cases hx
      exact (by have hopt := onlyR_some hopt; exact S_frame_sized_ends hopt selfR)
    · cases hx
-- chainman/frame.Put$1: function 131
noncomputable def Eframe_Put_fn1 : XE := { T := tabOf [(3, r3), (4, r4), (9, r9)], C := [], D := [], Ms := [], Ml := [], Mo := [], n := 8 }
theorem Eframe_Put_fn1_ok : XE.Ok Eframe_Put_fn1 Try.prog := ⟨tabOf_ok (⟨r3_ok, ⟨r4_ok, ⟨r9_ok, trivial⟩⟩⟩), trivial, ydOk_none, trivial⟩
noncomputable def c131 : Code := bodyOf f131
noncomputable def S_frame_Put_fn1 (r0 : ByteArray) (t1 : AVal) (h : AHeap) : Option (AVal × AHeap) := xfun Eframe_Put_fn1 f131 [(.lit (.string r0)), t1] h
theorem S_frame_Put_fn1_eq (r0 : ByteArray) (t1 : AVal) (h : AHeap) : S_frame_Put_fn1 r0 t1 h =
 (ld1 h t1).bind fun x1 =>
 (asI .i64 x1).bind fun n2 =>
 some ((.lit (.bool (!decide ((r0.size : Int) = n2)))), h) := by kernel_rfl
theorem S_frame_Put_fn1_ends {r0 : ByteArray} {t1 : AVal} {h h' : AHeap} {v : AVal} {R : AEnd → AHeap → Prop} (hx : S_frame_Put_fn1 r0 t1 h = some (v, h')) (hR : HOk h → h.length ≤ h'.length → ABody.AEnds h h' (.ret v) R) : ACalls Try.prog 131 [(.lit (.string r0)), t1] h R := xfun_ends Eframe_Put_fn1_ok tmix (i := 131) (by rfl) (by kernel_rfl) (by kernel_rfl) hx hR
noncomputable def w_frame_Put_fn1 : XC := .q fun R args h K => match args with
  | [.lit (.string a0), a1] => (onlyR (S_frame_Put_fn1 a0 a1 h) h).bind fun r => K r
  | _ => none
theorem w_frame_Put_fn1_ok : XC.Nat w_frame_Put_fn1 ∧ XC.Ok Try.prog 131 w_frame_Put_fn1 := by
  refine ⟨fun R args h K => ?_, tc131, fun args h v hx => ?_⟩
  · dsimp only; split <;> simp [Option.bind_assoc, mkP]
  · dsimp only at hx; split at hx
    · obtain ⟨r, hopt, hx⟩ := Option.bind_eq_some_iff.1 hx
      cases hx
      exact (by have hopt := onlyR_some hopt; exact S_frame_Put_fn1_ends hopt selfR)
    · cases hx
-- slices.IndexFunc[[]string,string]: function 156
noncomputable def Eslices_IndexFunc_string_string : XE := { T := tabOf [(3, r3), (4, r4), (9, r9), (42, r42), (86, r86)], C := [(131, w_frame_Put_fn1)], D := [], Ms := [(7, [])], Ml := [(2, [0, 1, 7, 8])], Mo := [], n := 19 }
theorem Eslices_IndexFunc_string_string_ok : XE.Ok Eslices_IndexFunc_string_string Try.prog := ⟨tabOf_ok (⟨r3_ok, ⟨r4_ok, ⟨r9_ok, ⟨r42_ok, ⟨r86_ok, trivial⟩⟩⟩⟩⟩), (⟨w_frame_Put_fn1_ok, trivial⟩), ydOk_none, trivial⟩
noncomputable def c156 : Code := bodyOf f156
noncomputable def S_slices_IndexFunc_string_string (s0 : AVal) (f1 : AVal) (h : AHeap) : Option (AVal × AHeap) := xfun Eslices_IndexFunc_string_string f156 [s0, f1] h
noncomputable def S_slices_IndexFunc_string_string_0 (s0 : AVal) (f1 : AVal) (t7 : Int) (t8 : Int) (h : AHeap) : Option (AVal × AHeap) := xexec Eslices_IndexFunc_string_string (.loop (ca (ca (cb (ca (cb c156)))))) (AVal × AHeap) [(0, s0), (1, f1), (7, (.lit (.int .i64 t7))), (8, (.lit (.int .i64 t8)))] h (kBlk 0 (kSeq Eslices_IndexFunc_string_string (cb (cb c156)) (xend Eslices_IndexFunc_string_string f156)))
noncomputable def S_slices_IndexFunc_string_string_1  (h : AHeap) : Option (AVal × AHeap) := jn (xexec Eslices_IndexFunc_string_string (cb (cb c156)) (AVal × AHeap) [] h (xend Eslices_IndexFunc_string_string f156))
theorem S_slices_IndexFunc_string_string_eq (s0 : AVal) (f1 : AVal) (h : AHeap) : S_slices_IndexFunc_string_string s0 f1 h =
 (lenV s0).bind fun n1 =>
 S_slices_IndexFunc_string_string_0 s0 f1 n1 0 h := by kernel_rfl
theorem S_slices_IndexFunc_string_string_0_eq (s0 : AVal) (f1 : AVal) (t7 : Int) (t8 : Int) (h : AHeap) : S_slices_IndexFunc_string_string_0 s0 f1 t7 t8 h =
 bif (decide (t8 < t7)) then ((idxP 1 s0 t8).bind fun p2 =>
 (ld1 h p2).bind fun x3 =>
 (asS x3).bind fun s4 =>
 callK Eslices_IndexFunc_string_string.C Eslices_IndexFunc_string_string.Y f1 [(.lit (.string s4))] h fun r5 h6 =>
 (asB r5).bind fun b7 =>
 bif b7 then (some ((.lit (.int .i64 t8)), h6))
 else (S_slices_IndexFunc_string_string_0 s0 f1 t7 (IntKind.wrap .i64 (t8 + 1)) h6))
 else (S_slices_IndexFunc_string_string_1 h) := (xexec_loop Eslices_IndexFunc_string_string Eslices_IndexFunc_string_string_ok.C.nat _ _ _ _ _).trans (by kernel_rfl)
theorem S_slices_IndexFunc_string_string_1_eq  (h : AHeap) : S_slices_IndexFunc_string_string_1  h =
 some ((.lit (.int .i64 (-1))), h) := (jn_eq _).trans (by kernel_rfl)
theorem S_slices_IndexFunc_string_string_ends {s0 : AVal} {f1 : AVal} {h h' : AHeap} {v : AVal} {R : AEnd → AHeap → Prop} (hx : S_slices_IndexFunc_string_string s0 f1 h = some (v, h')) (hR : HOk h → h.length ≤ h'.length → ABody.AEnds h h' (.ret v) R) : ACalls Try.prog 156 [s0, f1] h R := xfun_ends Eslices_IndexFunc_string_string_ok tmix (i := 156) (by rfl) (by kernel_rfl) (by kernel_rfl) hx hR
noncomputable def w_slices_IndexFunc_string_string : XC := .l fun R args h K => match args with
  | [a0, a1] => (S_slices_IndexFunc_string_string a0 a1 h).bind fun r => K r.1 r.2
  | _ => none
theorem w_slices_IndexFunc_string_string_ok : XC.Nat w_slices_IndexFunc_string_string ∧ XC.Ok Try.prog 156 w_slices_IndexFunc_string_string := by
  refine ⟨fun R args h K => ?_, tc156, fun args h v h' hx => ?_⟩
  · dsimp only; split <;> simp [Option.bind_assoc, mkP]
  · dsimp only at hx; split at hx
    · obtain ⟨r, hopt, hx⟩ := Option.bind_eq_some_iff.1 hx
      simp only [mkP, Option.some.injEq, Prod.mk.injEq] at hx
      obtain ⟨rfl, rfl⟩ := hx
      exact (by obtain ⟨v, h'⟩ := r; exact S_slices_IndexFunc_string_string_ends hopt selfR)
    · cases hx
-- slices.ContainsFunc[[]string,string]: function 133
noncomputable def Eslices_ContainsFunc_string_string : XE := { T := tabOf [(3, r3), (4, r4), (9, r9), (42, r42), (86, r86)], C := [(156, w_slices_IndexFunc_string_string)], D := [], Ms := [], Ml := [], Mo := [], n := 9 }
theorem Eslices_ContainsFunc_string_string_ok : XE.Ok Eslices_ContainsFunc_string_string Try.prog := ⟨tabOf_ok (⟨r3_ok, ⟨r4_ok, ⟨r9_ok, ⟨r42_ok, ⟨r86_ok, trivial⟩⟩⟩⟩⟩), (⟨w_slices_IndexFunc_string_string_ok, trivial⟩), ydOk_none, trivial⟩
noncomputable def c133 : Code := bodyOf f133
noncomputable def S_slices_ContainsFunc_string_string (s0 : AVal) (f1 : AVal) (h : AHeap) : Option (AVal × AHeap) := xfun Eslices_ContainsFunc_string_string f133 [s0, f1] h
theorem S_slices_ContainsFunc_string_string_eq (s0 : AVal) (f1 : AVal) (h : AHeap) : S_slices_ContainsFunc_string_string s0 f1 h =
 (S_slices_IndexFunc_string_string s0 f1 h).bind fun r1 =>
 (asI .i64 r1.1).bind fun n2 =>
 some ((.lit (.bool (decide (n2 ≥ 0)))), r1.2) := by kernel_rfl
theorem S_slices_ContainsFunc_string_string_ends {s0 : AVal} {f1 : AVal} {h h' : AHeap} {v : AVal} {R : AEnd → AHeap → Prop} (hx : S_slices_ContainsFunc_string_string s0 f1 h = some (v, h')) (hR : HOk h → h.length ≤ h'.length → ABody.AEnds h h' (.ret v) R) : ACalls Try.prog 133 [s0, f1] h R := xfun_ends Eslices_ContainsFunc_string_string_ok tmix (i := 133) (by rfl) (by kernel_rfl) (by kernel_rfl) hx hR
noncomputable def w_slices_ContainsFunc_string_string : XC := .l fun R args h K => match args with
  | [a0, a1] => (S_slices_ContainsFunc_string_string a0 a1 h).bind fun r => K r.1 r.2
  | _ => none
theorem w_slices_ContainsFunc_string_string_ok : XC.Nat w_slices_ContainsFunc_string_string ∧ XC.Ok Try.prog 133 w_slices_ContainsFunc_string_string := by
  refine ⟨fun R args h K => ?_, tc133, fun args h v h' hx => ?_⟩
  · dsimp only; split <;> simp [Option.bind_assoc, mkP]
  · dsimp only at hx; split at hx
    · obtain ⟨r, hopt, hx⟩ := Option.bind_eq_some_iff.1 hx
      simp only [mkP, Option.some.injEq, Prod.mk.injEq] at hx
      obtain ⟨rfl, rfl⟩ := hx
      exact (by obtain ⟨v, h'⟩ := r; exact S_slices_ContainsFunc_string_string_ends hopt selfR)
    · cases hx
noncomputable def w_strings_Join : XC := .q fun R args h K => match args with
  | [a0, .lit (.string a1)] => (goneR (S_strings_Join a0 a1 h) h).bind fun r => K r
  | _ => none
theorem w_strings_Join_ok : XC.Nat w_strings_Join ∧ XC.Ok Try.prog 134 w_strings_Join := by
  refine ⟨fun R args h K => ?_, tc134, fun args h v hx => ?_⟩
  · dsimp only; split <;> simp [Option.bind_assoc, mkP]
  · dsimp only at hx; split at hx
    · obtain ⟨r, hopt, hx⟩ := Option.bind_eq_some_iff.1 hx
      cases hx
      exact (by obtain ⟨h', hopt, hg, hc⟩ := goneR_some hopt; exact S_strings_Join_ends hopt (goneEnds hg hc))
    · cases hx
-- chainman/frame.Put: function 100
noncomputable def Eframe_Put : XE := { T := tabOf [(3, r3), (4, r4), (9, r9), (21, r21), (42, r42), (86, r86)], C := [(85, w_crc_Close), (132, w_frame_sized), (133, w_slices_ContainsFunc_string_string), (134, w_strings_Join)], D := [], Ms := [], Ml := [], Mo := [(2008, [1, 6, 15]), (2013, [1, 6, 20]), (2018, [1, 25])], n := 34 }
theorem Eframe_Put_ok : XE.Ok Eframe_Put Try.prog := ⟨tabOf_ok (⟨r3_ok, ⟨r4_ok, ⟨r9_ok, ⟨r21_ok, ⟨r42_ok, ⟨r86_ok, trivial⟩⟩⟩⟩⟩⟩), (⟨w_crc_Close_ok, ⟨w_frame_sized_ok, ⟨w_slices_ContainsFunc_string_string_ok, ⟨w_strings_Join_ok, trivial⟩⟩⟩⟩), ydOk_none, trivial⟩
noncomputable def c100 : Code := bodyOf f100
noncomputable def S_frame_Put (size0 : Int) (l1 : AVal) (h : AHeap) : Option (AVal × AHeap) := xfun Eframe_Put f100 [(.lit (.int .i64 size0)), l1] h
noncomputable def S_frame_Put_0 (l1 : AVal) (other6_0 : Nat) (t15 : Bool) (h : AHeap) : Option (AVal × AHeap) := jo Eframe_Put 2 (rops (ca (ca (cb (cb c100))))) ((rops (ca (ca (cb (cb c100))))).toList.drop 8) 8 [(1, l1), (6, (.fn (.func 131) [] [(.ptr other6_0 0)])), (15, (.lit (.bool t15)))] h (kN (kSeq Eframe_Put (cb (ca (cb (cb c100)))) (kSeq Eframe_Put (cb (cb (cb c100))) (xend Eframe_Put f100))))
noncomputable def S_frame_Put_1 (l1 : AVal) (other6_0 : Nat) (t20 : Bool) (h : AHeap) : Option (AVal × AHeap) := jo Eframe_Put 2 (rops (ca (ca (cb (cb c100))))) ((rops (ca (ca (cb (cb c100))))).toList.drop 13) 13 [(1, l1), (6, (.fn (.func 131) [] [(.ptr other6_0 0)])), (20, (.lit (.bool t20)))] h (kN (kSeq Eframe_Put (cb (ca (cb (cb c100)))) (kSeq Eframe_Put (cb (cb (cb c100))) (xend Eframe_Put f100))))
noncomputable def S_frame_Put_2 (l1 : AVal) (t25 : Bool) (h : AHeap) : Option (AVal × AHeap) := jo Eframe_Put 2 (rops (ca (ca (cb (cb c100))))) ((rops (ca (ca (cb (cb c100))))).toList.drop 18) 18 [(1, l1), (25, (.lit (.bool t25)))] h (kN (kSeq Eframe_Put (cb (ca (cb (cb c100)))) (kSeq Eframe_Put (cb (cb (cb c100))) (xend Eframe_Put f100))))
theorem S_frame_Put_eq (size0 : Int) (l1 : AVal) (h : AHeap) : S_frame_Put size0 l1 h =
 (ld1 ((psh h (.cells [(.lit (.int .i64 size0))]))) (.ptr h.length 0)).bind fun x1 =>
 (asI .i64 x1).bind fun n2 =>
 (onlyR (S_frame_sized n2 ((psh h (.cells [(.lit (.int .i64 size0))])))) ((psh h (.cells [(.lit (.int .i64 size0))])))).bind fun r3 =>
 (asB r3).bind fun b4 =>
 bif (!b4) then (S_frame_Put_0 l1 h.length true ((psh h (.cells [(.lit (.int .i64 size0))]))))
 else ((lenV l1).bind fun n5 =>
 S_frame_Put_0 l1 h.length (decide (n5 = 0)) ((psh h (.cells [(.lit (.int .i64 size0))])))) := by kernel_rfl
theorem S_frame_Put_0_eq (l1 : AVal) (other6_0 : Nat) (t15 : Bool) (h : AHeap) : S_frame_Put_0 l1 other6_0 t15 h =
 bif t15 then (S_frame_Put_1 l1 other6_0 true h)
 else ((lenV l1).bind fun n6 =>
 S_frame_Put_1 l1 other6_0 (decide (n6 > 4)) h) := (jo_eq ..).trans (by kernel_rfl)
theorem S_frame_Put_1_eq (l1 : AVal) (other6_0 : Nat) (t20 : Bool) (h : AHeap) : S_frame_Put_1 l1 other6_0 t20 h =
 bif t20 then (S_frame_Put_2 l1 true h)
 else ((S_slices_ContainsFunc_string_string l1 ((.fn (.func 131) [] [(.ptr other6_0 0)])) h).bind fun r7 =>
 (asB r7.1).bind fun b8 =>
 S_frame_Put_2 l1 b8 r7.2) := (jo_eq ..).trans (by kernel_rfl)
theorem S_frame_Put_2_eq (l1 : AVal) (t25 : Bool) (h : AHeap) : S_frame_Put_2 l1 t25 h =
 bif t25 then (some ((.tup [(.lit (.string (⟨#[]⟩ : ByteArray))), (.lit (.bool false))]), h))
 else ((lenV l1).bind fun n9 =>
 (goneR (S_strings_Join l1 (⟨#[]⟩ : ByteArray) h) h).bind fun r10 =>
 (asS r10).bind fun s11 =>
 (req ((Utf8.encode (IntKind.wrap .i32 n9)).size + s11.size ≤ 9223372036854775807)).bind fun u12 =>
 (closeO ((Utf8.encode (IntKind.wrap .i32 n9)) ++ s11)).bind fun r13 =>
 some ((.tup [(.lit (.string r13)), (.lit (.bool true))]), h)) := (jo_eq ..).trans (by kernel_rfl)
theorem S_frame_Put_ends {size0 : Int} {l1 : AVal} {h h' : AHeap} {v : AVal} {R : AEnd → AHeap → Prop} (hx : S_frame_Put size0 l1 h = some (v, h')) (hR : HOk h → h.length ≤ h'.length → ABody.AEnds h h' (.ret v) R) : ACalls Try.prog 100 [(.lit (.int .i64 size0)), l1] h R := xfun_ends Eframe_Put_ok tmix (i := 100) (by rfl) (by kernel_rfl) (by kernel_rfl) hx hR
end Go.Proofs.Yteclkehnppeobaa.AL
/- Octets: the number of a number's bytes is the number. -/
namespace Go.Proofs.Yteclkehnppeobaa.AL
set_option linter.unusedVariables false
set_option linter.unusedSimpArgs false
set_option maxRecDepth 100000
open Go
def beL (n : Nat) : Nat → List UInt8
  | 0 => []
  | k + 1 => by8 n k :: beL n k
theorem beL_len (n : Nat) : ∀ k, (beL n k).length = k
  | 0 => rfl
  | k + 1 => by rw [beL, List.length_cons, beL_len n k]
theorem by8_nat (n i : Nat) : (by8 n i).toNat = n / 256 ^ i % 256 := by unfold by8; simp
theorem by8_zero {n i : Nat} (h : n < 256 ^ i) : by8 n i = 0 := by
  unfold by8; rw [Nat.div_eq_of_lt h]; rfl
theorem beV_beL (n : Nat) : ∀ (k m : Nat), beV (beL n k) m = m * 256 ^ k + n % 256 ^ k
  | 0, m => by simp [beL, beV, Nat.mod_one]
  | k + 1, m => by
    show beV (beL n k) (256 * m + (by8 n k).toNat) = _
    rw [beV_beL n k, by8_nat, Nat.pow_succ, Nat.mod_mul, Nat.add_mul]
    have e1 : 256 * m * 256 ^ k = m * (256 ^ k * 256) := by rw [Nat.mul_comm 256 m, Nat.mul_assoc, Nat.mul_comm 256]
    have e2 : n / 256 ^ k % 256 * 256 ^ k = 256 ^ k * (n / 256 ^ k % 256) := Nat.mul_comm _ _
    omega
theorem be8_drop {n k : Nat} (hk : k ≤ 8) : (be8 n).drop (8 - k) = beL n k := by
  match k, hk with
  | 0, _ => rfl
  | 1, _ => rfl
  | 2, _ => rfl
  | 3, _ => rfl
  | 4, _ => rfl
  | 5, _ => rfl
  | 6, _ => rfl
  | 7, _ => rfl
  | 8, _ => rfl
theorem be8_take {n k : Nat} (hk : k ≤ 8) (hn : n < 256 ^ k) : ∀ x ∈ (be8 n).take (8 - k), x = 0 := by
  have z : ∀ j, k ≤ j → by8 n j = 0 := fun j hj => by8_zero (Nat.lt_of_lt_of_le hn (Nat.pow_le_pow_right (by omega) hj))
  match k, hk with
  | 0, _ => simp [be8, z]
  | 1, _ => simp [be8, z]
  | 2, _ => simp [be8, z]
  | 3, _ => simp [be8, z]
  | 4, _ => simp [be8, z]
  | 5, _ => simp [be8, z]
  | 6, _ => simp [be8, z]
  | 7, _ => simp [be8, z]
  | 8, _ => simp [be8]
theorem putB_ok {n k : Nat} (hk : k ≤ 8) (hn : n < 256 ^ k) : putB n k = some ⟨(beL n k).toArray⟩ := by
  unfold putB
  rw [if_pos (be8_take hk hn), be8_drop hk]
theorem putI_ok {n : Int} {k : Nat} (h0 : 0 ≤ n) (h1 : 1 ≤ k) (hk : k ≤ 8) (hn : n < 256 ^ k) : putI n (k : Int) = some ⟨(beL n.toNat k).toArray⟩ := by
  obtain ⟨m, rfl⟩ := Int.eq_ofNat_of_zero_le h0
  rw [putI_nat m h1 hk, putB_ok hk (by exact_mod_cast hn)]; rfl
theorem getB_be {n k : Nat} (h1 : 1 ≤ k) (hk : k ≤ 8) (hn : n < 256 ^ k) (h63 : n < 9223372036854775808) : getB ⟨(beL n k).toArray⟩ 0 (k : Int) = some n := by
  have hs : (⟨(beL n k).toArray⟩ : ByteArray).size = k := by
    show (beL n k).toArray.size = k
    rw [List.size_toArray, beL_len]
  have hg : getN ⟨(beL n k).toArray⟩ 0 k = n := by
    unfold getN
    have : ((⟨(beL n k).toArray⟩ : ByteArray).extract 0 (0 + k)).data.toList = beL n k := by
      rw [ByteArray.data_extract, Array.toList_extract, List.extract_eq_take_drop]
      simp [beL_len, List.take_of_length_le]
    rw [this, beV_beL, Nat.zero_mul, Nat.zero_add, Nat.mod_eq_of_lt hn]
  unfold getB
  rw [if_pos (by rw [hs]; omega)]
  rw [show (0 : Int).toNat = 0 from rfl, Int.toNat_natCast, hg, if_pos h63]
theorem getO_be {n k : Nat} (h1 : 1 ≤ k) (hk : k ≤ 8) (hn : n < 256 ^ k) (h63 : n < 9223372036854775808) : getO ⟨(beL n k).toArray⟩ 0 (k : Int) = some (some n) := by
  have hs : (⟨(beL n k).toArray⟩ : ByteArray).size = k := by
    show (beL n k).toArray.size = k
    rw [List.size_toArray, beL_len]
  rw [getO_some (by rw [hs]; omega) (by omega), getB_be h1 hk hn h63]
end Go.Proofs.Yteclkehnppeobaa.AL
/- A block of records, its end, a file's head: what they are. -/
namespace Go.Proofs.Yteclkehnppeobaa.AL
set_option linter.unusedVariables false
set_option linter.unusedSimpArgs false
set_option maxRecDepth 100000
open Go
open Go.Proofs.Try
def b8 (n : Nat) : UInt8 := UInt8.ofNat n
theorem enc_ok (n : Nat) (hn : n < 128) : Utf8.encode (n : Int) = bs [b8 n] := by
  have hv : Utf8.valid (n : Int) = true := by unfold Utf8.valid; rw [Bool.or_eq_true, Bool.and_eq_true]; exact .inl ⟨decide_eq_true (by omega), decide_eq_true (by omega)⟩
  unfold Utf8.encode
  simp only [hv, if_true, Int.toNat_natCast]
  rw [if_pos (by omega)]
  rfl
def headB (n : Nat) : ByteArray := closeB (bs ([67, 72, 65, 73, 78, 49] ++ [b8 n]))
def endB (c : Nat) (s : BitVec 32) : ByteArray := closeB (bs (0 :: (beL c 8 ++ beL s.toNat 4)))
def blockB (ss : List ByteArray) : ByteArray := closeB (bs (b8 ss.length :: catB ss))
def okS (s : ByteArray) : AVal := .tup [.lit (.string s), .lit (.bool true)]
theorem headB_size (n : Nat) : (headB n).size = 11 := by unfold headB; rw [closeB_size, bs_size]; rfl
theorem blockB_size (ss : List ByteArray) : (blockB ss).size = (catB ss).length + 5 := by unfold blockB; rw [closeB_size, bs_size]; rfl
theorem endB_size (c : Nat) (s : BitVec 32) : (endB c s).size = 17 := by unfold endB; rw [closeB_size, bs_size, List.length_cons, List.length_append, beL_len, beL_len]
theorem wrap_i32s {n : Int} (h0 : -2147483648 ≤ n) (h1 : n ≤ 2147483647) : IntKind.i32.wrap n = n := by
  have : IntKind.i32.wrap n = (n + 2147483648) % 4294967296 - 2147483648 := by
    simp only [IntKind.wrap, IntKind.signed, IntKind.bits]
    simp
    split <;> omega
  rw [this]; omega
theorem phead_run {n : Nat} (h1 : 1 ≤ n) (h2 : n ≤ 64) (h : AHeap) : S_recfile_PutHead (n : Int) h = some (okS (headB n), h) := by
  have e0 : ∀ t, t = false → S_recfile_PutHead_0 (n : Int) t h = some (okS (headB n), h) := fun t ht => by
    subst ht
    rw [S_recfile_PutHead_0_eq, wrap_i32s (by omega) (by omega), enc_ok n (by omega)]
    refine cF rfl (bd (req_true ?_) (bd (?_ : closeO _ = some (headB n)) rfl))
    · rw [bs_size]; show (6 : Nat) + 1 ≤ _; omega
    · have e : (⟨#[67, 72, 65, 73, 78, 49]⟩ : ByteArray) = bs [67, 72, 65, 73, 78, 49] := rfl
      rw [e, bs_app]
      exact closeO_some (by rw [bs_size]; show (7 : Nat) ≤ _; omega)
  rw [S_recfile_PutHead_eq]
  exact cF (decide_eq_false (by omega)) (e0 _ (decide_eq_false (by omega)))
theorem fend_run {c : Nat} (hc : c ≤ 4611686018427387904) (s : BitVec 32) (h : AHeap) : goneR (S_frame_PutEnd [.lit (.int .i64 (c : Int)), .lit (.int .u32 (u32 s))] h) h = some (okS (endB c s)) := by
  have g0 := cellsAt_new h [.lit (.int .i64 (c : Int)), .lit (.int .u32 (u32 s))]
  refine goneR_of (h' := psh h (.cells [.lit (.int .i64 (c : Int)), .lit (.int .u32 (u32 s))])) ?_ ((Grow.refl h).psh _) rfl
  have hs : s.toNat < 4294967296 := s.isLt
  have p1 : putI (c : Int) 8 = some (bs (beL c 8)) := by rw [show (8 : Int) = ((8 : Nat) : Int) from rfl, putI_nat c (by omega) (by omega), putB_ok (by omega) (by omega)]
  have p2 : putI (IntKind.wrap .i64 (u32 s)) 4 = some (bs (beL s.toNat 4)) := by
    rw [show u32 s = ((s.toNat : Nat) : Int) from rfl, wrap_i64 (by omega) (by omega), show (4 : Int) = ((4 : Nat) : Int) from rfl, putI_nat s.toNat (by omega) (by omega), putB_ok (by omega) (by omega)]
  rw [S_frame_PutEnd_eq]
  refine bd (ld1_of g0) (bd rfl (bd (ld1_of g0) (bd rfl ?_)))
  rw [p1, p2]
  refine cF rfl ?_
  rw [S_frame_PutEnd_0_eq]
  refine cF rfl (bd (ld1_of g0) (bd rfl ?_))
  rw [S_frame_PutEnd_1_eq]
  show cond (decide ((c : Int) > 4611686018427387904)) _ ((req ((⟨#[0]⟩ : ByteArray).size + (bs (beL c 8)).size ≤ 9223372036854775807)).bind fun u8 => (req (((⟨#[0]⟩ : ByteArray) ++ bs (beL c 8)).size + (bs (beL s.toNat 4)).size ≤ 9223372036854775807)).bind fun u9 => (closeO (((⟨#[0]⟩ : ByteArray) ++ bs (beL c 8)) ++ bs (beL s.toNat 4))).bind fun r10 => _) = _
  have e : (⟨#[0]⟩ : ByteArray) = bs [0] := rfl
  rw [e, bs_app, bs_app, bs_size, bs_size, bs_size, bs_size]
  simp only [beL_len, List.length_append, List.length_cons, List.length_nil]
  refine cF (decide_eq_false (by omega)) (bd (req_true (by omega)) (bd (req_true (by omega)) (bd (closeO_some (by rw [bs_size]; simp only [beL_len, List.length_append, List.length_cons, List.length_nil]; omega)) ?_)))
  simp only [List.append_assoc]
  rfl
theorem sized_run {n : Nat} (h1 : 1 ≤ n) (h2 : n ≤ 64) (h : AHeap) : onlyR (S_frame_sized (n : Int) h) h = some (.lit (.bool true)) := by
  have : S_frame_sized (n : Int) h = some (.lit (.bool true), h) := by
    rw [S_frame_sized_eq]
    refine cT (decide_eq_true (by omega)) ?_
    rw [S_frame_sized_0_eq, decide_eq_true (by omega)]
  rw [this]; exact onlyR_same _ _
/-- The function that asks for another size. -/
abbrev otherF (b : Nat) : AVal := .fn (.func 131) [] [.ptr b 0]
theorem other_loop {h : AHeap} {v : AVal} {ss : List ByteArray} {n b : Nat} (S : Sl 1 h v ss.length (strVs ss)) (hb : cellsAt h b = some [.lit (.int .i64 (n : Int))]) (hl : ss.length ≤ 4611686018427387904) (ha : ∀ s ∈ ss, s.size = n) :
    ∀ (m i : Nat), i + m = ss.length → S_slices_IndexFunc_string_string_0 v (otherF b) (ss.length : Int) (i : Int) h = some (.lit (.int .i64 (-1)), h) := by
  intro m
  induction m with
  | zero =>
    intro i hi
    rw [S_slices_IndexFunc_string_string_0_eq]
    refine cF (decide_eq_false (by omega)) ?_
    rw [S_slices_IndexFunc_string_string_1_eq]
  | succ m ih =>
    intro i hi
    have hil : i < ss.length := by omega
    obtain ⟨p, e1, e2⟩ := strs_at S hil
    have hc : S_frame_Put_fn1 ss[i] (.ptr b 0) h = some (.lit (.bool false), h) := by
      rw [S_frame_Put_fn1_eq]
      refine bd (ld1_of hb) (bd rfl ?_)
      rw [ha _ (List.getElem_mem hil), decide_eq_true rfl]; rfl
    rw [S_slices_IndexFunc_string_string_0_eq]
    refine cT (decide_eq_true (by omega)) (bd e1 (bd e2 (bd rfl ?_)))
    show (onlyR (S_frame_Put_fn1 ss[i] (.ptr b 0) h) h).bind _ = _
    rw [hc, onlyR_same]
    show S_slices_IndexFunc_string_string_0 v (otherF b) (ss.length : Int) (IntKind.wrap .i64 ((i : Int) + 1)) h = _
    rw [wrap_i64 (by omega) (by omega)]
    exact ih (i + 1) (by omega)
theorem cont_run {h : AHeap} {v : AVal} {ss : List ByteArray} {n b : Nat} (S : Sl 1 h v ss.length (strVs ss)) (hb : cellsAt h b = some [.lit (.int .i64 (n : Int))]) (hl : ss.length ≤ 4611686018427387904) (ha : ∀ s ∈ ss, s.size = n) :
    S_slices_ContainsFunc_string_string v (otherF b) h = some (.lit (.bool false), h) := by
  have e : S_slices_IndexFunc_string_string v (otherF b) h = some (.lit (.int .i64 (-1)), h) := by
    rw [S_slices_IndexFunc_string_string_eq, S.len]; exact other_loop S hb hl ha ss.length 0 (by omega)
  rw [S_slices_ContainsFunc_string_string_eq, e]; rfl
theorem catB_size {ss : List ByteArray} {n : Nat} (ha : ∀ s ∈ ss, s.size = n) : (catB ss).length = ss.length * n := by
  induction ss with
  | nil => simp [catB]
  | cons s l ih =>
    rw [catB_cons, List.length_append, szL, ha s (by simp), ih (fun t ht => ha t (by simp [ht])), List.length_cons, Nat.add_mul]; omega
theorem fput_run {n : Nat} (h1 : 1 ≤ n) (h2 : n ≤ 64) {h : AHeap} {v : AVal} {ss : List ByteArray} (S : Sl 1 h v ss.length (strVs ss)) (h3 : 1 ≤ ss.length) (h4 : ss.length ≤ 4) (ha : ∀ s ∈ ss, s.size = n) : goneR (S_frame_Put (n : Int) v h) h = some (okS (blockB ss)) := by
  have G : Grow h (psh h (.cells [.lit (.int .i64 (n : Int))])) := (Grow.refl h).psh _
  refine goneR_of (h' := psh h (.cells [.lit (.int .i64 (n : Int))])) ?_ G rfl
  have hsz := catB_size ha
  have hsz2 : ss.length * n ≤ 4 * 64 := Nat.mul_le_mul h4 h2
  have hsz3 : 1 * 1 ≤ ss.length * n := Nat.mul_le_mul h3 h1
  generalize hg : psh h (.cells [.lit (.int .i64 (n : Int))]) = g at G ⊢
  have hb : cellsAt g h.length = some [.lit (.int .i64 (n : Int))] := by rw [← hg]; exact cellsAt_new h _
  have S' := S.grow G
  have e2 : S_frame_Put_2 v false g = some (okS (blockB ss), g) := by
    obtain ⟨g', j1, j2⟩ := join_run S' (by omega) (by omega) (fun _ e => by rw [e] at hsz; simp at hsz; omega)
    rw [S_frame_Put_2_eq]
    refine cF rfl (bd S'.len (bd (goneR_of j1 j2 rfl) (bd rfl ?_)))
    rw [wrap_i32s (by omega) (by omega), enc_ok _ (by omega), bs_app]
    refine bd (req_true (by rw [bs_size, bs_size]; simp only [List.length_cons, List.length_nil]; omega)) (bd (closeO_some (by rw [bs_size]; simp only [List.length_append, List.length_cons, List.length_nil]; omega)) rfl)
  rw [S_frame_Put_eq, hg]
  refine bd (ld1_of hb) (bd rfl (bd (sized_run h1 h2 g) (bd rfl (cF rfl (bd S'.len ?_)))))
  rw [S_frame_Put_0_eq]
  refine cF (decide_eq_false (by omega)) (bd S'.len ?_)
  rw [S_frame_Put_1_eq]
  exact cF (decide_eq_false (by omega)) (bd (cont_run S' hb (by omega) ha) (bd rfl e2))
noncomputable def w_recfile_PutHead : XC := .q fun R args h K => match args with
  | [.lit (.int .i64 a0)] => (onlyR (S_recfile_PutHead a0 h) h).bind fun r => K r
  | _ => none
theorem w_recfile_PutHead_ok : XC.Nat w_recfile_PutHead ∧ XC.Ok Try.prog 51 w_recfile_PutHead := by
  refine ⟨fun R args h K => ?_, tc51, fun args h v hx => ?_⟩
  · dsimp only; split <;> simp [Option.bind_assoc, mkP]
  · dsimp only at hx; split at hx
    · obtain ⟨r, hopt, hx⟩ := Option.bind_eq_some_iff.1 hx
      cases hx
      exact (by have hopt := onlyR_some hopt; exact S_recfile_PutHead_ends hopt selfR)
    · cases hx
noncomputable def w_frame_PutEnd : XC := .q fun R args h K => match args with
  | [.agg a0] => (goneR (S_frame_PutEnd a0 h) h).bind fun r => K r
  | _ => none
theorem w_frame_PutEnd_ok : XC.Nat w_frame_PutEnd ∧ XC.Ok Try.prog 58 w_frame_PutEnd := by
  refine ⟨fun R args h K => ?_, tc58, fun args h v hx => ?_⟩
  · dsimp only; split <;> simp [Option.bind_assoc, mkP]
  · dsimp only at hx; split at hx
    · obtain ⟨r, hopt, hx⟩ := Option.bind_eq_some_iff.1 hx
      cases hx
      exact (by obtain ⟨h', hopt, hg, hc⟩ := goneR_some hopt; exact S_frame_PutEnd_ends hopt (goneEnds hg hc))
    · cases hx
noncomputable def w_frame_Put : XC := .q fun R args h K => match args with
  | [.lit (.int .i64 a0), a1] => (goneR (S_frame_Put a0 a1 h) h).bind fun r => K r
  | _ => none
theorem w_frame_Put_ok : XC.Nat w_frame_Put ∧ XC.Ok Try.prog 100 w_frame_Put := by
  refine ⟨fun R args h K => ?_, tc100, fun args h v hx => ?_⟩
  · dsimp only; split <;> simp [Option.bind_assoc, mkP]
  · dsimp only at hx; split at hx
    · obtain ⟨r, hopt, hx⟩ := Option.bind_eq_some_iff.1 hx
      cases hx
      exact (by obtain ⟨h', hopt, hg, hc⟩ := goneR_some hopt; exact S_frame_Put_ends hopt (goneEnds hg hc))
    · cases hx
end Go.Proofs.Yteclkehnppeobaa.AL
/- The disk, as it runs: what each call does to a disk that was made. -/
namespace Go.Proofs.Yteclkehnppeobaa.AL
set_option linter.unusedVariables false
set_option linter.unusedSimpArgs false
set_option maxRecDepth 100000
open Go
open Go.Proofs.Try

/-- Begins a call: the machine is down, or it is not. -/
def downN (D : Dsk) : Bool := D.down || decide (D.fuse = 0)
def callD (D : Dsk) : Dsk := { D with calls := IntKind.wrap .i64 (D.calls + 1), down := downN D, fuse := if D.fuse > -1 then IntKind.wrap .i64 (D.fuse - 1) else D.fuse }
section run
variable {h0 h : AHeap} {d mb : Nat} {D : Dsk} {es : List (Value × AVal)} {l : List File}
theorem dskC_len : (dskC mb D).length = 7 := rfl
theorem given_run (H : DH h0 h d mb (dskC mb D) es) : onlyR (S_fs_Disk_given (.ptr d 0) h) h = some (.lit (.bool true)) := by
  rw [show S_fs_Disk_given (.ptr d 0) h = some (.lit (.bool true), h) from ?_, onlyR_same]
  rw [S_fs_Disk_given_eq]
  refine bd rfl (cT rfl (bd rfl (bd rfl (bd (H.ld (k := 0) rfl) (bd rfl ?_)))))
  exact S_fs_Disk_given_0_eq _ _
theorem call_not (H : DH h0 h d mb (dskC mb D) es) : S_fs_Disk_call (.ptr d 0) false h = some (.lit (.int .i64 1), h) := by
  rw [S_fs_Disk_call_eq]
  refine bd (given_run H) (bd rfl (cF rfl ?_))
  rw [S_fs_Disk_call_0_eq]; rfl
theorem call_may (H : DH h0 h d mb (dskC mb D) es) : ∃ h', S_fs_Disk_call (.ptr d 0) true h = some (.lit (.int .i64 (if downN D then 5 else 0)), h') ∧ DH h0 h' d mb (dskC mb (callD D)) es ∧ Tmp h0 h h' ∧ h'.length = h.length := by
  obtain ⟨h1, e1, H1, T1, l1⟩ := H.std (k := 6) (v := .lit (.int .i64 (IntKind.wrap .i64 (D.calls + 1)))) (by rw [dskC_len]; omega) rfl
  obtain ⟨h2, e2, H2, T2, l2⟩ := H1.std (k := 5) (v := .lit (.bool (downN D))) (by rw [List.length_set, dskC_len]; omega) rfl
  obtain ⟨h3, H3, T3, l3, e3⟩ : ∃ h3, DH h0 h3 d mb (dskC mb (callD D)) es ∧ Tmp h0 h2 h3 ∧ h3.length = h2.length ∧ S_fs_Disk_call_1 (.ptr d 0) (.ptr d 0) (downN D) h1 = S_fs_Disk_call_2 (.ptr d 0) h3 := by
    by_cases hf : D.fuse > -1
    · obtain ⟨h3, e3, H3, T3, l3⟩ := H2.std (k := 4) (v := .lit (.int .i64 (IntKind.wrap .i64 (D.fuse - 1)))) (by rw [List.length_set, List.length_set, dskC_len]; omega) rfl
      refine ⟨h3, ?_, T3, l3, ?_⟩
      · have e : (((dskC mb D).set 6 (.lit (.int .i64 (IntKind.wrap .i64 (D.calls + 1))))).set 5 (.lit (.bool (downN D)))).set 4 (.lit (.int .i64 (IntKind.wrap .i64 (D.fuse - 1)))) = dskC mb (callD D) := by
          unfold callD; rw [if_pos hf]; rfl
        rw [← e]; exact H3
      · rw [S_fs_Disk_call_1_eq]
        exact bd rfl (bd rfl (bd e2 (bd rfl (bd rfl (bd (H2.ld (k := 4) rfl) (bd rfl (cT (decide_eq_true hf) (bd rfl (bd rfl (bd (H2.ld (k := 4) rfl) (bd rfl (bd rfl (bd rfl (bd e3 rfl))))))))))))))
    · refine ⟨h2, ?_, Tmp.refl, rfl, ?_⟩
      · have e : ((dskC mb D).set 6 (.lit (.int .i64 (IntKind.wrap .i64 (D.calls + 1))))).set 5 (.lit (.bool (downN D))) = dskC mb (callD D) := by
          unfold callD; rw [if_neg hf]; rfl
        rw [← e]; exact H2
      · rw [S_fs_Disk_call_1_eq]
        exact bd rfl (bd rfl (bd e2 (bd rfl (bd rfl (bd (H2.ld (k := 4) rfl) (bd rfl (cF (decide_eq_false hf) rfl)))))))
  refine ⟨h3, ?_, H3, (T1.trans T2 (by omega)).trans T3 (by omega), by omega⟩
  rw [S_fs_Disk_call_eq]
  refine bd (given_run H) (bd rfl (cF rfl ?_))
  rw [S_fs_Disk_call_0_eq]
  refine cF rfl (bd rfl (bd rfl (bd (H.ld (k := 6) rfl) (bd rfl (bd rfl (bd rfl (bd e1 (bd rfl (bd rfl (bd (H1.ld (k := 5) rfl) (bd rfl ?_)))))))))))
  have fin : S_fs_Disk_call_1 (.ptr d 0) (.ptr d 0) (downN D) h1 = some (.lit (.int .i64 (if downN D then 5 else 0)), h3) := by
    rw [e3, S_fs_Disk_call_2_eq]
    refine bd rfl (bd rfl (bd (H3.ld (k := 5) rfl) (bd rfl ?_)))
    show cond (downN D) _ _ = _
    cases downN D <;> rfl
  cases hd : D.down with
  | true =>
    show S_fs_Disk_call_1 _ _ true h1 = _
    have : downN D = true := by unfold downN; rw [hd]; rfl
    rw [this] at fin ⊢; exact fin
  | false =>
    refine cF rfl (bd rfl (bd rfl (bd (H1.ld (k := 4) rfl) (bd rfl ?_))))
    have : downN D = decide (D.fuse = 0) := by unfold downN; rw [hd]; rfl
    rw [← this]; exact fin

/-- What 'find' tells: the file, or why there is none. -/
def findR (D : Dsk) (l : List File) (name : ByteArray) (may : Bool) : (ByteArray × Int) × Int := if may && rightB name then (if downN D then ((⟨#[]⟩, 0), 5) else match fask l name with
    | some x => (x, 0)
    | none => ((⟨#[]⟩, 0), 2)) else ((⟨#[]⟩, 0), 1)
def findD (D : Dsk) (name : ByteArray) (may : Bool) : Dsk := if may && rightB name then callD D else D
theorem find_run (H : DH h0 h d mb (dskC mb D) (fileE l)) (name : ByteArray) (hn : name.size ≤ 9223372036854775807) (may : Bool) :
    ∃ h', S_fs_Disk_find (.ptr d 0) name may h = some (.tup [.agg (fileC (findR D l name may).1.1 (findR D l name may).1.2), .lit (.int .i64 (findR D l name may).2)], h') ∧ DH h0 h' d mb (dskC mb (findD D name may)) (fileE l) ∧ Tmp h0 h h' ∧ h.length ≤ h'.length := by
  have hN := H.keep.len
  obtain ⟨H1, T1⟩ := H.psh (.cells zfC)
  have hc1 : cellsAt (psh h (.cells zfC)) h.length = some zfC := cellsAt_new h zfC
  suffices key : ∀ ok, ok = (may && rightB name) → ∃ h', S_fs_Disk_find_0 (.ptr d 0) name h.length (.ptr d 0) ok (psh h (.cells zfC)) = some (.tup [.agg (fileC (findR D l name may).1.1 (findR D l name may).1.2), .lit (.int .i64 (findR D l name may).2)], h') ∧ DH h0 h' d mb (dskC mb (findD D name may)) (fileE l) ∧ Tmp h0 h h' ∧ h.length ≤ h'.length by
    obtain ⟨h', e, r⟩ := key _ rfl
    refine ⟨h', ?_, r⟩
    rw [S_fs_Disk_find_eq]
    cases may with
    | true => exact cT rfl (bd (req_true hn) e)
    | false => exact cF rfl e
  intro ok hok
  unfold findR findD
  rw [← hok]
  cases ok with
  | false =>
    obtain ⟨h2, e2, H2, c2, l2, o2⟩ := H1.tstn (f := h.length) (n := 2) (vs := zfC) hN hc1 rfl rfl rfl
    refine ⟨h2, ?_, H2, fun c hc hl => (o2 c (by omega)).trans (T1 c hc hl), by rw [l2, psh_length]; omega⟩
    rw [S_fs_Disk_find_0_eq]
    exact bd (call_not H1) (bd rfl (cT rfl (bd e2 (bd (ldn_of (n := 2) (off := 0) c2 (Nat.le_refl _)) rfl))))
  | true =>
    obtain ⟨h2, e2, H2, T2, l2⟩ := call_may H1
    have hc2 := T2.cells hN hc1
    rw [psh_length] at l2
    cases hd : downN D with
    | true =>
      rw [hd] at e2
      obtain ⟨h3, e3, H3, c3, l3, o3⟩ := H2.tstn (f := h.length) (n := 2) (vs := zfC) hN hc2 rfl rfl rfl
      refine ⟨h3, ?_, H3, fun c hc hl => (o3 c (by omega)).trans ((T2 c hc (by rw [psh_length]; omega)).trans (T1 c hc hl)), by omega⟩
      rw [S_fs_Disk_find_0_eq]
      exact bd e2 (bd rfl (cT rfl (bd e3 (bd (ldn_of (n := 2) (off := 0) c3 (Nat.le_refl _)) rfl))))
    | false =>
      rw [hd] at e2
      obtain ⟨H3, T3⟩ := H2.psh (.cells zfC)
      have hml := mlook_file (.agg zfC) name l
      have ml : mapAt .str h2 (.map mb) = some (fileE l) := H2.at
      rw [S_fs_Disk_find_0_eq]
      cases hg : fask l name with
      | none =>
        rw [hg] at hml
        have s1 : stn 2 (psh h2 (.cells zfC)) (.ptr h2.length 0) zfC = some (psh h2 (.cells zfC)) := stn_new rfl rfl rfl
        have hc3 := T3.cells hN hc2
        obtain ⟨h4, e4, H4, c4, l4, o4⟩ := H3.tstn (f := h.length) (n := 2) (vs := zfC) hN hc3 rfl rfl rfl
        rw [psh_length] at l4
        refine ⟨h4, ?_, H4, fun c hc hl => (o4 c (by omega)).trans ((T3 c hc (by omega)).trans ((T2 c hc (by rw [psh_length]; omega)).trans (T1 c hc hl))), by omega⟩
        refine bd e2 (bd rfl (cF rfl (bd rfl (bd rfl (bd (H2.ld (k := 3) rfl) (bd ml ?_))))))
        rw [hml]
        exact bd rfl (bd s1 (cT rfl (bd e4 (bd (ldn_of (n := 2) (off := 0) c4 (Nat.le_refl _)) rfl))))
      | some x =>
        rw [hg] at hml
        have s1 : stn 2 (psh h2 (.cells zfC)) (.ptr h2.length 0) (fileC x.1 x.2) = some (psh h2 (.cells (fileC x.1 x.2))) := stn_new rfl rfl rfl
        obtain ⟨H3, T3⟩ := H2.psh (.cells (fileC x.1 x.2))
        have hc3 := T3.cells hN hc2
        obtain ⟨h4, e4, H4, c4, l4, o4⟩ := H3.tstn (f := h.length) (n := 2) (vs := fileC x.1 x.2) hN hc3 rfl rfl rfl
        rw [psh_length] at l4
        refine ⟨h4, ?_, H4, fun c hc hl => (o4 c (by omega)).trans ((T3 c hc (by omega)).trans ((T2 c hc (by rw [psh_length]; omega)).trans (T1 c hc hl))), by omega⟩
        refine bd e2 (bd rfl (cF rfl (bd rfl (bd rfl (bd (H2.ld (k := 3) rfl) (bd ml ?_))))))
        rw [hml]
        exact bd rfl (bd s1 (cF rfl (bd (ldn_of (n := 2) (off := 0) (cellsAt_new h2 _) (Nat.le_refl _)) (bd e4 (bd (ldn_of (n := 2) (off := 0) c4 (Nat.le_refl _)) rfl)))))
end run
end Go.Proofs.Yteclkehnppeobaa.AL
/- The disk's calls, one by one. -/
namespace Go.Proofs.Yteclkehnppeobaa.AL
set_option linter.unusedVariables false
set_option linter.unusedSimpArgs false
set_option maxRecDepth 100000
open Go
open Go.Proofs.Try

section ops
variable {h0 h : AHeap} {d mb : Nat} {D : Dsk} {l : List File}
/-- Behind 'find' the file is laid into cells of its own. -/
theorem after_find (H : DH h0 h d mb (dskC mb D) (fileE l)) (name : ByteArray) (hn : name.size ≤ 9223372036854775807) (may : Bool) :
    ∃ g, S_fs_Disk_find (.ptr d 0) name may h = some (.tup [.agg (fileC (findR D l name may).1.1 (findR D l name may).1.2), .lit (.int .i64 (findR D l name may).2)], g) ∧
      stn 2 (psh g (.cells zfC)) (.ptr g.length 0) (fileC (findR D l name may).1.1 (findR D l name may).1.2) = some (psh g (.cells (fileC (findR D l name may).1.1 (findR D l name may).1.2))) ∧
      DH h0 (psh g (.cells (fileC (findR D l name may).1.1 (findR D l name may).1.2))) d mb (dskC mb (findD D name may)) (fileE l) ∧ Tmp h0 h (psh g (.cells (fileC (findR D l name may).1.1 (findR D l name may).1.2))) ∧ h.length ≤ g.length ∧ h0.length ≤ g.length := by
  obtain ⟨g, e, H1, T1, l1⟩ := find_run H name hn may
  obtain ⟨H2, T2⟩ := H1.psh (.cells (fileC (findR D l name may).1.1 (findR D l name may).1.2))
  exact ⟨g, e, stn_new rfl rfl rfl, H2, T1.trans T2 l1, l1, H1.keep.len⟩
def createE (D : Dsk) (l : List File) (name : ByteArray) : Int := if (findR D l name true).2 = 2 then (if l.length = 200 then 4 else 0) else if (findR D l name true).2 = 0 then 3 else (findR D l name true).2
def createL (D : Dsk) (l : List File) (name : ByteArray) : List File := if (findR D l name true).2 = 2 ∧ l.length ≠ 200 then flay l name (⟨#[]⟩, 0) else l
theorem create_run (H : DH h0 h d mb (dskC mb D) (fileE l)) (name : ByteArray) (hn : name.size ≤ 9223372036854775807) :
    ∃ h', S_fs_Disk_Create (.ptr d 0) name h = some (.lit (.int .i64 (createE D l name)), h') ∧ DH h0 h' d mb (dskC mb (findD D name true)) (fileE (createL D l name)) ∧ Tmp h0 h h' ∧ h.length ≤ h'.length := by
  obtain ⟨g, e, s1, H1, T1, l1, l0⟩ := after_find H name hn true
  unfold createE createL
  rw [S_fs_Disk_Create_eq]
  generalize hR : findR D l name true = R at e s1 H1 T1 ⊢
  by_cases h2 : R.2 = 2
  · by_cases h3 : l.length = 200
    · refine ⟨psh g (.cells (fileC R.1.1 R.1.2)), ?_, ?_, T1, by rw [psh_length]; omega⟩
      · rw [if_pos h2, if_pos h3]
        refine bd e (bd rfl (bd rfl (bd rfl (bd rfl (bd s1 (cF (by simp [h2]) (bd rfl (bd rfl (bd (H1.ld (k := 3) rfl) (bd H1.len (bd rfl (cT ?_ rfl))))))))))))
        have : (fileE l).length = 200 := by simp [fileE, h3]
        simp [this]
      · rw [if_neg (by simp [h3])]; exact H1
    · obtain ⟨h4, e4, H4, T4, l4⟩ := H1.stm (mput (.string name) (.agg zfC))
      rw [psh_length] at l4
      refine ⟨h4, ?_, ?_, T1.trans T4 (by rw [psh_length]; omega), by omega⟩
      · rw [if_pos h2, if_neg h3]
        refine bd e (bd rfl (bd rfl (bd rfl (bd rfl (bd s1 (cF (by simp [h2]) (bd rfl (bd rfl (bd (H1.ld (k := 3) rfl) (bd H1.len (bd rfl (cF ?_ (bd rfl (bd rfl (bd (H1.ld (k := 3) rfl) (bd e4 rfl))))))))))))))))
        have : (fileE l).length ≠ 200 := by simpa [fileE] using h3
        simp; omega
      · rw [if_pos ⟨h2, h3⟩, ← mput_file]; exact H4
  · refine ⟨psh g (.cells (fileC R.1.1 R.1.2)), ?_, ?_, T1, by rw [psh_length]; omega⟩
    · rw [if_neg h2]
      refine bd e (bd rfl (bd rfl (bd rfl (bd rfl (bd s1 (cT (by simp [h2]) ?_))))))
      show cond (decide (R.2 = 0)) _ _ = _
      by_cases h3 : R.2 = 0
      · rw [if_pos h3]; exact cT (decide_eq_true h3) rfl
      · rw [if_neg h3]; exact cF (decide_eq_false h3) rfl
    · rw [if_neg (fun h => h2 h.1)]; exact H1
def fullB (D : Dsk) (s : ByteArray) : Bool := decide ((s.size : Int) > IntKind.wrap .i64 (D.room - D.used))
def appE (D : Dsk) (l : List File) (name s : ByteArray) : Int := if (findR D l name true).2 ≠ 0 then (findR D l name true).2 else if fullB D s then 4 else 0
def appD (D : Dsk) (l : List File) (name s : ByteArray) : Dsk := if appE D l name s = 0 then { findD D name true with used := IntKind.wrap .i64 (D.used + (s.size : Int)) } else findD D name true
def appL (D : Dsk) (l : List File) (name s : ByteArray) : List File := if appE D l name s = 0 then flay l name ((findR D l name true).1.1 ++ s, (findR D l name true).1.2) else l
theorem findD_room (D : Dsk) (name : ByteArray) (may : Bool) : (findD D name may).room = D.room := by unfold findD; split <;> rfl
theorem findD_used (D : Dsk) (name : ByteArray) (may : Bool) : (findD D name may).used = D.used := by unfold findD; split <;> rfl
theorem append_run (H : DH h0 h d mb (dskC mb D) (fileE l)) (name s : ByteArray) (hn : name.size ≤ 9223372036854775807) (hs : appE D l name s = 0 → (findR D l name true).1.1.size + s.size ≤ 9223372036854775807) :
    ∃ h', S_fs_Disk_Append (.ptr d 0) name s h = some (.lit (.int .i64 (appE D l name s)), h') ∧ DH h0 h' d mb (dskC mb (appD D l name s)) (fileE (appL D l name s)) ∧ Tmp h0 h h' ∧ h.length ≤ h'.length := by
  obtain ⟨g, e, s1, H1, T1, l1, l0⟩ := after_find H name hn true
  unfold appD appL
  rw [S_fs_Disk_Append_eq]
  have hE : appE D l name s = if (findR D l name true).2 ≠ 0 then (findR D l name true).2 else if fullB D s then 4 else 0 := rfl
  have hr : (dskC mb (findD D name true))[1]? = some (.lit (.int .i64 D.room)) := by rw [← findD_room D name true]; rfl
  have hu : (dskC mb (findD D name true))[2]? = some (.lit (.int .i64 D.used)) := by rw [← findD_used D name true]; rfl
  generalize hR : findR D l name true = R at e s1 H1 T1 hE hs ⊢
  by_cases h2 : R.2 = 0
  · rw [if_neg (by simp [h2])] at hE
    cases hf : fullB D s with
    | true =>
      rw [hf, if_pos rfl] at hE
      rw [hE]
      refine ⟨psh g (.cells (fileC R.1.1 R.1.2)), ?_, by rw [if_neg (by omega), if_neg (by omega)]; exact H1, T1, by rw [psh_length]; omega⟩
      exact bd e (bd rfl (bd rfl (bd rfl (bd rfl (bd s1 (cF (by simp [h2]) (bd rfl (bd rfl (bd (H1.ld hr) (bd rfl (bd rfl (bd rfl (bd (H1.ld hu) (bd rfl (cT hf rfl)))))))))))))))
    | false =>
      rw [hf, if_neg (by simp)] at hE
      rw [hE, if_pos rfl, if_pos rfl]
      have c1 : cellsAt (psh g (.cells (fileC R.1.1 R.1.2))) g.length = some (fileC R.1.1 R.1.2) := cellsAt_new _ _
      obtain ⟨h2', e2, H2, c2, l2, o2⟩ := H1.tst (k := 0) (v := .lit (.string (R.1.1 ++ s))) l0 c1 (Nat.zero_lt_succ _) rfl
      obtain ⟨h3, e3, H3, T3, l3⟩ := H2.stm (mput (.string name) (.agg (fileC (R.1.1 ++ s) R.1.2)))
      obtain ⟨h4, e4, H4, T4, l4⟩ := H3.std (k := 2) (v := .lit (.int .i64 (IntKind.wrap .i64 (D.used + (s.size : Int))))) (by rw [dskC_len]; omega) rfl
      rw [psh_length] at l2
      refine ⟨h4, ?_, ?_, fun c hc hl => (T4 c hc (by omega)).trans ((T3 c hc (by omega)).trans ((o2 c (by omega)).trans (T1 c hc hl))), by omega⟩
      · exact bd e (bd rfl (bd rfl (bd rfl (bd rfl (bd s1 (cF (by simp [h2]) (bd rfl (bd rfl (bd (H1.ld hr) (bd rfl (bd rfl (bd rfl (bd (H1.ld hu) (bd rfl (cF hf
          (bd (ld1_of c1) (bd rfl (bd (req_true (hs hE)) (bd e2 (bd rfl (bd rfl (bd (H2.ld (k := 3) rfl) (bd (ldn_of (n := 2) (off := 0) c2 (Nat.le_refl _)) (bd e3 (bd rfl (bd rfl (bd (H3.ld hu) (bd rfl (bd rfl (bd rfl (bd e4 rfl)))))))))))))))))))))))))))))))
      · rw [← mput_file]; exact H4
  · rw [if_pos h2] at hE
    rw [hE]
    refine ⟨psh g (.cells (fileC R.1.1 R.1.2)), ?_, by rw [if_neg h2, if_neg h2]; exact H1, T1, by rw [psh_length]; omega⟩
    exact bd e (bd rfl (bd rfl (bd rfl (bd rfl (bd s1 (cT (by simp [h2]) rfl))))))
theorem size_run (H : DH h0 h d mb (dskC mb D) (fileE l)) (name : ByteArray) (hn : name.size ≤ 9223372036854775807) :
    ∃ h', S_fs_Disk_Size (.ptr d 0) name h = some (.tup [.lit (.int .i64 ((findR D l name true).1.1.size : Int)), .lit (.int .i64 (findR D l name true).2)], h') ∧ DH h0 h' d mb (dskC mb (findD D name true)) (fileE l) ∧ Tmp h0 h h' ∧ h.length ≤ h'.length := by
  obtain ⟨g, e, s1, H1, T1, l1, l0⟩ := after_find H name hn true
  refine ⟨_, ?_, H1, T1, by rw [psh_length]; omega⟩
  rw [S_fs_Disk_Size_eq]
  exact bd e (bd rfl (bd rfl (bd rfl (bd rfl (bd s1 (bd (ld1_of (cellsAt_new _ _)) (bd rfl rfl)))))))
def readR (D : Dsk) (l : List File) (name : ByteArray) (i n : Int) : ByteArray × Int :=
  let R := findR D l name (decide (minI i n ≥ 0))
  if R.2 ≠ 0 then (⟨#[]⟩, R.2) else if i > (R.1.1.size : Int) ∨ n > (R.1.1.size : Int) - i then (⟨#[]⟩, 10) else (R.1.1.extract i.toNat (i + n).toNat, 0)
theorem minI_nonneg {a b : Int} (h : minI a b ≥ 0) : 0 ≤ a ∧ 0 ≤ b := by unfold minI at h; split at h <;> omega
theorem read_run (H : DH h0 h d mb (dskC mb D) (fileE l)) (name : ByteArray) (i n : Int) (hn : name.size ≤ 9223372036854775807) (hs : (findR D l name (decide (minI i n ≥ 0))).1.1.size ≤ 9223372036854775807) :
    ∃ h', S_fs_Disk_Read (.ptr d 0) name i n h = some (.tup [.lit (.string (readR D l name i n).1), .lit (.int .i64 (readR D l name i n).2)], h') ∧ DH h0 h' d mb (dskC mb (findD D name (decide (minI i n ≥ 0)))) (fileE l) ∧ Tmp h0 h h' ∧ h.length ≤ h'.length := by
  obtain ⟨g, e, s1, H1, T1, l1, l0⟩ := after_find H name hn (decide (minI i n ≥ 0))
  have hrr : readR D l name i n = let R := findR D l name (decide (minI i n ≥ 0)); if R.2 ≠ 0 then (⟨#[]⟩, R.2) else if i > (R.1.1.size : Int) ∨ n > (R.1.1.size : Int) - i then (⟨#[]⟩, 10) else (R.1.1.extract i.toNat (i + n).toNat, 0) := rfl
  have hmay : (findR D l name (decide (minI i n ≥ 0))).2 = 0 → 0 ≤ i ∧ 0 ≤ n := fun h => by
    by_cases hm : minI i n ≥ 0
    · exact minI_nonneg hm
    · unfold findR at h; rw [decide_eq_false hm] at h; simp at h
  rw [S_fs_Disk_Read_eq]
  generalize hR : findR D l name (decide (minI i n ≥ 0)) = R at e s1 H1 T1 hrr hs hmay ⊢
  simp only at hrr
  have c1 : cellsAt (psh g (.cells (fileC R.1.1 R.1.2))) g.length = some (fileC R.1.1 R.1.2) := cellsAt_new _ _
  refine ⟨psh g (.cells (fileC R.1.1 R.1.2)), ?_, H1, T1, by rw [psh_length]; omega⟩
  by_cases h2 : R.2 = 0
  · obtain ⟨p1, p2⟩ := hmay h2
    rw [if_neg (by simp [h2])] at hrr
    refine bd e (bd rfl (bd rfl (bd rfl (bd rfl (bd s1 (cF (by simp [h2]) (bd (ld1_of c1) (bd rfl ?_))))))))
    by_cases h3 : i > (R.1.1.size : Int)
    · rw [if_pos (.inl h3)] at hrr
      rw [hrr]
      refine cT (decide_eq_true h3) ?_
      rw [S_fs_Disk_Read_0_eq]; rfl
    · refine cF (decide_eq_false h3) (bd (ld1_of c1) (bd rfl ?_))
      have hw : IntKind.wrap .i64 ((R.1.1.size : Int) - i) = (R.1.1.size : Int) - i := wrap_i64 (by omega) (by omega)
      show S_fs_Disk_Read_0 i n g.length (decide (n > IntKind.wrap .i64 ((R.1.1.size : Int) - i))) _ = _
      rw [hw, S_fs_Disk_Read_0_eq]
      by_cases h4 : n > (R.1.1.size : Int) - i
      · rw [if_pos (.inr h4)] at hrr
        rw [hrr]
        exact cT (decide_eq_true h4) rfl
      · rw [if_neg (by omega)] at hrr
        rw [hrr]
        refine cF (decide_eq_false h4) (bd (ld1_of c1) (bd rfl ?_))
        show (cutS R.1.1 i (IntKind.wrap .i64 (i + n))).bind _ = _
        rw [wrap_i64 (by omega) (by omega)]
        unfold cutS
        rw [req_true (by omega)]
        rfl
  · rw [if_pos h2] at hrr
    rw [hrr]
    exact bd e (bd rfl (bd rfl (bd rfl (bd rfl (bd s1 (cT (by simp [h2]) rfl))))))
def syncL (D : Dsk) (l : List File) (name : ByteArray) : List File := if (findR D l name true).2 = 0 then flay l name ((findR D l name true).1.1, ((findR D l name true).1.1.size : Int)) else l
theorem sync_run (H : DH h0 h d mb (dskC mb D) (fileE l)) (name : ByteArray) (hn : name.size ≤ 9223372036854775807) :
    ∃ h', S_fs_Disk_Sync (.ptr d 0) name h = some (.lit (.int .i64 (findR D l name true).2), h') ∧ DH h0 h' d mb (dskC mb (findD D name true)) (fileE (syncL D l name)) ∧ Tmp h0 h h' ∧ h.length ≤ h'.length := by
  obtain ⟨g, e, s1, H1, T1, l1, l0⟩ := after_find H name hn true
  unfold syncL
  rw [S_fs_Disk_Sync_eq]
  generalize hR : findR D l name true = R at e s1 H1 T1 ⊢
  by_cases h2 : R.2 = 0
  · have c1 : cellsAt (psh g (.cells (fileC R.1.1 R.1.2))) g.length = some (fileC R.1.1 R.1.2) := cellsAt_new _ _
    obtain ⟨h2', e2, H2, c2, l2, o2⟩ := H1.tst (k := 1) (v := .lit (.int .i64 (R.1.1.size : Int))) l0 c1 (Nat.le_refl _) rfl
    obtain ⟨h3, e3, H3, T3, l3⟩ := H2.stm (mput (.string name) (.agg (fileC R.1.1 (R.1.1.size : Int))))
    rw [psh_length] at l2
    refine ⟨h3, ?_, ?_, fun c hc hl => (T3 c hc (by omega)).trans ((o2 c (by omega)).trans (T1 c hc hl)), by omega⟩
    · refine bd e (bd rfl (bd rfl (bd rfl (bd rfl (bd s1 (cT (by simp [h2]) (bd (ld1_of c1) (bd rfl (bd e2 (bd rfl (bd rfl (bd (H2.ld (k := 3) rfl) (bd (ldn_of (n := 2) (off := 0) c2 (Nat.le_refl _)) (bd e3 ?_))))))))))))))
      rw [S_fs_Disk_Sync_0_eq]
    · rw [if_pos h2, ← mput_file]; exact H3
  · refine ⟨psh g (.cells (fileC R.1.1 R.1.2)), ?_, by rw [if_neg h2]; exact H1, T1, by rw [psh_length]; omega⟩
    refine bd e (bd rfl (bd rfl (bd rfl (bd rfl (bd s1 (cF (by simp [h2]) ?_))))))
    rw [S_fs_Disk_Sync_0_eq]
def dropSz (l : List File) (name : ByteArray) : Int := match fask l name with
  | some x => (x.1.size : Int)
  | none => 0
def dropD (D : Dsk) (l : List File) (name : ByteArray) : Dsk := { D with used := IntKind.wrap .i64 (D.used - dropSz l name) }
theorem drop_run (H : DH h0 h d mb (dskC mb D) (fileE l)) (name : ByteArray) :
    ∃ h', S_fs_Disk_drop (.ptr d 0) name h = some (.tup [], h') ∧ DH h0 h' d mb (dskC mb (dropD D l name)) (fileE (fdrop l name)) ∧ Tmp h0 h h' ∧ h'.length = h.length := by
  obtain ⟨h1, e1, H1, T1, l1⟩ := H.std (k := 2) (v := .lit (.int .i64 (IntKind.wrap .i64 (D.used - dropSz l name)))) (by rw [dskC_len]; omega) rfl
  obtain ⟨h2, e2, H2, T2, l2⟩ := H1.del (.string name)
  refine ⟨h2, ?_, by rw [← mdel_file]; exact H2, T1.trans T2 (by omega), by omega⟩
  rw [S_fs_Disk_drop_eq]
  have hml := mlook_file (.agg zfC) name l
  refine bd rfl (bd rfl (bd (H.ld (k := 2) rfl) (bd rfl (bd rfl (bd rfl (bd (H.ld (k := 3) rfl) (bd H.at ?_)))))))
  have hds : dropSz l name = match fask l name with
    | some x => (x.1.size : Int)
    | none => 0 := rfl
  cases hg : fask l name with
  | none =>
    rw [hg] at hml hds
    rw [hml]
    rw [hds] at e1
    exact bd rfl (bd rfl (bd rfl (bd rfl (bd rfl (bd e1 (bd rfl (bd rfl (bd (H1.ld (k := 3) rfl) (bd e2 rfl)))))))))
  | some x =>
    rw [hg] at hml hds
    rw [hml]
    rw [hds] at e1
    exact bd rfl (bd rfl (bd rfl (bd rfl (bd rfl (bd e1 (bd rfl (bd rfl (bd (H1.ld (k := 3) rfl) (bd e2 rfl)))))))))
theorem remove_run (H : DH h0 h d mb (dskC mb D) (fileE l)) (name : ByteArray) (hn : name.size ≤ 9223372036854775807) :
    ∃ h', S_fs_Disk_Remove (.ptr d 0) name h = some (.lit (.int .i64 (findR D l name true).2), h') ∧
      DH h0 h' d mb (dskC mb (if (findR D l name true).2 = 0 then dropD (findD D name true) l name else findD D name true)) (fileE (if (findR D l name true).2 = 0 then fdrop l name else l)) ∧ Tmp h0 h h' ∧ h.length ≤ h'.length := by
  obtain ⟨g, e, s1, H1, T1, l1, l0⟩ := after_find H name hn true
  rw [S_fs_Disk_Remove_eq]
  generalize hR : findR D l name true = R at e s1 H1 T1 ⊢
  by_cases h2 : R.2 = 0
  · obtain ⟨h3, e3, H3, T3, l3⟩ := drop_run H1 name
    rw [psh_length] at l3
    refine ⟨h3, ?_, by rw [if_pos h2, if_pos h2]; exact H3, T1.trans T3 (by rw [psh_length]; omega), by omega⟩
    refine bd e (bd rfl (bd rfl (bd rfl (bd rfl (bd s1 (cT (by simp [h2]) (bd e3 ?_)))))))
    rw [S_fs_Disk_Remove_0_eq]
  · refine ⟨psh g (.cells (fileC R.1.1 R.1.2)), ?_, by rw [if_neg h2, if_neg h2]; exact H1, T1, by rw [psh_length]; omega⟩
    refine bd e (bd rfl (bd rfl (bd rfl (bd rfl (bd s1 (cF (by simp [h2]) ?_))))))
    rw [S_fs_Disk_Remove_0_eq]
theorem arm_run (H : DH h0 h d mb (dskC mb D) (fileE l)) (n : Int) :
    ∃ h', S_fs_Disk_Arm (.ptr d 0) n h = some (.tup [], h') ∧ DH h0 h' d mb (dskC mb { D with fuse := maxI (-1) n }) (fileE l) ∧ Tmp h0 h h' ∧ h'.length = h.length := by
  obtain ⟨h1, e1, H1, T1, l1⟩ := H.std (k := 4) (v := .lit (.int .i64 (maxI (-1) n))) (by rw [dskC_len]; omega) rfl
  refine ⟨h1, ?_, H1, T1, l1⟩
  rw [S_fs_Disk_Arm_eq]
  exact bd (given_run H) (bd rfl (cT rfl (bd rfl (bd rfl (bd e1 rfl)))))
end ops
end Go.Proofs.Yteclkehnppeobaa.AL
/- The disk: names, rising again, copies, new ones. -/
namespace Go.Proofs.Yteclkehnppeobaa.AL
set_option linter.unusedVariables false
set_option linter.unusedSimpArgs false
set_option maxRecDepth 100000
open Go
open Go.Proofs.Try

section ops
variable {h0 h : AHeap} {d mb : Nat} {D : Dsk} {l : List File}
def namesOf (l : List File) : List ByteArray := sortB (l.map (·.1))
theorem keyL_file : ∀ l : List File, keyL (fileE l) = some (l.map fun f => (f.1, .agg (fileC f.2.1 f.2.2)))
  | [] => rfl
  | f :: l => by
    have := keyL_file l
    simp only [fileE, List.map_cons, keyL] at this ⊢
    rw [this]; rfl
theorem names_run (H : DH h0 h d mb (dskC mb D) (fileE l)) (hl : l.length ≤ 1000) :
    ∃ h' v, S_fs_Disk_names (.ptr d 0) h = some (v, h') ∧ Own 1 h' v (namesOf l).length (strVs (namesOf l)) ∧ (∀ b, At v b → h.length ≤ b) ∧ DH h0 h' d mb (dskC mb D) (fileE l) ∧ Tmp h0 h h' ∧ h.length ≤ h'.length := by
  obtain ⟨H1, T1⟩ := H.psh (.cells [.map mb])
  have hk : keysV (psh h (.cells [.map mb])) (keysF h.length) = some (l.map (·.1)) := by
    unfold keysV keysF
    simp only [cellsAt_new, H1.ms]
    rw [keyL_file, Option.bind_some, req_true (by simp; omega)]
    simp
  have e : S_fs_Disk_names (.ptr d 0) h = some (sortedV (psh h (.cells [.map mb])) (namesOf l), sortedH (psh h (.cells [.map mb])) (namesOf l)) := by
    rw [S_fs_Disk_names_eq]
    exact bd rfl (bd rfl (bd (H.ld (k := 3) rfl) (bd rfl (bd hk rfl))))
  unfold sortedV sortedH at e
  by_cases hn : namesOf l = []
  · rw [if_pos hn, if_pos hn] at e
    refine ⟨_, _, e, ?_, ?_, H1, T1, by rw [psh_length]; omega⟩
    · rw [hn]; exact Own.nil 1 _
    · rintro b ⟨k, off, len, hb⟩; cases hb
  · rw [if_neg hn, if_neg hn] at e
    obtain ⟨H2, T2⟩ := H1.psh (.cells ((namesOf l).map strV))
    refine ⟨_, _, e, ⟨by simp [strVs], .inr ⟨_, rfl, cellsAt_new _ _⟩⟩, ?_, H2, T1.trans T2 (by rw [psh_length]; omega), by simp [psh]⟩
    rintro b ⟨k, off, len, hb⟩
    cases hb
    rw [psh_length]; omega
/-! ### Rising -/
def fileOf (l : List File) (name : ByteArray) : ByteArray × Int := (fask l name).getD (⟨#[]⟩, 0)
def riseN (k : Option Int) (x : ByteArray × Int) : Int := match k with
  | some v => maxI 0 (minI v ((x.1.size : Int) - x.2))
  | none => 0
def riseF (k : Option Int) (x : ByteArray × Int) : ByteArray × Int := (x.1.extract 0 (x.2 + riseN k x).toNat, x.2 + riseN k x)
def FileOk (x : ByteArray × Int) : Prop := 0 ≤ x.2 ∧ x.2 ≤ (x.1.size : Int) ∧ (x.1.size : Int) ≤ 4611686018427387904
theorem riseN_ok {k : Option Int} {x : ByteArray × Int} (hx : FileOk x) : 0 ≤ riseN k x ∧ riseN k x ≤ (x.1.size : Int) - x.2 := by
  obtain ⟨a, b, c⟩ := hx
  unfold riseN
  split
  · unfold maxI minI; constructor <;> (split <;> split <;> omega)
  · omega
theorem size_take {s : ByteArray} {n : Nat} (h : n ≤ s.size) : (s.extract 0 n).size = n := by rw [ByteArray.size_extract]; omega
theorem riseF_ok {k : Option Int} {x : ByteArray × Int} (hx : FileOk x) : FileOk (riseF k x) ∧ ((riseF k x).1.size : Int) = x.2 + riseN k x := by
  obtain ⟨a1, a2⟩ := riseN_ok (k := k) hx
  obtain ⟨a, b, c⟩ := hx
  have e : ((riseF k x).1.size : Int) = x.2 + riseN k x := by
    show ((x.1.extract 0 (x.2 + riseN k x).toNat).size : Int) = _
    rw [size_take (by omega)]; omega
  refine ⟨⟨?_, ?_, ?_⟩, e⟩
  · show 0 ≤ x.2 + riseN k x; omega
  · rw [e]; exact Int.le_refl _
  · rw [e]; omega
/-- One file after another. -/
def riseS (ki : List Int) : Nat → List ByteArray → List File × Int → List File × Int
  | _, [], r => r
  | i, n :: ns, r => riseS ki (i + 1) ns (flay r.1 n (riseF (ki[i]?) (fileOf r.1 n)), IntKind.wrap .i64 (r.2 - ((fileOf r.1 n).1.size - (riseF (ki[i]?) (fileOf r.1 n)).2)))
theorem fileOf_ok {l : List File} (hl : ∀ f ∈ l, FileOk f.2) (n : ByteArray) : FileOk (fileOf l n) := by
  unfold fileOf
  induction l with
  | nil => exact ⟨by simp [fask], by simp [fask], by show (0 : Int) ≤ _; omega⟩
  | cons f l ih =>
    unfold fask
    split
    · exact hl f (by simp)
    · exact ih fun f hf => hl f (by simp [hf])
theorem flay_all {p : File → Prop} : ∀ {l : List File} {n : ByteArray} {x : ByteArray × Int}, (∀ f ∈ l, p f) → p (n, x) → ∀ f ∈ flay l n x, p f
  | [], n, x, _, hx, f, hf => by simp [flay] at hf; subst hf; exact hx
  | g :: l, n, x, hl, hx, f, hf => by
    unfold flay at hf
    split at hf
    · rcases List.mem_cons.1 hf with rfl | hf
      · exact hx
      · exact hl f (by simp [hf])
    · rcases List.mem_cons.1 hf with rfl | hf
      · exact hl _ (by simp)
      · exact flay_all (fun f hf => hl f (by simp [hf])) hx f hf
theorem sless_int (n : Int) : (AVal.lit (.int .i64 n)).one = true := rfl
/-- The state of a disk, its used bytes apart. -/
theorem rise_loop {v keep : AVal} {ks : List ByteArray} {ki : List Int} (hk : ks.length ≤ 1000) (hS : ∀ g, Keep h0.length [d, mb] h0 g → Sl 1 g keep ki.length (intVs ki)) :
    ∀ (m i : Nat) (g : AHeap) (l : List File) (D : Dsk), ks.length - i = m → i ≤ ks.length → DH h0 g d mb (dskC mb D) (fileE l) → (∀ f ∈ l, FileOk f.2) → Own 1 g v ks.length (strVs ks) → (∀ b, At v b → h0.length ≤ b) →
      ∃ g', S_fs_Disk_Rise_0 (.ptr d 0) keep v (ks.length : Nat) (i : Nat) g = S_fs_Disk_Rise_2 (.ptr d 0) g' ∧ DH h0 g' d mb (dskC mb { D with used := (riseS ki i (ks.drop i) (l, D.used)).2 }) (fileE (riseS ki i (ks.drop i) (l, D.used)).1) ∧ Tmp h0 g g' ∧ g.length ≤ g'.length := by
  intro m
  induction m with
  | zero =>
    intro i g l D hm hi H hl O hv
    have hd : ks.drop i = [] := List.drop_of_length_le (by omega)
    refine ⟨g, ?_, by rw [hd]; exact H, Tmp.refl, Nat.le_refl _⟩
    rw [S_fs_Disk_Rise_0_eq]
    exact cF (by simp; omega) rfl
  | succ m ih =>
    intro i g l D hm hi H hl O hv
    have hlt : i < ks.length := by omega
    have hd : ks.drop i = ks[i] :: ks.drop (i + 1) := List.drop_eq_getElem_cons hlt
    -- the name
    obtain ⟨p, p1, _, _, p2⟩ := O.sl.idx hlt
    have p2 := p2 (by omega)
    rw [Nat.mul_one] at p2
    have p2 : ld1 g p = some (.lit (.string ks[i])) := by rw [p2]; simp [strVs, hlt]
    -- the file
    have hml := mlook_file (.agg zfC) ks[i] l
    have hfo : FileOk (fileOf l ks[i]) := fileOf_ok hl _
    have hml1 : (mlook (.agg zfC) (.string ks[i]) (fileE l)).1 = .agg (fileC (fileOf l ks[i]).1 (fileOf l ks[i]).2) := by
      rw [hml]; unfold fileOf; cases fask l ks[i] <;> rfl
    generalize hx : fileOf l ks[i] = x at hfo hml1
    have s1 : stn 2 (psh g (.cells zfC)) (.ptr g.length 0) (fileC x.1 x.2) = some (psh g (.cells (fileC x.1 x.2))) := stn_new rfl rfl rfl
    obtain ⟨H1, T1⟩ := H.psh (.cells (fileC x.1 x.2))
    have c1 : cellsAt (psh g (.cells (fileC x.1 x.2))) g.length = some (fileC x.1 x.2) := cellsAt_new _ _
    have hgl := H.keep.len
    obtain ⟨n1, n2⟩ := riseN_ok (k := ki[i]?) hfo
    obtain ⟨r1, r2⟩ := riseF_ok (k := ki[i]?) hfo
    obtain ⟨b1, b2, b3⟩ := hfo
    -- behind the number
    have behind : ∃ g', S_fs_Disk_Rise_1 (.ptr d 0) keep ks[i] g.length (riseN (ki[i]?) x) v (ks.length : Nat) (i : Nat) (psh g (.cells (fileC x.1 x.2))) = S_fs_Disk_Rise_2 (.ptr d 0) g' ∧ DH h0 g' d mb (dskC mb { D with used := (riseS ki i (ks.drop i) (l, D.used)).2 }) (fileE (riseS ki i (ks.drop i) (l, D.used)).1) ∧ Tmp h0 g g' ∧ g.length ≤ g'.length := by
      have w1 : IntKind.wrap .i64 (x.2 + riseN (ki[i]?) x) = x.2 + riseN (ki[i]?) x := wrap_i64 (by omega) (by omega)
      obtain ⟨h2, e2, H2, c2, l2, o2⟩ := H1.tst (k := 1) (v := .lit (.int .i64 (x.2 + riseN (ki[i]?) x))) hgl c1 (Nat.le_refl _) rfl
      have w2 : IntKind.wrap .i64 ((x.1.size : Int) - (x.2 + riseN (ki[i]?) x)) = (x.1.size : Int) - (x.2 + riseN (ki[i]?) x) := wrap_i64 (by omega) (by omega)
      obtain ⟨h3, e3, H3, T3, l3⟩ := H2.std (k := 2) (v := .lit (.int .i64 (IntKind.wrap .i64 (D.used - ((x.1.size : Int) - (x.2 + riseN (ki[i]?) x)))))) (by rw [dskC_len]; omega) rfl
      have c3 := T3.cells hgl c2
      obtain ⟨h4, e4, H4, c4, l4, o4⟩ := H3.tst (k := 0) (v := .lit (.string (riseF (ki[i]?) x).1)) hgl c3 (Nat.zero_lt_succ _) rfl
      obtain ⟨h5, e5, H5, T5, l5⟩ := H4.stm (mput (.string ks[i]) (.agg (fileC (riseF (ki[i]?) x).1 (riseF (ki[i]?) x).2)))
      rw [psh_length] at l2
      have hT : Tmp h0 g h5 := fun c hc hl' => (T5 c hc (by omega)).trans ((o4 c (by omega)).trans ((T3 c hc (by omega)).trans ((o2 c (by omega)).trans (T1 c hc hl'))))
      rw [mput_file] at H5
      have O5 : Own 1 h5 v ks.length (strVs ks) := O.keep fun b hb => hT b (hv b hb) (At.own O hb)
      obtain ⟨g', q1, q2, q3, q4⟩ := ih (i + 1) h5 (flay l ks[i] (riseF (ki[i]?) x)) { D with used := IntKind.wrap .i64 (D.used - ((x.1.size : Int) - (x.2 + riseN (ki[i]?) x))) } (by omega) (by omega) H5 (flay_all hl r1) O5 hv
      refine ⟨g', ?_, ?_, hT.trans q3 (by omega), by omega⟩
      · rw [← q1, S_fs_Disk_Rise_1_eq]
        refine bd (ld1_of c1) (bd rfl ?_)
        show (st1 _ _ (.lit (.int .i64 (IntKind.wrap .i64 (x.2 + riseN (ki[i]?) x))))).bind _ = _
        rw [w1]
        refine bd e2 (bd rfl (bd rfl (bd (H2.ld (k := 2) rfl) (bd rfl (bd (ld1_of c2) (bd rfl (bd (ld1_of c2) (bd rfl (bd rfl (bd rfl ?_))))))))))
        show (st1 _ _ (.lit (.int .i64 (IntKind.wrap .i64 (D.used - IntKind.wrap .i64 ((x.1.size : Int) - (x.2 + riseN (ki[i]?) x))))))).bind _ = _
        rw [w2]
        have hcut : cutS x.1 0 (x.2 + riseN (ki[i]?) x) = some (riseF (ki[i]?) x).1 := by
          unfold cutS; rw [req_true (by omega)]; rfl
        refine bd e3 (bd (ld1_of c3) (bd rfl (bd (ld1_of c3) (bd rfl (bd hcut (bd e4 (bd rfl (bd rfl (bd (H4.ld (k := 3) rfl) (bd (ldn_of (n := 2) (off := 0) c4 (Nat.le_refl _)) (bd e5 ?_)))))))))))
        rw [show IntKind.wrap .i64 ((i : Int) + 1) = ((i + 1 : Nat) : Int) from wrap_up (by omega)]
      · have e : riseS ki i (ks.drop i) (l, D.used) = riseS ki (i + 1) (ks.drop (i + 1)) (flay l ks[i] (riseF (ki[i]?) x), IntKind.wrap .i64 (D.used - ((x.1.size : Int) - (x.2 + riseN (ki[i]?) x)))) := by
          rw [hd, ← hx]; rfl
        rw [e]; exact q2
    obtain ⟨g', q1, q2, q3, q4⟩ := behind
    refine ⟨g', ?_, q2, q3, q4⟩
    rw [← q1, S_fs_Disk_Rise_0_eq]
    have S := hS _ H1.keep
    refine cT (by simp; omega) (bd p1 (bd p2 (bd rfl (bd rfl (bd rfl (bd (H.ld (k := 3) rfl) (bd H.at ?_)))))))
    rw [hml1]
    refine bd rfl (bd s1 (bd S.len ?_))
    by_cases hik : i < ki.length
    · obtain ⟨p', p1', _, _, p2'⟩ := S.idx hik
      have p2' := p2' (by omega)
      rw [Nat.mul_one] at p2'
      have p2' : ld1 (psh g (.cells (fileC x.1 x.2))) p' = some (.lit (.int .i64 ki[i])) := by rw [p2']; simp [intVs, hik]
      have e : ki[i]? = some ki[i] := List.getElem?_eq_getElem hik
      refine cT (by simp; omega) (bd p1' (bd p2' (bd rfl (bd (ld1_of c1) (bd rfl (bd (ld1_of c1) (bd rfl ?_)))))))
      show S_fs_Disk_Rise_1 _ _ _ _ (maxI 0 (minI ki[i] (IntKind.wrap .i64 ((x.1.size : Int) - x.2)))) _ _ _ _ = _
      rw [show IntKind.wrap .i64 ((x.1.size : Int) - x.2) = (x.1.size : Int) - x.2 from wrap_i64 (by omega) (by omega), e]
      rfl
    · have e : ki[i]? = none := List.getElem?_eq_none (by omega)
      refine cF (by simp; omega) ?_
      rw [e]; rfl
theorem rise_run (H : DH h0 h d mb (dskC mb D) (fileE l)) {keep : AVal} {ki : List Int} (hl : l.length ≤ 1000) (hf : ∀ f ∈ l, FileOk f.2) (hS : ∀ g, Keep h0.length [d, mb] h0 g → Sl 1 g keep ki.length (intVs ki)) :
    ∃ h', S_fs_Disk_Rise (.ptr d 0) keep h = some (.tup [], h') ∧ DH h0 h' d mb (dskC mb { D with used := (riseS ki 0 (namesOf l) (l, D.used)).2, fuse := -1, down := false }) (fileE (riseS ki 0 (namesOf l) (l, D.used)).1) ∧ Tmp h0 h h' ∧ h.length ≤ h'.length := by
  obtain ⟨h1, v, e1, O, f1, H1, T1, l1⟩ := names_run H hl
  have hn : (namesOf l).length ≤ 1000 := by unfold namesOf; rw [sortB_length]; simpa using hl
  obtain ⟨h2, e2, H2, T2, l2⟩ := rise_loop hn hS _ 0 h1 l D rfl (Nat.zero_le _) H1 hf O (fun b hb => Nat.le_trans H.keep.len (f1 b hb))
  obtain ⟨h3, e3, H3, T3, l3⟩ := H2.std (k := 4) (v := .lit (.int .i64 (-1))) (by rw [dskC_len]; omega) rfl
  obtain ⟨h4, e4, H4, T4, l4⟩ := H3.std (k := 5) (v := .lit (.bool false)) (by rw [List.length_set, dskC_len]; omega) rfl
  refine ⟨h4, ?_, H4, ((T1.trans T2 l1).trans T3 (by omega)).trans T4 (by omega), by omega⟩
  rw [S_fs_Disk_Rise_eq]
  refine bd (given_run H) (bd rfl (cF rfl (bd e1 (bd O.sl.len ?_))))
  refine (show _ = _ from e2).trans ?_
  rw [S_fs_Disk_Rise_2_eq]
  exact bd rfl (bd rfl (bd e3 (bd rfl (bd rfl (bd e4 rfl)))))

/-! ### Copies, new ones -/
def newDsk (room : Int) : Dsk := ⟨room, 0, -1, false, 0⟩
-- chainman/fs.New: function 8
noncomputable def Efs_New : XE := { T := tabOf [(3, r3), (4, r4), (9, r9), (25, r25), (26, r26), (71, r71), (73, r73), (81, r81)], C := [], D := [], Ms := [], Ml := [], Mo := [(1006, [0, 9])], n := 14 }
theorem Efs_New_ok : XE.Ok Efs_New Try.prog := ⟨tabOf_ok (⟨r3_ok, ⟨r4_ok, ⟨r9_ok, ⟨r25_ok, ⟨r26_ok, ⟨r71_ok, ⟨r73_ok, ⟨r81_ok, trivial⟩⟩⟩⟩⟩⟩⟩⟩), trivial, ydOk_none, trivial⟩
noncomputable def c8 : Code := bodyOf f8
noncomputable def S_fs_New (room0 : Int) (h : AHeap) : Option (AVal × AHeap) := xfun Efs_New f8 [(.lit (.int .i64 room0))] h
noncomputable def S_fs_New_0 (room0 : Int) (t9 : Bool) (h : AHeap) : Option (AVal × AHeap) := jo Efs_New 1 (rops (ca (ca (cb c8)))) ((rops (ca (ca (cb c8)))).toList.drop 6) 6 [(0, (.lit (.int .i64 room0))), (9, (.lit (.bool t9)))] h (kN (kSeq Efs_New (cb (ca (cb c8))) (kSeq Efs_New (cb (cb c8)) (xend Efs_New f8))))
theorem S_fs_New_eq (room0 : Int) (h : AHeap) : S_fs_New room0 h =
 bif (decide (room0 < 0)) then (S_fs_New_0 room0 true h)
 else (S_fs_New_0 room0 (decide (room0 > 16777216)) h) := by kernel_rfl
theorem S_fs_New_0_eq (room0 : Int) (t9 : Bool) (h : AHeap) : S_fs_New_0 room0 t9 h =
 bif t9 then (some ((.tup [(.lit (.pointer none)), (.lit (.int .i64 1))]), h))
 else (some ((.tup [(.ptr (((psh h (.map .str []))).length) 0), (.lit (.int .i64 0))]), (psh ((psh h (.map .str []))) (.cells ([(.lit (.bool true)), (.lit (.int .i64 room0)), (.lit (.int .i64 0)), (.map h.length), (.lit (.int .i64 (-1))), (.lit (.bool false)), (.lit (.int .i64 0))]))))) := (jo_eq ..).trans (by kernel_rfl)
theorem S_fs_New_ends {room0 : Int} {h h' : AHeap} {v : AVal} {R : AEnd → AHeap → Prop} (hx : S_fs_New room0 h = some (v, h')) (hR : HOk h → h.length ≤ h'.length → ABody.AEnds h h' (.ret v) R) : ACalls Try.prog 8 [(.lit (.int .i64 room0))] h R := xfun_ends Efs_New_ok tmix (i := 8) (by rfl) (by kernel_rfl) (by kernel_rfl) hx hR
noncomputable def w_fs_New : XC := .l fun R args h K => match args with
  | [.lit (.int .i64 a0)] => (S_fs_New a0 h).bind fun r => K r.1 r.2
  | _ => none
theorem w_fs_New_ok : XC.Nat w_fs_New ∧ XC.Ok Try.prog 8 w_fs_New := by
  refine ⟨fun R args h K => ?_, tc8, fun args h v h' hx => ?_⟩
  · dsimp only; split <;> simp [Option.bind_assoc, mkP]
  · dsimp only at hx; split at hx
    · obtain ⟨r, hopt, hx⟩ := Option.bind_eq_some_iff.1 hx
      simp only [mkP, Option.some.injEq, Prod.mk.injEq] at hx
      obtain ⟨rfl, rfl⟩ := hx
      exact (by obtain ⟨v, h'⟩ := r; exact S_fs_New_ends hopt selfR)
    · cases hx
theorem new_run (h : AHeap) {room : Int} (h0 : 0 ≤ room) (h1 : room ≤ 16777216) : ∃ h', S_fs_New room h = some (.tup [.ptr (h.length + 1) 0, .lit (.int .i64 0)], h') ∧ DiskAt h' (h.length + 1) h.length (newDsk room) [] ∧ (∀ c, c < h.length → h'[c]? = h[c]?) ∧ h'.length = h.length + 2 := by
  refine ⟨psh (psh h (.map .str [])) (.cells (dskC h.length (newDsk room))), ?_, ⟨?_, ?_⟩, fun c hc => ?_, by simp [psh]⟩
  · rw [S_fs_New_eq]
    refine cF (by simp; omega) ?_
    rw [S_fs_New_0_eq]
    refine cF (by simp; omega) ?_
    rw [psh_length]; rfl
  · have := cellsAt_new (psh h (.map .str [])) (dskC h.length (newDsk room))
    rw [psh_length] at this; exact this
  · show ((h ++ [_]) ++ [_])[h.length]? = _
    rw [List.getElem?_append_left (by simp)]; simp; rfl
  · show ((h ++ [_]) ++ [_])[c]? = _
    rw [List.getElem?_append_left (by simp; omega), List.getElem?_append_left hc]
theorem new_not (h : AHeap) {room : Int} (h0 : room < 0 ∨ 16777216 < room) : S_fs_New room h = some (.tup [.lit (.pointer none), .lit (.int .i64 1)], h) := by
  rw [S_fs_New_eq]
  by_cases hr : room < 0
  · refine cT (by simpa using hr) ?_
    rw [S_fs_New_0_eq]; rfl
  · refine cF (by simpa using hr) ?_
    rw [S_fs_New_0_eq]
    exact cT (by simp; omega) rfl
end ops
end Go.Proofs.Yteclkehnppeobaa.AL
/- The writer's functions: printed. -/
namespace Go.Proofs.Yteclkehnppeobaa.AL
set_option linter.unusedVariables false
set_option linter.unusedSimpArgs false
set_option maxRecDepth 100000
open Go
open Go.Proofs.Try
-- chainman/budget.New: function 17
noncomputable def Ebudget_New : XE := { T := tabOf [(3, r3), (4, r4), (44, r44), (93, r93)], C := [], D := [], Ms := [], Ml := [], Mo := [], n := 8 }
theorem Ebudget_New_ok : XE.Ok Ebudget_New Try.prog := ⟨tabOf_ok (⟨r3_ok, ⟨r4_ok, ⟨r44_ok, ⟨r93_ok, trivial⟩⟩⟩⟩), trivial, ydOk_none, trivial⟩
noncomputable def c17 : Code := bodyOf f17
noncomputable def S_budget_New (m0 : Int) (h : AHeap) : Option (AVal × AHeap) := xfun Ebudget_New f17 [(.lit (.int .i64 m0))] h
theorem S_budget_New_eq (m0 : Int) (h : AHeap) : S_budget_New m0 h =
 bif (decide (m0 < 0)) then (some ((.lit (.pointer none)), h))
 else (some ((.ptr h.length 0), (psh h (.cells ([(.lit (.bool true)), (.lit (.int .i64 m0)), (.lit (.int .i64 0)), (.lit (.int .i64 0))]))))) := by kernel_rfl
theorem S_budget_New_ends {m0 : Int} {h h' : AHeap} {v : AVal} {R : AEnd → AHeap → Prop} (hx : S_budget_New m0 h = some (v, h')) (hR : HOk h → h.length ≤ h'.length → ABody.AEnds h h' (.ret v) R) : ACalls Try.prog 17 [(.lit (.int .i64 m0))] h R := xfun_ends Ebudget_New_ok tmix (i := 17) (by rfl) (by kernel_rfl) (by kernel_rfl) hx hR
noncomputable def w_budget_New : XC := .l fun R args h K => match args with
  | [.lit (.int .i64 a0)] => (S_budget_New a0 h).bind fun r => K r.1 r.2
  | _ => none
theorem w_budget_New_ok : XC.Nat w_budget_New ∧ XC.Ok Try.prog 17 w_budget_New := by
  refine ⟨fun R args h K => ?_, tc17, fun args h v h' hx => ?_⟩
  · dsimp only; split <;> simp [Option.bind_assoc, mkP]
  · dsimp only at hx; split at hx
    · obtain ⟨r, hopt, hx⟩ := Option.bind_eq_some_iff.1 hx
      simp only [mkP, Option.some.injEq, Prod.mk.injEq] at hx
      obtain ⟨rfl, rfl⟩ := hx
      exact (by obtain ⟨v, h'⟩ := r; exact S_budget_New_ends hopt selfR)
    · cases hx
-- (*chainman/budget.Budget).given: function 68
noncomputable def Ebudget_Budget_given : XE := { T := tabOf [(3, r3), (4, r4), (44, r44), (93, r93)], C := [], D := [], Ms := [], Ml := [], Mo := [(1008, [10])], n := 11 }
theorem Ebudget_Budget_given_ok : XE.Ok Ebudget_Budget_given Try.prog := ⟨tabOf_ok (⟨r3_ok, ⟨r4_ok, ⟨r44_ok, ⟨r93_ok, trivial⟩⟩⟩⟩), trivial, ydOk_none, trivial⟩
noncomputable def c68 : Code := bodyOf f68
noncomputable def S_budget_Budget_given (b0 : AVal) (h : AHeap) : Option (AVal × AHeap) := xfun Ebudget_Budget_given f68 [b0] h
noncomputable def S_budget_Budget_given_0 (t10 : Bool) (h : AHeap) : Option (AVal × AHeap) := jo Ebudget_Budget_given 1 (rops (ca (cb c68))) ((rops (ca (cb c68))).toList.drop 8) 8 [(10, (.lit (.bool t10)))] h (kN (kSeq Ebudget_Budget_given (cb (cb c68)) (xend Ebudget_Budget_given f68)))
theorem S_budget_Budget_given_eq (b0 : AVal) (h : AHeap) : S_budget_Budget_given b0 h =
 (AVal.isNil .ptr b0).bind fun b2 =>
 bif (!b2) then ((nilCk b0).bind fun p3 =>
 (fieldP 0 p3).bind fun p4 =>
 (ld1 h p4).bind fun x5 =>
 (asB x5).bind fun b6 =>
 S_budget_Budget_given_0 b6 h)
 else (S_budget_Budget_given_0 false h) := by kernel_rfl
theorem S_budget_Budget_given_0_eq (t10 : Bool) (h : AHeap) : S_budget_Budget_given_0 t10 h =
 some ((.lit (.bool t10)), h) := (jo_eq ..).trans (by kernel_rfl)
theorem S_budget_Budget_given_ends {b0 : AVal} {h h' : AHeap} {v : AVal} {R : AEnd → AHeap → Prop} (hx : S_budget_Budget_given b0 h = some (v, h')) (hR : HOk h → h.length ≤ h'.length → ABody.AEnds h h' (.ret v) R) : ACalls Try.prog 68 [b0] h R := xfun_ends Ebudget_Budget_given_ok tmix (i := 68) (by rfl) (by kernel_rfl) (by kernel_rfl) hx hR
noncomputable def w_budget_Budget_given : XC := .q fun R args h K => match args with
  | [a0] => (onlyR (S_budget_Budget_given a0 h) h).bind fun r => K r
  | _ => none
theorem w_budget_Budget_given_ok : XC.Nat w_budget_Budget_given ∧ XC.Ok Try.prog 68 w_budget_Budget_given := by
  refine ⟨fun R args h K => ?_, tc68, fun args h v hx => ?_⟩
  · dsimp only; split <;> simp [Option.bind_assoc, mkP]
  · dsimp only at hx; split at hx
    · obtain ⟨r, hopt, hx⟩ := Option.bind_eq_some_iff.1 hx
      cases hx
      exact (by have hopt := onlyR_some hopt; exact S_budget_Budget_given_ends hopt selfR)
    · cases hx
-- (*chainman/budget.Budget).Left: function 97
noncomputable def Ebudget_Budget_Left : XE := { T := tabOf [(3, r3), (4, r4), (44, r44), (93, r93)], C := [(68, w_budget_Budget_given)], D := [(3, ⟨[], [0, 1, 2, 3, 4, 5, 6, 7, 8, 9], [], [], [], [], []⟩)], Ms := [], Ml := [], Mo := [], n := 15 }
theorem Ebudget_Budget_Left_ok : XE.Ok Ebudget_Budget_Left Try.prog := ⟨tabOf_ok (⟨r3_ok, ⟨r4_ok, ⟨r44_ok, ⟨r93_ok, trivial⟩⟩⟩⟩), (⟨w_budget_Budget_given_ok, trivial⟩), ydOk_none, trivial⟩
noncomputable def c97 : Code := bodyOf f97
noncomputable def S_budget_Budget_Left (b0 : AVal) (h : AHeap) : Option (AVal × AHeap) := xfun Ebudget_Budget_Left f97 [b0] h
theorem S_budget_Budget_Left_eq (b0 : AVal) (h : AHeap) : S_budget_Budget_Left b0 h =
 (onlyR (S_budget_Budget_given b0 h) h).bind fun r1 =>
 (asB r1).bind fun b2 =>
 bif (!b2) then (some ((.lit (.int .i64 0)), h))
 else ((nilCk b0).bind fun p3 =>
 (fieldP 1 p3).bind fun p4 =>
 (ld1 h p4).bind fun x5 =>
 (asI .i64 x5).bind fun n6 =>
 (nilCk b0).bind fun p7 =>
 (fieldP 2 p7).bind fun p8 =>
 (ld1 h p8).bind fun x9 =>
 (asI .i64 x9).bind fun n10 =>
 some ((.lit (.int .i64 (IntKind.wrap .i64 (n6 - n10)))), h)) := by kernel_rfl
theorem S_budget_Budget_Left_ends {b0 : AVal} {h h' : AHeap} {v : AVal} {R : AEnd → AHeap → Prop} (hx : S_budget_Budget_Left b0 h = some (v, h')) (hR : HOk h → h.length ≤ h'.length → ABody.AEnds h h' (.ret v) R) : ACalls Try.prog 97 [b0] h R := xfun_ends Ebudget_Budget_Left_ok tmix (i := 97) (by rfl) (by kernel_rfl) (by kernel_rfl) hx hR
noncomputable def w_budget_Budget_Left : XC := .q fun R args h K => match args with
  | [a0] => (onlyR (S_budget_Budget_Left a0 h) h).bind fun r => K r
  | _ => none
theorem w_budget_Budget_Left_ok : XC.Nat w_budget_Budget_Left ∧ XC.Ok Try.prog 97 w_budget_Budget_Left := by
  refine ⟨fun R args h K => ?_, tc97, fun args h v hx => ?_⟩
  · dsimp only; split <;> simp [Option.bind_assoc, mkP]
  · dsimp only at hx; split at hx
    · obtain ⟨r, hopt, hx⟩ := Option.bind_eq_some_iff.1 hx
      cases hx
      exact (by have hopt := onlyR_some hopt; exact S_budget_Budget_Left_ends hopt selfR)
    · cases hx
-- (*chainman/budget.Budget).Take: function 52
noncomputable def Ebudget_Budget_Take : XE := { T := tabOf [(3, r3), (4, r4), (26, r26), (44, r44), (93, r93)], C := [(68, w_budget_Budget_given), (97, w_budget_Budget_Left)], D := [(6, ⟨[], [0, 1, 2, 3, 4, 5, 6, 7, 8, 9, 10, 11], [12], [], [], [], []⟩)], Ms := [], Ml := [], Mo := [(1007, [0, 1, 12])], n := 38 }
theorem Ebudget_Budget_Take_ok : XE.Ok Ebudget_Budget_Take Try.prog := ⟨tabOf_ok (⟨r3_ok, ⟨r4_ok, ⟨r26_ok, ⟨r44_ok, ⟨r93_ok, trivial⟩⟩⟩⟩⟩), (⟨w_budget_Budget_given_ok, ⟨w_budget_Budget_Left_ok, trivial⟩⟩), ydOk_none, trivial⟩
noncomputable def c52 : Code := bodyOf f52
noncomputable def S_budget_Budget_Take (b0 : AVal) (n1 : Int) (h : AHeap) : Option (AVal × AHeap) := xfun Ebudget_Budget_Take f52 [b0, (.lit (.int .i64 n1))] h
noncomputable def S_budget_Budget_Take_0 (b0 : AVal) (n1 : Int) (t12 : Bool) (h : AHeap) : Option (AVal × AHeap) := jo Ebudget_Budget_Take 1 (rops (ca (ca (ca (cb c52))))) ((rops (ca (ca (ca (cb c52))))).toList.drop 7) 7 [(0, b0), (1, (.lit (.int .i64 n1))), (12, (.lit (.bool t12)))] h (kN (kSeq Ebudget_Budget_Take (cb (ca (ca (cb c52)))) (kBlk 0 (kSeq Ebudget_Budget_Take (cb (cb c52)) (xend Ebudget_Budget_Take f52)))))
theorem S_budget_Budget_Take_eq (b0 : AVal) (n1 : Int) (h : AHeap) : S_budget_Budget_Take b0 n1 h =
 (onlyR (S_budget_Budget_given b0 h) h).bind fun r1 =>
 (asB r1).bind fun b3 =>
 bif (!b3) then (S_budget_Budget_Take_0 b0 n1 true h)
 else (S_budget_Budget_Take_0 b0 n1 (decide (n1 < 0)) h) := by kernel_rfl
theorem S_budget_Budget_Take_0_eq (b0 : AVal) (n1 : Int) (t12 : Bool) (h : AHeap) : S_budget_Budget_Take_0 b0 n1 t12 h =
 bif t12 then (some ((.lit (.int .i64 1)), h))
 else ((onlyR (S_budget_Budget_Left b0 h) h).bind fun r4 =>
 (asI .i64 r4).bind fun n5 =>
 bif (decide (n1 > n5)) then (some ((.lit (.int .i64 9)), h))
 else ((nilCk b0).bind fun p6 =>
 (fieldP 2 p6).bind fun p7 =>
 (ld1 h p7).bind fun x8 =>
 (asI .i64 x8).bind fun n9 =>
 (nilCk b0).bind fun p10 =>
 (fieldP 2 p10).bind fun p11 =>
 (st1 h p11 (.lit (.int .i64 (IntKind.wrap .i64 (n9 + n1))))).bind fun h12 =>
 (nilCk b0).bind fun p13 =>
 (fieldP 3 p13).bind fun p14 =>
 (ld1 h12 p14).bind fun x15 =>
 (asI .i64 x15).bind fun n16 =>
 (nilCk b0).bind fun p17 =>
 (fieldP 2 p17).bind fun p18 =>
 (ld1 h12 p18).bind fun x19 =>
 (asI .i64 x19).bind fun n20 =>
 (nilCk b0).bind fun p21 =>
 (fieldP 3 p21).bind fun p22 =>
 (st1 h12 p22 (.lit (.int .i64 (maxI n16 n20)))).bind fun h23 =>
 some ((.lit (.int .i64 0)), h23))) := (jo_eq ..).trans (by kernel_rfl)
theorem S_budget_Budget_Take_ends {b0 : AVal} {n1 : Int} {h h' : AHeap} {v : AVal} {R : AEnd → AHeap → Prop} (hx : S_budget_Budget_Take b0 n1 h = some (v, h')) (hR : HOk h → h.length ≤ h'.length → ABody.AEnds h h' (.ret v) R) : ACalls Try.prog 52 [b0, (.lit (.int .i64 n1))] h R := xfun_ends Ebudget_Budget_Take_ok tmix (i := 52) (by rfl) (by kernel_rfl) (by kernel_rfl) hx hR
noncomputable def w_budget_Budget_Take : XC := .l fun R args h K => match args with
  | [a0, .lit (.int .i64 a1)] => (S_budget_Budget_Take a0 a1 h).bind fun r => K r.1 r.2
  | _ => none
theorem w_budget_Budget_Take_ok : XC.Nat w_budget_Budget_Take ∧ XC.Ok Try.prog 52 w_budget_Budget_Take := by
  refine ⟨fun R args h K => ?_, tc52, fun args h v h' hx => ?_⟩
  · dsimp only; split <;> simp [Option.bind_assoc, mkP]
  · dsimp only at hx; split at hx
    · obtain ⟨r, hopt, hx⟩ := Option.bind_eq_some_iff.1 hx
      simp only [mkP, Option.some.injEq, Prod.mk.injEq] at hx
      obtain ⟨rfl, rfl⟩ := hx
      exact (by obtain ⟨v, h'⟩ := r; exact S_budget_Budget_Take_ends hopt selfR)
    · cases hx
-- (*chainman/budget.Budget).Give: function 96
noncomputable def Ebudget_Budget_Give : XE := { T := tabOf [(3, r3), (4, r4), (44, r44), (93, r93)], C := [(68, w_budget_Budget_given)], D := [(1, ⟨[], [0, 1, 2, 3, 4, 5, 6, 7, 8, 9, 10, 11, 12], [13], [], [], [], []⟩)], Ms := [], Ml := [], Mo := [(6, [0, 1, 9])], n := 23 }
theorem Ebudget_Budget_Give_ok : XE.Ok Ebudget_Budget_Give Try.prog := ⟨tabOf_ok (⟨r3_ok, ⟨r4_ok, ⟨r44_ok, ⟨r93_ok, trivial⟩⟩⟩⟩), (⟨w_budget_Budget_given_ok, trivial⟩), ydOk_none, trivial⟩
noncomputable def c96 : Code := bodyOf f96
noncomputable def S_budget_Budget_Give (b0 : AVal) (n1 : Int) (h : AHeap) : Option (AVal × AHeap) := xfun Ebudget_Budget_Give f96 [b0, (.lit (.int .i64 n1))] h
noncomputable def S_budget_Budget_Give_0 (b0 : AVal) (n1 : Int) (t9 : Bool) (h : AHeap) : Option (AVal × AHeap) := jo Ebudget_Budget_Give 0 (rops (ca c96)) ((rops (ca c96)).toList.drop 6) 6 [(0, b0), (1, (.lit (.int .i64 n1))), (9, (.lit (.bool t9)))] h (kN (kSeq Ebudget_Budget_Give (cb c96) (xend Ebudget_Budget_Give f96)))
theorem S_budget_Budget_Give_eq (b0 : AVal) (n1 : Int) (h : AHeap) : S_budget_Budget_Give b0 n1 h =
 (onlyR (S_budget_Budget_given b0 h) h).bind fun r1 =>
 (asB r1).bind fun b3 =>
 bif b3 then (S_budget_Budget_Give_0 b0 n1 (decide (n1 ≥ 0)) h)
 else (S_budget_Budget_Give_0 b0 n1 false h) := by kernel_rfl
theorem S_budget_Budget_Give_0_eq (b0 : AVal) (n1 : Int) (t9 : Bool) (h : AHeap) : S_budget_Budget_Give_0 b0 n1 t9 h =
 bif t9 then ((nilCk b0).bind fun p4 =>
 (fieldP 2 p4).bind fun p5 =>
 (ld1 h p5).bind fun x6 =>
 (asI .i64 x6).bind fun n7 =>
 (nilCk b0).bind fun p8 =>
 (fieldP 2 p8).bind fun p9 =>
 (ld1 h p9).bind fun x10 =>
 (asI .i64 x10).bind fun n11 =>
 (nilCk b0).bind fun p12 =>
 (fieldP 2 p12).bind fun p13 =>
 (st1 h p13 (.lit (.int .i64 (IntKind.wrap .i64 (n7 - (minI n1 n11)))))).bind fun h14 =>
 some ((.tup []), h14))
 else (some ((.tup []), h)) := (jo_eq ..).trans (by kernel_rfl)
theorem S_budget_Budget_Give_ends {b0 : AVal} {n1 : Int} {h h' : AHeap} {v : AVal} {R : AEnd → AHeap → Prop} (hx : S_budget_Budget_Give b0 n1 h = some (v, h')) (hR : HOk h → h.length ≤ h'.length → ABody.AEnds h h' (.ret v) R) : ACalls Try.prog 96 [b0, (.lit (.int .i64 n1))] h R := xfun_ends Ebudget_Budget_Give_ok tmix (i := 96) (by rfl) (by kernel_rfl) (by kernel_rfl) hx hR
noncomputable def w_budget_Budget_Give : XC := .l fun R args h K => match args with
  | [a0, .lit (.int .i64 a1)] => (S_budget_Budget_Give a0 a1 h).bind fun r => K r.1 r.2
  | _ => none
theorem w_budget_Budget_Give_ok : XC.Nat w_budget_Budget_Give ∧ XC.Ok Try.prog 96 w_budget_Budget_Give := by
  refine ⟨fun R args h K => ?_, tc96, fun args h v h' hx => ?_⟩
  · dsimp only; split <;> simp [Option.bind_assoc, mkP]
  · dsimp only at hx; split at hx
    · obtain ⟨r, hopt, hx⟩ := Option.bind_eq_some_iff.1 hx
      simp only [mkP, Option.some.injEq, Prod.mk.injEq] at hx
      obtain ⟨rfl, rfl⟩ := hx
      exact (by obtain ⟨v, h'⟩ := r; exact S_budget_Budget_Give_ends hopt selfR)
    · cases hx
-- (*chainman/budget.Budget).Now: function 25
noncomputable def Ebudget_Budget_Now : XE := { T := tabOf [(3, r3), (4, r4), (44, r44), (93, r93)], C := [(68, w_budget_Budget_given)], D := [], Ms := [], Ml := [], Mo := [], n := 10 }
theorem Ebudget_Budget_Now_ok : XE.Ok Ebudget_Budget_Now Try.prog := ⟨tabOf_ok (⟨r3_ok, ⟨r4_ok, ⟨r44_ok, ⟨r93_ok, trivial⟩⟩⟩⟩), (⟨w_budget_Budget_given_ok, trivial⟩), ydOk_none, trivial⟩
noncomputable def c25 : Code := bodyOf f25
noncomputable def S_budget_Budget_Now (b0 : AVal) (h : AHeap) : Option (AVal × AHeap) := xfun Ebudget_Budget_Now f25 [b0] h
theorem S_budget_Budget_Now_eq (b0 : AVal) (h : AHeap) : S_budget_Budget_Now b0 h =
 (onlyR (S_budget_Budget_given b0 h) h).bind fun r1 =>
 (asB r1).bind fun b2 =>
 bif (!b2) then (some ((.lit (.int .i64 0)), h))
 else ((nilCk b0).bind fun p3 =>
 (fieldP 2 p3).bind fun p4 =>
 (ld1 h p4).bind fun x5 =>
 (asI .i64 x5).bind fun n6 =>
 some ((.lit (.int .i64 n6)), h)) := by kernel_rfl
theorem S_budget_Budget_Now_ends {b0 : AVal} {h h' : AHeap} {v : AVal} {R : AEnd → AHeap → Prop} (hx : S_budget_Budget_Now b0 h = some (v, h')) (hR : HOk h → h.length ≤ h'.length → ABody.AEnds h h' (.ret v) R) : ACalls Try.prog 25 [b0] h R := xfun_ends Ebudget_Budget_Now_ok tmix (i := 25) (by rfl) (by kernel_rfl) (by kernel_rfl) hx hR
noncomputable def w_budget_Budget_Now : XC := .q fun R args h K => match args with
  | [a0] => (onlyR (S_budget_Budget_Now a0 h) h).bind fun r => K r
  | _ => none
theorem w_budget_Budget_Now_ok : XC.Nat w_budget_Budget_Now ∧ XC.Ok Try.prog 25 w_budget_Budget_Now := by
  refine ⟨fun R args h K => ?_, tc25, fun args h v hx => ?_⟩
  · dsimp only; split <;> simp [Option.bind_assoc, mkP]
  · dsimp only at hx; split at hx
    · obtain ⟨r, hopt, hx⟩ := Option.bind_eq_some_iff.1 hx
      cases hx
      exact (by have hopt := onlyR_some hopt; exact S_budget_Budget_Now_ends hopt selfR)
    · cases hx
-- (*chainman/budget.Budget).High: function 26
noncomputable def Ebudget_Budget_High : XE := { T := tabOf [(3, r3), (4, r4), (44, r44), (93, r93)], C := [(68, w_budget_Budget_given)], D := [], Ms := [], Ml := [], Mo := [], n := 10 }
theorem Ebudget_Budget_High_ok : XE.Ok Ebudget_Budget_High Try.prog := ⟨tabOf_ok (⟨r3_ok, ⟨r4_ok, ⟨r44_ok, ⟨r93_ok, trivial⟩⟩⟩⟩), (⟨w_budget_Budget_given_ok, trivial⟩), ydOk_none, trivial⟩
noncomputable def c26 : Code := bodyOf f26
noncomputable def S_budget_Budget_High (b0 : AVal) (h : AHeap) : Option (AVal × AHeap) := xfun Ebudget_Budget_High f26 [b0] h
theorem S_budget_Budget_High_eq (b0 : AVal) (h : AHeap) : S_budget_Budget_High b0 h =
 (onlyR (S_budget_Budget_given b0 h) h).bind fun r1 =>
 (asB r1).bind fun b2 =>
 bif (!b2) then (some ((.lit (.int .i64 0)), h))
 else ((nilCk b0).bind fun p3 =>
 (fieldP 3 p3).bind fun p4 =>
 (ld1 h p4).bind fun x5 =>
 (asI .i64 x5).bind fun n6 =>
 some ((.lit (.int .i64 n6)), h)) := by kernel_rfl
theorem S_budget_Budget_High_ends {b0 : AVal} {h h' : AHeap} {v : AVal} {R : AEnd → AHeap → Prop} (hx : S_budget_Budget_High b0 h = some (v, h')) (hR : HOk h → h.length ≤ h'.length → ABody.AEnds h h' (.ret v) R) : ACalls Try.prog 26 [b0] h R := xfun_ends Ebudget_Budget_High_ok tmix (i := 26) (by rfl) (by kernel_rfl) (by kernel_rfl) hx hR
noncomputable def w_budget_Budget_High : XC := .q fun R args h K => match args with
  | [a0] => (onlyR (S_budget_Budget_High a0 h) h).bind fun r => K r
  | _ => none
theorem w_budget_Budget_High_ok : XC.Nat w_budget_Budget_High ∧ XC.Ok Try.prog 26 w_budget_Budget_High := by
  refine ⟨fun R args h K => ?_, tc26, fun args h v hx => ?_⟩
  · dsimp only; split <;> simp [Option.bind_assoc, mkP]
  · dsimp only at hx; split at hx
    · obtain ⟨r, hopt, hx⟩ := Option.bind_eq_some_iff.1 hx
      cases hx
      exact (by have hopt := onlyR_some hopt; exact S_budget_Budget_High_ends hopt selfR)
    · cases hx
-- (chainman/writer.sink).lay: function 53
noncomputable def Ewriter_sink_lay : XE := { T := tabOf [(9, r9), (25, r25), (26, r26), (88, r88)], C := [(41, w_fs_Disk_Append)], D := [], Ms := [], Ml := [], Mo := [], n := 11 }
theorem Ewriter_sink_lay_ok : XE.Ok Ewriter_sink_lay Try.prog := ⟨tabOf_ok (⟨r9_ok, ⟨r25_ok, ⟨r26_ok, ⟨r88_ok, trivial⟩⟩⟩⟩), (⟨w_fs_Disk_Append_ok, trivial⟩), ydOk_none, trivial⟩
noncomputable def c53 : Code := bodyOf f53
noncomputable def S_writer_sink_lay (s0 : List AVal) (b1 : ByteArray) (h : AHeap) : Option (AVal × AHeap) := xfun Ewriter_sink_lay f53 [(.agg s0), (.lit (.string b1))] h
theorem S_writer_sink_lay_eq (s0 : List AVal) (b1 : ByteArray) (h : AHeap) : S_writer_sink_lay s0 b1 h =
 (ld1 ((psh h (.cells s0))) (.ptr h.length 0)).bind fun x1 =>
 (ld1 ((psh h (.cells s0))) (.ptr h.length 1)).bind fun x2 =>
 (asS x2).bind fun s3 =>
 (S_fs_Disk_Append x1 s3 b1 ((psh h (.cells s0)))).bind fun r4 =>
 (asI .i64 r4.1).bind fun n5 =>
 some ((.lit (.int .i64 n5)), r4.2) := by kernel_rfl
theorem S_writer_sink_lay_ends {s0 : List AVal} {b1 : ByteArray} {h h' : AHeap} {v : AVal} {R : AEnd → AHeap → Prop} (hx : S_writer_sink_lay s0 b1 h = some (v, h')) (hR : HOk h → h.length ≤ h'.length → ABody.AEnds h h' (.ret v) R) : ACalls Try.prog 53 [(.agg s0), (.lit (.string b1))] h R := xfun_ends Ewriter_sink_lay_ok tmix (i := 53) (by rfl) (by kernel_rfl) (by kernel_rfl) hx hR
noncomputable def w_writer_sink_lay : XC := .l fun R args h K => match args with
  | [.agg a0, .lit (.string a1)] => (S_writer_sink_lay a0 a1 h).bind fun r => K r.1 r.2
  | _ => none
theorem w_writer_sink_lay_ok : XC.Nat w_writer_sink_lay ∧ XC.Ok Try.prog 53 w_writer_sink_lay := by
  refine ⟨fun R args h K => ?_, tc53, fun args h v h' hx => ?_⟩
  · dsimp only; split <;> simp [Option.bind_assoc, mkP]
  · dsimp only at hx; split at hx
    · obtain ⟨r, hopt, hx⟩ := Option.bind_eq_some_iff.1 hx
      simp only [mkP, Option.some.injEq, Prod.mk.injEq] at hx
      obtain ⟨rfl, rfl⟩ := hx
      exact (by obtain ⟨v, h'⟩ := r; exact S_writer_sink_lay_ends hopt selfR)
    · cases hx
-- (chainman/writer.sink).keep: function 61
noncomputable def Ewriter_sink_keep : XE := { T := tabOf [(9, r9), (25, r25), (26, r26), (88, r88)], C := [(43, w_fs_Disk_Sync)], D := [], Ms := [], Ml := [], Mo := [], n := 8 }
theorem Ewriter_sink_keep_ok : XE.Ok Ewriter_sink_keep Try.prog := ⟨tabOf_ok (⟨r9_ok, ⟨r25_ok, ⟨r26_ok, ⟨r88_ok, trivial⟩⟩⟩⟩), (⟨w_fs_Disk_Sync_ok, trivial⟩), ydOk_none, trivial⟩
noncomputable def c61 : Code := bodyOf f61
noncomputable def S_writer_sink_keep (s0 : List AVal) (h : AHeap) : Option (AVal × AHeap) := xfun Ewriter_sink_keep f61 [(.agg s0)] h
theorem S_writer_sink_keep_eq (s0 : List AVal) (h : AHeap) : S_writer_sink_keep s0 h =
 (ld1 ((psh h (.cells s0))) (.ptr h.length 0)).bind fun x1 =>
 (ld1 ((psh h (.cells s0))) (.ptr h.length 1)).bind fun x2 =>
 (asS x2).bind fun s3 =>
 (S_fs_Disk_Sync x1 s3 ((psh h (.cells s0)))).bind fun r4 =>
 (asI .i64 r4.1).bind fun n5 =>
 some ((.lit (.int .i64 n5)), r4.2) := by kernel_rfl
theorem S_writer_sink_keep_ends {s0 : List AVal} {h h' : AHeap} {v : AVal} {R : AEnd → AHeap → Prop} (hx : S_writer_sink_keep s0 h = some (v, h')) (hR : HOk h → h.length ≤ h'.length → ABody.AEnds h h' (.ret v) R) : ACalls Try.prog 61 [(.agg s0)] h R := xfun_ends Ewriter_sink_keep_ok tmix (i := 61) (by rfl) (by kernel_rfl) (by kernel_rfl) hx hR
noncomputable def w_writer_sink_keep : XC := .l fun R args h K => match args with
  | [.agg a0] => (S_writer_sink_keep a0 h).bind fun r => K r.1 r.2
  | _ => none
theorem w_writer_sink_keep_ok : XC.Nat w_writer_sink_keep ∧ XC.Ok Try.prog 61 w_writer_sink_keep := by
  refine ⟨fun R args h K => ?_, tc61, fun args h v h' hx => ?_⟩
  · dsimp only; split <;> simp [Option.bind_assoc, mkP]
  · dsimp only at hx; split at hx
    · obtain ⟨r, hopt, hx⟩ := Option.bind_eq_some_iff.1 hx
      simp only [mkP, Option.some.injEq, Prod.mk.injEq] at hx
      obtain ⟨rfl, rfl⟩ := hx
      exact (by obtain ⟨v, h'⟩ := r; exact S_writer_sink_keep_ends hopt selfR)
    · cases hx
-- (*chainman/writer.Writer).given: function 54
noncomputable def Ewriter_Writer_given : XE := { T := tabOf [(3, r3), (4, r4), (9, r9), (25, r25), (42, r42), (44, r44), (46, r46), (50, r50), (52, r52), (88, r88), (90, r90)], C := [], D := [], Ms := [], Ml := [], Mo := [(1008, [10])], n := 11 }
theorem Ewriter_Writer_given_ok : XE.Ok Ewriter_Writer_given Try.prog := ⟨tabOf_ok (⟨r3_ok, ⟨r4_ok, ⟨r9_ok, ⟨r25_ok, ⟨r42_ok, ⟨r44_ok, ⟨r46_ok, ⟨r50_ok, ⟨r52_ok, ⟨r88_ok, ⟨r90_ok, trivial⟩⟩⟩⟩⟩⟩⟩⟩⟩⟩⟩), trivial, ydOk_none, trivial⟩
noncomputable def c54 : Code := bodyOf f54
noncomputable def S_writer_Writer_given (w0 : AVal) (h : AHeap) : Option (AVal × AHeap) := xfun Ewriter_Writer_given f54 [w0] h
noncomputable def S_writer_Writer_given_0 (t10 : Bool) (h : AHeap) : Option (AVal × AHeap) := jo Ewriter_Writer_given 1 (rops (ca (cb c54))) ((rops (ca (cb c54))).toList.drop 8) 8 [(10, (.lit (.bool t10)))] h (kN (kSeq Ewriter_Writer_given (cb (cb c54)) (xend Ewriter_Writer_given f54)))
theorem S_writer_Writer_given_eq (w0 : AVal) (h : AHeap) : S_writer_Writer_given w0 h =
 (AVal.isNil .ptr w0).bind fun b1 =>
 bif (!b1) then ((nilCk w0).bind fun p2 =>
 (fieldP 7 p2).bind fun p3 =>
 (ld1 h p3).bind fun x4 =>
 (asB x4).bind fun b5 =>
 S_writer_Writer_given_0 b5 h)
 else (S_writer_Writer_given_0 false h) := by kernel_rfl
theorem S_writer_Writer_given_0_eq (t10 : Bool) (h : AHeap) : S_writer_Writer_given_0 t10 h =
 some ((.lit (.bool t10)), h) := (jo_eq ..).trans (by kernel_rfl)
theorem S_writer_Writer_given_ends {w0 : AVal} {h h' : AHeap} {v : AVal} {R : AEnd → AHeap → Prop} (hx : S_writer_Writer_given w0 h = some (v, h')) (hR : HOk h → h.length ≤ h'.length → ABody.AEnds h h' (.ret v) R) : ACalls Try.prog 54 [w0] h R := xfun_ends Ewriter_Writer_given_ok tmix (i := 54) (by rfl) (by kernel_rfl) (by kernel_rfl) hx hR
noncomputable def w_writer_Writer_given : XC := .q fun R args h K => match args with
  | [a0] => (onlyR (S_writer_Writer_given a0 h) h).bind fun r => K r
  | _ => none
theorem w_writer_Writer_given_ok : XC.Nat w_writer_Writer_given ∧ XC.Ok Try.prog 54 w_writer_Writer_given := by
  refine ⟨fun R args h K => ?_, tc54, fun args h v hx => ?_⟩
  · dsimp only; split <;> simp [Option.bind_assoc, mkP]
  · dsimp only at hx; split at hx
    · obtain ⟨r, hopt, hx⟩ := Option.bind_eq_some_iff.1 hx
      cases hx
      exact (by have hopt := onlyR_some hopt; exact S_writer_Writer_given_ends hopt selfR)
    · cases hx
-- (*chainman/writer.Writer).Drop: function 49
noncomputable def Ewriter_Writer_Drop : XE := { T := tabOf [(3, r3), (4, r4), (9, r9), (25, r25), (42, r42), (44, r44), (46, r46), (50, r50), (52, r52), (88, r88), (90, r90)], C := [(54, w_writer_Writer_given), (96, w_budget_Budget_Give)], D := [], Ms := [], Ml := [], Mo := [], n := 12 }
theorem Ewriter_Writer_Drop_ok : XE.Ok Ewriter_Writer_Drop Try.prog := ⟨tabOf_ok (⟨r3_ok, ⟨r4_ok, ⟨r9_ok, ⟨r25_ok, ⟨r42_ok, ⟨r44_ok, ⟨r46_ok, ⟨r50_ok, ⟨r52_ok, ⟨r88_ok, ⟨r90_ok, trivial⟩⟩⟩⟩⟩⟩⟩⟩⟩⟩⟩), (⟨w_writer_Writer_given_ok, ⟨w_budget_Budget_Give_ok, trivial⟩⟩), ydOk_none, trivial⟩
noncomputable def c49 : Code := bodyOf f49
noncomputable def S_writer_Writer_Drop (w0 : AVal) (h : AHeap) : Option (AVal × AHeap) := xfun Ewriter_Writer_Drop f49 [w0] h
theorem S_writer_Writer_Drop_eq (w0 : AVal) (h : AHeap) : S_writer_Writer_Drop w0 h =
 (onlyR (S_writer_Writer_given w0 h) h).bind fun r1 =>
 (asB r1).bind fun b2 =>
 bif b2 then ((nilCk w0).bind fun p3 =>
 (fieldP 7 p3).bind fun p4 =>
 (st1 h p4 (.lit (.bool false))).bind fun h5 =>
 (nilCk w0).bind fun p6 =>
 (fieldP 2 p6).bind fun p7 =>
 (ld1 h5 p7).bind fun x8 =>
 (S_budget_Budget_Give x8 4 h5).bind fun r9 =>
 some ((.tup []), r9.2))
 else (some ((.tup []), h)) := by kernel_rfl
theorem S_writer_Writer_Drop_ends {w0 : AVal} {h h' : AHeap} {v : AVal} {R : AEnd → AHeap → Prop} (hx : S_writer_Writer_Drop w0 h = some (v, h')) (hR : HOk h → h.length ≤ h'.length → ABody.AEnds h h' (.ret v) R) : ACalls Try.prog 49 [w0] h R := xfun_ends Ewriter_Writer_Drop_ok tmix (i := 49) (by rfl) (by kernel_rfl) (by kernel_rfl) hx hR
noncomputable def w_writer_Writer_Drop : XC := .l fun R args h K => match args with
  | [a0] => (S_writer_Writer_Drop a0 h).bind fun r => K r.1 r.2
  | _ => none
theorem w_writer_Writer_Drop_ok : XC.Nat w_writer_Writer_Drop ∧ XC.Ok Try.prog 49 w_writer_Writer_Drop := by
  refine ⟨fun R args h K => ?_, tc49, fun args h v h' hx => ?_⟩
  · dsimp only; split <;> simp [Option.bind_assoc, mkP]
  · dsimp only at hx; split at hx
    · obtain ⟨r, hopt, hx⟩ := Option.bind_eq_some_iff.1 hx
      simp only [mkP, Option.some.injEq, Prod.mk.injEq] at hx
      obtain ⟨rfl, rfl⟩ := hx
      exact (by obtain ⟨v, h'⟩ := r; exact S_writer_Writer_Drop_ends hopt selfR)
    · cases hx
-- (*chainman/writer.Writer).broken: function 59
noncomputable def Ewriter_Writer_broken : XE := { T := tabOf [(4, r4), (26, r26), (46, r46)], C := [(49, w_writer_Writer_Drop)], D := [], Ms := [(3, [1])], Ml := [], Mo := [], n := 10 }
theorem Ewriter_Writer_broken_ok : XE.Ok Ewriter_Writer_broken Try.prog := ⟨tabOf_ok (⟨r4_ok, ⟨r26_ok, ⟨r46_ok, trivial⟩⟩⟩), (⟨w_writer_Writer_Drop_ok, trivial⟩), ydOk_none, trivial⟩
noncomputable def c59 : Code := bodyOf f59
noncomputable def S_writer_Writer_broken (w0 : AVal) (e1 : Int) (h : AHeap) : Option (AVal × AHeap) := xfun Ewriter_Writer_broken f59 [w0, (.lit (.int .i64 e1))] h
noncomputable def S_writer_Writer_broken_0 (e1 : Int) (h : AHeap) : Option (AVal × AHeap) := jn (xexec Ewriter_Writer_broken (cb (cb c59)) (AVal × AHeap) [(1, (.lit (.int .i64 e1)))] h (xend Ewriter_Writer_broken f59))
theorem S_writer_Writer_broken_eq (w0 : AVal) (e1 : Int) (h : AHeap) : S_writer_Writer_broken w0 e1 h =
 bif (!decide (e1 = 0)) then ((S_writer_Writer_Drop w0 h).bind fun r1 =>
 S_writer_Writer_broken_0 e1 r1.2)
 else (S_writer_Writer_broken_0 e1 h) := by kernel_rfl
theorem S_writer_Writer_broken_0_eq (e1 : Int) (h : AHeap) : S_writer_Writer_broken_0 e1 h =
 some ((.lit (.int .i64 e1)), h) := (jn_eq _).trans (by kernel_rfl)
theorem S_writer_Writer_broken_ends {w0 : AVal} {e1 : Int} {h h' : AHeap} {v : AVal} {R : AEnd → AHeap → Prop} (hx : S_writer_Writer_broken w0 e1 h = some (v, h')) (hR : HOk h → h.length ≤ h'.length → ABody.AEnds h h' (.ret v) R) : ACalls Try.prog 59 [w0, (.lit (.int .i64 e1))] h R := xfun_ends Ewriter_Writer_broken_ok tmix (i := 59) (by rfl) (by kernel_rfl) (by kernel_rfl) hx hR
noncomputable def w_writer_Writer_broken : XC := .l fun R args h K => match args with
  | [a0, .lit (.int .i64 a1)] => (S_writer_Writer_broken a0 a1 h).bind fun r => K r.1 r.2
  | _ => none
theorem w_writer_Writer_broken_ok : XC.Nat w_writer_Writer_broken ∧ XC.Ok Try.prog 59 w_writer_Writer_broken := by
  refine ⟨fun R args h K => ?_, tc59, fun args h v h' hx => ?_⟩
  · dsimp only; split <;> simp [Option.bind_assoc, mkP]
  · dsimp only at hx; split at hx
    · obtain ⟨r, hopt, hx⟩ := Option.bind_eq_some_iff.1 hx
      simp only [mkP, Option.some.injEq, Prod.mk.injEq] at hx
      obtain ⟨rfl, rfl⟩ := hx
      exact (by obtain ⟨v, h'⟩ := r; exact S_writer_Writer_broken_ends hopt selfR)
    · cases hx
-- (*chainman/writer.Writer).flush: function 57
noncomputable def Ewriter_Writer_flush : XE := { T := tabOf [(3, r3), (4, r4), (9, r9), (25, r25), (26, r26), (42, r42), (44, r44), (46, r46), (50, r50), (52, r52), (88, r88), (90, r90)], C := [(53, w_writer_sink_lay), (59, w_writer_Writer_broken), (100, w_frame_Put)], D := [(3, ⟨[], [0, 1, 2, 3, 4, 5, 6, 7, 8, 9, 10, 11, 12, 13], [], [], [], [], []⟩)], Ms := [], Ml := [], Mo := [], n := 43 }
theorem Ewriter_Writer_flush_ok : XE.Ok Ewriter_Writer_flush Try.prog := ⟨tabOf_ok (⟨r3_ok, ⟨r4_ok, ⟨r9_ok, ⟨r25_ok, ⟨r26_ok, ⟨r42_ok, ⟨r44_ok, ⟨r46_ok, ⟨r50_ok, ⟨r52_ok, ⟨r88_ok, ⟨r90_ok, trivial⟩⟩⟩⟩⟩⟩⟩⟩⟩⟩⟩⟩), (⟨w_writer_sink_lay_ok, ⟨w_writer_Writer_broken_ok, ⟨w_frame_Put_ok, trivial⟩⟩⟩), ydOk_none, trivial⟩
noncomputable def c57 : Code := bodyOf f57
noncomputable def S_writer_Writer_flush (w0 : AVal) (h : AHeap) : Option (AVal × AHeap) := xfun Ewriter_Writer_flush f57 [w0] h
theorem S_writer_Writer_flush_eq (w0 : AVal) (h : AHeap) : S_writer_Writer_flush w0 h =
 (nilCk w0).bind fun p1 =>
 (fieldP 4 p1).bind fun p2 =>
 (ld1 h p2).bind fun x3 =>
 (lenV x3).bind fun n4 =>
 bif (decide (n4 = 0)) then (some ((.lit (.int .i64 0)), h))
 else ((nilCk w0).bind fun p5 =>
 (fieldP 3 p5).bind fun p6 =>
 (ld1 h p6).bind fun x7 =>
 (asI .i64 x7).bind fun n8 =>
 (nilCk w0).bind fun p9 =>
 (fieldP 4 p9).bind fun p10 =>
 (ld1 h p10).bind fun x11 =>
 (goneR (S_frame_Put n8 x11 h) h).bind fun r12 =>
 (xExtract r12 0).bind fun x13 =>
 (asS x13).bind fun s14 =>
 (xExtract r12 1).bind fun x15 =>
 (asB x15).bind fun b16 =>
 bif (!b16) then ((S_writer_Writer_broken w0 1 h).bind fun r17 =>
 (asI .i64 r17.1).bind fun n18 =>
 some ((.lit (.int .i64 n18)), r17.2))
 else ((nilCk w0).bind fun p19 =>
 (fieldP 4 p19).bind fun p20 =>
 (ld1 h p20).bind fun x21 =>
 (cutV 1 x21 none (some 0) none).bind fun v22 =>
 (nilCk w0).bind fun p23 =>
 (fieldP 4 p23).bind fun p24 =>
 (st1 h p24 v22).bind fun h25 =>
 (nilCk w0).bind fun p26 =>
 (fieldP 0 p26).bind fun p27 =>
 (ldn 2 h25 p27).bind fun xs28 =>
 (S_writer_sink_lay xs28 s14 h25).bind fun r29 =>
 (asI .i64 r29.1).bind fun n30 =>
 (S_writer_Writer_broken w0 n30 r29.2).bind fun r31 =>
 (asI .i64 r31.1).bind fun n32 =>
 some ((.lit (.int .i64 n32)), r31.2))) := by kernel_rfl
theorem S_writer_Writer_flush_ends {w0 : AVal} {h h' : AHeap} {v : AVal} {R : AEnd → AHeap → Prop} (hx : S_writer_Writer_flush w0 h = some (v, h')) (hR : HOk h → h.length ≤ h'.length → ABody.AEnds h h' (.ret v) R) : ACalls Try.prog 57 [w0] h R := xfun_ends Ewriter_Writer_flush_ok tmix (i := 57) (by rfl) (by kernel_rfl) (by kernel_rfl) hx hR
noncomputable def w_writer_Writer_flush : XC := .l fun R args h K => match args with
  | [a0] => (S_writer_Writer_flush a0 h).bind fun r => K r.1 r.2
  | _ => none
theorem w_writer_Writer_flush_ok : XC.Nat w_writer_Writer_flush ∧ XC.Ok Try.prog 57 w_writer_Writer_flush := by
  refine ⟨fun R args h K => ?_, tc57, fun args h v h' hx => ?_⟩
  · dsimp only; split <;> simp [Option.bind_assoc, mkP]
  · dsimp only at hx; split at hx
    · obtain ⟨r, hopt, hx⟩ := Option.bind_eq_some_iff.1 hx
      simp only [mkP, Option.some.injEq, Prod.mk.injEq] at hx
      obtain ⟨rfl, rfl⟩ := hx
      exact (by obtain ⟨v, h'⟩ := r; exact S_writer_Writer_flush_ends hopt selfR)
    · cases hx
-- (*chainman/writer.Writer).Put: function 19
noncomputable def Ewriter_Writer_Put : XE := { T := tabOf [(3, r3), (4, r4), (9, r9), (25, r25), (26, r26), (42, r42), (44, r44), (46, r46), (50, r50), (52, r52), (88, r88), (90, r90)], C := [(54, w_writer_Writer_given), (55, w_strings_Clone), (56, w_crc_More), (57, w_writer_Writer_flush)], D := [(5, ⟨[], [], [], [], [], [0, 1, 2, 3, 4, 5, 6], [(7, [0, 1, 2, 3, 4]), (8, [0]), (9, []), (10, []), (11, [])]⟩), (6, ⟨[], [0, 1, 2, 3, 4, 5, 6, 7, 8, 9, 10, 11, 12, 13, 14, 15, 16], [17], [], [], [], []⟩)], Ms := [], Ml := [], Mo := [], n := 53 }
theorem Ewriter_Writer_Put_ok : XE.Ok Ewriter_Writer_Put Try.prog := ⟨tabOf_ok (⟨r3_ok, ⟨r4_ok, ⟨r9_ok, ⟨r25_ok, ⟨r26_ok, ⟨r42_ok, ⟨r44_ok, ⟨r46_ok, ⟨r50_ok, ⟨r52_ok, ⟨r88_ok, ⟨r90_ok, trivial⟩⟩⟩⟩⟩⟩⟩⟩⟩⟩⟩⟩), (⟨w_writer_Writer_given_ok, ⟨w_strings_Clone_ok, ⟨w_crc_More_ok, ⟨w_writer_Writer_flush_ok, trivial⟩⟩⟩⟩), ydOk_none, trivial⟩
noncomputable def c19 : Code := bodyOf f19
noncomputable def S_writer_Writer_Put (w0 : AVal) (record1 : ByteArray) (h : AHeap) : Option (AVal × AHeap) := xfun Ewriter_Writer_Put f19 [w0, (.lit (.string record1))] h
theorem S_writer_Writer_Put_eq (w0 : AVal) (record1 : ByteArray) (h : AHeap) : S_writer_Writer_Put w0 record1 h =
 (onlyR (S_writer_Writer_given w0 h) h).bind fun r1 =>
 (asB r1).bind fun b2 =>
 bif (!b2) then (some ((.lit (.int .i64 14)), h))
 else ((nilCk w0).bind fun p3 =>
 (fieldP 3 p3).bind fun p4 =>
 (ld1 h p4).bind fun x5 =>
 (asI .i64 x5).bind fun n6 =>
 bif (!decide ((record1.size : Int) = n6)) then (some ((.lit (.int .i64 1)), h))
 else ((nilCk w0).bind fun p7 =>
 (fieldP 4 p7).bind fun p8 =>
 (ld1 h p8).bind fun x9 =>
 (sclO record1).bind fun r10 =>
 (blitS 1 [(.lit (.string ({ data := #[] })))] 1 [(0, (.lit (.string r10)))] h).bind fun r11 =>
 (reqC ((((ld1 r11.2 p8).bind fun x12 =>
 some x12) : Option AVal) = some x9)).bind fun _ =>
 (appV 1 16 r11.2 x9 r11.1).bind fun r13 =>
 (nilCk w0).bind fun p14 =>
 (fieldP 4 p14).bind fun p15 =>
 (st1 r13.2 p15 r13.1).bind fun h16 =>
 (nilCk w0).bind fun p17 =>
 (fieldP 5 p17).bind fun p18 =>
 (fieldP 0 p18).bind fun p19 =>
 (ld1 h16 p19).bind fun x20 =>
 (asI .i64 x20).bind fun n21 =>
 (nilCk w0).bind fun p22 =>
 (fieldP 5 p22).bind fun p23 =>
 (fieldP 1 p23).bind fun p24 =>
 (ld1 h16 p24).bind fun x25 =>
 (asI .u32 x25).bind fun n26 =>
 (moreO n26 record1).bind fun r27 =>
 (nilCk w0).bind fun p28 =>
 (fieldP 5 p28).bind fun p29 =>
 (stn 2 h16 p29 ([(.lit (.int .i64 (IntKind.wrap .i64 (n21 + 1)))), (.lit (.int .u32 r27))])).bind fun h30 =>
 (nilCk w0).bind fun p31 =>
 (fieldP 4 p31).bind fun p32 =>
 (ld1 h30 p32).bind fun x33 =>
 (lenV x33).bind fun n34 =>
 bif (decide (n34 < 4)) then (some ((.lit (.int .i64 0)), h30))
 else ((S_writer_Writer_flush w0 h30).bind fun r35 =>
 (asI .i64 r35.1).bind fun n36 =>
 some ((.lit (.int .i64 n36)), r35.2)))) := by kernel_rfl
theorem S_writer_Writer_Put_ends {w0 : AVal} {record1 : ByteArray} {h h' : AHeap} {v : AVal} {R : AEnd → AHeap → Prop} (hx : S_writer_Writer_Put w0 record1 h = some (v, h')) (hR : HOk h → h.length ≤ h'.length → ABody.AEnds h h' (.ret v) R) : ACalls Try.prog 19 [w0, (.lit (.string record1))] h R := xfun_ends Ewriter_Writer_Put_ok tmix (i := 19) (by rfl) (by kernel_rfl) (by kernel_rfl) hx hR
noncomputable def w_writer_Writer_Put : XC := .l fun R args h K => match args with
  | [a0, .lit (.string a1)] => (S_writer_Writer_Put a0 a1 h).bind fun r => K r.1 r.2
  | _ => none
theorem w_writer_Writer_Put_ok : XC.Nat w_writer_Writer_Put ∧ XC.Ok Try.prog 19 w_writer_Writer_Put := by
  refine ⟨fun R args h K => ?_, tc19, fun args h v h' hx => ?_⟩
  · dsimp only; split <;> simp [Option.bind_assoc, mkP]
  · dsimp only at hx; split at hx
    · obtain ⟨r, hopt, hx⟩ := Option.bind_eq_some_iff.1 hx
      simp only [mkP, Option.some.injEq, Prod.mk.injEq] at hx
      obtain ⟨rfl, rfl⟩ := hx
      exact (by obtain ⟨v, h'⟩ := r; exact S_writer_Writer_Put_ends hopt selfR)
    · cases hx
-- (*chainman/writer.Writer).Count: function 27
noncomputable def Ewriter_Writer_Count : XE := { T := tabOf [(3, r3), (4, r4), (9, r9), (25, r25), (42, r42), (44, r44), (46, r46), (50, r50), (52, r52), (88, r88), (90, r90)], C := [], D := [], Ms := [], Ml := [], Mo := [], n := 10 }
theorem Ewriter_Writer_Count_ok : XE.Ok Ewriter_Writer_Count Try.prog := ⟨tabOf_ok (⟨r3_ok, ⟨r4_ok, ⟨r9_ok, ⟨r25_ok, ⟨r42_ok, ⟨r44_ok, ⟨r46_ok, ⟨r50_ok, ⟨r52_ok, ⟨r88_ok, ⟨r90_ok, trivial⟩⟩⟩⟩⟩⟩⟩⟩⟩⟩⟩), trivial, ydOk_none, trivial⟩
noncomputable def c27 : Code := bodyOf f27
noncomputable def S_writer_Writer_Count (w0 : AVal) (h : AHeap) : Option (AVal × AHeap) := xfun Ewriter_Writer_Count f27 [w0] h
theorem S_writer_Writer_Count_eq (w0 : AVal) (h : AHeap) : S_writer_Writer_Count w0 h =
 (AVal.isNil .ptr w0).bind fun b1 =>
 bif b1 then (some ((.lit (.int .i64 0)), h))
 else ((nilCk w0).bind fun p2 =>
 (fieldP 5 p2).bind fun p3 =>
 (fieldP 0 p3).bind fun p4 =>
 (ld1 h p4).bind fun x5 =>
 (asI .i64 x5).bind fun n6 =>
 some ((.lit (.int .i64 n6)), h)) := by kernel_rfl
theorem S_writer_Writer_Count_ends {w0 : AVal} {h h' : AHeap} {v : AVal} {R : AEnd → AHeap → Prop} (hx : S_writer_Writer_Count w0 h = some (v, h')) (hR : HOk h → h.length ≤ h'.length → ABody.AEnds h h' (.ret v) R) : ACalls Try.prog 27 [w0] h R := xfun_ends Ewriter_Writer_Count_ok tmix (i := 27) (by rfl) (by kernel_rfl) (by kernel_rfl) hx hR
noncomputable def w_writer_Writer_Count : XC := .q fun R args h K => match args with
  | [a0] => (onlyR (S_writer_Writer_Count a0 h) h).bind fun r => K r
  | _ => none
theorem w_writer_Writer_Count_ok : XC.Nat w_writer_Writer_Count ∧ XC.Ok Try.prog 27 w_writer_Writer_Count := by
  refine ⟨fun R args h K => ?_, tc27, fun args h v hx => ?_⟩
  · dsimp only; split <;> simp [Option.bind_assoc, mkP]
  · dsimp only at hx; split at hx
    · obtain ⟨r, hopt, hx⟩ := Option.bind_eq_some_iff.1 hx
      cases hx
      exact (by have hopt := onlyR_some hopt; exact S_writer_Writer_Count_ends hopt selfR)
    · cases hx
-- chainman/writer.Create: function 18
noncomputable def Ewriter_Create : XE := { T := tabOf [(3, r3), (4, r4), (9, r9), (25, r25), (26, r26), (42, r42), (44, r44), (46, r46), (50, r50), (52, r52), (88, r88), (90, r90)], C := [(39, w_fs_Disk_Create), (49, w_writer_Writer_Drop), (51, w_recfile_PutHead), (52, w_budget_Budget_Take), (53, w_writer_sink_lay)], D := [], Ms := [(11, [13, 14])], Ml := [], Mo := [], n := 51 }
theorem Ewriter_Create_ok : XE.Ok Ewriter_Create Try.prog := ⟨tabOf_ok (⟨r3_ok, ⟨r4_ok, ⟨r9_ok, ⟨r25_ok, ⟨r26_ok, ⟨r42_ok, ⟨r44_ok, ⟨r46_ok, ⟨r50_ok, ⟨r52_ok, ⟨r88_ok, ⟨r90_ok, trivial⟩⟩⟩⟩⟩⟩⟩⟩⟩⟩⟩⟩), (⟨w_fs_Disk_Create_ok, ⟨w_writer_Writer_Drop_ok, ⟨w_recfile_PutHead_ok, ⟨w_budget_Budget_Take_ok, ⟨w_writer_sink_lay_ok, trivial⟩⟩⟩⟩⟩), ydOk_none, trivial⟩
noncomputable def c18 : Code := bodyOf f18
noncomputable def S_writer_Create (d0 : AVal) (b1 : AVal) (name2 : ByteArray) (size3 : Int) (h : AHeap) : Option (AVal × AHeap) := xfun Ewriter_Create f18 [d0, b1, (.lit (.string name2)), (.lit (.int .i64 size3))] h
noncomputable def S_writer_Create_0 (w13 : Nat) (e14 : Int) (h : AHeap) : Option (AVal × AHeap) := jn (xexec Ewriter_Create (cb (cb (cb (cb (cb (cb (cb c18))))))) (AVal × AHeap) [(13, (.ptr w13 0)), (14, (.lit (.int .i64 e14)))] h (xend Ewriter_Create f18))
theorem S_writer_Create_eq (d0 : AVal) (b1 : AVal) (name2 : ByteArray) (size3 : Int) (h : AHeap) : S_writer_Create d0 b1 name2 size3 h =
 (onlyR (S_recfile_PutHead size3 h) h).bind fun r1 =>
 (xExtract r1 0).bind fun x2 =>
 (asS x2).bind fun s3 =>
 (xExtract r1 1).bind fun x4 =>
 (asB x4).bind fun b6 =>
 bif (!b6) then (some ((.tup [(.lit (.pointer none)), (.lit (.int .i64 1))]), h))
 else ((S_budget_Budget_Take b1 4 h).bind fun r7 =>
 (asI .i64 r7.1).bind fun n8 =>
 bif (!decide (n8 = 0)) then (some ((.tup [(.lit (.pointer none)), (.lit (.int .i64 n8))]), r7.2))
 else ((aFill (fun i => [(0, 1), (1, 1)][i]?) [(.lit (.pointer none)), (.lit (.string ({ data := #[] })))] [(0, d0), (1, (.lit (.string name2)))]).bind fun cs9 =>
 (aFill (fun i => [(0, 2), (2, 1), (3, 1), (4, 1), (5, 2), (7, 1)][i]?) [(.lit (.pointer none)), (.lit (.string ({ data := #[] }))), (.lit (.pointer none)), (.lit (.int .i64 0)), (.lit (.slice none 0 0)), (.lit (.int .i64 0)), (.lit (.int .u32 0)), (.lit (.bool false))] [(0, (.agg cs9)), (1, b1), (2, (.lit (.int .i64 size3))), (5, (.lit (.bool true)))]).bind fun cs10 =>
 (S_fs_Disk_Create d0 name2 ((psh r7.2 (.cells cs10)))).bind fun r11 =>
 (asI .i64 r11.1).bind fun n12 =>
 bif (decide (n12 = 0)) then ((ldn 2 r11.2 (.ptr r7.2.length 0)).bind fun xs13 =>
 (S_writer_sink_lay xs13 s3 r11.2).bind fun r14 =>
 (asI .i64 r14.1).bind fun n15 =>
 S_writer_Create_0 r7.2.length n15 r14.2)
 else (S_writer_Create_0 r7.2.length n12 r11.2))) := by kernel_rfl
theorem S_writer_Create_0_eq (w13 : Nat) (e14 : Int) (h : AHeap) : S_writer_Create_0 w13 e14 h =
 bif (!decide (e14 = 0)) then ((S_writer_Writer_Drop (.ptr w13 0) h).bind fun r16 =>
 some ((.tup [(.lit (.pointer none)), (.lit (.int .i64 e14))]), r16.2))
 else (some ((.tup [(.ptr w13 0), (.lit (.int .i64 0))]), h)) := (jn_eq _).trans (by kernel_rfl)
theorem S_writer_Create_ends {d0 : AVal} {b1 : AVal} {name2 : ByteArray} {size3 : Int} {h h' : AHeap} {v : AVal} {R : AEnd → AHeap → Prop} (hx : S_writer_Create d0 b1 name2 size3 h = some (v, h')) (hR : HOk h → h.length ≤ h'.length → ABody.AEnds h h' (.ret v) R) : ACalls Try.prog 18 [d0, b1, (.lit (.string name2)), (.lit (.int .i64 size3))] h R := xfun_ends Ewriter_Create_ok tmix (i := 18) (by rfl) (by kernel_rfl) (by kernel_rfl) hx hR
noncomputable def w_writer_Create : XC := .l fun R args h K => match args with
  | [a0, a1, .lit (.string a2), .lit (.int .i64 a3)] => (S_writer_Create a0 a1 a2 a3 h).bind fun r => K r.1 r.2
  | _ => none
theorem w_writer_Create_ok : XC.Nat w_writer_Create ∧ XC.Ok Try.prog 18 w_writer_Create := by
  refine ⟨fun R args h K => ?_, tc18, fun args h v h' hx => ?_⟩
  · dsimp only; split <;> simp [Option.bind_assoc, mkP]
  · dsimp only at hx; split at hx
    · obtain ⟨r, hopt, hx⟩ := Option.bind_eq_some_iff.1 hx
      simp only [mkP, Option.some.injEq, Prod.mk.injEq] at hx
      obtain ⟨rfl, rfl⟩ := hx
      exact (by obtain ⟨v, h'⟩ := r; exact S_writer_Create_ends hopt selfR)
    · cases hx
-- (*chainman/writer.Writer).Close$1: function 60
noncomputable def Ewriter_Writer_Close_fn1 : XE := { T := tabOf [(3, r3), (4, r4), (9, r9), (25, r25), (26, r26), (42, r42), (44, r44), (46, r46), (50, r50), (52, r52), (88, r88), (90, r90)], C := [(53, w_writer_sink_lay)], D := [(1, ⟨[], [0, 1, 2, 3, 4], [5, 6], [], [], [], []⟩)], Ms := [], Ml := [], Mo := [], n := 9 }
theorem Ewriter_Writer_Close_fn1_ok : XE.Ok Ewriter_Writer_Close_fn1 Try.prog := ⟨tabOf_ok (⟨r3_ok, ⟨r4_ok, ⟨r9_ok, ⟨r25_ok, ⟨r26_ok, ⟨r42_ok, ⟨r44_ok, ⟨r46_ok, ⟨r50_ok, ⟨r52_ok, ⟨r88_ok, ⟨r90_ok, trivial⟩⟩⟩⟩⟩⟩⟩⟩⟩⟩⟩⟩), (⟨w_writer_sink_lay_ok, trivial⟩), ydOk_none, trivial⟩
noncomputable def c60 : Code := bodyOf f60
noncomputable def S_writer_Writer_Close_fn1 (t0 : AVal) (t1 : AVal) (h : AHeap) : Option (AVal × AHeap) := xfun Ewriter_Writer_Close_fn1 f60 [t0, t1] h
theorem S_writer_Writer_Close_fn1_eq (t0 : AVal) (t1 : AVal) (h : AHeap) : S_writer_Writer_Close_fn1 t0 t1 h =
 (ld1 h t0).bind fun x1 =>
 (nilCk x1).bind fun p2 =>
 (fieldP 0 p2).bind fun p3 =>
 (ldn 2 h p3).bind fun xs4 =>
 (ld1 h t1).bind fun x5 =>
 (asS x5).bind fun s6 =>
 (S_writer_sink_lay xs4 s6 h).bind fun r7 =>
 (asI .i64 r7.1).bind fun n8 =>
 some ((.lit (.int .i64 n8)), r7.2) := by kernel_rfl
theorem S_writer_Writer_Close_fn1_ends {t0 : AVal} {t1 : AVal} {h h' : AHeap} {v : AVal} {R : AEnd → AHeap → Prop} (hx : S_writer_Writer_Close_fn1 t0 t1 h = some (v, h')) (hR : HOk h → h.length ≤ h'.length → ABody.AEnds h h' (.ret v) R) : ACalls Try.prog 60 [t0, t1] h R := xfun_ends Ewriter_Writer_Close_fn1_ok tmix (i := 60) (by rfl) (by kernel_rfl) (by kernel_rfl) hx hR
noncomputable def w_writer_Writer_Close_fn1 : XC := .l fun R args h K => match args with
  | [a0, a1] => (S_writer_Writer_Close_fn1 a0 a1 h).bind fun r => K r.1 r.2
  | _ => none
theorem w_writer_Writer_Close_fn1_ok : XC.Nat w_writer_Writer_Close_fn1 ∧ XC.Ok Try.prog 60 w_writer_Writer_Close_fn1 := by
  refine ⟨fun R args h K => ?_, tc60, fun args h v h' hx => ?_⟩
  · dsimp only; split <;> simp [Option.bind_assoc, mkP]
  · dsimp only at hx; split at hx
    · obtain ⟨r, hopt, hx⟩ := Option.bind_eq_some_iff.1 hx
      simp only [mkP, Option.some.injEq, Prod.mk.injEq] at hx
      obtain ⟨rfl, rfl⟩ := hx
      exact (by obtain ⟨v, h'⟩ := r; exact S_writer_Writer_Close_fn1_ends hopt selfR)
    · cases hx
-- (*chainman/writer.Writer).Close: function 20
noncomputable def Ewriter_Writer_Close : XE := { T := tabOf [(3, r3), (4, r4), (9, r9), (25, r25), (26, r26), (42, r42), (44, r44), (46, r46), (50, r50), (52, r52), (76, r76), (78, r78), (88, r88), (90, r90)], C := [(49, w_writer_Writer_Drop), (54, w_writer_Writer_given), (57, w_writer_Writer_flush), (58, w_frame_PutEnd), (59, w_writer_Writer_broken), (60, w_writer_Writer_Close_fn1), (61, w_writer_sink_keep)], D := [(12, ⟨[], [], [], [], [], [0, 1], [(2, [0]), (3, []), (4, [])]⟩)], Ms := [(16, [1, 2])], Ml := [(10, [1, 2, 39, 40, 41])], Mo := [], n := 60 }
theorem Ewriter_Writer_Close_ok : XE.Ok Ewriter_Writer_Close Try.prog := ⟨tabOf_ok (⟨r3_ok, ⟨r4_ok, ⟨r9_ok, ⟨r25_ok, ⟨r26_ok, ⟨r42_ok, ⟨r44_ok, ⟨r46_ok, ⟨r50_ok, ⟨r52_ok, ⟨r76_ok, ⟨r78_ok, ⟨r88_ok, ⟨r90_ok, trivial⟩⟩⟩⟩⟩⟩⟩⟩⟩⟩⟩⟩⟩⟩), (⟨w_writer_Writer_Drop_ok, ⟨w_writer_Writer_given_ok, ⟨w_writer_Writer_flush_ok, ⟨w_frame_PutEnd_ok, ⟨w_writer_Writer_broken_ok, ⟨w_writer_Writer_Close_fn1_ok, ⟨w_writer_sink_keep_ok, trivial⟩⟩⟩⟩⟩⟩⟩), ydOk_none, trivial⟩
noncomputable def c20 : Code := bodyOf f20
noncomputable def S_writer_Writer_Close (w0 : AVal) (h : AHeap) : Option (AVal × AHeap) := xfun Ewriter_Writer_Close f20 [w0] h
noncomputable def S_writer_Writer_Close_0 (w1 : Nat) (t2 : Nat) (t39 : AVal) (t40 : Int) (t41 : Int) (h : AHeap) : Option (AVal × AHeap) := xexec Ewriter_Writer_Close (.loop (ca (ca (cb (ca (cb (cb (cb (cb (cb c20)))))))))) (AVal × AHeap) [(1, (.ptr w1 0)), (2, (.ptr t2 0)), (39, t39), (40, (.lit (.int .i64 t40))), (41, (.lit (.int .i64 t41)))] h (kBlk 0 (kSeq Ewriter_Writer_Close (cb (cb (cb (cb (cb (cb c20)))))) (xend Ewriter_Writer_Close f20)))
noncomputable def S_writer_Writer_Close_1 (w1 : Nat) (t2 : Nat) (h : AHeap) : Option (AVal × AHeap) := jn (xexec Ewriter_Writer_Close (cb (cb (cb (cb (cb (cb c20)))))) (AVal × AHeap) [(1, (.ptr w1 0)), (2, (.ptr t2 0))] h (xend Ewriter_Writer_Close f20))
theorem S_writer_Writer_Close_eq (w0 : AVal) (h : AHeap) : S_writer_Writer_Close w0 h =
 (AVal.parts w0).bind fun vs1 =>
 (ld1 ((psh ((psh h (.cells vs1))) (.cells [(.lit (.int .i64 0)), (.lit (.int .u32 0))]))) (.ptr h.length 0)).bind fun x2 =>
 (onlyR (S_writer_Writer_given x2 ((psh ((psh h (.cells vs1))) (.cells [(.lit (.int .i64 0)), (.lit (.int .u32 0))])))) ((psh ((psh h (.cells vs1))) (.cells [(.lit (.int .i64 0)), (.lit (.int .u32 0))])))).bind fun r3 =>
 (asB r3).bind fun b4 =>
 bif (!b4) then ((stn 2 ((psh ((psh h (.cells vs1))) (.cells [(.lit (.int .i64 0)), (.lit (.int .u32 0))]))) (.ptr (((psh h (.cells vs1))).length) 0) ([(.lit (.int .i64 0)), (.lit (.int .u32 0))])).bind fun h5 =>
 (ldn 2 h5 (.ptr (((psh h (.cells vs1))).length) 0)).bind fun xs6 =>
 some ((.tup [(.agg xs6), (.lit (.int .i64 14))]), h5))
 else ((ld1 ((psh ((psh h (.cells vs1))) (.cells [(.lit (.int .i64 0)), (.lit (.int .u32 0))]))) (.ptr h.length 0)).bind fun x7 =>
 (S_writer_Writer_flush x7 ((psh ((psh h (.cells vs1))) (.cells [(.lit (.int .i64 0)), (.lit (.int .u32 0))])))).bind fun r8 =>
 (asI .i64 r8.1).bind fun n9 =>
 bif (!decide (n9 = 0)) then ((stn 2 r8.2 (.ptr (((psh h (.cells vs1))).length) 0) ([(.lit (.int .i64 0)), (.lit (.int .u32 0))])).bind fun h10 =>
 (ldn 2 h10 (.ptr (((psh h (.cells vs1))).length) 0)).bind fun xs11 =>
 some ((.tup [(.agg xs11), (.lit (.int .i64 n9))]), h10))
 else ((ld1 r8.2 (.ptr h.length 0)).bind fun x12 =>
 (nilCk x12).bind fun p13 =>
 (fieldP 5 p13).bind fun p14 =>
 (ldn 2 r8.2 p14).bind fun xs15 =>
 (goneR (S_frame_PutEnd xs15 r8.2) r8.2).bind fun r16 =>
 (xExtract r16 0).bind fun x17 =>
 (asS x17).bind fun s18 =>
 (xExtract r16 1).bind fun x19 =>
 (asB x19).bind fun b20 =>
 (st1 ((psh r8.2 (.cells [(.lit (.string ({ data := #[] })))]))) (.ptr r8.2.length 0) (.lit (.string s18))).bind fun h21 =>
 bif (!b20) then ((ld1 h21 (.ptr h.length 0)).bind fun x22 =>
 (S_writer_Writer_broken x22 1 h21).bind fun r23 =>
 (asI .i64 r23.1).bind fun n24 =>
 (stn 2 r23.2 (.ptr (((psh h (.cells vs1))).length) 0) ([(.lit (.int .i64 0)), (.lit (.int .u32 0))])).bind fun h25 =>
 (ldn 2 h25 (.ptr (((psh h (.cells vs1))).length) 0)).bind fun xs26 =>
 some ((.tup [(.agg xs26), (.lit (.int .i64 n24))]), h25))
 else ((ld1 h21 (.ptr h.length 0)).bind fun x27 =>
 (nilCk x27).bind fun p28 =>
 (fieldP 0 p28).bind fun p29 =>
 (ldn 2 h21 p29).bind fun xs30 =>
 (blitS 1 [(.lit (.nilFunc))] 2 [(0, (.fn (.func 60) [] [(.ptr h.length 0), (.ptr r8.2.length 0)])), (1, (.fn (.func 61) [(.agg xs30)] []))] h21).bind fun r31 =>
 (lenV r31.1).bind fun n32 =>
 S_writer_Writer_Close_0 h.length (((psh h (.cells vs1))).length) r31.1 n32 0 r31.2))) := by kernel_rfl
theorem S_writer_Writer_Close_0_eq (w1 : Nat) (t2 : Nat) (t39 : AVal) (t40 : Int) (t41 : Int) (h : AHeap) : S_writer_Writer_Close_0 w1 t2 t39 t40 t41 h =
 bif (decide (t41 < t40)) then ((idxP 1 t39 t41).bind fun p33 =>
 (ld1 h p33).bind fun x34 =>
 (ld1 h (.ptr w1 0)).bind fun x35 =>
 callK Ewriter_Writer_Close.C Ewriter_Writer_Close.Y x34 [] h fun r36 h37 =>
 (asI .i64 r36).bind fun n38 =>
 (reqC ((((ld1 h37 (.ptr w1 0)).bind fun x39 =>
 some x39) : Option AVal) = some x35)).bind fun _ =>
 (S_writer_Writer_broken x35 n38 h37).bind fun r40 =>
 (asI .i64 r40.1).bind fun n41 =>
 bif (!decide (n41 = 0)) then ((stn 2 r40.2 (.ptr t2 0) ([(.lit (.int .i64 0)), (.lit (.int .u32 0))])).bind fun h42 =>
 (ldn 2 h42 (.ptr t2 0)).bind fun xs43 =>
 some ((.tup [(.agg xs43), (.lit (.int .i64 n41))]), h42))
 else (S_writer_Writer_Close_0 w1 t2 t39 t40 (IntKind.wrap .i64 (t41 + 1)) r40.2))
 else (S_writer_Writer_Close_1 w1 t2 h) := (xexec_loop Ewriter_Writer_Close Ewriter_Writer_Close_ok.C.nat _ _ _ _ _).trans (by kernel_rfl)
theorem S_writer_Writer_Close_1_eq (w1 : Nat) (t2 : Nat) (h : AHeap) : S_writer_Writer_Close_1 w1 t2 h =
 (ld1 h (.ptr w1 0)).bind fun x44 =>
 (S_writer_Writer_Drop x44 h).bind fun r45 =>
 (ld1 r45.2 (.ptr w1 0)).bind fun x46 =>
 (nilCk x46).bind fun p47 =>
 (fieldP 5 p47).bind fun p48 =>
 (ldn 2 r45.2 p48).bind fun xs49 =>
 (stn 2 r45.2 (.ptr t2 0) xs49).bind fun h50 =>
 (ldn 2 h50 (.ptr t2 0)).bind fun xs51 =>
 some ((.tup [(.agg xs51), (.lit (.int .i64 0))]), h50) := (jn_eq _).trans (by kernel_rfl)
theorem S_writer_Writer_Close_ends {w0 : AVal} {h h' : AHeap} {v : AVal} {R : AEnd → AHeap → Prop} (hx : S_writer_Writer_Close w0 h = some (v, h')) (hR : HOk h → h.length ≤ h'.length → ABody.AEnds h h' (.ret v) R) : ACalls Try.prog 20 [w0] h R := xfun_ends Ewriter_Writer_Close_ok tmix (i := 20) (by rfl) (by kernel_rfl) (by kernel_rfl) hx hR
noncomputable def w_writer_Writer_Close : XC := .l fun R args h K => match args with
  | [a0] => (S_writer_Writer_Close a0 h).bind fun r => K r.1 r.2
  | _ => none
theorem w_writer_Writer_Close_ok : XC.Nat w_writer_Writer_Close ∧ XC.Ok Try.prog 20 w_writer_Writer_Close := by
  refine ⟨fun R args h K => ?_, tc20, fun args h v h' hx => ?_⟩
  · dsimp only; split <;> simp [Option.bind_assoc, mkP]
  · dsimp only at hx; split at hx
    · obtain ⟨r, hopt, hx⟩ := Option.bind_eq_some_iff.1 hx
      simp only [mkP, Option.some.injEq, Prod.mk.injEq] at hx
      obtain ⟨rfl, rfl⟩ := hx
      exact (by obtain ⟨v, h'⟩ := r; exact S_writer_Writer_Close_ends hopt selfR)
    · cases hx
end Go.Proofs.Yteclkehnppeobaa.AL
/- The writer over a disk that stands: what lies in the memory, the budget, the sink. -/
namespace Go.Proofs.Yteclkehnppeobaa.AL
set_option linter.unusedVariables false
set_option linter.unusedSimpArgs false
set_option maxRecDepth 100000
open Go
open Go.Proofs.Try
/-! ### The budget -/
def budC (m now hi : Int) : List AVal := [.lit (.bool true), .lit (.int .i64 m), .lit (.int .i64 now), .lit (.int .i64 hi)]
section bud
variable {h : AHeap} {b : Nat} {m now hi : Int}
theorem bgiven_run (B : cellsAt h b = some (budC m now hi)) : onlyR (S_budget_Budget_given (.ptr b 0) h) h = some (.lit (.bool true)) := by
  have : S_budget_Budget_given (.ptr b 0) h = some (.lit (.bool true), h) := by
    rw [S_budget_Budget_given_eq]
    refine bd rfl (cT rfl (bd rfl (bd rfl (bd (ld1_of B) (bd rfl ?_)))))
    rw [S_budget_Budget_given_0_eq]
  rw [this]; exact onlyR_same _ _
theorem bleft_run (B : cellsAt h b = some (budC m now hi)) (h1 : 0 ≤ now) (h2 : now ≤ m) (h3 : m ≤ 4611686018427387904) : onlyR (S_budget_Budget_Left (.ptr b 0) h) h = some (.lit (.int .i64 (m - now))) := by
  have : S_budget_Budget_Left (.ptr b 0) h = some (.lit (.int .i64 (m - now)), h) := by
    rw [S_budget_Budget_Left_eq]
    refine bd (bgiven_run B) (bd rfl (cF rfl (bd rfl (bd rfl (bd (ld1_of B) (bd rfl (bd rfl (bd rfl (bd (ld1_of B) (bd rfl ?_))))))))))
    rw [wrap_i64 (by omega) (by omega)]
  rw [this]; exact onlyR_same _ _
theorem bnow_run (B : cellsAt h b = some (budC m now hi)) : onlyR (S_budget_Budget_Now (.ptr b 0) h) h = some (.lit (.int .i64 now)) := by
  have : S_budget_Budget_Now (.ptr b 0) h = some (.lit (.int .i64 now), h) := by
    rw [S_budget_Budget_Now_eq]
    exact bd (bgiven_run B) (bd rfl (cF rfl (bd rfl (bd rfl (bd (ld1_of B) (bd rfl rfl))))))
  rw [this]; exact onlyR_same _ _
theorem bhigh_run (B : cellsAt h b = some (budC m now hi)) : onlyR (S_budget_Budget_High (.ptr b 0) h) h = some (.lit (.int .i64 hi)) := by
  have : S_budget_Budget_High (.ptr b 0) h = some (.lit (.int .i64 hi), h) := by
    rw [S_budget_Budget_High_eq]
    exact bd (bgiven_run B) (bd rfl (cF rfl (bd rfl (bd rfl (bd (ld1_of B) (bd rfl rfl))))))
  rw [this]; exact onlyR_same _ _
theorem btake_run (B : cellsAt h b = some (budC m now hi)) {n : Int} (h0 : 0 ≤ n) (h1 : 0 ≤ now) (h2 : now + n ≤ m) (h3 : m ≤ 4611686018427387904) :
    ∃ g, S_budget_Budget_Take (.ptr b 0) n h = some (.lit (.int .i64 0), g) ∧ cellsAt g b = some (budC m (now + n) (maxI hi (now + n))) ∧ Keep h.length [b] h g := by
  have c1 : cellsAt (h.set b (.cells (budC m (now + n) hi))) b = some (budC m (now + n) hi) := cellsAt_set B
  refine ⟨(h.set b (.cells (budC m (now + n) hi))).set b (.cells (budC m (now + n) (maxI hi (now + n)))), ?_, cellsAt_set c1, (Keep.set (.inr (by simp))).trans (Keep.set (.inr (by simp)))⟩
  rw [S_budget_Budget_Take_eq]
  refine bd (bgiven_run B) (bd rfl (cF rfl ?_))
  rw [S_budget_Budget_Take_0_eq]
  refine cF (decide_eq_false (by omega)) (bd (bleft_run B h1 (by omega) h3) (bd rfl (cF (decide_eq_false (by omega)) (bd rfl (bd rfl (bd (ld1_of B) (bd rfl ?_)))))))
  rw [wrap_i64 (by omega) (by omega)]
  refine bd rfl (bd rfl (bd (st1_of B rfl (by show 2 < 4; omega)) ?_))
  show (nilCk (.ptr b 0)).bind _ = _
  refine bd rfl (bd rfl (bd (ld1_of c1) (bd rfl (bd rfl (bd rfl (bd (ld1_of c1) (bd rfl (bd rfl (bd rfl (bd (st1_of c1 rfl (by show 3 < 4; omega)) rfl))))))))))
theorem bgive_run (B : cellsAt h b = some (budC m now hi)) {n : Int} (h0 : 0 ≤ n) (h1 : n ≤ now) (h3 : now ≤ 4611686018427387904) :
    ∃ g, S_budget_Budget_Give (.ptr b 0) n h = some (.tup [], g) ∧ cellsAt g b = some (budC m (now - n) hi) ∧ Keep h.length [b] h g := by
  refine ⟨h.set b (.cells (budC m (now - n) hi)), ?_, cellsAt_set B, Keep.set (.inr (by simp))⟩
  rw [S_budget_Budget_Give_eq]
  refine bd (bgiven_run B) (bd rfl (cT rfl ?_))
  rw [S_budget_Budget_Give_0_eq]
  refine cT (decide_eq_true (by omega)) (bd rfl (bd rfl (bd (ld1_of B) (bd rfl (bd rfl (bd rfl (bd (ld1_of B) (bd rfl ?_))))))))
  rw [show minI n now = n by unfold minI; split <;> omega, wrap_i64 (by omega) (by omega)]
  exact bd rfl (bd rfl (bd (st1_of B rfl (by show 2 < 4; omega)) rfl))
end bud
/-! ### A disk that stands, with one file -/
structure UpW (D : Dsk) (R : Int) (t : ByteArray) : Prop where
  down : D.down = false
  fuse : D.fuse = -1
  used : D.used = (t.size : Int)
  room : D.room = R
theorem UpW.off {D : Dsk} {R : Int} {t : ByteArray} (U : UpW D R t) : downN D = false := by unfold downN; rw [U.down, U.fuse]; rfl
theorem UpW.call {D : Dsk} {R : Int} {t : ByteArray} (U : UpW D R t) : UpW (callD D) R t := ⟨U.off, by unfold callD; simp only; rw [if_neg (by rw [U.fuse]; omega)]; exact U.fuse, U.used, U.room⟩
section disk
variable {h : AHeap} {d mb : Nat} {D : Dsk} {R : Int} {t name : ByteArray} {k : Int}
theorem find_w (U : UpW D R t) (hr : rightB name = true) : findR D [(name, t, k)] name true = ((t, k), 0) := by
  unfold findR
  rw [hr, U.off]
  simp [fask]
theorem findD_w (hr : rightB name = true) : findD D name true = callD D := by unfold findD; rw [hr]; rfl
theorem lay_run (A : DiskAt h d mb D [(name, t, k)]) (U : UpW D R t) (hr : rightB name = true) (hn : name.size ≤ 100) {b : ByteArray} (h1 : (t.size : Int) + (b.size : Int) ≤ R) (h2 : R ≤ 16777216) :
    ∃ g D', S_writer_sink_lay [.ptr d 0, .lit (.string name)] b h = some (.lit (.int .i64 0), g) ∧ DiskAt g d mb D' [(name, t ++ b, k)] ∧ UpW D' R (t ++ b) ∧ Keep h.length [d, mb] h g := by
  have c0 : cellsAt (psh h (.cells [.ptr d 0, .lit (.string name)])) h.length = some [.ptr d 0, .lit (.string name)] := cellsAt_new h _
  have K0 : Keep h.length [d, mb] h (psh h (.cells [.ptr d 0, .lit (.string name)])) := Keep.psh _ (Nat.le_refl _)
  have A0 := A.dh.psh (.cells [.ptr d 0, .lit (.string name)])
  have e0 : appE D [(name, t, k)] name b = 0 := by
    unfold appE
    rw [find_w U hr, if_neg (by simp)]
    have : fullB D b = false := by
      unfold fullB
      rw [U.room, U.used, wrap_i64 (by omega) (by omega)]
      exact decide_eq_false (by omega)
    rw [this]; rfl
  obtain ⟨g, e1, H1, T1, l1⟩ := append_run A0.1 name b (by omega) (fun _ => by rw [find_w U hr]; show t.size + b.size ≤ _; omega)
  rw [e0] at e1
  have eL : appL D [(name, t, k)] name b = [(name, t ++ b, k)] := by
    unfold appL
    rw [if_pos e0, find_w U hr]
    simp [flay]
  have eD : appD D [(name, t, k)] name b = { callD D with used := ((t ++ b).size : Int) } := by
    unfold appD
    rw [if_pos e0, findD_w hr, U.used, wrap_i64 (by omega) (by omega), ByteArray.size_append]
    congr 1
  rw [eL, eD] at H1
  refine ⟨g, _, ?_, H1.disk, ⟨U.call.down, U.call.fuse, rfl, U.call.room⟩, H1.keep⟩
  rw [S_writer_sink_lay_eq]
  exact bd (ld1_of c0) (bd (ld1_of c0) (bd rfl (bd e1 (bd rfl rfl))))
theorem keep_run (A : DiskAt h d mb D [(name, t, k)]) (U : UpW D R t) (hr : rightB name = true) (hn : name.size ≤ 100) :
    ∃ g D', S_writer_sink_keep [.ptr d 0, .lit (.string name)] h = some (.lit (.int .i64 0), g) ∧ DiskAt g d mb D' [(name, t, (t.size : Int))] ∧ UpW D' R t ∧ Keep h.length [d, mb] h g := by
  have c0 : cellsAt (psh h (.cells [.ptr d 0, .lit (.string name)])) h.length = some [.ptr d 0, .lit (.string name)] := cellsAt_new h _
  have A0 := A.dh.psh (.cells [.ptr d 0, .lit (.string name)])
  obtain ⟨g, e1, H1, T1, l1⟩ := sync_run A0.1 name (by omega)
  rw [find_w U hr] at e1
  have eL : syncL D [(name, t, k)] name = [(name, t, (t.size : Int))] := by
    unfold syncL
    rw [find_w U hr]
    simp [flay]
  rw [eL, findD_w hr] at H1
  refine ⟨g, _, ?_, H1.disk, U.call, H1.keep⟩
  rw [S_writer_sink_keep_eq]
  exact bd (ld1_of c0) (bd (ld1_of c0) (bd rfl (bd e1 (bd rfl rfl))))
end disk
end Go.Proofs.Yteclkehnppeobaa.AL
/- The writer: what it does, over a disk that stands. -/
namespace Go.Proofs.Yteclkehnppeobaa.AL
set_option linter.unusedVariables false
set_option linter.unusedSimpArgs false
set_option maxRecDepth 100000
open Go
open Go.Proofs.Try
/-- Where all lies. -/
structure WLoc where
  d : Nat
  mb : Nat
  bb : Nat
  wp : Nat
def WLoc.In (L : WLoc) (c : Nat) : Prop := c = L.d ∨ c = L.mb ∨ c = L.bb ∨ c = L.wp
/-- What a writer has come to: the room, the file and what of it is kept, the budget, the name, the size, what waits, how many, their sum. -/
structure Wrt where
  R : Int
  t : ByteArray
  k : Int
  m : Int
  now : Int
  hi : Int
  name : ByteArray
  n : Nat
  wt : List ByteArray
  c : Nat
  s : BitVec 32
  op : Bool
def wtrC (L : WLoc) (x : Wrt) (v : AVal) : List AVal := [.ptr L.d 0, .lit (.string x.name), .ptr L.bb 0, .lit (.int .i64 (x.n : Int)), v, .lit (.int .i64 (x.c : Int)), .lit (.int .u32 (u32 x.s)), .lit (.bool x.op)]
def Wt (h : AHeap) (v : AVal) (ss : List ByteArray) : Prop := (v = .lit (.slice none 0 0) ∧ ss = []) ∨ ∃ b cs, v = .sl 1 b 0 ss.length ∧ cellsAt h b = some cs ∧ cs.take ss.length = strVs ss ∧ ss.length ≤ cs.length
structure WS (L : WLoc) (h : AHeap) (x : Wrt) (v : AVal) : Prop where
  A : ∃ D, DiskAt h L.d L.mb D [(x.name, x.t, x.k)] ∧ UpW D x.R x.t
  B : cellsAt h L.bb = some (budC x.m x.now x.hi)
  W : cellsAt h L.wp = some (wtrC L x v)
  V : Wt h v x.wt
  ne : (L.wp ≠ L.d ∧ L.wp ≠ L.mb ∧ L.wp ≠ L.bb) ∧ L.bb ≠ L.d ∧ L.bb ≠ L.mb
  nv : ∀ b, At v b → ¬ L.In b
structure WFr (L : WLoc) (h g : AHeap) (v v' : AVal) : Prop where
  len : h.length ≤ g.length
  get : ∀ c, c < h.length → ¬ L.In c → ¬ At v c → g[c]? = h[c]?
  at' : ∀ b, At v' b → At v b ∨ h.length ≤ b
theorem WFr.refl (L : WLoc) (h : AHeap) (v : AVal) : WFr L h h v v := ⟨Nat.le_refl _, fun _ _ _ _ => rfl, fun _ h => .inl h⟩
theorem WFr.trans {L : WLoc} {h g g' : AHeap} {v v' v'' : AVal} (a : WFr L h g v v') (b : WFr L g g' v' v'') : WFr L h g' v v'' :=
  ⟨Nat.le_trans a.len b.len, fun c hc hl hv => (b.get c (Nat.lt_of_lt_of_le hc a.len) hl (fun h => (a.at' c h).elim hv (fun h => by omega))).trans (a.get c hc hl hv), fun c hc => (b.at' c hc).elim (fun h => a.at' c h) (fun h => .inr (Nat.le_trans a.len h))⟩
theorem Wt.sl {h : AHeap} {v : AVal} {ss : List ByteArray} (V : Wt h v ss) : Sl 1 h v ss.length (strVs ss) := by
  rcases V with ⟨rfl, rfl⟩ | ⟨b, cs, rfl, H, h1, h2⟩
  · exact Sl.nil _ _
  · exact ⟨by simp [strVs], rfl, rfl, cs, H, by omega, by rw [List.drop_zero, Nat.mul_one]; exact h1⟩
theorem Wt.keep {h g : AHeap} {v : AVal} {ss : List ByteArray} (V : Wt h v ss) (K : ∀ b, b < h.length → At v b → g[b]? = h[b]?) : Wt g v ss := by
  rcases V with ⟨rfl, rfl⟩ | ⟨b, cs, rfl, H, h1, h2⟩
  · exact .inl ⟨rfl, rfl⟩
  · refine .inr ⟨b, cs, rfl, ?_, h1, h2⟩
    have := cellsAt_some H
    unfold cellsAt
    rw [K b (cellsAt_lt H) ⟨_, _, _, rfl⟩, this]
theorem Wt.lt {h : AHeap} {v : AVal} {ss : List ByteArray} (V : Wt h v ss) {b : Nat} (hb : At v b) : b < h.length := by
  obtain ⟨_, _, _, e⟩ := hb
  rcases V with ⟨rfl, rfl⟩ | ⟨b', cs, rfl, H, h1, h2⟩
  · cases e
  · cases e; exact cellsAt_lt H
theorem Wt.cut {h : AHeap} {v : AVal} {ss : List ByteArray} (V : Wt h v ss) : ∃ v', cutV 1 v none (some 0) none = some v' ∧ Wt h v' [] ∧ ∀ b, At v' b → At v b := by
  rcases V with ⟨rfl, rfl⟩ | ⟨b, cs, rfl, H, h1, h2⟩
  · exact ⟨_, rfl, .inl ⟨rfl, rfl⟩, fun b hb => hb⟩
  · refine ⟨.sl 1 b 0 0, ?_, .inr ⟨b, cs, rfl, H, rfl, by simp⟩, fun c hc => ?_⟩
    · unfold cutV
      simp only [Nat.beq_refl]
      rw [req_true ⟨by simp, by simp, by simp, fun m hm => by cases hm⟩]
      rfl
    · obtain ⟨_, _, _, e⟩ := hc; cases e; exact ⟨_, _, _, rfl⟩
theorem Wt.push {h : AHeap} {v : AVal} {ss : List ByteArray} (V : Wt h v ss) (r : ByteArray) (hl : ss.length ≤ 1000) :
    ∃ v' g, appV 1 16 (h ++ [.cells [.lit (.string r)]]) v (.sl 1 h.length 0 1) = some (v', g) ∧ Wt g v' (ss ++ [r]) ∧ h.length ≤ g.length ∧ (∀ b, At v' b → h.length ≤ b) ∧ ∀ c, c < h.length → ¬ At v c → g[c]? = h[c]? := by
  have hsrc : srcCells (h ++ [.cells [.lit (.string r)]]) 1 (.sl 1 h.length 0 1) 1 = some [.lit (.string r)] := by
    unfold srcCells
    simp
  rcases V with ⟨rfl, rfl⟩ | ⟨b, cs, rfl, H, h1, h2⟩
  · refine ⟨.sl 1 (h.length + 1) 0 1, (h ++ [.cells [.lit (.string r)]]) ++ [.cells [.lit (.string r)]], ?_, .inr ⟨h.length + 1, [.lit (.string r)], rfl, by simp [cellsAt], rfl, Nat.le_refl _⟩, by simp, fun b hb => ?_, fun c hc _ => ?_⟩
    · unfold appV
      rw [show srcLen (.sl 1 h.length 0 1) = some 1 from rfl, Option.bind_some, hsrc, Option.bind_some]
      simp only
      rw [req_true (by omega)]
      simp
    · obtain ⟨_, _, _, e⟩ := hb; cases e; omega
    · rw [List.getElem?_append_left (by simp; omega), List.getElem?_append_left hc]
  · have hb := cellsAt_lt H
    have H' : cellsAt (h ++ [.cells [.lit (.string r)]]) b = some cs := cellsAt_more _ H
    refine ⟨.sl 1 (h.length + 1) 0 (ss.length + 1), ((h ++ [AObj.cells [.lit (.string r)]]).set b .dead) ++ [AObj.cells (strVs ss ++ [.lit (.string r)])], ?_, .inr ⟨h.length + 1, strVs ss ++ [.lit (.string r)], by simp, by simp [cellsAt], ?_, by simp [strVs]⟩, by simp; omega, fun c hc => ?_, fun c hc hn => ?_⟩
    · unfold appV
      rw [show srcLen (.sl 1 h.length 0 1) = some 1 from rfl, Option.bind_some, hsrc, Option.bind_some]
      simp only
      rw [H', Option.bind_some, req_true ⟨trivial, by omega, by omega, rfl⟩, Option.bind_some, List.drop_zero, Nat.mul_one, h1]
      simp
    · rw [List.take_of_length_le (by simp [strVs])]; simp [strVs]
    · obtain ⟨_, _, _, e⟩ := hc; cases e; omega
    · rw [List.getElem?_append_left (by simp; omega), List.getElem?_set_ne (fun e => hn ⟨_, _, _, by rw [e]⟩), List.getElem?_append_left hc]
theorem st8 {h : AHeap} {b i : Nat} {cs : List AVal} {v : AVal} (H : cellsAt h b = some cs) (h1 : v.one = true) (hl : i < cs.length) : st1 h (.ptr b i) v = some (h.set b (.cells (cs.set i v))) := st1_of H h1 hl
section wtr
variable {L : WLoc} {h : AHeap} {x : Wrt} {v : AVal}
/-- What may be written. -/
structure WOk (x : Wrt) : Prop where
  right : rightB x.name = true
  nm : x.name.size ≤ 100
  n1 : 1 ≤ x.n
  n2 : x.n ≤ 64
  R : x.R ≤ 16777216
  wl : x.wt.length ≤ 4
  wa : ∀ s ∈ x.wt, s.size = x.n
theorem wgiven_run (S : WS L h x v) : onlyR (S_writer_Writer_given (.ptr L.wp 0) h) h = some (.lit (.bool x.op)) := by
  have : S_writer_Writer_given (.ptr L.wp 0) h = some (.lit (.bool x.op), h) := by
    rw [S_writer_Writer_given_eq]
    refine bd rfl (cT rfl (bd rfl (bd rfl (bd (ld1_of S.W) (bd rfl ?_)))))
    rw [S_writer_Writer_given_0_eq]
  rw [this]; exact onlyR_same _ _
theorem wcount_run (S : WS L h x v) : onlyR (S_writer_Writer_Count (.ptr L.wp 0) h) h = some (.lit (.int .i64 (x.c : Int))) := by
  have : S_writer_Writer_Count (.ptr L.wp 0) h = some (.lit (.int .i64 (x.c : Int)), h) := by
    rw [S_writer_Writer_Count_eq]
    exact bd rfl (cF rfl (bd rfl (bd rfl (bd rfl (bd (ld1_of S.W) (bd rfl rfl))))))
  rw [this]; exact onlyR_same _ _
theorem wput_closed (S : WS L h x v) (ho : x.op = false) (r : ByteArray) : S_writer_Writer_Put (.ptr L.wp 0) r h = some (.lit (.int .i64 14), h) := by
  rw [S_writer_Writer_Put_eq]
  exact bd (wgiven_run S) (bd rfl (cT (by rw [ho]; rfl) rfl))
theorem wput_size (S : WS L h x v) (ho : x.op = true) {r : ByteArray} (hr : r.size ≠ x.n) : S_writer_Writer_Put (.ptr L.wp 0) r h = some (.lit (.int .i64 1), h) := by
  rw [S_writer_Writer_Put_eq]
  exact bd (wgiven_run S) (bd rfl (cF (by rw [ho]; rfl) (bd rfl (bd rfl (bd (ld1_of S.W) (bd rfl (cT (by rw [decide_eq_false (by omega)]; rfl) rfl)))))))
theorem wdrop_run (S : WS L h x v) (ho : x.op = true) (h4 : 4 ≤ x.now) (h3 : x.now ≤ 4611686018427387904) :
    ∃ g, S_writer_Writer_Drop (.ptr L.wp 0) h = some (.tup [], g) ∧ WS L g { x with op := false, now := x.now - 4 } v ∧ WFr L h g v v := by
  have W1 : cellsAt (h.set L.wp (.cells (wtrC L { x with op := false } v))) L.wp = some (wtrC L { x with op := false } v) := cellsAt_set S.W
  have B1 : cellsAt (h.set L.wp (.cells (wtrC L { x with op := false } v))) L.bb = some (budC x.m x.now x.hi) := cellsAt_set_ne _ S.ne.1.2.2 S.B
  obtain ⟨g, e1, B2, K⟩ := bgive_run B1 (n := 4) (by omega) h4 h3
  have K0 : Keep h.length [L.wp] h (h.set L.wp (.cells (wtrC L { x with op := false } v))) := Keep.set (.inr (by simp))
  have K1 : Keep h.length [L.wp, L.bb] h g := (K0.less (Nat.le_refl _) (by simp)).trans (K.less K0.len (by simp))
  obtain ⟨D, A, U⟩ := S.A
  refine ⟨g, ?_, ⟨⟨D, A.keep K1 ⟨cellsAt_lt A.dcs, ?_⟩ ⟨lt_of_getL A.ms, ?_⟩, U⟩, B2, ?_, S.V.keep fun b hb hv => K1.get b hb ?_, S.ne, S.nv⟩, ⟨K1.len, fun c hc hl hv => K1.get c hc ?_, fun b hb => .inl hb⟩⟩
  · rw [S_writer_Writer_Drop_eq]
    refine bd (wgiven_run S) (bd rfl (cT ho (bd rfl (bd rfl (bd (st1_of S.W rfl (by show 7 < 8; omega)) ?_)))))
    exact bd rfl (bd rfl (bd (ld1_of W1) (bd e1 rfl)))
  · simp only [List.mem_cons, List.not_mem_nil, or_false, not_or]; exact ⟨Ne.symm S.ne.1.1, Ne.symm S.ne.2.1⟩
  · simp only [List.mem_cons, List.not_mem_nil, or_false, not_or]; exact ⟨Ne.symm S.ne.1.2.1, Ne.symm S.ne.2.2⟩
  · exact K.cells (cellsAt_lt W1) (by simp only [List.mem_cons, List.not_mem_nil, or_false]; exact S.ne.1.2.2) W1
  · have := S.nv b hv
    simp only [List.mem_cons, List.not_mem_nil, or_false, not_or]
    exact ⟨fun e => this (.inr (.inr (.inr e))), fun e => this (.inr (.inr (.inl e)))⟩
  · simp only [List.mem_cons, List.not_mem_nil, or_false, not_or]
    exact ⟨fun e => hl (.inr (.inr (.inr e))), fun e => hl (.inr (.inr (.inl e)))⟩
theorem broken_ok (w : AVal) : S_writer_Writer_broken w 0 h = some (.lit (.int .i64 0), h) := by
  rw [S_writer_Writer_broken_eq]
  refine cF rfl ?_
  rw [S_writer_Writer_broken_0_eq]
theorem wflush_none (S : WS L h x v) (h0 : x.wt = []) : S_writer_Writer_flush (.ptr L.wp 0) h = some (.lit (.int .i64 0), h) := by
  have hl := S.V.sl.len
  rw [h0] at hl
  rw [S_writer_Writer_flush_eq]
  exact bd rfl (bd rfl (bd (ld1_of S.W) (bd hl (cT rfl rfl))))
/-- The sink's bytes behind: the writer's state. -/
theorem WS.disk {g : AHeap} {t' : ByteArray} {k' : Int} {D' : Dsk} (S : WS L h x v) (A' : DiskAt g L.d L.mb D' [(x.name, t', k')]) (U' : UpW D' x.R t') (K : Keep h.length [L.d, L.mb] h g) : WS L g { x with t := t', k := k' } v ∧ WFr L h g v v := by
  refine ⟨⟨⟨D', A', U'⟩, K.cells (cellsAt_lt S.B) ?_ S.B, K.cells (cellsAt_lt S.W) ?_ S.W, S.V.keep fun b hb hv => K.get b hb ?_, S.ne, S.nv⟩, ⟨K.len, fun c hc hl hv => K.get c hc ?_, fun b hb => .inl hb⟩⟩
  · simp only [List.mem_cons, List.not_mem_nil, or_false, not_or]; exact S.ne.2
  · simp only [List.mem_cons, List.not_mem_nil, or_false, not_or]; exact ⟨S.ne.1.1, S.ne.1.2.1⟩
  · have := S.nv b hv
    simp only [List.mem_cons, List.not_mem_nil, or_false, not_or]
    exact ⟨fun e => this (.inl e), fun e => this (.inr (.inl e))⟩
  · simp only [List.mem_cons, List.not_mem_nil, or_false, not_or]
    exact ⟨fun e => hl (.inl e), fun e => hl (.inr (.inl e))⟩
theorem wflush_run (S : WS L h x v) (O : WOk x) (h0 : x.wt ≠ []) (hroom : (x.t.size : Int) + (((catB x.wt).length + 5 : Nat) : Int) ≤ x.R) :
    ∃ g v', S_writer_Writer_flush (.ptr L.wp 0) h = some (.lit (.int .i64 0), g) ∧ WS L g { x with t := x.t ++ blockB x.wt, wt := [] } v' ∧ WFr L h g v v' := by
  have hpos : 0 < x.wt.length := List.length_pos_iff.2 h0
  have hp := fput_run O.n1 O.n2 S.V.sl (by omega) O.wl O.wa
  obtain ⟨v', c1, V', at'⟩ := S.V.cut
  have hv1 : v'.one = true := by
    rcases V' with ⟨rfl, _⟩ | ⟨b, cs, rfl, _⟩ <;> rfl
  obtain ⟨h1, hh1⟩ : ∃ h1, h1 = h.set L.wp (.cells (wtrC L { x with wt := [] } v')) := ⟨_, rfl⟩
  have W1 : cellsAt h1 L.wp = some (wtrC L { x with wt := [] } v') := by rw [hh1]; exact cellsAt_set S.W
  have K0 : Keep h.length [L.wp] h h1 := by rw [hh1]; exact Keep.set (.inr (by simp))
  obtain ⟨D, A, U⟩ := S.A
  have nw : ∀ c, ¬ L.In c → c ∉ [L.wp] := fun c hc => by simp only [List.mem_cons, List.not_mem_nil, or_false]; exact fun e => hc (.inr (.inr (.inr e)))
  have S1 : WS L h1 { x with wt := [] } v' := by
    refine ⟨⟨D, A.keep K0 ⟨cellsAt_lt A.dcs, ?_⟩ ⟨lt_of_getL A.ms, ?_⟩, U⟩, K0.cells (cellsAt_lt S.B) ?_ S.B, W1, V'.keep fun b hb hv => K0.get b hb (nw b (S.nv b (at' b hv))), S.ne, fun b hb => S.nv b (at' b hb)⟩
    · simp only [List.mem_cons, List.not_mem_nil, or_false]; exact Ne.symm S.ne.1.1
    · simp only [List.mem_cons, List.not_mem_nil, or_false]; exact Ne.symm S.ne.1.2.1
    · simp only [List.mem_cons, List.not_mem_nil, or_false]; exact Ne.symm S.ne.1.2.2
  have F1 : WFr L h h1 v v' := ⟨K0.len, fun c hc hl hv => K0.get c hc (nw c hl), fun b hb => .inl (at' b hb)⟩
  obtain ⟨D1, A1, U1⟩ := S1.A
  obtain ⟨g, D2, e1, A2, U2, K2⟩ := lay_run A1 U1 O.right O.nm (b := blockB x.wt) (by rw [blockB_size]; exact hroom) O.R
  obtain ⟨S2, F2⟩ := S1.disk A2 U2 K2
  refine ⟨g, v', ?_, S2, F1.trans F2⟩
  have st : st1 h (.ptr L.wp (0 + 4)) v' = some h1 := by rw [hh1]; exact st1_of S.W hv1 (by show 4 < 8; omega)
  rw [S_writer_Writer_flush_eq]
  refine bd rfl (bd rfl (bd (ld1_of S.W) (bd S.V.sl.len (cF (decide_eq_false (by omega)) (bd rfl (bd rfl (bd (ld1_of S.W) (bd rfl (bd rfl (bd rfl (bd (ld1_of S.W) (bd hp ?_))))))))))))
  refine bd rfl (bd rfl (bd rfl (bd rfl (cF rfl (bd rfl (bd rfl (bd (ld1_of S.W) (bd c1 (bd rfl (bd rfl (bd st ?_)))))))))))
  refine bd rfl (bd rfl (bd (ldn_of W1 (by show 2 ≤ 8; omega)) (bd e1 (bd rfl (bd (broken_ok _) rfl)))))
end wtr
end Go.Proofs.Yteclkehnppeobaa.AL
/- The writer: records, its beginning and its end. -/
namespace Go.Proofs.Yteclkehnppeobaa.AL
set_option linter.unusedVariables false
set_option linter.unusedSimpArgs false
set_option maxRecDepth 100000
open Go
open Go.Proofs.Try
theorem cellsAt_same {h g : AHeap} {c : Nat} (e : g[c]? = h[c]?) : cellsAt g c = cellsAt h c := by unfold cellsAt; rw [e]
theorem blitS_str (z s : ByteArray) (h : AHeap) : blitS 1 [.lit (.string z)] 1 [(0, .lit (.string s))] h = some (.sl 1 h.length 0 1, h ++ [.cells [.lit (.string s)]]) := rfl
section wtr
variable {L : WLoc} {h g : AHeap} {x : Wrt} {v : AVal}
theorem WS.lt (S : WS L h x v) {c : Nat} (hc : L.In c) : c < h.length := by
  obtain ⟨D, A, U⟩ := S.A
  rcases hc with rfl | rfl | rfl | rfl
  · exact cellsAt_lt A.dcs
  · exact lt_of_getL A.ms
  · exact cellsAt_lt S.B
  · exact cellsAt_lt S.W
/-- The writer's own cells are other ones. -/
theorem WS.moved (S : WS L h x v) {y : Wrt} {v' : AVal} (hl : h.length ≤ g.length) (hg : ∀ c, c < h.length → c ≠ L.wp → ¬ At v c → g[c]? = h[c]?) (W' : cellsAt g L.wp = some (wtrC L y v')) (V' : Wt g v' y.wt)
    (ha : ∀ b, At v' b → At v b ∨ h.length ≤ b) (hy : y.R = x.R ∧ y.t = x.t ∧ y.k = x.k ∧ y.m = x.m ∧ y.now = x.now ∧ y.hi = x.hi ∧ y.name = x.name) : WS L g y v' ∧ WFr L h g v v' := by
  obtain ⟨y1, y2, y3, y4, y5, y6, y7⟩ := hy
  obtain ⟨D, A, U⟩ := S.A
  have get : ∀ c, L.In c → c ≠ L.wp → g[c]? = h[c]? := fun c hc hn => hg c (S.lt hc) hn fun hv => S.nv c hv hc
  refine ⟨⟨⟨D, ⟨?_, ?_⟩, ?_⟩, ?_, W', V', S.ne, fun b hb hi => (ha b hb).elim (fun h => S.nv b h hi) fun h => ?_⟩, ⟨hl, fun c hc hi hv => hg c hc (fun e => hi (.inr (.inr (.inr e)))) hv, ha⟩⟩
  · rw [cellsAt_same (get _ (.inl rfl) (Ne.symm S.ne.1.1))]; exact A.dcs
  · rw [get _ (.inr (.inl rfl)) (Ne.symm S.ne.1.2.1), y2, y3, y7]; exact A.ms
  · rw [y1, y2]; exact U
  · rw [cellsAt_same (get _ (.inr (.inr (.inl rfl))) (Ne.symm S.ne.1.2.2)), y4, y5, y6]; exact S.B
  · have := S.lt hi; omega
/-- Cells that are none of the writer's. -/
theorem WFr.cells {v' : AVal} {c : Nat} {cs : List AVal} (F : WFr L h g v v') (hc : cellsAt h c = some cs) (hi : ¬ L.In c) (hv : ¬ At v c) : cellsAt g c = some cs ∧ ¬ At v' c := by
  refine ⟨by rw [cellsAt_same (F.get c (cellsAt_lt hc) hi hv)]; exact hc, fun h => (F.at' c h).elim hv fun h => ?_⟩
  have := cellsAt_lt hc
  omega
theorem WS.far (S : WS L h x v) (hl : h.length ≤ g.length) (hg : ∀ c, c < h.length → g[c]? = h[c]?) : WS L g x v ∧ WFr L h g v v :=
  S.moved hl (fun c hc _ _ => hg c hc) (by rw [cellsAt_same (hg _ (S.lt (.inr (.inr (.inr rfl)))))]; exact S.W) (S.V.keep fun b hb _ => hg b hb) (fun b hb => .inl hb) ⟨rfl, rfl, rfl, rfl, rfl, rfl, rfl⟩
theorem WS.new (S : WS L h x v) {c : Nat} (hc : h.length ≤ c) : ¬ L.In c ∧ ¬ At v c := ⟨fun hi => by have := S.lt hi; omega, fun hv => by have := S.V.lt hv; omega⟩
/-- What a record more makes of a writer. -/
def addW (x : Wrt) (r : ByteArray) : Wrt := { x with wt := x.wt ++ [r], c := x.c + 1, s := moreB x.s r.data.toList }
def flushW (x : Wrt) : Wrt := { x with t := x.t ++ blockB x.wt, wt := [] }
def putW (x : Wrt) (r : ByteArray) : Wrt := if x.wt.length + 1 < 4 then addW x r else flushW (addW x r)
theorem wput_run (S : WS L h x v) (O : WOk x) (ho : x.op = true) {r : ByteArray} (hr : r.size = x.n) (hw : x.wt.length < 4) (hc : x.c ≤ 1000) (hroom : (x.t.size : Int) + (((x.wt.length + 1) * x.n + 5 : Nat) : Int) ≤ x.R) :
    ∃ g v', S_writer_Writer_Put (.ptr L.wp 0) r h = some (.lit (.int .i64 0), g) ∧ WS L g (putW x r) v' ∧ WFr L h g v v' := by
  have hwl := S.lt (.inr (.inr (.inr rfl)))
  have hvw : ¬ At v L.wp := fun hv => S.nv _ hv (.inr (.inr (.inr rfl)))
  obtain ⟨v', g2, a1, V2, l2, at2, k2⟩ := S.V.push r (by omega)
  have W1 : cellsAt (h ++ [.cells [.lit (.string r)]]) L.wp = some (wtrC L x v) := cellsAt_more _ S.W
  have W2 : cellsAt g2 L.wp = some (wtrC L x v) := by rw [cellsAt_same (k2 _ hwl hvw)]; exact S.W
  have hv1 : v'.one = true := by rcases V2 with ⟨rfl, _⟩ | ⟨b, cs, rfl, _⟩ <;> rfl
  obtain ⟨g3, hg3⟩ : ∃ g3, g3 = g2.set L.wp (.cells ((wtrC L x v).set 4 v')) := ⟨_, rfl⟩
  have W3 : cellsAt g3 L.wp = some ((wtrC L x v).set 4 v') := by rw [hg3]; exact cellsAt_set W2
  have st3 : st1 g2 (.ptr L.wp (0 + 4)) v' = some g3 := by rw [hg3]; exact st1_of W2 hv1 (by show 4 < 8; omega)
  obtain ⟨g4, hg4⟩ : ∃ g4, g4 = g3.set L.wp (.cells (wtrC L (addW x r) v')) := ⟨_, rfl⟩
  have W4 : cellsAt g4 L.wp = some (wtrC L (addW x r) v') := by rw [hg4]; exact cellsAt_set W3
  have st4 : stn 2 g3 (.ptr L.wp (0 + 5)) [.lit (.int .i64 (IntKind.wrap .i64 ((x.c : Int) + 1))), .lit (.int .u32 (u32 (moreB x.s r.data.toList)))] = some g4 := by
    rw [hg4, wrap_i64 (by omega) (by omega)]
    exact stn_of W3 rfl rfl (by show 7 ≤ 8; omega)
  have ne4 : ∀ c, c ≠ L.wp → g4[c]? = g2[c]? := fun c hn => by rw [hg4, hg3, List.getElem?_set_ne (Ne.symm hn), List.getElem?_set_ne (Ne.symm hn)]
  have l4 : g4.length = g2.length := by rw [hg4, hg3]; simp
  have V4 : Wt g4 v' (x.wt ++ [r]) := V2.keep fun b hb hv => ne4 b (by have := at2 b hv; omega)
  obtain ⟨S4, F4⟩ := S.moved (y := addW x r) (g := g4) (v' := v') (by omega) (fun c hc hn hv => (ne4 c hn).trans (k2 c hc hv)) W4 V4 (fun b hb => .inr (at2 b hb)) ⟨rfl, rfl, rfl, rfl, rfl, rfl, rfl⟩
  have O4 : WOk (addW x r) := ⟨O.right, O.nm, O.n1, O.n2, O.R, by show (x.wt ++ [r]).length ≤ 4; simp; omega, fun s hs => by
    rcases List.mem_append.1 hs with hs | hs
    · exact O.wa s hs
    · rw [List.mem_singleton.1 hs]; exact hr⟩
  have hlen : ((x.wt ++ [r]).length : Int) = (x.wt.length : Int) + 1 := by simp
  have hlenV : lenV v' = some ((x.wt ++ [r]).length : Int) := V4.sl.len
  have pre : ∀ (K : Option (AVal × AHeap)), (cond (decide (((x.wt ++ [r]).length : Int) < 4)) (some (.lit (.int .i64 0), g4)) ((S_writer_Writer_flush (.ptr L.wp 0) g4).bind fun r35 => (asI .i64 r35.1).bind fun n36 => some (.lit (.int .i64 n36), r35.2))) = K → S_writer_Writer_Put (.ptr L.wp 0) r h = K := fun K hK => by
    rw [S_writer_Writer_Put_eq]
    refine bd (wgiven_run S) (bd rfl (cF (by rw [ho]; rfl) (bd rfl (bd rfl (bd (ld1_of S.W) (bd rfl (cF (by rw [decide_eq_true (by omega)]; rfl) ?_)))))))
    refine bd rfl (bd rfl (bd (ld1_of S.W) (bd (show sclO r = some r by unfold sclO; have := O.n2; rw [decide_eq_true (by omega)]; rfl) (bd (blitS_str _ _ _) (bd (reqC_true ?_) (bd a1 ?_))))))
    · exact bd (ld1_of W1) rfl
    refine bd rfl (bd rfl (bd st3 (bd rfl (bd rfl (bd rfl (bd (ld1_of W3) (bd rfl (bd rfl (bd rfl (bd rfl (bd (ld1_of W3) (bd rfl (bd (moreO_u32 _ (by have := O.n2; omega)) ?_)))))))))))))
    exact bd rfl (bd rfl (bd st4 (bd rfl (bd rfl (bd (ld1_of W4) (bd hlenV hK))))))
  unfold putW
  by_cases h4 : x.wt.length + 1 < 4
  · rw [if_pos h4]
    exact ⟨g4, v', pre _ (cT (decide_eq_true (by omega)) rfl), S4, F4⟩
  · rw [if_neg h4]
    have hcs := catB_size O4.wa
    obtain ⟨g5, v5, e5, S5, F5⟩ := wflush_run S4 O4 (by show x.wt ++ [r] ≠ []; simp) (by
      show (x.t.size : Int) + _ ≤ x.R
      rw [show (addW x r).n = x.n from rfl, show (addW x r).wt.length = x.wt.length + 1 by show (x.wt ++ [r]).length = _; simp] at hcs
      rw [hcs]; exact hroom)
    exact ⟨g5, v5, pre _ (cF (decide_eq_false (by omega)) (bd e5 rfl)), S5, F4.trans F5⟩
/-- The file's end. -/
def endW (x : Wrt) : Wrt := { x with t := x.t ++ endB x.c x.s }
def shutW (x : Wrt) : Wrt := { x with k := (x.t.size : Int), op := false, now := x.now - 4 }
def restW (x : Wrt) : Wrt := if x.wt = [] then x else flushW x
theorem wclose_step {a b f i : Nat} {F w : AVal} {g g' : AHeap} {cs : List AVal} (hf : cellsAt g f = some cs) (hF : cs[i]? = some F) (hi : i < 2) (ha : cellsAt g a = some [w]) (ha' : cellsAt g' a = some [w])
    (hrun : ∀ {R : Type} (K : AVal → AHeap → Option R), callK Ewriter_Writer_Close.C Ewriter_Writer_Close.Y F [] g K = K (.lit (.int .i64 0)) g') :
    S_writer_Writer_Close_0 a b (.sl 1 f 0 2) 2 (i : Int) g = S_writer_Writer_Close_0 a b (.sl 1 f 0 2) 2 ((i + 1 : Nat) : Int) g' := by
  have idx : idxP 1 (.sl 1 f 0 2) (i : Int) = some (.ptr f i) := by
    unfold idxP; simp only [Nat.beq_refl]; rw [req_true (by omega)]; simp
  rw [S_writer_Writer_Close_0_eq, decide_eq_true (by omega), cond_true, idx, Option.bind_some, ld1_of hf, hF, Option.bind_some, ld1_of ha]
  refine bd rfl ?_
  rw [hrun]
  refine bd rfl (bd (reqC_true (bd (ld1_of ha') rfl)) (bd (broken_ok _) (bd rfl (cF rfl ?_))))
  rw [wrap_i64 (by omega) (by omega)]
  rfl
theorem wclose_run (S : WS L h x v) (O : WOk x) (ho : x.op = true) (hc : x.c ≤ 1000) (h4 : 4 ≤ x.now) (hnow : x.now ≤ 4611686018427387904) (hroom : (x.t.size : Int) + ((x.wt.length * x.n + 22 : Nat) : Int) ≤ x.R) :
    ∃ g v', S_writer_Writer_Close (.ptr L.wp 0) h = some (.tup [.agg [.lit (.int .i64 (x.c : Int)), .lit (.int .u32 (u32 x.s))], .lit (.int .i64 0)], g) ∧ WS L g (shutW (endW (restW x))) v' ∧ WFr L h g v v' := by
  obtain ⟨h2, hh2⟩ : ∃ h2, h2 = psh (psh h (.cells [.ptr L.wp 0])) (.cells [.lit (.int .i64 0), .lit (.int .u32 0)]) := ⟨_, rfl⟩
  have lb : (psh h (.cells [.ptr L.wp 0])).length = h.length + 1 := psh_length _ _
  have l2 : h2.length = h.length + 2 := by rw [hh2, psh_length, lb]
  have ca : cellsAt h2 h.length = some [.ptr L.wp 0] := by rw [hh2]; exact cellsAt_psh _ (cellsAt_new h _)
  have cb : cellsAt h2 (h.length + 1) = some [.lit (.int .i64 0), .lit (.int .u32 0)] := by rw [hh2, ← lb]; exact cellsAt_new _ _
  obtain ⟨S2, F2⟩ := S.far (g := h2) (by omega) fun c hc => by rw [hh2]; simp only [psh]; rw [List.getElem?_append_left (by simp; omega), List.getElem?_append_left hc]
  have na := S.new (c := h.length) (Nat.le_refl _)
  have nb := S.new (c := h.length + 1) (by omega)
  -- what waits is written
  have flu : ∃ g1 v1, S_writer_Writer_flush (.ptr L.wp 0) h2 = some (.lit (.int .i64 0), g1) ∧ WS L g1 (restW x) v1 ∧ WFr L h2 g1 v v1 := by
    unfold restW
    by_cases hw : x.wt = []
    · rw [if_pos hw]; exact ⟨h2, v, wflush_none S2 hw, S2, .refl _ _ _⟩
    · rw [if_neg hw]
      have hcs := catB_size O.wa
      exact wflush_run S2 O hw (by rw [hcs]; omega)
  obtain ⟨g1, v1, e1, S1, F1⟩ := flu
  have hrt : ((restW x).t.size : Int) ≤ (x.t.size : Int) + ((x.wt.length * x.n + 5 : Nat) : Int) ∧ (restW x).name = x.name ∧ (restW x).R = x.R ∧ (restW x).c = x.c ∧ (restW x).s = x.s ∧ (restW x).op = true ∧ (restW x).now = x.now := by
    unfold restW
    by_cases hw : x.wt = []
    · rw [if_pos hw]; exact ⟨by omega, rfl, rfl, rfl, rfl, ho, rfl⟩
    · rw [if_neg hw]
      have hcs := catB_size O.wa
      refine ⟨?_, rfl, rfl, rfl, rfl, ho, rfl⟩
      show ((x.t ++ blockB x.wt).size : Int) ≤ _
      rw [ByteArray.size_append, blockB_size, hcs]; omega
  generalize restW x = y at S1 hrt ⊢
  obtain ⟨t1, t2, t3, t4, t5, t6, t7⟩ := hrt
  obtain ⟨ca1, na1⟩ := F1.cells ca na.1 na.2
  obtain ⟨cb1, nb1⟩ := F1.cells cb nb.1 nb.2
  -- the end's bytes
  obtain ⟨h3, hh3⟩ : ∃ h3, h3 = (psh g1 (.cells [.lit (.string ⟨#[]⟩)])).set g1.length (.cells [.lit (.string (endB x.c x.s))]) := ⟨_, rfl⟩
  have ce0 : cellsAt (psh g1 (.cells [.lit (.string ⟨#[]⟩)])) g1.length = some [.lit (.string ⟨#[]⟩)] := cellsAt_new _ _
  have st3 : st1 (psh g1 (.cells [.lit (.string ⟨#[]⟩)])) (.ptr g1.length 0) (.lit (.string (endB x.c x.s))) = some h3 := by rw [hh3]; exact st1_of ce0 rfl (by show 0 < 1; omega)
  have ce3 : cellsAt h3 g1.length = some [.lit (.string (endB x.c x.s))] := by rw [hh3]; exact cellsAt_set ce0
  have l3 : h3.length = g1.length + 1 := by rw [hh3]; simp [psh]
  have k3 : ∀ c, c < g1.length → h3[c]? = g1[c]? := fun c hc => by rw [hh3, List.getElem?_set_ne (by omega)]; simp only [psh]; rw [List.getElem?_append_left hc]
  obtain ⟨S3, F3⟩ := S1.far (g := h3) (by omega) k3
  obtain ⟨ca3, na3⟩ := F3.cells ca1 na.1 na1
  obtain ⟨cb3, nb3⟩ := F3.cells cb1 nb.1 nb1
  have ne3 := S1.new (c := g1.length) (Nat.le_refl _)
  -- the steps
  obtain ⟨fs, hfs⟩ : ∃ fs : List AVal, fs = [.fn (.func 60) [] [.ptr h.length 0, .ptr g1.length 0], .fn (.func 61) [.agg [.ptr L.d 0, .lit (.string y.name)]] []] := ⟨_, rfl⟩
  obtain ⟨h5, hh5⟩ : ∃ h5, h5 = h3 ++ [.cells fs] := ⟨_, rfl⟩
  have cf5 : cellsAt h5 h3.length = some fs := by rw [hh5]; simp [cellsAt]
  obtain ⟨S5, F5⟩ := S3.far (g := h5) (by rw [hh5]; simp) fun c hc => by rw [hh5, List.getElem?_append_left hc]
  obtain ⟨ca5, na5⟩ := F5.cells ca3 na.1 na3
  obtain ⟨cb5, nb5⟩ := F5.cells cb3 nb.1 nb3
  obtain ⟨ce5, ne5⟩ := F5.cells ce3 ne3.1 ne3.2
  have nf := S3.new (c := h3.length) (Nat.le_refl _)
  obtain ⟨D5, A5, U5⟩ := S5.A
  have hsz := endB_size x.c x.s
  obtain ⟨g6, D6, e6, A6, U6, K6⟩ := lay_run A5 U5 (by rw [t2]; exact O.right) (by rw [t2]; exact O.nm) (b := endB x.c x.s) (by rw [t3, hsz]; omega) (by rw [t3]; exact O.R)
  obtain ⟨S6, F6⟩ := S5.disk A6 U6 K6
  obtain ⟨ca6, na6⟩ := F6.cells ca5 na.1 na5
  obtain ⟨cb6, nb6⟩ := F6.cells cb5 nb.1 nb5
  obtain ⟨cf6, nf6⟩ := F6.cells cf5 nf.1 nf.2
  obtain ⟨g7, D7, e7, A7, U7, K7⟩ := keep_run A6 U6 (by rw [t2]; exact O.right) (by rw [t2]; exact O.nm)
  obtain ⟨S7, F7⟩ := S6.disk A7 U7 K7
  obtain ⟨ca7, na7⟩ := F7.cells ca6 na.1 na6
  obtain ⟨cb7, nb7⟩ := F7.cells cb6 nb.1 nb6
  obtain ⟨g8, e8, S8, F8⟩ := wdrop_run S7 t6 (by show 4 ≤ y.now; omega) (by show y.now ≤ _; omega)
  obtain ⟨ca8, na8⟩ := F8.cells ca7 na.1 na7
  obtain ⟨cb8, nb8⟩ := F8.cells cb7 nb.1 nb7
  have w8 : (wtrC L { y with t := y.t ++ endB x.c x.s, k := ((y.t ++ endB x.c x.s).size : Int), op := false, now := y.now - 4 } v1).drop 5 = [.lit (.int .i64 (x.c : Int)), .lit (.int .u32 (u32 x.s)), .lit (.bool false)] := by
    rw [← t4, ← t5]; rfl
  obtain ⟨g9, hg9⟩ : ∃ g9, g9 = g8.set (h.length + 1) (.cells [.lit (.int .i64 (x.c : Int)), .lit (.int .u32 (u32 x.s))]) := ⟨_, rfl⟩
  have st9 : stn 2 g8 (.ptr (h.length + 1) 0) [.lit (.int .i64 (x.c : Int)), .lit (.int .u32 (u32 x.s))] = some g9 := by rw [hg9]; exact stn_of cb8 rfl rfl (by show 2 ≤ 2; omega)
  have cb9 : cellsAt g9 (h.length + 1) = some [.lit (.int .i64 (x.c : Int)), .lit (.int .u32 (u32 x.s))] := by rw [hg9]; exact cellsAt_set cb8
  have k9 : ∀ c, c ≠ h.length + 1 → g9[c]? = g8[c]? := fun c hn => by rw [hg9, List.getElem?_set_ne (Ne.symm hn)]
  have l9 : g9.length = g8.length := by rw [hg9]; simp
  have inb : ∀ c, L.In c → c ≠ h.length + 1 := fun c hi e => nb.1 (e ▸ hi)
  obtain ⟨D8, A8, U8⟩ := S8.A
  have S9 : WS L g9 { y with t := y.t ++ endB x.c x.s, k := ((y.t ++ endB x.c x.s).size : Int), op := false, now := y.now - 4 } v1 :=
    ⟨⟨D8, ⟨by rw [cellsAt_same (k9 _ (inb _ (.inl rfl)))]; exact A8.dcs, by rw [k9 _ (inb _ (.inr (.inl rfl)))]; exact A8.ms⟩, U8⟩, by rw [cellsAt_same (k9 _ (inb _ (.inr (.inr (.inl rfl)))))]; exact S8.B, by rw [cellsAt_same (k9 _ (inb _ (.inr (.inr (.inr rfl)))))]; exact S8.W, S8.V.keep fun b hb hv => k9 b fun e => nb8 (e ▸ hv), S8.ne, S8.nv⟩
  have F9 : WFr L h g9 v v1 := by
    have F := (((((F2.trans F1).trans F3).trans F5).trans F6).trans F7).trans F8
    exact ⟨by rw [l9]; exact F.len, fun c hc hi hv => (k9 c (by omega)).trans (F.get c hc hi hv), F.at'⟩
  refine ⟨g9, v1, ?_, ?_, F9⟩
  · -- the last part
    have last : S_writer_Writer_Close_1 h.length (h.length + 1) g7 = some (.tup [.agg [.lit (.int .i64 (x.c : Int)), .lit (.int .u32 (u32 x.s))], .lit (.int .i64 0)], g9) := by
      rw [S_writer_Writer_Close_1_eq]
      refine bd (ld1_of ca7) (bd e8 (bd (ld1_of ca8) (bd rfl (bd rfl (bd (ldn_of S8.W (by show 7 ≤ 8; omega)) (bd ?_ (bd (ldn_of cb9 (by show 2 ≤ 2; omega)) rfl)))))))
      rw [show (0 : Nat) + 5 = 5 from rfl, w8]
      exact st9
    have loop : S_writer_Writer_Close_0 h.length (h.length + 1) (.sl 1 h3.length 0 2) 2 0 h5 = some (.tup [.agg [.lit (.int .i64 (x.c : Int)), .lit (.int .u32 (u32 x.s))], .lit (.int .i64 0)], g9) := by
      refine (wclose_step (i := 0) (F := .fn (.func 60) [] [.ptr h.length 0, .ptr g1.length 0]) (g' := g6) cf5 (by rw [hfs]; rfl) (by omega) ca5 ca6 fun K => ?_).trans ?_
      · show (S_writer_Writer_Close_fn1 (.ptr h.length 0) (.ptr g1.length 0) h5).bind _ = _
        refine bd (a := (.lit (.int .i64 0), g6)) ?_ rfl
        rw [S_writer_Writer_Close_fn1_eq]
        exact bd (ld1_of ca5) (bd rfl (bd rfl (bd (ldn_of S5.W (by show 2 ≤ 8; omega)) (bd (ld1_of ce5) (bd rfl (bd e6 (bd rfl rfl)))))))
      refine (wclose_step (i := 1) (F := .fn (.func 61) [.agg [.ptr L.d 0, .lit (.string y.name)]] []) (g' := g7) cf6 (by rw [hfs]; rfl) (by omega) ca6 ca7 fun K => ?_).trans ?_
      · show (S_writer_sink_keep [.ptr L.d 0, .lit (.string y.name)] g6).bind _ = _
        exact bd e7 rfl
      rw [S_writer_Writer_Close_0_eq]
      exact cF rfl last
    rw [S_writer_Writer_Close_eq]
    refine bd rfl ?_
    rw [lb, ← hh2]
    refine bd (ld1_of ca) (bd ((wgiven_run S2).trans (by rw [ho])) (bd rfl (cF rfl (bd (ld1_of ca) (bd e1 (bd rfl (cF rfl (bd (ld1_of ca1) (bd rfl (bd rfl (bd (ldn_of S1.W (by show 7 ≤ 8; omega)) ?_)))))))))))
    have hfe := fend_run (c := x.c) (by omega) x.s g1
    refine bd (by rw [← t4, ← t5] at hfe; exact hfe) ?_
    rw [t4, t5]
    refine bd rfl (bd rfl (bd rfl (bd rfl (bd st3 (cF rfl (bd (ld1_of ca3) (bd rfl (bd rfl (bd (ldn_of S3.W (by show 2 ≤ 8; omega)) (bd (a := (.sl 1 h3.length 0 2, h5)) ?_ (bd rfl loop)))))))))))
    rw [hh5, hfs]
    rfl
  · show WS L g9 { y with t := y.t ++ endB y.c y.s, k := ((y.t ++ endB y.c y.s).size : Int), op := false, now := y.now - 4 } v1
    have e : endB y.c y.s = endB x.c x.s := by rw [t4, t5]
    rw [e]; exact S9
end wtr
end Go.Proofs.Yteclkehnppeobaa.AL
/- The writer: made, and closed twice. -/
namespace Go.Proofs.Yteclkehnppeobaa.AL
set_option linter.unusedVariables false
set_option linter.unusedSimpArgs false
set_option maxRecDepth 100000
open Go
open Go.Proofs.Try
section wtr
variable {L : WLoc} {h : AHeap} {x : Wrt} {v : AVal}
theorem wclose_closed (S : WS L h x v) (ho : x.op = false) : ∃ g, S_writer_Writer_Close (.ptr L.wp 0) h = some (.tup [.agg [.lit (.int .i64 0), .lit (.int .u32 0)], .lit (.int .i64 14)], g) ∧ WS L g x v ∧ WFr L h g v v := by
  obtain ⟨h2, hh2⟩ : ∃ h2, h2 = psh (psh h (.cells [.ptr L.wp 0])) (.cells [.lit (.int .i64 0), .lit (.int .u32 0)]) := ⟨_, rfl⟩
  have lb : (psh h (.cells [.ptr L.wp 0])).length = h.length + 1 := psh_length _ _
  have l2 : h2.length = h.length + 2 := by rw [hh2, psh_length, lb]
  have ca : cellsAt h2 h.length = some [.ptr L.wp 0] := by rw [hh2]; exact cellsAt_psh _ (cellsAt_new h _)
  have cb : cellsAt h2 (h.length + 1) = some [.lit (.int .i64 0), .lit (.int .u32 0)] := by rw [hh2, ← lb]; exact cellsAt_new _ _
  have k2 : ∀ c, c < h.length → h2[c]? = h[c]? := fun c hc => by rw [hh2]; simp only [psh]; rw [List.getElem?_append_left (by simp; omega), List.getElem?_append_left hc]
  obtain ⟨S2, F2⟩ := S.far (g := h2) (by omega) k2
  obtain ⟨h3, hh3⟩ : ∃ h3, h3 = h2.set (h.length + 1) (.cells [.lit (.int .i64 0), .lit (.int .u32 0)]) := ⟨_, rfl⟩
  have st3 : stn 2 h2 (.ptr (h.length + 1) 0) [.lit (.int .i64 0), .lit (.int .u32 0)] = some h3 := by rw [hh3]; exact stn_of cb rfl rfl (by show 2 ≤ 2; omega)
  have cb3 : cellsAt h3 (h.length + 1) = some [.lit (.int .i64 0), .lit (.int .u32 0)] := by rw [hh3]; exact cellsAt_set cb
  obtain ⟨S3, F3⟩ := S.far (g := h3) (by rw [hh3]; simp; omega) fun c hc => by rw [hh3, List.getElem?_set_ne (by omega)]; exact k2 c hc
  refine ⟨h3, ?_, S3, F3⟩
  rw [S_writer_Writer_Close_eq]
  refine bd rfl ?_
  rw [lb, ← hh2]
  exact bd (ld1_of ca) (bd ((wgiven_run S2).trans (by rw [ho])) (bd rfl (cT rfl (bd st3 (bd (ldn_of cb3 (by show 2 ≤ 2; omega)) rfl)))))
end wtr
/-- A writer that was just made. -/
def newW (R m now hi : Int) (name : ByteArray) (n : Nat) : Wrt := ⟨R, headB n, 0, m, now, hi, name, n, [], 0, 0#32, true⟩
theorem wcreate_run {h : AHeap} {d mb bb : Nat} {D : Dsk} {R m now hi : Int} {name : ByteArray} {n : Nat} (A : DiskAt h d mb D []) (U : UpW D R ⟨#[]⟩) (B : cellsAt h bb = some (budC m now hi)) (hbb : bb ≠ d ∧ bb ≠ mb)
    (h1 : 1 ≤ n) (h2 : n ≤ 64) (hr : rightB name = true) (hn : name.size ≤ 100) (hR : 11 ≤ R) (hR2 : R ≤ 16777216) (hb : 0 ≤ now) (hb2 : now + 4 ≤ m) (hm : m ≤ 4611686018427387904) :
    ∃ g wp, S_writer_Create (.ptr d 0) (.ptr bb 0) name (n : Int) h = some (.tup [.ptr wp 0, .lit (.int .i64 0)], g) ∧ WS ⟨d, mb, bb, wp⟩ g (newW R m (now + 4) (maxI hi (now + 4)) name n) (.lit (.slice none 0 0)) ∧ h.length ≤ g.length ∧ h.length ≤ wp ∧ ∀ c, c < h.length → c ≠ d → c ≠ mb → c ≠ bb → g[c]? = h[c]? := by
  obtain ⟨g1, e1, B1, K1⟩ := btake_run B (n := 4) (by omega) hb hb2 hm
  have hd := cellsAt_lt A.dcs
  have hmb := lt_of_getL A.ms
  have hbl := cellsAt_lt B
  have A1 := A.keep K1 ⟨hd, by simp only [List.mem_cons, List.not_mem_nil, or_false]; exact Ne.symm hbb.1⟩ ⟨hmb, by simp only [List.mem_cons, List.not_mem_nil, or_false]; exact Ne.symm hbb.2⟩
  have hl1 := K1.len
  let x : Wrt := { newW R m (now + 4) (maxI hi (now + 4)) name n with t := ⟨#[]⟩ }
  obtain ⟨h2', hh2⟩ : ∃ h2', h2' = psh g1 (.cells (wtrC ⟨d, mb, bb, g1.length⟩ x (.lit (.slice none 0 0)))) := ⟨_, rfl⟩
  have K2 : Keep h.length [] g1 h2' := by rw [hh2]; exact Keep.psh _ hl1
  have cw : cellsAt h2' g1.length = some (wtrC ⟨d, mb, bb, g1.length⟩ x (.lit (.slice none 0 0))) := by rw [hh2]; exact cellsAt_new _ _
  have A2 : DiskAt h2' d mb D [] := A1.keep K2 ⟨hd, by simp⟩ ⟨hmb, by simp⟩
  have B2 : cellsAt h2' bb = some (budC m (now + 4) (maxI hi (now + 4))) := K2.cells hbl (by simp) B1
  have l2 : h2'.length = g1.length + 1 := by rw [hh2, psh_length]
  have hf : findR D [] name true = ((⟨#[]⟩, 0), 2) := by unfold findR; rw [hr, U.off]; rfl
  obtain ⟨g3, e3, H3, T3, l3⟩ := create_run A2.dh name (by omega)
  have eE : createE D [] name = 0 := by unfold createE; rw [hf]; rfl
  have eL : createL D [] name = [(name, ⟨#[]⟩, 0)] := by unfold createL; rw [hf]; rfl
  rw [eE] at e3
  rw [eL, findD_w hr] at H3
  have K3 := H3.keep
  have nm : ∀ c, c ≠ d → c ≠ mb → c ∉ [d, mb] := fun c a b => by simp only [List.mem_cons, List.not_mem_nil, or_false, not_or]; exact ⟨a, b⟩
  have S3 : WS ⟨d, mb, bb, g1.length⟩ g3 x (.lit (.slice none 0 0)) :=
    ⟨⟨_, H3.disk, U.call⟩, K3.cells (by show bb < _; omega) (nm _ hbb.1 hbb.2) B2, K3.cells (by show g1.length < _; omega) (nm _ (by show g1.length ≠ d; omega) (by show g1.length ≠ mb; omega)) cw, .inl ⟨rfl, rfl⟩, ⟨⟨by show g1.length ≠ d; omega, by show g1.length ≠ mb; omega, by show g1.length ≠ bb; omega⟩, hbb⟩, fun b hb => by obtain ⟨_, _, _, e⟩ := hb; cases e⟩
  obtain ⟨D3, A3, U3⟩ := S3.A
  obtain ⟨g4, D4, e4, A4, U4, K4⟩ := lay_run A3 U3 (b := headB n) hr hn (by rw [headB_size]; show ((0 : Nat) : Int) + ((11 : Nat) : Int) ≤ R; omega) hR2
  have e0 : (⟨#[]⟩ : ByteArray) ++ headB n = headB n := by
    apply ByteArray.ext; simp
  have A4' : DiskAt g4 d mb D4 [(name, headB n, 0)] := by rw [← e0]; exact A4
  have U4' : UpW D4 R (headB n) := by rw [← e0]; exact U4
  obtain ⟨S4, F4⟩ := S3.disk (t' := headB n) (k' := 0) A4' U4' K4
  have hgl := K3.len
  refine ⟨g4, g1.length, ?_, S4, by have := F4.len; omega, hl1, fun c hc a b e => ?_⟩
  · rw [S_writer_Create_eq]
    refine bd (by rw [phead_run h1 h2]; exact onlyR_same _ _) (bd rfl (bd rfl (bd rfl (bd rfl (cF rfl (bd e1 (bd rfl (cF rfl (bd rfl (bd rfl ?_))))))))))
    show (S_fs_Disk_Create (.ptr d 0) name (psh g1 (.cells (wtrC ⟨d, mb, bb, g1.length⟩ x (.lit (.slice none 0 0)))))).bind _ = _
    rw [← hh2]
    refine bd e3 (bd rfl (cT rfl (bd (ldn_of S3.W (by show 2 ≤ 8; omega)) (bd e4 (bd rfl ?_)))))
    rw [S_writer_Create_0_eq]
    exact cF rfl rfl
  · have hn : ¬ WLoc.In ⟨d, mb, bb, g1.length⟩ c := by
      rintro (rfl | rfl | rfl | hc')
      · exact a rfl
      · exact b rfl
      · exact e rfl
      · have : c = g1.length := hc'
        omega
    have hv : ¬ At (.lit (.slice none 0 0)) c := fun ⟨_, _, _, e⟩ => by cases e
    rw [F4.get c (by omega) hn hv, K3.get c (by omega) (nm c a b), K2.get c hc (by simp), K1.get c hc (by simp only [List.mem_cons, List.not_mem_nil, or_false]; exact e)]
end Go.Proofs.Yteclkehnppeobaa.AL
/- The document's sum, bit by bit. -/
namespace Go.Proofs.Yteclkehnppeobaa.AL
set_option linter.unusedVariables false
set_option linter.unusedSimpArgs false
set_option maxRecDepth 100000
open Go
open Go.Proofs.Try
-- chainman/chainmanref03.More: function 67
noncomputable def Echainmanref03_More : XE := { T := tabOf [(3, r3), (4, r4), (5, r5), (9, r9), (50, r50)], C := [], D := [], Ms := [(4, [1, 5, 6]), (8, [1, 5, 6, 7]), (13, [5])], Ml := [(3, [1, 5, 6]), (7, [1, 5, 6, 7])], Mo := [], n := 37 }
theorem Echainmanref03_More_ok : XE.Ok Echainmanref03_More Try.prog := ⟨tabOf_ok (⟨r3_ok, ⟨r4_ok, ⟨r5_ok, ⟨r9_ok, ⟨r50_ok, trivial⟩⟩⟩⟩⟩), trivial, ydOk_none, trivial⟩
noncomputable def c67 : Code := bodyOf f67
noncomputable def S_chainmanref03_More (sum0 : Int) (s1 : ByteArray) (h : AHeap) : Option (AVal × AHeap) := xfun Echainmanref03_More f67 [(.lit (.int .u32 sum0)), (.lit (.string s1))] h
noncomputable def S_chainmanref03_More_0 (s1 : ByteArray) (n5 : Int) (i6 : Int) (h : AHeap) : Option (AVal × AHeap) := xexec Echainmanref03_More (.loop (ca (ca (cb (ca (cb (cb c67))))))) (AVal × AHeap) [(1, (.lit (.string s1))), (5, (.lit (.int .u32 n5))), (6, (.lit (.int .i64 i6)))] h (kBlk 0 (kSeq Echainmanref03_More (cb (cb (cb c67))) (xend Echainmanref03_More f67)))
noncomputable def S_chainmanref03_More_1 (s1 : ByteArray) (n5 : Int) (i6 : Int) (k7 : Int) (h : AHeap) : Option (AVal × AHeap) := xexec Echainmanref03_More (.loop (ca (ca (cb (cb (ca (ca (cb (ca (ca (cb (ca (cb (cb c67)))))))))))))) (AVal × AHeap) [(1, (.lit (.string s1))), (5, (.lit (.int .u32 n5))), (6, (.lit (.int .i64 i6))), (7, (.lit (.int .i64 k7)))] h (kBlk 2 (kBlk 1 (kSeq Echainmanref03_More (cb (cb (ca (ca (cb (ca (cb (cb c67)))))))) (kLoop Echainmanref03_More (ca (ca (cb (ca (cb (cb c67)))))) (kBlk 0 (kSeq Echainmanref03_More (cb (cb (cb c67))) (xend Echainmanref03_More f67)))))))
noncomputable def S_chainmanref03_More_2 (n5 : Int) (h : AHeap) : Option (AVal × AHeap) := jn (xexec Echainmanref03_More (cb (cb (cb c67))) (AVal × AHeap) [(5, (.lit (.int .u32 n5)))] h (xend Echainmanref03_More f67))
noncomputable def S_chainmanref03_More_3 (s1 : ByteArray) (n5 : Int) (i6 : Int) (k7 : Int) (h : AHeap) : Option (AVal × AHeap) := jn (xexec Echainmanref03_More (cb (cb (ca (ca (cb (cb (ca (ca (cb (ca (ca (cb (ca (cb (cb c67))))))))))))))) (AVal × AHeap) [(1, (.lit (.string s1))), (5, (.lit (.int .u32 n5))), (6, (.lit (.int .i64 i6))), (7, (.lit (.int .i64 k7)))] h (kLoop Echainmanref03_More (ca (ca (cb (cb (ca (ca (cb (ca (ca (cb (ca (cb (cb c67))))))))))))) (kBlk 2 (kBlk 1 (kSeq Echainmanref03_More (cb (cb (ca (ca (cb (ca (cb (cb c67)))))))) (kLoop Echainmanref03_More (ca (ca (cb (ca (cb (cb c67)))))) (kBlk 0 (kSeq Echainmanref03_More (cb (cb (cb c67))) (xend Echainmanref03_More f67)))))))))
noncomputable def S_chainmanref03_More_4 (s1 : ByteArray) (n5 : Int) (i6 : Int) (h : AHeap) : Option (AVal × AHeap) := jn (xexec Echainmanref03_More (cb (cb (ca (ca (cb (ca (cb (cb c67)))))))) (AVal × AHeap) [(1, (.lit (.string s1))), (5, (.lit (.int .u32 n5))), (6, (.lit (.int .i64 i6)))] h (kLoop Echainmanref03_More (ca (ca (cb (ca (cb (cb c67)))))) (kBlk 0 (kSeq Echainmanref03_More (cb (cb (cb c67))) (xend Echainmanref03_More f67)))))
theorem S_chainmanref03_More_eq (sum0 : Int) (s1 : ByteArray) (h : AHeap) : S_chainmanref03_More sum0 s1 h =
 S_chainmanref03_More_0 s1 (xorI .u32 sum0 4294967295) 0 h := by kernel_rfl
theorem S_chainmanref03_More_0_eq (s1 : ByteArray) (n5 : Int) (i6 : Int) (h : AHeap) : S_chainmanref03_More_0 s1 n5 i6 h =
 bif (decide (i6 < (s1.size : Int))) then ((strAt s1 i6).bind fun n1 =>
 S_chainmanref03_More_1 s1 (xorI .u32 n5 (IntKind.wrap .u32 n1)) i6 0 h)
 else (S_chainmanref03_More_2 n5 h) := (xexec_loop Echainmanref03_More Echainmanref03_More_ok.C.nat _ _ _ _ _).trans (by kernel_rfl)
theorem S_chainmanref03_More_1_eq (s1 : ByteArray) (n5 : Int) (i6 : Int) (k7 : Int) (h : AHeap) : S_chainmanref03_More_1 s1 n5 i6 k7 h =
 bif (decide (k7 < 8)) then (bif (decide (((n5).tmod 2) = 1)) then (S_chainmanref03_More_3 s1 (xorI .u32 (IntKind.wrap .u32 (Int.tdiv (n5) (2))) 3988292384) i6 k7 h)
 else (S_chainmanref03_More_3 s1 (IntKind.wrap .u32 (Int.tdiv (n5) (2))) i6 k7 h))
 else (S_chainmanref03_More_4 s1 n5 i6 h) := (xexec_loop Echainmanref03_More Echainmanref03_More_ok.C.nat _ _ _ _ _).trans (by kernel_rfl)
theorem S_chainmanref03_More_2_eq (n5 : Int) (h : AHeap) : S_chainmanref03_More_2 n5 h =
 some ((.lit (.int .u32 (xorI .u32 n5 4294967295))), h) := (jn_eq _).trans (by kernel_rfl)
theorem S_chainmanref03_More_3_eq (s1 : ByteArray) (n5 : Int) (i6 : Int) (k7 : Int) (h : AHeap) : S_chainmanref03_More_3 s1 n5 i6 k7 h =
 S_chainmanref03_More_1 s1 n5 i6 (IntKind.wrap .i64 (k7 + 1)) h := (jn_eq _).trans (by kernel_rfl)
theorem S_chainmanref03_More_4_eq (s1 : ByteArray) (n5 : Int) (i6 : Int) (h : AHeap) : S_chainmanref03_More_4 s1 n5 i6 h =
 S_chainmanref03_More_0 s1 n5 (IntKind.wrap .i64 (i6 + 1)) h := (jn_eq _).trans (by kernel_rfl)
theorem S_chainmanref03_More_ends {sum0 : Int} {s1 : ByteArray} {h h' : AHeap} {v : AVal} {R : AEnd → AHeap → Prop} (hx : S_chainmanref03_More sum0 s1 h = some (v, h')) (hR : HOk h → h.length ≤ h'.length → ABody.AEnds h h' (.ret v) R) : ACalls Try.prog 67 [(.lit (.int .u32 sum0)), (.lit (.string s1))] h R := xfun_ends Echainmanref03_More_ok tmix (i := 67) (by rfl) (by kernel_rfl) (by kernel_rfl) hx hR
noncomputable def w_chainmanref03_More : XC := .q fun R args h K => match args with
  | [.lit (.int .u32 a0), .lit (.string a1)] => (goneR (S_chainmanref03_More a0 a1 h) h).bind fun r => K r
  | _ => none
theorem w_chainmanref03_More_ok : XC.Nat w_chainmanref03_More ∧ XC.Ok Try.prog 67 w_chainmanref03_More := by
  refine ⟨fun R args h K => ?_, tc67, fun args h v hx => ?_⟩
  · dsimp only; split <;> simp [Option.bind_assoc, mkP]
  · dsimp only at hx; split at hx
    · obtain ⟨r, hopt, hx⟩ := Option.bind_eq_some_iff.1 hx
      cases hx
      exact (by obtain ⟨h', hopt, hg, hc⟩ := goneR_some hopt; exact S_chainmanref03_More_ends hopt (goneEnds hg hc))
    · cases hx
-- chainman/chainmanref03.Of: function 135
noncomputable def Echainmanref03_Of : XE := { T := tabOf [(9, r9), (50, r50)], C := [(67, w_chainmanref03_More)], D := [], Ms := [], Ml := [], Mo := [], n := 5 }
theorem Echainmanref03_Of_ok : XE.Ok Echainmanref03_Of Try.prog := ⟨tabOf_ok (⟨r9_ok, ⟨r50_ok, trivial⟩⟩), (⟨w_chainmanref03_More_ok, trivial⟩), ydOk_none, trivial⟩
noncomputable def c135 : Code := bodyOf f135
noncomputable def S_chainmanref03_Of (s0 : ByteArray) (h : AHeap) : Option (AVal × AHeap) := xfun Echainmanref03_Of f135 [(.lit (.string s0))] h
theorem S_chainmanref03_Of_eq (s0 : ByteArray) (h : AHeap) : S_chainmanref03_Of s0 h =
 (goneR (S_chainmanref03_More 0 s0 h) h).bind fun r1 =>
 (asI .u32 r1).bind fun n2 =>
 some ((.lit (.int .u32 n2)), h) := by kernel_rfl
theorem S_chainmanref03_Of_ends {s0 : ByteArray} {h h' : AHeap} {v : AVal} {R : AEnd → AHeap → Prop} (hx : S_chainmanref03_Of s0 h = some (v, h')) (hR : HOk h → h.length ≤ h'.length → ABody.AEnds h h' (.ret v) R) : ACalls Try.prog 135 [(.lit (.string s0))] h R := xfun_ends Echainmanref03_Of_ok tmix (i := 135) (by rfl) (by kernel_rfl) (by kernel_rfl) hx hR
noncomputable def w_chainmanref03_Of : XC := .q fun R args h K => match args with
  | [.lit (.string a0)] => (goneR (S_chainmanref03_Of a0 h) h).bind fun r => K r
  | _ => none
theorem w_chainmanref03_Of_ok : XC.Nat w_chainmanref03_Of ∧ XC.Ok Try.prog 135 w_chainmanref03_Of := by
  refine ⟨fun R args h K => ?_, tc135, fun args h v hx => ?_⟩
  · dsimp only; split <;> simp [Option.bind_assoc, mkP]
  · dsimp only at hx; split at hx
    · obtain ⟨r, hopt, hx⟩ := Option.bind_eq_some_iff.1 hx
      cases hx
      exact (by obtain ⟨h', hopt, hg, hc⟩ := goneR_some hopt; exact S_chainmanref03_Of_ends hopt (goneEnds hg hc))
    · cases hx
-- chainman/chainmanref03.Close: function 102
noncomputable def Echainmanref03_Close : XE := { T := tabOf [(5, r5), (9, r9), (50, r50), (121, r121)], C := [(135, w_chainmanref03_Of)], D := [], Ms := [], Ml := [], Mo := [], n := 24 }
theorem Echainmanref03_Close_ok : XE.Ok Echainmanref03_Close Try.prog := ⟨tabOf_ok (⟨r5_ok, ⟨r9_ok, ⟨r50_ok, ⟨r121_ok, trivial⟩⟩⟩⟩), (⟨w_chainmanref03_Of_ok, trivial⟩), ydOk_none, trivial⟩
noncomputable def c102 : Code := bodyOf f102
noncomputable def S_chainmanref03_Close (s0 : ByteArray) (h : AHeap) : Option (AVal × AHeap) := xfun Echainmanref03_Close f102 [(.lit (.string s0))] h
theorem S_chainmanref03_Close_eq (s0 : ByteArray) (h : AHeap) : S_chainmanref03_Close s0 h =
 (goneR (S_chainmanref03_Of s0 h) h).bind fun r1 =>
 (asI .u32 r1).bind fun n2 =>
 (blitS 1 [(.lit (.int .u8 0))] 4 [(0, (.lit (.int .u8 (IntKind.wrap .u8 (andI .u32 n2 255))))), (1, (.lit (.int .u8 (IntKind.wrap .u8 (andI .u32 (shrI .u32 n2 8) 255))))), (2, (.lit (.int .u8 (IntKind.wrap .u8 (andI .u32 (shrI .u32 n2 16) 255))))), (3, (.lit (.int .u8 (IntKind.wrap .u8 (shrI .u32 n2 24)))))] h).bind fun r3 =>
 (bytesOf r3.2 r3.1).bind fun s4 =>
 (req (s0.size + s4.size ≤ 9223372036854775807)).bind fun u5 =>
 some ((.lit (.string (s0 ++ s4))), r3.2) := by kernel_rfl
theorem S_chainmanref03_Close_ends {s0 : ByteArray} {h h' : AHeap} {v : AVal} {R : AEnd → AHeap → Prop} (hx : S_chainmanref03_Close s0 h = some (v, h')) (hR : HOk h → h.length ≤ h'.length → ABody.AEnds h h' (.ret v) R) : ACalls Try.prog 102 [(.lit (.string s0))] h R := xfun_ends Echainmanref03_Close_ok tmix (i := 102) (by rfl) (by kernel_rfl) (by kernel_rfl) hx hR
noncomputable def w_chainmanref03_Close : XC := .q fun R args h K => match args with
  | [.lit (.string a0)] => (goneR (S_chainmanref03_Close a0 h) h).bind fun r => K r
  | _ => none
theorem w_chainmanref03_Close_ok : XC.Nat w_chainmanref03_Close ∧ XC.Ok Try.prog 102 w_chainmanref03_Close := by
  refine ⟨fun R args h K => ?_, tc102, fun args h v hx => ?_⟩
  · dsimp only; split <;> simp [Option.bind_assoc, mkP]
  · dsimp only at hx; split at hx
    · obtain ⟨r, hopt, hx⟩ := Option.bind_eq_some_iff.1 hx
      cases hx
      exact (by obtain ⟨h', hopt, hg, hc⟩ := goneR_some hopt; exact S_chainmanref03_Close_ends hopt (goneEnds hg hc))
    · cases hx
-- chainman/chainmanref02.Put: function 136
noncomputable def Echainmanref02_Put : XE := { T := tabOf [(3, r3), (4, r4), (5, r5), (9, r9), (121, r121)], C := [], D := [], Ms := [(9, [0, 6])], Ml := [(5, [0, 1, 6, 7])], Mo := [(1006, [0, 1, 13]), (1010, [0, 1, 17])], n := 35 }
theorem Echainmanref02_Put_ok : XE.Ok Echainmanref02_Put Try.prog := ⟨tabOf_ok (⟨r3_ok, ⟨r4_ok, ⟨r5_ok, ⟨r9_ok, ⟨r121_ok, trivial⟩⟩⟩⟩⟩), trivial, ydOk_none, trivial⟩
noncomputable def c136 : Code := bodyOf f136
noncomputable def S_chainmanref02_Put (n0 : Int) (k1 : Int) (h : AHeap) : Option (AVal × AHeap) := xfun Echainmanref02_Put f136 [(.lit (.int .i64 n0)), (.lit (.int .i64 k1))] h
noncomputable def S_chainmanref02_Put_0 (n0 : Int) (k1 : Int) (t13 : Bool) (h : AHeap) : Option (AVal × AHeap) := jo Echainmanref02_Put 1 (rops (ca (ca (cb c136)))) ((rops (ca (ca (cb c136)))).toList.drop 6) 6 [(0, (.lit (.int .i64 n0))), (1, (.lit (.int .i64 k1))), (13, (.lit (.bool t13)))] h (kN (kSeq Echainmanref02_Put (cb (ca (cb c136))) (kSeq Echainmanref02_Put (cb (cb c136)) (xend Echainmanref02_Put f136))))
noncomputable def S_chainmanref02_Put_1 (n0 : Int) (k1 : Int) (t17 : Bool) (h : AHeap) : Option (AVal × AHeap) := jo Echainmanref02_Put 1 (rops (ca (ca (cb c136)))) ((rops (ca (ca (cb c136)))).toList.drop 10) 10 [(0, (.lit (.int .i64 n0))), (1, (.lit (.int .i64 k1))), (17, (.lit (.bool t17)))] h (kN (kSeq Echainmanref02_Put (cb (ca (cb c136))) (kSeq Echainmanref02_Put (cb (cb c136)) (xend Echainmanref02_Put f136))))
noncomputable def S_chainmanref02_Put_2 (n0 : Int) (k1 : Int) (s6 : ByteArray) (i7 : Int) (h : AHeap) : Option (AVal × AHeap) := xexec Echainmanref02_Put (.loop (ca (ca (cb (ca (cb (cb (cb c136)))))))) (AVal × AHeap) [(0, (.lit (.int .i64 n0))), (1, (.lit (.int .i64 k1))), (6, (.lit (.string s6))), (7, (.lit (.int .i64 i7)))] h (kBlk 0 (kSeq Echainmanref02_Put (cb (cb (cb (cb c136)))) (xend Echainmanref02_Put f136)))
noncomputable def S_chainmanref02_Put_3 (n0 : Int) (s6 : ByteArray) (h : AHeap) : Option (AVal × AHeap) := jn (xexec Echainmanref02_Put (cb (cb (cb (cb c136)))) (AVal × AHeap) [(0, (.lit (.int .i64 n0))), (6, (.lit (.string s6)))] h (xend Echainmanref02_Put f136))
theorem S_chainmanref02_Put_eq (n0 : Int) (k1 : Int) (h : AHeap) : S_chainmanref02_Put n0 k1 h =
 bif (decide (k1 < 1)) then (S_chainmanref02_Put_0 n0 k1 true h)
 else (S_chainmanref02_Put_0 n0 k1 (decide (k1 > 8)) h) := by kernel_rfl
theorem S_chainmanref02_Put_0_eq (n0 : Int) (k1 : Int) (t13 : Bool) (h : AHeap) : S_chainmanref02_Put_0 n0 k1 t13 h =
 bif t13 then (S_chainmanref02_Put_1 n0 k1 true h)
 else (S_chainmanref02_Put_1 n0 k1 (decide (n0 < 0)) h) := (jo_eq ..).trans (by kernel_rfl)
theorem S_chainmanref02_Put_1_eq (n0 : Int) (k1 : Int) (t17 : Bool) (h : AHeap) : S_chainmanref02_Put_1 n0 k1 t17 h =
 bif t17 then (some ((.tup [(.lit (.string (⟨#[]⟩ : ByteArray))), (.lit (.bool false))]), h))
 else (S_chainmanref02_Put_2 n0 k1 (⟨#[]⟩ : ByteArray) 0 h) := (jo_eq ..).trans (by kernel_rfl)
theorem S_chainmanref02_Put_2_eq (n0 : Int) (k1 : Int) (s6 : ByteArray) (i7 : Int) (h : AHeap) : S_chainmanref02_Put_2 n0 k1 s6 i7 h =
 bif (decide (i7 < k1)) then ((blitS 1 [(.lit (.int .u8 0))] 1 [(0, (.lit (.int .u8 (IntKind.wrap .u8 ((n0).tmod 256)))))] h).bind fun r1 =>
 (bytesOf r1.2 r1.1).bind fun s2 =>
 (req (s2.size + s6.size ≤ 9223372036854775807)).bind fun u3 =>
 S_chainmanref02_Put_2 (IntKind.wrap .i64 (Int.tdiv (n0) (256))) k1 (s2 ++ s6) (IntKind.wrap .i64 (i7 + 1)) r1.2)
 else (S_chainmanref02_Put_3 n0 s6 h) := (xexec_loop Echainmanref02_Put Echainmanref02_Put_ok.C.nat _ _ _ _ _).trans (by kernel_rfl)
theorem S_chainmanref02_Put_3_eq (n0 : Int) (s6 : ByteArray) (h : AHeap) : S_chainmanref02_Put_3 n0 s6 h =
 bif (decide (n0 > 0)) then (some ((.tup [(.lit (.string (⟨#[]⟩ : ByteArray))), (.lit (.bool false))]), h))
 else (some ((.tup [(.lit (.string s6)), (.lit (.bool true))]), h)) := (jn_eq _).trans (by kernel_rfl)
theorem S_chainmanref02_Put_ends {n0 : Int} {k1 : Int} {h h' : AHeap} {v : AVal} {R : AEnd → AHeap → Prop} (hx : S_chainmanref02_Put n0 k1 h = some (v, h')) (hR : HOk h → h.length ≤ h'.length → ABody.AEnds h h' (.ret v) R) : ACalls Try.prog 136 [(.lit (.int .i64 n0)), (.lit (.int .i64 k1))] h R := xfun_ends Echainmanref02_Put_ok tmix (i := 136) (by rfl) (by kernel_rfl) (by kernel_rfl) hx hR
noncomputable def w_chainmanref02_Put : XC := .q fun R args h K => match args with
  | [.lit (.int .i64 a0), .lit (.int .i64 a1)] => (goneR (S_chainmanref02_Put a0 a1 h) h).bind fun r => K r
  | _ => none
theorem w_chainmanref02_Put_ok : XC.Nat w_chainmanref02_Put ∧ XC.Ok Try.prog 136 w_chainmanref02_Put := by
  refine ⟨fun R args h K => ?_, tc136, fun args h v hx => ?_⟩
  · dsimp only; split <;> simp [Option.bind_assoc, mkP]
  · dsimp only at hx; split at hx
    · obtain ⟨r, hopt, hx⟩ := Option.bind_eq_some_iff.1 hx
      cases hx
      exact (by obtain ⟨h', hopt, hg, hc⟩ := goneR_some hopt; exact S_chainmanref02_Put_ends hopt (goneEnds hg hc))
    · cases hx
-- chainman/chainmanref02.Must: function 103
noncomputable def Echainmanref02_Must : XE := { T := tabOf [(3, r3), (4, r4), (9, r9)], C := [(136, w_chainmanref02_Put)], D := [], Ms := [], Ml := [], Mo := [], n := 14 }
theorem Echainmanref02_Must_ok : XE.Ok Echainmanref02_Must Try.prog := ⟨tabOf_ok (⟨r3_ok, ⟨r4_ok, ⟨r9_ok, trivial⟩⟩⟩), (⟨w_chainmanref02_Put_ok, trivial⟩), ydOk_none, trivial⟩
noncomputable def c103 : Code := bodyOf f103
noncomputable def S_chainmanref02_Must (n0 : Int) (k1 : Int) (h : AHeap) : Option (AVal × AHeap) := xfun Echainmanref02_Must f103 [(.lit (.int .i64 n0)), (.lit (.int .i64 k1))] h
theorem S_chainmanref02_Must_eq (n0 : Int) (k1 : Int) (h : AHeap) : S_chainmanref02_Must n0 k1 h =
 (goneR (S_chainmanref02_Put n0 k1 h) h).bind fun r1 =>
 (xExtract r1 0).bind fun x2 =>
 (asS x2).bind fun s3 =>
 (xExtract r1 1).bind fun x4 =>
 (asB x4).bind fun b5 =>
 some ((.lit (.string s3)), h) := by kernel_rfl
theorem S_chainmanref02_Must_ends {n0 : Int} {k1 : Int} {h h' : AHeap} {v : AVal} {R : AEnd → AHeap → Prop} (hx : S_chainmanref02_Must n0 k1 h = some (v, h')) (hR : HOk h → h.length ≤ h'.length → ABody.AEnds h h' (.ret v) R) : ACalls Try.prog 103 [(.lit (.int .i64 n0)), (.lit (.int .i64 k1))] h R := xfun_ends Echainmanref02_Must_ok tmix (i := 103) (by rfl) (by kernel_rfl) (by kernel_rfl) hx hR
noncomputable def w_chainmanref02_Must : XC := .q fun R args h K => match args with
  | [.lit (.int .i64 a0), .lit (.int .i64 a1)] => (goneR (S_chainmanref02_Must a0 a1 h) h).bind fun r => K r
  | _ => none
theorem w_chainmanref02_Must_ok : XC.Nat w_chainmanref02_Must ∧ XC.Ok Try.prog 103 w_chainmanref02_Must := by
  refine ⟨fun R args h K => ?_, tc103, fun args h v hx => ?_⟩
  · dsimp only; split <;> simp [Option.bind_assoc, mkP]
  · dsimp only at hx; split at hx
    · obtain ⟨r, hopt, hx⟩ := Option.bind_eq_some_iff.1 hx
      cases hx
      exact (by obtain ⟨h', hopt, hg, hc⟩ := goneR_some hopt; exact S_chainmanref02_Must_ends hopt (goneEnds hg hc))
    · cases hx
end Go.Proofs.Yteclkehnppeobaa.AL
/- The document's sum is the program's. -/
namespace Go.Proofs.Yteclkehnppeobaa.AL
set_option linter.unusedVariables false
set_option linter.unusedSimpArgs false
set_option maxRecDepth 100000
open Go
open Go.Proofs.Try
/-! ### Four bits at once -/
def polyB : BitVec 32 := 0xedb88320#32
def bitB (n : BitVec 32) : BitVec 32 := if n.getLsbD 0 then (n >>> 1) ^^^ polyB else n >>> 1
theorem bitB_xor (a b : BitVec 32) : bitB (a ^^^ b) = bitB a ^^^ bitB b := by
  unfold bitB
  rw [BitVec.getLsbD_xor, BitVec.ushiftRight_xor_distrib]
  generalize a >>> 1 = x
  generalize b >>> 1 = y
  cases a.getLsbD 0 <;> cases b.getLsbD 0 <;> simp
  · rw [BitVec.xor_assoc]
  · rw [BitVec.xor_assoc, BitVec.xor_comm y, ← BitVec.xor_assoc]
  · rw [BitVec.xor_assoc, ← BitVec.xor_assoc polyB, BitVec.xor_comm polyB, BitVec.xor_assoc y, BitVec.xor_self, BitVec.xor_zero]
def bit4 (n : BitVec 32) : BitVec 32 := bitB (bitB (bitB (bitB n)))
theorem bit4_xor (a b : BitVec 32) : bit4 (a ^^^ b) = bit4 a ^^^ bit4 b := by unfold bit4; rw [bitB_xor, bitB_xor, bitB_xor, bitB_xor]
theorem fifteen : ∀ i, i < 32 → (15#32).getLsbD i = decide (i < 4) := by decide
theorem low_hi (n : BitVec 32) : n = ((n >>> 4) <<< 4) ^^^ (n &&& 15#32) := by
  apply BitVec.eq_of_getLsbD_eq
  intro i hi
  rw [BitVec.getLsbD_xor, BitVec.getLsbD_shiftLeft, BitVec.getLsbD_ushiftRight, BitVec.getLsbD_and, fifteen i hi]
  by_cases h : i < 4
  · simp [h, hi]
  · simp [h, hi, show 4 + (i - 4) = i by omega]
theorem bit4_hi (n : BitVec 32) : bit4 ((n >>> 4) <<< 4) = n >>> 4 := by
  have z : ∀ j, j < 4 → ((n >>> 4) <<< 4).getLsbD j = false := fun j hj => by rw [BitVec.getLsbD_shiftLeft]; simp [hj]
  have s1 : bitB ((n >>> 4) <<< 4) = (n >>> 4) <<< 4 >>> 1 := by unfold bitB; rw [z 0 (by omega)]; rfl
  have s2 : bitB ((n >>> 4) <<< 4 >>> 1) = (n >>> 4) <<< 4 >>> 1 >>> 1 := by unfold bitB; rw [BitVec.getLsbD_ushiftRight, z 1 (by omega)]; rfl
  have s3 : bitB ((n >>> 4) <<< 4 >>> 1 >>> 1) = (n >>> 4) <<< 4 >>> 1 >>> 1 >>> 1 := by unfold bitB; rw [BitVec.getLsbD_ushiftRight, BitVec.getLsbD_ushiftRight, z 2 (by omega)]; rfl
  have s4 : bitB ((n >>> 4) <<< 4 >>> 1 >>> 1 >>> 1) = (n >>> 4) <<< 4 >>> 1 >>> 1 >>> 1 >>> 1 := by unfold bitB; rw [BitVec.getLsbD_ushiftRight, BitVec.getLsbD_ushiftRight, BitVec.getLsbD_ushiftRight, z 3 (by omega)]; rfl
  unfold bit4
  rw [s1, s2, s3, s4]
  apply BitVec.eq_of_getLsbD_eq
  intro i hi
  simp only [BitVec.getLsbD_ushiftRight, BitVec.getLsbD_shiftLeft]
  by_cases h : i + 4 < 32
  · simp [show 1 + (1 + (1 + (1 + i))) = i + 4 by omega, h]
  · have e : n.getLsbD (4 + i) = false := BitVec.getLsbD_of_ge _ _ (by omega)
    simp [show 1 + (1 + (1 + (1 + i))) = i + 4 by omega, h, e]
theorem bit4_lo : ∀ k, k < 16 → bit4 (BitVec.ofNat 32 k) = nibT.getD k 0#32 := by decide
theorem bit4_eq (n : BitVec 32) : bit4 n = (n >>> 4) ^^^ nibB n := by
  have e : bit4 (n &&& 15#32) = nibB n := by
    have h := bit4_lo _ (nib_lt n)
    rw [show BitVec.ofNat 32 (n &&& 15#32).toNat = n &&& 15#32 by simp] at h
    exact h
  conv => lhs; rw [low_hi n, bit4_xor, bit4_hi, e]
def iterB : Nat → BitVec 32 → BitVec 32
  | 0, n => n
  | k + 1, n => iterB k (bitB n)
theorem step_bits (n : BitVec 32) (b : UInt8) : stepB n b = iterB 8 (n ^^^ BitVec.ofNat 32 b.toNat) := by
  show (_ ^^^ _) = bit4 (bit4 (n ^^^ BitVec.ofNat 32 b.toNat))
  rw [bit4_eq (n ^^^ BitVec.ofNat 32 b.toNat), bit4_eq]
/-! ### The walks -/
theorem odd_u32 (n : BitVec 32) : decide ((u32 n).tmod 2 = 1) = n.getLsbD 0 := by
  unfold u32
  rw [BitVec.getLsbD, Nat.testBit_zero]
  have : ((n.toNat : Int)).tmod 2 = ((n.toNat % 2 : Nat) : Int) := by rw [Int.tmod_eq_emod_of_nonneg (by omega)]; rfl
  rw [this]
  congr 1
  exact propext ⟨fun h => by omega, fun h => by omega⟩
theorem half_u32 (n : BitVec 32) : IntKind.wrap .u32 ((u32 n).tdiv 2) = u32 (n >>> 1) := by
  unfold u32
  rw [BitVec.toNat_ushiftRight, Nat.shiftRight_eq_div_pow]
  have : ((n.toNat : Int)).tdiv 2 = ((n.toNat / 2 : Nat) : Int) := by rw [Int.tdiv_eq_ediv_of_nonneg (by omega)]; exact (Int.natCast_ediv _ _).symm
  rw [this, wrap_u32' (by have := n.isLt; omega)]
theorem bits_loop (s : ByteArray) (i : Int) (h : AHeap) : ∀ (m k : Nat) (n : BitVec 32), k + m = 8 → S_chainmanref03_More_1 s (u32 n) i (k : Int) h = S_chainmanref03_More_4 s (u32 (iterB m n)) i h
  | 0, k, n, hk => by rw [S_chainmanref03_More_1_eq, decide_eq_false (by omega), cond_false]; rfl
  | m + 1, k, n, hk => by
    have ih := bits_loop s i h m (k + 1) (bitB n) (by omega)
    have e3 : ∀ x, S_chainmanref03_More_3 s x i (k : Int) h = S_chainmanref03_More_1 s x i ((k + 1 : Nat) : Int) h := fun x => by rw [S_chainmanref03_More_3_eq, wrap_i64 (by omega) (by omega)]; rfl
    rw [S_chainmanref03_More_1_eq, decide_eq_true (by omega), cond_true, odd_u32, half_u32, e3, e3, show (3988292384 : Int) = u32 polyB from rfl, xor_u32]
    show _ = S_chainmanref03_More_4 s (u32 (iterB m (bitB n))) i h
    rw [← ih]
    unfold bitB
    cases n.getLsbD 0 <;> rfl
theorem rmore_loop (s : ByteArray) (hs : s.size ≤ 4611686018427387904) (h : AHeap) : ∀ (m i : Nat) (n : BitVec 32), i + m = s.size → S_chainmanref03_More_0 s (u32 n) (i : Int) h = some (.lit (.int .u32 (u32 (~~~((s.data.toList.drop i).foldl stepB n)))), h)
  | 0, i, n, hi => by
    have hl : s.data.toList.length = s.size := Array.length_toList
    rw [S_chainmanref03_More_0_eq, decide_eq_false (by omega), cond_false, S_chainmanref03_More_2_eq, List.drop_of_length_le (by omega), show (4294967295 : Int) = u32 (BitVec.allOnes 32) from rfl, xor_u32, BitVec.xor_allOnes]; rfl
  | m + 1, i, n, hi => by
    have hl : s.data.toList.length = s.size := Array.length_toList
    have hil : i < s.data.toList.length := by omega
    have hb : s.data.toList[i].toNat < 256 := s.data.toList[i].toNat_lt
    have hw : IntKind.wrap .u32 (s.data.toList[i].toNat : Int) = u32 (BitVec.ofNat 32 s.data.toList[i].toNat) := by
      rw [wrap_u32' (by omega)]
      unfold u32
      rw [BitVec.toNat_ofNat, Nat.mod_eq_of_lt (by omega)]
    rw [S_chainmanref03_More_0_eq, decide_eq_true (by omega), cond_true, strAt_ok (by omega), Option.bind_some, hw, xor_u32, List.drop_eq_getElem_cons hil]
    have := bits_loop s (i : Int) h 8 0 (n ^^^ BitVec.ofNat 32 s.data.toList[i].toNat) rfl
    rw [show (((0 : Nat) : Int)) = 0 from rfl] at this
    rw [this, ← step_bits, S_chainmanref03_More_4_eq, wrap_i64 (by omega) (by omega), show (i : Int) + 1 = ((i + 1 : Nat) : Int) by omega, rmore_loop s hs h m (i + 1) _ (by omega)]
    rfl
theorem rmore_run (a : BitVec 32) {s : ByteArray} (hs : s.size ≤ 4611686018427387904) (h : AHeap) : goneR (S_chainmanref03_More (u32 a) s h) h = some (.lit (.int .u32 (u32 (moreB a s.data.toList)))) := by
  refine goneR_of (h' := h) ?_ (.refl h) rfl
  rw [S_chainmanref03_More_eq, show (4294967295 : Int) = u32 (BitVec.allOnes 32) from rfl, xor_u32, BitVec.xor_allOnes]
  exact rmore_loop s hs h s.size 0 (~~~a) (by omega)
theorem rof_run {s : ByteArray} (hs : s.size ≤ 4611686018427387904) (h : AHeap) : goneR (S_chainmanref03_Of s h) h = some (.lit (.int .u32 (u32 (sumB s)))) := by
  refine goneR_of (h' := h) ?_ (.refl h) rfl
  rw [S_chainmanref03_Of_eq, show (0 : Int) = u32 0#32 from rfl, rmore_run _ hs]; rfl
theorem and255 (n : BitVec 32) (i : Nat) : IntKind.wrap .u8 (andI .u32 (shrI .u32 (u32 n) (i : Int)) 255) = IntKind.wrap .u8 (shrI .u32 (u32 n) (i : Int)) := by
  have e : shrI .u32 (u32 n) (i : Int) = u32 (n >>> (min i 32)) := by
    unfold shrI u32
    rw [BitVec.toNat_ushiftRight, Nat.shiftRight_eq_div_pow]
    show (n.toNat : Int).fdiv (2 ^ (min (i : Int).toNat 32)) = _
    rw [Int.toNat_natCast, show ((2 : Int) ^ (min i 32)) = ((2 ^ (min i 32) : Nat) : Int) by simp, Int.fdiv_eq_ediv_of_nonneg _ (Int.natCast_nonneg _)]
    exact (Int.natCast_ediv _ _).symm
  rw [e, show (255 : Int) = u32 255#32 from rfl, and_u32]
  unfold u32
  rw [wrap_u8, wrap_u8, BitVec.toNat_and, show (255#32).toNat = 2 ^ 8 - 1 from rfl, Nat.and_two_pow_sub_one_eq_mod]
  omega
theorem rclose_run {s : ByteArray} (hs : s.size ≤ 4611686018427387904) (h : AHeap) : goneR (S_chainmanref03_Close s h) h = some (.lit (.string (closeB s))) := by
  have b0 : IntKind.wrap .u8 (andI .u32 (u32 (sumB s)) 255) = ((sumAt s 0).toNat : Int) := by
    have h1 := and255 (sumB s) 0
    have e0 : shrI .u32 (u32 (sumB s)) ((0 : Nat) : Int) = u32 (sumB s) := by
      unfold shrI
      show (u32 (sumB s)).fdiv (2 ^ 0) = _
      simp
    rw [e0] at h1
    rw [h1, ← close_byte s (i := 0) (by omega)]
    rw [show IntKind.wrap .i64 (8 * ((0 : Nat) : Int)) = ((0 : Nat) : Int) from rfl, e0]
  have b1 : IntKind.wrap .u8 (andI .u32 (shrI .u32 (u32 (sumB s)) 8) 255) = ((sumAt s 1).toNat : Int) := by
    rw [← close_byte s (i := 1) (by omega)]; exact and255 (sumB s) 8
  have b2 : IntKind.wrap .u8 (andI .u32 (shrI .u32 (u32 (sumB s)) 16) 255) = ((sumAt s 2).toNat : Int) := by
    rw [← close_byte s (i := 2) (by omega)]; exact and255 (sumB s) 16
  have b3 : IntKind.wrap .u8 (shrI .u32 (u32 (sumB s)) 24) = ((sumAt s 3).toNat : Int) := by
    rw [← close_byte s (i := 3) (by omega)]; rfl
  have hb : bytesOf (h ++ [.cells ([sumAt s 0, sumAt s 1, sumAt s 2, sumAt s 3].map byteV)]) (.sl 1 h.length 0 4) = some (⟨#[sumAt s 0, sumAt s 1, sumAt s 2, sumAt s 3]⟩ : ByteArray) := by
    have hc : cellsAt (h ++ [.cells ([sumAt s 0, sumAt s 1, sumAt s 2, sumAt s 3].map byteV)]) h.length = some ([sumAt s 0, sumAt s 1, sumAt s 2, sumAt s 3].map byteV) := cellsAt_new h _
    show (cellsAt _ _).bind _ = _
    rw [hc, Option.bind_some]
    exact (congrArg (Option.bind · _) (unbytes_map [sumAt s 0, sumAt s 1, sumAt s 2, sumAt s 3])).trans rfl
  refine goneR_of (h' := h ++ [.cells ([sumAt s 0, sumAt s 1, sumAt s 2, sumAt s 3].map byteV)]) ?_ ((Grow.refl h).psh _) rfl
  rw [S_chainmanref03_Close_eq, rof_run hs h]
  refine bd rfl (bd rfl ?_)
  rw [b0, b1, b2, b3]
  refine bd (a := (.sl 1 h.length 0 4, h ++ [.cells ([sumAt s 0, sumAt s 1, sumAt s 2, sumAt s 3].map byteV)])) rfl (bd hb (bd (req_true ?_) rfl))
  show s.size + 4 ≤ _
  omega
/-! ### Octets -/
theorem rput_loop (n0 : Nat) (hn : n0 < 9223372036854775808) {k : Nat} (hk : k ≤ 8) {h0 : AHeap} : ∀ (m i : Nat) (g : AHeap), i + m = k → Grow h0 g → ∃ g', S_chainmanref02_Put_2 ((n0 / 256 ^ i : Nat) : Int) (k : Int) (bs (beL n0 i)) (i : Int) g = S_chainmanref02_Put_3 ((n0 / 256 ^ k : Nat) : Int) (bs (beL n0 k)) g' ∧ Grow h0 g'
  | 0, i, g, hi, G => by
    obtain rfl : i = k := by omega
    exact ⟨g, by rw [S_chainmanref02_Put_2_eq, decide_eq_false (by omega), cond_false], G⟩
  | m + 1, i, g, hi, G => by
    have hq : n0 / 256 ^ i ≤ n0 := Nat.div_le_self _ _
    have hby : IntKind.wrap .u8 (((n0 / 256 ^ i : Nat) : Int).tmod 256) = ((by8 n0 i).toNat : Int) := by
      rw [by8_nat]
      generalize n0 / 256 ^ i = q at hq
      have e1 : ((q : Nat) : Int).tmod 256 = ((q % 256 : Nat) : Int) := by rw [Int.tmod_eq_emod_of_nonneg (by omega)]; omega
      rw [e1, wrap_u8]; omega
    have hdv : IntKind.wrap .i64 (((n0 / 256 ^ i : Nat) : Int).tdiv 256) = ((n0 / 256 ^ (i + 1) : Nat) : Int) := by
      rw [Nat.pow_succ, ← Nat.div_div_eq_div_mul]
      generalize n0 / 256 ^ i = q at hq
      have e1 : ((q : Nat) : Int).tdiv 256 = ((q / 256 : Nat) : Int) := by rw [Int.tdiv_eq_ediv_of_nonneg (by omega)]; omega
      rw [e1, wrap_i64 (by omega) (by omega)]
    have hb : bytesOf (g ++ [.cells [byteV (by8 n0 i)]]) (.sl 1 g.length 0 1) = some (bs [by8 n0 i]) := by
      have hc : cellsAt (g ++ [.cells [byteV (by8 n0 i)]]) g.length = some [byteV (by8 n0 i)] := cellsAt_new g _
      show (cellsAt _ _).bind _ = _
      rw [hc, Option.bind_some]
      exact (congrArg (Option.bind · _) (unbytes_map [by8 n0 i])).trans rfl
    have happ : bs [by8 n0 i] ++ bs (beL n0 i) = bs (beL n0 (i + 1)) := by apply ByteArray.ext; simp [beL]
    obtain ⟨g', r1, r2⟩ := rput_loop n0 hn hk m (i + 1) (g ++ [.cells [byteV (by8 n0 i)]]) (by omega) (G.psh _)
    refine ⟨g', ?_, r2⟩
    rw [← r1, S_chainmanref02_Put_2_eq, decide_eq_true (by omega), cond_true, hby, hdv, wrap_i64 (by omega) (by omega)]
    refine bd (a := (.sl 1 g.length 0 1, g ++ [.cells [byteV (by8 n0 i)]])) rfl (bd hb (bd (req_true ?_) ?_))
    · rw [bs_size, bs_size, beL_len]; simp; omega
    · rw [happ]; rfl
theorem rput_ok {n : Nat} {k : Nat} (h1 : 1 ≤ k) (hk : k ≤ 8) (hn : n < 256 ^ k) (h63 : n < 9223372036854775808) (h : AHeap) : goneR (S_chainmanref02_Put (n : Int) (k : Int) h) h = some (.tup [.lit (.string (bs (beL n k))), .lit (.bool true)]) := by
  obtain ⟨g, r1, r2⟩ := rput_loop n h63 hk k 0 h (by omega) (.refl h)
  refine goneR_of (h' := g) ?_ r2 rfl
  rw [Nat.pow_zero, Nat.div_one] at r1
  rw [S_chainmanref02_Put_eq, decide_eq_false (by omega), cond_false, decide_eq_false (by omega), S_chainmanref02_Put_0_eq, cond_false, decide_eq_false (by omega), S_chainmanref02_Put_1_eq, cond_false]
  refine (show _ = _ from r1).trans ?_
  rw [S_chainmanref02_Put_3_eq, Nat.div_eq_of_lt hn]; rfl
theorem rmust_ok {n : Nat} {k : Nat} (h1 : 1 ≤ k) (hk : k ≤ 8) (hn : n < 256 ^ k) (h63 : n < 9223372036854775808) (h : AHeap) : goneR (S_chainmanref02_Must (n : Int) (k : Int) h) h = some (.lit (.string (bs (beL n k)))) := by
  refine goneR_of (h' := h) ?_ (.refl h) rfl
  rw [S_chainmanref02_Must_eq, rput_ok h1 hk hn h63 h]; rfl
end Go.Proofs.Yteclkehnppeobaa.AL
