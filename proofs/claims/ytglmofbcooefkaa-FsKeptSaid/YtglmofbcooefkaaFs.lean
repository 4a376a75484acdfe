/- The disk: its functions. -/
import Derived.Test.YtglmofbcooefkaaFsSorted
import Derived.Test.YtglmofbcooefkaaMapClone
namespace Go.Proofs.Ytglmofbcooefkaa.AL
set_option linter.unusedVariables false
set_option linter.unusedSimpArgs false
set_option maxRecDepth 100000
open Go
open Go.Proofs.Try

/-- A map's keys, each a text. -/
def keyL : List (Value × AVal) → Option (List (ByteArray × AVal))
  | [] => some []
  | (.string s, v) :: es => (keyL es).map fun l => (s, v) :: l
  | _ => none
theorem keyL_some : ∀ {es : List (Value × AVal)} {L : List (ByteArray × AVal)}, keyL es = some L → es = strE L
  | [], L, h => by cases h; rfl
  | (u, v) :: es, L, h => by
    cases u with
    | string s =>
      obtain ⟨l, h1, rfl⟩ := Option.map_eq_some_iff.1 h
      rw [keyL_some h1]; rfl
    | _ => cases h
def keysV (h : AHeap) (f : AVal) : Option (List ByteArray) := match f with
  | .fn (.func 34) [] [.ptr b 0] => match cellsAt h b with
    | some [.map mb] => match h[mb]? with
      | some (.map .str es) => (keyL es).bind fun L => (req (L.length * 16 ≤ 140737488355328)).bind fun _ => some (L.map (·.1))
      | _ => none
    | _ => none
  | _ => none
theorem keysV_run {h : AHeap} {f : AVal} {ks : List ByteArray} (hx : keysV h f = some ks) : ACalls Try.prog 29 [f] h fun e g => e = .ret (sortedV h (sortB ks)) ∧ g = sortedH h (sortB ks) := by
  unfold keysV at hx
  split at hx
  · split at hx
    · rename_i b _ mb hb
      split at hx
      · rename_i es hm
        obtain ⟨L, h1, hx⟩ := Option.bind_eq_some_iff.1 hx
        obtain ⟨_, h2, hx⟩ := Option.bind_eq_some_iff.1 hx
        cases hx
        have h2 := req_some h2
        rw [keyL_some h1] at hm
        exact sorted_run (cellsAt_some hb) hm h2
      · cases hx
    · cases hx
  · cases hx
noncomputable def w_slices_Sorted_string : XC := .l fun R args h K => match args with
  | [f] => (keysV h f).bind fun r => K (sortedV h (sortB r)) (sortedH h (sortB r))
  | _ => none
theorem w_slices_Sorted_string_ok : XC.Nat w_slices_Sorted_string ∧ XC.Ok Try.prog 29 w_slices_Sorted_string := by
  refine ⟨fun R args h K => ?_, tc29, fun args h v h' hx => ?_⟩
  · dsimp only; split <;> simp [Option.bind_assoc, mkP]
  · dsimp only at hx; split at hx
    · obtain ⟨r, hopt, hx⟩ := Option.bind_eq_some_iff.1 hx
      simp only [mkP, Option.some.injEq, Prod.mk.injEq] at hx
      obtain ⟨rfl, rfl⟩ := hx
      exact keysV_run hopt
    · cases hx
-- maps.Keys[map[string]chainman/fs.file,string,chainman/fs.file]: function 30
noncomputable def Emaps_Keys_map_string_fs_file_string_fs_file : XE := { T := tabOf [(65, r65), (66, r66)], C := [], D := [], Ms := [], Ml := [], Mo := [], n := 4 }
theorem Emaps_Keys_map_string_fs_file_string_fs_file_ok : XE.Ok Emaps_Keys_map_string_fs_file_string_fs_file Try.prog := ⟨tabOf_ok (⟨r65_ok, ⟨r66_ok, trivial⟩⟩), trivial⟩
noncomputable def c30 : Code := bodyOf f30
noncomputable def S_maps_Keys_map_string_fs_file_string_fs_file (m0 : AVal) (h : AHeap) : Option (AVal × AHeap) := xfun Emaps_Keys_map_string_fs_file_string_fs_file f30 [m0] h
theorem S_maps_Keys_map_string_fs_file_string_fs_file_eq (m0 : AVal) (h : AHeap) : S_maps_Keys_map_string_fs_file_string_fs_file m0 h =
 (AVal.parts m0).bind fun vs1 =>
 some ((.fn (.func 34) [] [(.ptr h.length 0)]), (psh h (.cells vs1))) := by kernel_rfl
theorem S_maps_Keys_map_string_fs_file_string_fs_file_ends {m0 : AVal} {h h' : AHeap} {v : AVal} {R : AEnd → AHeap → Prop} (hx : S_maps_Keys_map_string_fs_file_string_fs_file m0 h = some (v, h')) (hR : HOk h → h.length ≤ h'.length → ABody.AEnds h h' (.ret v) R) : ACalls Try.prog 30 [m0] h R := xfun_ends Emaps_Keys_map_string_fs_file_string_fs_file_ok tmix (i := 30) (by rfl) (by kernel_rfl) (by kernel_rfl) hx hR
theorem keysM_run {h : AHeap} {m : AVal} {vs : List AVal} (hv : AVal.parts m = some vs) : ACalls Try.prog 30 [m] h fun e g => e = .ret (keysF h.length) ∧ g = psh h (.cells vs) := by
  refine S_maps_Keys_map_string_fs_file_string_fs_file_ends (v := keysF h.length) (h' := psh h (.cells vs)) ?_ selfR
  rw [S_maps_Keys_map_string_fs_file_string_fs_file_eq, hv]; rfl
noncomputable def w_maps_Keys_map_string_fs_file_string_fs_file : XC := .l fun R args h K => match args with
  | [m] => (AVal.parts m).bind fun vs => K (keysF h.length) (psh h (.cells vs))
  | _ => none
theorem w_maps_Keys_map_string_fs_file_string_fs_file_ok : XC.Nat w_maps_Keys_map_string_fs_file_string_fs_file ∧ XC.Ok Try.prog 30 w_maps_Keys_map_string_fs_file_string_fs_file := by
  refine ⟨fun R args h K => ?_, tc30, fun args h v h' hx => ?_⟩
  · dsimp only; split <;> simp [Option.bind_assoc, mkP]
  · dsimp only at hx; split at hx
    · obtain ⟨vs, hopt, hx⟩ := Option.bind_eq_some_iff.1 hx
      simp only [mkP, Option.some.injEq, Prod.mk.injEq] at hx
      obtain ⟨rfl, rfl⟩ := hx
      exact keysM_run hopt
    · cases hx
-- (*chainman/fs.Disk).names: function 24
noncomputable def Efs_Disk_names : XE := { T := tabOf [(3, r3), (4, r4), (9, r9), (22, r22), (26, r26), (43, r43), (45, r45), (53, r53), (66, r66)], C := [(29, w_slices_Sorted_string), (30, w_maps_Keys_map_string_fs_file_string_fs_file)], D := [], Ms := [], Ml := [], Mo := [], n := 9 }
theorem Efs_Disk_names_ok : XE.Ok Efs_Disk_names Try.prog := ⟨tabOf_ok (⟨r3_ok, ⟨r4_ok, ⟨r9_ok, ⟨r22_ok, ⟨r26_ok, ⟨r43_ok, ⟨r45_ok, ⟨r53_ok, ⟨r66_ok, trivial⟩⟩⟩⟩⟩⟩⟩⟩⟩), ⟨w_slices_Sorted_string_ok, ⟨w_maps_Keys_map_string_fs_file_string_fs_file_ok, trivial⟩⟩⟩
noncomputable def c24 : Code := bodyOf f24
noncomputable def S_fs_Disk_names (d0 : AVal) (h : AHeap) : Option (AVal × AHeap) := xfun Efs_Disk_names f24 [d0] h
theorem S_fs_Disk_names_eq (d0 : AVal) (h : AHeap) : S_fs_Disk_names d0 h =
 (nilCk d0).bind fun p1 =>
 (fieldP 3 p1).bind fun p2 =>
 (ld1 h p2).bind fun x3 =>
 (AVal.parts x3).bind fun r4 =>
 (keysV (psh h (.cells r4)) (keysF h.length)).bind fun r5 =>
 some ((sortedV (psh h (.cells r4)) (sortB r5)), sortedH (psh h (.cells r4)) (sortB r5)) := by kernel_rfl
theorem S_fs_Disk_names_ends {d0 : AVal} {h h' : AHeap} {v : AVal} {R : AEnd → AHeap → Prop} (hx : S_fs_Disk_names d0 h = some (v, h')) (hR : HOk h → h.length ≤ h'.length → ABody.AEnds h h' (.ret v) R) : ACalls Try.prog 24 [d0] h R := xfun_ends Efs_Disk_names_ok tmix (i := 24) (by rfl) (by kernel_rfl) (by kernel_rfl) hx hR
-- chainman/fs.letter: function 31
noncomputable def Efs_letter : XE := { T := tabOf [(4, r4), (5, r5)], C := [], D := [], Ms := [], Ml := [], Mo := [(1006, [0, 8]), (1014, [0, 16]), (1018, [20])], n := 21 }
theorem Efs_letter_ok : XE.Ok Efs_letter Try.prog := ⟨tabOf_ok (⟨r4_ok, ⟨r5_ok, trivial⟩⟩), trivial⟩
noncomputable def c31 : Code := bodyOf f31
noncomputable def S_fs_letter (c0 : Int) (h : AHeap) : Option (AVal × AHeap) := xfun Efs_letter f31 [(.lit (.int .u8 c0))] h
noncomputable def S_fs_letter_0 (c0 : Int) (t8 : Bool) (h : AHeap) : Option (AVal × AHeap) := jo Efs_letter 1 (rops (ca (cb c31))) ((rops (ca (cb c31))).toList.drop 6) 6 [(0, (.lit (.int .u8 c0))), (8, (.lit (.bool t8)))] h (kN (kSeq Efs_letter (cb (cb c31)) (xend Efs_letter f31)))
noncomputable def S_fs_letter_1 (c0 : Int) (t16 : Bool) (h : AHeap) : Option (AVal × AHeap) := jo Efs_letter 1 (rops (ca (cb c31))) ((rops (ca (cb c31))).toList.drop 14) 14 [(0, (.lit (.int .u8 c0))), (16, (.lit (.bool t16)))] h (kN (kSeq Efs_letter (cb (cb c31)) (xend Efs_letter f31)))
noncomputable def S_fs_letter_2 (t20 : Bool) (h : AHeap) : Option (AVal × AHeap) := jo Efs_letter 1 (rops (ca (cb c31))) ((rops (ca (cb c31))).toList.drop 18) 18 [(20, (.lit (.bool t20)))] h (kN (kSeq Efs_letter (cb (cb c31)) (xend Efs_letter f31)))
theorem S_fs_letter_eq (c0 : Int) (h : AHeap) : S_fs_letter c0 h =
 bif (decide (97 ≤ c0)) then (S_fs_letter_0 c0 (decide (c0 ≤ 122)) h)
 else (S_fs_letter_0 c0 false h) := by kernel_rfl
theorem S_fs_letter_0_eq (c0 : Int) (t8 : Bool) (h : AHeap) : S_fs_letter_0 c0 t8 h =
 bif t8 then (S_fs_letter_1 c0 true h)
 else (bif (decide (48 ≤ c0)) then (S_fs_letter_1 c0 (decide (c0 ≤ 57)) h)
 else (S_fs_letter_1 c0 false h)) := (jo_eq ..).trans (by kernel_rfl)
theorem S_fs_letter_1_eq (c0 : Int) (t16 : Bool) (h : AHeap) : S_fs_letter_1 c0 t16 h =
 bif t16 then (S_fs_letter_2 true h)
 else (S_fs_letter_2 (decide (c0 = 46)) h) := (jo_eq ..).trans (by kernel_rfl)
theorem S_fs_letter_2_eq (t20 : Bool) (h : AHeap) : S_fs_letter_2 t20 h =
 some ((.lit (.bool t20)), h) := (jo_eq ..).trans (by kernel_rfl)
theorem S_fs_letter_ends {c0 : Int} {h h' : AHeap} {v : AVal} {R : AEnd → AHeap → Prop} (hx : S_fs_letter c0 h = some (v, h')) (hR : HOk h → h.length ≤ h'.length → ABody.AEnds h h' (.ret v) R) : ACalls Try.prog 31 [(.lit (.int .u8 c0))] h R := xfun_ends Efs_letter_ok tmix (i := 31) (by rfl) (by kernel_rfl) (by kernel_rfl) hx hR
def letterB (c : Int) : Bool := (decide (97 ≤ c) && decide (c ≤ 122)) || (decide (48 ≤ c) && decide (c ≤ 57)) || decide (c = 46)
theorem letter_run {c : Int} (h : AHeap) : ACalls Try.prog 31 [.lit (.int .u8 c)] h fun e g => e = .ret (.lit (.bool (letterB c))) ∧ g = h := by
  refine S_fs_letter_ends (v := .lit (.bool (letterB c))) (h' := h) ?_ selfR
  rw [S_fs_letter_eq]
  unfold letterB
  cases h1 : decide (97 ≤ c) <;> cases h2 : decide (c ≤ 122) <;> cases h3 : decide (48 ≤ c) <;> cases h4 : decide (c ≤ 57) <;> simp only [cond_true, cond_false, S_fs_letter_0_eq, S_fs_letter_1_eq, S_fs_letter_2_eq, h2, h3, h4, Bool.true_and, Bool.false_and, Bool.true_or, Bool.false_or, Bool.and_true, Bool.and_false]
noncomputable def w_fs_letter : XC := .p fun R args K => match args with
  | [.lit (.int .u8 c)] => K (.lit (.bool (letterB c)))
  | _ => none
theorem w_fs_letter_ok : XC.Nat w_fs_letter ∧ XC.Ok Try.prog 31 w_fs_letter := by
  refine ⟨fun R args K => ?_, tc31, fun args h v hx => ?_⟩
  · dsimp only; split <;> simp [Option.bind_assoc, mkP]
  · dsimp only at hx; split at hx
    · cases hx
      exact letter_run h
    · cases hx
-- chainman/fs.Right: function 26
noncomputable def Efs_Right : XE := { T := tabOf [(3, r3), (4, r4), (5, r5), (9, r9), (62, r62)], C := [(31, w_fs_letter)], D := [], Ms := [(7, [0])], Ml := [(2, [0, 6, 7, 8])], Mo := [(7007, [22])], n := 23 }
theorem Efs_Right_ok : XE.Ok Efs_Right Try.prog := ⟨tabOf_ok (⟨r3_ok, ⟨r4_ok, ⟨r5_ok, ⟨r9_ok, ⟨r62_ok, trivial⟩⟩⟩⟩⟩), ⟨w_fs_letter_ok, trivial⟩⟩
noncomputable def c26 : Code := bodyOf f26
noncomputable def S_fs_Right (name0 : ByteArray) (h : AHeap) : Option (AVal × AHeap) := xfun Efs_Right f26 [(.lit (.string name0))] h
noncomputable def S_fs_Right_0 (name0 : ByteArray) (t6 : AVal) (t7 : Int) (t8 : Int) (h : AHeap) : Option (AVal × AHeap) := xexec Efs_Right (.loop (ca (ca (cb (ca (cb c26)))))) (AVal × AHeap) [(0, (.lit (.string name0))), (6, t6), (7, (.lit (.int .i64 t7))), (8, (.lit (.int .i64 t8)))] h (kBlk 0 (kSeq Efs_Right (cb (cb c26)) (xend Efs_Right f26)))
noncomputable def S_fs_Right_1 (name0 : ByteArray) (h : AHeap) : Option (AVal × AHeap) := jn (xexec Efs_Right (cb (cb c26)) (AVal × AHeap) [(0, (.lit (.string name0)))] h (xend Efs_Right f26))
noncomputable def S_fs_Right_2 (t22 : Bool) (h : AHeap) : Option (AVal × AHeap) := jo Efs_Right 7 (rops (ca (cb (cb c26)))) ((rops (ca (cb (cb c26)))).toList.drop 7) 7 [(22, (.lit (.bool t22)))] h (kN (kSeq Efs_Right (cb (cb (cb c26))) (xend Efs_Right f26)))
theorem S_fs_Right_eq (name0 : ByteArray) (h : AHeap) : S_fs_Right name0 h =
 (lenV (.sl 1 h.length 0 name0.size)).bind fun n1 =>
 S_fs_Right_0 name0 (.sl 1 h.length 0 name0.size) n1 0 ((psh h (.cells ((name0).data.toList.map byteV)))) := by kernel_rfl
theorem S_fs_Right_0_eq (name0 : ByteArray) (t6 : AVal) (t7 : Int) (t8 : Int) (h : AHeap) : S_fs_Right_0 name0 t6 t7 t8 h =
 bif (decide (t8 < t7)) then ((idxP 1 t6 t8).bind fun p2 =>
 (ld1 h p2).bind fun x3 =>
 (asI .u8 x3).bind fun n4 =>
 bif (!(letterB n4)) then (some ((.lit (.bool false)), h))
 else (S_fs_Right_0 name0 t6 t7 (IntKind.wrap .i64 (t8 + 1)) h))
 else (S_fs_Right_1 name0 h) := (xexec_loop Efs_Right Efs_Right_ok.C.nat _ _ _ _ _).trans (by kernel_rfl)
theorem S_fs_Right_1_eq (name0 : ByteArray) (h : AHeap) : S_fs_Right_1 name0 h =
 bif (!decide (name0 = ({ data := #[] }))) then (S_fs_Right_2 (decide ((name0.size : Int) ≤ 24)) h)
 else (S_fs_Right_2 false h) := (jn_eq _).trans (by kernel_rfl)
theorem S_fs_Right_2_eq (t22 : Bool) (h : AHeap) : S_fs_Right_2 t22 h =
 some ((.lit (.bool t22)), h) := (jo_eq ..).trans (by kernel_rfl)
theorem S_fs_Right_ends {name0 : ByteArray} {h h' : AHeap} {v : AVal} {R : AEnd → AHeap → Prop} (hx : S_fs_Right name0 h = some (v, h')) (hR : HOk h → h.length ≤ h'.length → ABody.AEnds h h' (.ret v) R) : ACalls Try.prog 26 [(.lit (.string name0))] h R := xfun_ends Efs_Right_ok tmix (i := 26) (by rfl) (by kernel_rfl) (by kernel_rfl) hx hR
def allL (l : List UInt8) : Bool := l.all fun c => letterB c.toNat
def rightB (s : ByteArray) : Bool := allL s.data.toList && (!decide (s = { data := #[] }) && decide ((s.size : Int) ≤ 24))
theorem wrap_up {i : Nat} (h : i < 9223372036854775807) : IntKind.wrap .i64 ((i : Int) + 1) = ((i + 1 : Nat) : Int) := by
  rw [show (i : Int) + 1 = ((i + 1 : Nat) : Int) by omega]; exact wrap_nat (by omega)
theorem right_end (s : ByteArray) (h : AHeap) : S_fs_Right_1 s h = some (.lit (.bool (!decide (s = { data := #[] }) && decide ((s.size : Int) ≤ 24))), h) := by
  rw [S_fs_Right_1_eq]
  cases decide (s = ({ data := #[] } : ByteArray)) <;> simp only [Bool.not_true, Bool.not_false, cond_true, cond_false, S_fs_Right_2_eq, Bool.true_and, Bool.false_and]
theorem right_loop {s : ByteArray} {b : Nat} {h : AHeap} (hc : cellsAt h b = some (s.data.toList.map byteV)) (hs : s.size ≤ 9223372036854775807) : ∀ (m i : Nat), s.size - i = m → i ≤ s.size →
    S_fs_Right_0 s (.sl 1 b 0 s.size) s.size (i : Int) h = some (.lit (.bool (allL (s.data.toList.drop i) && (!decide (s = { data := #[] }) && decide ((s.size : Int) ≤ 24)))), h)
  | 0, i, hm, hi => by
    rw [S_fs_Right_0_eq]
    have h1 : decide ((i : Int) < (s.size : Int)) = false := by simp; omega
    rw [h1, cond_false, right_end, List.drop_of_length_le (by have : s.data.toList.length = s.size := Array.length_toList; omega)]
    rfl
  | m + 1, i, hm, hi => by
    rw [S_fs_Right_0_eq]
    have hlt : i < s.size := by omega
    have h1 : decide ((i : Int) < (s.size : Int)) = true := by simp; omega
    have hl : i < s.data.toList.length := by have : s.data.toList.length = s.size := Array.length_toList; omega
    have h2 : idxP 1 (.sl 1 b 0 s.size) (i : Int) = some (.ptr b i) := by
      simp [idxP, req, hlt]
    have h3 : ld1 h (.ptr b i) = some (byteV s.data.toList[i]) := by
      rw [ld1_of hc, List.getElem?_map, List.getElem?_eq_getElem hl]; rfl
    rw [h1, cond_true, h2, Option.bind_some, h3, Option.bind_some]
    show (some ((s.data.toList[i].toNat : Int))).bind _ = _
    rw [Option.bind_some, List.drop_eq_getElem_cons hl, wrap_up (by omega), right_loop hc hs m (i + 1) (by omega) (by omega)]
    show _ = some (AVal.lit (.bool ((letterB (s.data.toList[i].toNat) && allL (s.data.toList.drop (i + 1))) && _)), h)
    cases letterB (s.data.toList[i].toNat) <;> simp
theorem right_run {s : ByteArray} {h : AHeap} (hs : s.size ≤ 9223372036854775807) : ACalls Try.prog 26 [.lit (.string s)] h fun e g => e = .ret (.lit (.bool (rightB s))) ∧ g = h := by
  refine S_fs_Right_ends (v := .lit (.bool (rightB s))) (h' := psh h (.cells (s.data.toList.map byteV))) ?_ fun hok _ => ends_same (L := [_]) hok rfl ⟨rfl, rfl⟩
  rw [S_fs_Right_eq]
  show S_fs_Right_0 s _ _ ((0 : Nat) : Int) _ = _
  rw [right_loop (cellsAt_new h _) hs s.size 0 rfl (Nat.zero_le _)]
  rfl
noncomputable def w_fs_Right : XC := .q fun R args h K => match args with
  | [.lit (.string s)] => (req (s.size ≤ 9223372036854775807)).bind fun _ => K (.lit (.bool (rightB s)))
  | _ => none
theorem w_fs_Right_ok : XC.Nat w_fs_Right ∧ XC.Ok Try.prog 26 w_fs_Right := by
  refine ⟨fun R args h K => ?_, tc26, fun args h v hx => ?_⟩
  · dsimp only; split <;> simp [Option.bind_assoc, mkP]
  · dsimp only at hx; split at hx
    · obtain ⟨_, hpre, hx⟩ := Option.bind_eq_some_iff.1 hx
      have hpre := req_some hpre
      cases hx
      exact right_run hpre
    · cases hx
-- (*chainman/fs.Disk).given: function 22
noncomputable def Efs_Disk_given : XE := { T := tabOf [(3, r3), (4, r4), (9, r9), (26, r26), (43, r43), (45, r45), (53, r53)], C := [], D := [], Ms := [], Ml := [], Mo := [(1008, [10])], n := 11 }
theorem Efs_Disk_given_ok : XE.Ok Efs_Disk_given Try.prog := ⟨tabOf_ok (⟨r3_ok, ⟨r4_ok, ⟨r9_ok, ⟨r26_ok, ⟨r43_ok, ⟨r45_ok, ⟨r53_ok, trivial⟩⟩⟩⟩⟩⟩⟩), trivial⟩
noncomputable def c22 : Code := bodyOf f22
noncomputable def S_fs_Disk_given (d0 : AVal) (h : AHeap) : Option (AVal × AHeap) := xfun Efs_Disk_given f22 [d0] h
noncomputable def S_fs_Disk_given_0 (t10 : Bool) (h : AHeap) : Option (AVal × AHeap) := jo Efs_Disk_given 1 (rops (ca (cb c22))) ((rops (ca (cb c22))).toList.drop 8) 8 [(10, (.lit (.bool t10)))] h (kN (kSeq Efs_Disk_given (cb (cb c22)) (xend Efs_Disk_given f22)))
theorem S_fs_Disk_given_eq (d0 : AVal) (h : AHeap) : S_fs_Disk_given d0 h =
 (AVal.isNil .ptr d0).bind fun b1 =>
 bif (!b1) then ((nilCk d0).bind fun p2 =>
 (fieldP 0 p2).bind fun p3 =>
 (ld1 h p3).bind fun x4 =>
 (asB x4).bind fun b5 =>
 S_fs_Disk_given_0 b5 h)
 else (S_fs_Disk_given_0 false h) := by kernel_rfl
theorem S_fs_Disk_given_0_eq (t10 : Bool) (h : AHeap) : S_fs_Disk_given_0 t10 h =
 some ((.lit (.bool t10)), h) := (jo_eq ..).trans (by kernel_rfl)
theorem S_fs_Disk_given_ends {d0 : AVal} {h h' : AHeap} {v : AVal} {R : AEnd → AHeap → Prop} (hx : S_fs_Disk_given d0 h = some (v, h')) (hR : HOk h → h.length ≤ h'.length → ABody.AEnds h h' (.ret v) R) : ACalls Try.prog 22 [d0] h R := xfun_ends Efs_Disk_given_ok tmix (i := 22) (by rfl) (by kernel_rfl) (by kernel_rfl) hx hR
noncomputable def w_fs_Disk_given : XC := .q fun R args h K => match args with
  | [a0] => (onlyR (S_fs_Disk_given a0 h) h).bind fun r => K r
  | _ => none
theorem w_fs_Disk_given_ok : XC.Nat w_fs_Disk_given ∧ XC.Ok Try.prog 22 w_fs_Disk_given := by
  refine ⟨fun R args h K => ?_, tc22, fun args h v hx => ?_⟩
  · dsimp only; split <;> simp [Option.bind_assoc, mkP]
  · dsimp only at hx; split at hx
    · obtain ⟨r, hopt, hx⟩ := Option.bind_eq_some_iff.1 hx
      cases hx
      exact (by have hopt := onlyR_some hopt; exact S_fs_Disk_given_ends hopt selfR)
    · cases hx
-- (*chainman/fs.Disk).call: function 25
noncomputable def Efs_Disk_call : XE := { T := tabOf [(3, r3), (4, r4), (9, r9), (26, r26), (27, r27), (43, r43), (45, r45), (53, r53)], C := [(22, w_fs_Disk_given)], D := [], Ms := [(7, [0])], Ml := [], Mo := [(1007, [0, 11]), (4012, [0, 19, 30])], n := 49 }
theorem Efs_Disk_call_ok : XE.Ok Efs_Disk_call Try.prog := ⟨tabOf_ok (⟨r3_ok, ⟨r4_ok, ⟨r9_ok, ⟨r26_ok, ⟨r27_ok, ⟨r43_ok, ⟨r45_ok, ⟨r53_ok, trivial⟩⟩⟩⟩⟩⟩⟩⟩), ⟨w_fs_Disk_given_ok, trivial⟩⟩
noncomputable def c25 : Code := bodyOf f25
noncomputable def S_fs_Disk_call (d0 : AVal) (may1 : Bool) (h : AHeap) : Option (AVal × AHeap) := xfun Efs_Disk_call f25 [d0, (.lit (.bool may1))] h
noncomputable def S_fs_Disk_call_0 (d0 : AVal) (t11 : Bool) (h : AHeap) : Option (AVal × AHeap) := jo Efs_Disk_call 1 (rops (ca (ca (cb c25)))) ((rops (ca (ca (cb c25)))).toList.drop 7) 7 [(0, d0), (11, (.lit (.bool t11)))] h (kN (kSeq Efs_Disk_call (cb (ca (cb c25))) (kSeq Efs_Disk_call (cb (cb c25)) (xend Efs_Disk_call f25))))
noncomputable def S_fs_Disk_call_1 (d0 : AVal) (t19 : AVal) (t30 : Bool) (h : AHeap) : Option (AVal × AHeap) := jo Efs_Disk_call 4 (rops (ca (cb (cb (cb c25))))) ((rops (ca (cb (cb (cb c25))))).toList.drop 12) 12 [(0, d0), (19, t19), (30, (.lit (.bool t30)))] h (kN (kSeq Efs_Disk_call (cb (cb (cb (cb c25)))) (xend Efs_Disk_call f25)))
noncomputable def S_fs_Disk_call_2 (d0 : AVal) (h : AHeap) : Option (AVal × AHeap) := jn (xexec Efs_Disk_call (cb (cb (cb (cb (cb c25))))) (AVal × AHeap) [(0, d0)] h (xend Efs_Disk_call f25))
theorem S_fs_Disk_call_eq (d0 : AVal) (may1 : Bool) (h : AHeap) : S_fs_Disk_call d0 may1 h =
 (onlyR (S_fs_Disk_given d0 h) h).bind fun r1 =>
 (asB r1).bind fun b2 =>
 bif (!b2) then (S_fs_Disk_call_0 d0 true h)
 else (S_fs_Disk_call_0 d0 (!may1) h) := by kernel_rfl
theorem S_fs_Disk_call_0_eq (d0 : AVal) (t11 : Bool) (h : AHeap) : S_fs_Disk_call_0 d0 t11 h =
 bif t11 then (some ((.lit (.int .i64 1)), h))
 else ((nilCk d0).bind fun p3 =>
 (fieldP 6 p3).bind fun p4 =>
 (ld1 h p4).bind fun x5 =>
 (asI .i64 x5).bind fun n6 =>
 (nilCk d0).bind fun p7 =>
 (fieldP 6 p7).bind fun p8 =>
 (st1 h p8 (.lit (.int .i64 (IntKind.wrap .i64 (n6 + 1))))).bind fun h9 =>
 (nilCk d0).bind fun p10 =>
 (fieldP 5 p10).bind fun p11 =>
 (ld1 h9 p11).bind fun x12 =>
 (asB x12).bind fun b13 =>
 bif b13 then (S_fs_Disk_call_1 d0 d0 true h9)
 else ((nilCk d0).bind fun p14 =>
 (fieldP 4 p14).bind fun p15 =>
 (ld1 h9 p15).bind fun x16 =>
 (asI .i64 x16).bind fun n17 =>
 S_fs_Disk_call_1 d0 d0 (decide (n17 = 0)) h9)) := (jo_eq ..).trans (by kernel_rfl)
theorem S_fs_Disk_call_1_eq (d0 : AVal) (t19 : AVal) (t30 : Bool) (h : AHeap) : S_fs_Disk_call_1 d0 t19 t30 h =
 (nilCk t19).bind fun p18 =>
 (fieldP 5 p18).bind fun p19 =>
 (st1 h p19 (.lit (.bool t30))).bind fun h20 =>
 (nilCk d0).bind fun p21 =>
 (fieldP 4 p21).bind fun p22 =>
 (ld1 h20 p22).bind fun x23 =>
 (asI .i64 x23).bind fun n24 =>
 bif (decide (n24 > (-1))) then ((nilCk d0).bind fun p25 =>
 (fieldP 4 p25).bind fun p26 =>
 (ld1 h20 p26).bind fun x27 =>
 (asI .i64 x27).bind fun n28 =>
 (nilCk d0).bind fun p29 =>
 (fieldP 4 p29).bind fun p30 =>
 (st1 h20 p30 (.lit (.int .i64 (IntKind.wrap .i64 (n28 - 1))))).bind fun h31 =>
 S_fs_Disk_call_2 d0 h31)
 else (S_fs_Disk_call_2 d0 h20) := (jo_eq ..).trans (by kernel_rfl)
theorem S_fs_Disk_call_2_eq (d0 : AVal) (h : AHeap) : S_fs_Disk_call_2 d0 h =
 (nilCk d0).bind fun p32 =>
 (fieldP 5 p32).bind fun p33 =>
 (ld1 h p33).bind fun x34 =>
 (asB x34).bind fun b35 =>
 bif b35 then (some ((.lit (.int .i64 5)), h))
 else (some ((.lit (.int .i64 0)), h)) := (jn_eq _).trans (by kernel_rfl)
theorem S_fs_Disk_call_ends {d0 : AVal} {may1 : Bool} {h h' : AHeap} {v : AVal} {R : AEnd → AHeap → Prop} (hx : S_fs_Disk_call d0 may1 h = some (v, h')) (hR : HOk h → h.length ≤ h'.length → ABody.AEnds h h' (.ret v) R) : ACalls Try.prog 25 [d0, (.lit (.bool may1))] h R := xfun_ends Efs_Disk_call_ok tmix (i := 25) (by rfl) (by kernel_rfl) (by kernel_rfl) hx hR
noncomputable def w_fs_Disk_call : XC := .l fun R args h K => match args with
  | [a0, .lit (.bool a1)] => (S_fs_Disk_call a0 a1 h).bind fun r => K r.1 r.2
  | _ => none
theorem w_fs_Disk_call_ok : XC.Nat w_fs_Disk_call ∧ XC.Ok Try.prog 25 w_fs_Disk_call := by
  refine ⟨fun R args h K => ?_, tc25, fun args h v h' hx => ?_⟩
  · dsimp only; split <;> simp [Option.bind_assoc, mkP]
  · dsimp only at hx; split at hx
    · obtain ⟨r, hopt, hx⟩ := Option.bind_eq_some_iff.1 hx
      simp only [mkP, Option.some.injEq, Prod.mk.injEq] at hx
      obtain ⟨rfl, rfl⟩ := hx
      exact (by obtain ⟨v, h'⟩ := r; exact S_fs_Disk_call_ends hopt selfR)
    · cases hx
-- (*chainman/fs.Disk).find: function 21
noncomputable def Efs_Disk_find : XE := { T := tabOf [(3, r3), (4, r4), (9, r9), (26, r26), (27, r27), (43, r43), (45, r45), (53, r53)], C := [(25, w_fs_Disk_call), (26, w_fs_Right)], D := [], Ms := [], Ml := [], Mo := [(1006, [0, 1, 6, 11, 16])], n := 35 }
theorem Efs_Disk_find_ok : XE.Ok Efs_Disk_find Try.prog := ⟨tabOf_ok (⟨r3_ok, ⟨r4_ok, ⟨r9_ok, ⟨r26_ok, ⟨r27_ok, ⟨r43_ok, ⟨r45_ok, ⟨r53_ok, trivial⟩⟩⟩⟩⟩⟩⟩⟩), ⟨w_fs_Disk_call_ok, ⟨w_fs_Right_ok, trivial⟩⟩⟩
noncomputable def c21 : Code := bodyOf f21
noncomputable def S_fs_Disk_find (d0 : AVal) (name1 : ByteArray) (may2 : Bool) (h : AHeap) : Option (AVal × AHeap) := xfun Efs_Disk_find f21 [d0, (.lit (.string name1)), (.lit (.bool may2))] h
noncomputable def S_fs_Disk_find_0 (d0 : AVal) (name1 : ByteArray) (t6 : Nat) (t11 : AVal) (t16 : Bool) (h : AHeap) : Option (AVal × AHeap) := jo Efs_Disk_find 1 (rops (ca (ca (cb c21)))) ((rops (ca (ca (cb c21)))).toList.drop 6) 6 [(0, d0), (1, (.lit (.string name1))), (6, (.ptr t6 0)), (11, t11), (16, (.lit (.bool t16)))] h (kN (kSeq Efs_Disk_find (cb (ca (cb c21))) (kSeq Efs_Disk_find (cb (cb c21)) (xend Efs_Disk_find f21))))
theorem S_fs_Disk_find_eq (d0 : AVal) (name1 : ByteArray) (may2 : Bool) (h : AHeap) : S_fs_Disk_find d0 name1 may2 h =
 bif may2 then ((req (name1.size ≤ 9223372036854775807)).bind fun _ =>
 S_fs_Disk_find_0 d0 name1 h.length d0 (rightB name1) ((psh h (.cells [(.lit (.string ({ data := #[] }))), (.lit (.int .i64 0))]))))
 else (S_fs_Disk_find_0 d0 name1 h.length d0 false ((psh h (.cells [(.lit (.string ({ data := #[] }))), (.lit (.int .i64 0))])))) := by kernel_rfl
theorem S_fs_Disk_find_0_eq (d0 : AVal) (name1 : ByteArray) (t6 : Nat) (t11 : AVal) (t16 : Bool) (h : AHeap) : S_fs_Disk_find_0 d0 name1 t6 t11 t16 h =
 (S_fs_Disk_call t11 t16 h).bind fun r1 =>
 (asI .i64 r1.1).bind fun n2 =>
 bif (!decide (n2 = 0)) then ((stn 2 r1.2 (.ptr t6 0) ([(.lit (.string ({ data := #[] }))), (.lit (.int .i64 0))])).bind fun h3 =>
 (ldn 2 h3 (.ptr t6 0)).bind fun xs4 =>
 some ((.tup [(.agg xs4), (.lit (.int .i64 n2))]), h3))
 else ((nilCk d0).bind fun p5 =>
 (fieldP 3 p5).bind fun p6 =>
 (ld1 r1.2 p6).bind fun x7 =>
 (mapAt .str r1.2 x7).bind fun es8 =>
 (asA ((mlook (.agg ([(.lit (.string ({ data := #[] }))), (.lit (.int .i64 0))])) (.string name1) es8).1)).bind fun xs9 =>
 (stn 2 ((psh r1.2 (.cells [(.lit (.string ({ data := #[] }))), (.lit (.int .i64 0))]))) (.ptr r1.2.length 0) xs9).bind fun h10 =>
 bif (!((mlook (.agg ([(.lit (.string ({ data := #[] }))), (.lit (.int .i64 0))])) (.string name1) es8).2)) then ((stn 2 h10 (.ptr t6 0) ([(.lit (.string ({ data := #[] }))), (.lit (.int .i64 0))])).bind fun h11 =>
 (ldn 2 h11 (.ptr t6 0)).bind fun xs12 =>
 some ((.tup [(.agg xs12), (.lit (.int .i64 2))]), h11))
 else ((ldn 2 h10 (.ptr r1.2.length 0)).bind fun xs13 =>
 (stn 2 h10 (.ptr t6 0) xs13).bind fun h14 =>
 (ldn 2 h14 (.ptr t6 0)).bind fun xs15 =>
 some ((.tup [(.agg xs15), (.lit (.int .i64 0))]), h14))) := (jo_eq ..).trans (by kernel_rfl)
theorem S_fs_Disk_find_ends {d0 : AVal} {name1 : ByteArray} {may2 : Bool} {h h' : AHeap} {v : AVal} {R : AEnd → AHeap → Prop} (hx : S_fs_Disk_find d0 name1 may2 h = some (v, h')) (hR : HOk h → h.length ≤ h'.length → ABody.AEnds h h' (.ret v) R) : ACalls Try.prog 21 [d0, (.lit (.string name1)), (.lit (.bool may2))] h R := xfun_ends Efs_Disk_find_ok tmix (i := 21) (by rfl) (by kernel_rfl) (by kernel_rfl) hx hR
noncomputable def w_fs_Disk_find : XC := .l fun R args h K => match args with
  | [a0, .lit (.string a1), .lit (.bool a2)] => (S_fs_Disk_find a0 a1 a2 h).bind fun r => K r.1 r.2
  | _ => none
theorem w_fs_Disk_find_ok : XC.Nat w_fs_Disk_find ∧ XC.Ok Try.prog 21 w_fs_Disk_find := by
  refine ⟨fun R args h K => ?_, tc21, fun args h v h' hx => ?_⟩
  · dsimp only; split <;> simp [Option.bind_assoc, mkP]
  · dsimp only at hx; split at hx
    · obtain ⟨r, hopt, hx⟩ := Option.bind_eq_some_iff.1 hx
      simp only [mkP, Option.some.injEq, Prod.mk.injEq] at hx
      obtain ⟨rfl, rfl⟩ := hx
      exact (by obtain ⟨v, h'⟩ := r; exact S_fs_Disk_find_ends hopt selfR)
    · cases hx
noncomputable def w_fs_Disk_names : XC := .l fun R args h K => match args with
  | [a0] => (S_fs_Disk_names a0 h).bind fun r => K r.1 r.2
  | _ => none
theorem w_fs_Disk_names_ok : XC.Nat w_fs_Disk_names ∧ XC.Ok Try.prog 24 w_fs_Disk_names := by
  refine ⟨fun R args h K => ?_, tc24, fun args h v h' hx => ?_⟩
  · dsimp only; split <;> simp [Option.bind_assoc, mkP]
  · dsimp only at hx; split at hx
    · obtain ⟨r, hopt, hx⟩ := Option.bind_eq_some_iff.1 hx
      simp only [mkP, Option.some.injEq, Prod.mk.injEq] at hx
      obtain ⟨rfl, rfl⟩ := hx
      exact (by obtain ⟨v, h'⟩ := r; exact S_fs_Disk_names_ends hopt selfR)
    · cases hx
-- (*chainman/fs.Disk).drop: function 27
noncomputable def Efs_Disk_drop : XE := { T := tabOf [(3, r3), (4, r4), (9, r9), (26, r26), (43, r43), (45, r45), (53, r53)], C := [], D := [(0, ⟨[], [0, 1, 2, 3, 4, 5, 6, 7, 8, 9, 10, 11, 12, 13, 14], [15], [], [], [], []⟩)], Ms := [], Ml := [], Mo := [], n := 24 }
theorem Efs_Disk_drop_ok : XE.Ok Efs_Disk_drop Try.prog := ⟨tabOf_ok (⟨r3_ok, ⟨r4_ok, ⟨r9_ok, ⟨r26_ok, ⟨r43_ok, ⟨r45_ok, ⟨r53_ok, trivial⟩⟩⟩⟩⟩⟩⟩), trivial⟩
noncomputable def c27 : Code := bodyOf f27
noncomputable def S_fs_Disk_drop (d0 : AVal) (name1 : ByteArray) (h : AHeap) : Option (AVal × AHeap) := xfun Efs_Disk_drop f27 [d0, (.lit (.string name1))] h
theorem S_fs_Disk_drop_eq (d0 : AVal) (name1 : ByteArray) (h : AHeap) : S_fs_Disk_drop d0 name1 h =
 (nilCk d0).bind fun p1 =>
 (fieldP 2 p1).bind fun p2 =>
 (ld1 h p2).bind fun x3 =>
 (asI .i64 x3).bind fun n4 =>
 (nilCk d0).bind fun p5 =>
 (fieldP 3 p5).bind fun p6 =>
 (ld1 h p6).bind fun x7 =>
 (mapAt .str h x7).bind fun es8 =>
 (asA ((mlook (.agg ([(.lit (.string ({ data := #[] }))), (.lit (.int .i64 0))])) (.string name1) es8).1)).bind fun xs9 =>
 (xs9[0]?).bind fun x10 =>
 (asS x10).bind fun s11 =>
 (nilCk d0).bind fun p12 =>
 (fieldP 2 p12).bind fun p13 =>
 (st1 h p13 (.lit (.int .i64 (IntKind.wrap .i64 (n4 - (s11.size : Int)))))).bind fun h14 =>
 (nilCk d0).bind fun p15 =>
 (fieldP 3 p15).bind fun p16 =>
 (ld1 h14 p16).bind fun x17 =>
 (mapDel .str h14 x17 (.string name1)).bind fun h18 =>
 some ((.tup []), h18) := by kernel_rfl
theorem S_fs_Disk_drop_ends {d0 : AVal} {name1 : ByteArray} {h h' : AHeap} {v : AVal} {R : AEnd → AHeap → Prop} (hx : S_fs_Disk_drop d0 name1 h = some (v, h')) (hR : HOk h → h.length ≤ h'.length → ABody.AEnds h h' (.ret v) R) : ACalls Try.prog 27 [d0, (.lit (.string name1))] h R := xfun_ends Efs_Disk_drop_ok tmix (i := 27) (by rfl) (by kernel_rfl) (by kernel_rfl) hx hR
noncomputable def w_fs_Disk_drop : XC := .l fun R args h K => match args with
  | [a0, .lit (.string a1)] => (S_fs_Disk_drop a0 a1 h).bind fun r => K r.1 r.2
  | _ => none
theorem w_fs_Disk_drop_ok : XC.Nat w_fs_Disk_drop ∧ XC.Ok Try.prog 27 w_fs_Disk_drop := by
  refine ⟨fun R args h K => ?_, tc27, fun args h v h' hx => ?_⟩
  · dsimp only; split <;> simp [Option.bind_assoc, mkP]
  · dsimp only at hx; split at hx
    · obtain ⟨r, hopt, hx⟩ := Option.bind_eq_some_iff.1 hx
      simp only [mkP, Option.some.injEq, Prod.mk.injEq] at hx
      obtain ⟨rfl, rfl⟩ := hx
      exact (by obtain ⟨v, h'⟩ := r; exact S_fs_Disk_drop_ends hopt selfR)
    · cases hx
-- (*chainman/fs.Disk).Create: function 7
noncomputable def Efs_Disk_Create : XE := { T := tabOf [(3, r3), (4, r4), (9, r9), (26, r26), (27, r27), (43, r43), (45, r45), (53, r53)], C := [(21, w_fs_Disk_find)], D := [], Ms := [], Ml := [], Mo := [], n := 30 }
theorem Efs_Disk_Create_ok : XE.Ok Efs_Disk_Create Try.prog := ⟨tabOf_ok (⟨r3_ok, ⟨r4_ok, ⟨r9_ok, ⟨r26_ok, ⟨r27_ok, ⟨r43_ok, ⟨r45_ok, ⟨r53_ok, trivial⟩⟩⟩⟩⟩⟩⟩⟩), ⟨w_fs_Disk_find_ok, trivial⟩⟩
noncomputable def c7 : Code := bodyOf f7
noncomputable def S_fs_Disk_Create (d0 : AVal) (name1 : ByteArray) (h : AHeap) : Option (AVal × AHeap) := xfun Efs_Disk_Create f7 [d0, (.lit (.string name1))] h
theorem S_fs_Disk_Create_eq (d0 : AVal) (name1 : ByteArray) (h : AHeap) : S_fs_Disk_Create d0 name1 h =
 (S_fs_Disk_find d0 name1 true h).bind fun r1 =>
 (xExtract r1.1 0).bind fun x2 =>
 (asA x2).bind fun xs3 =>
 (xExtract r1.1 1).bind fun x4 =>
 (asI .i64 x4).bind fun n5 =>
 (stn 2 ((psh r1.2 (.cells [(.lit (.string ({ data := #[] }))), (.lit (.int .i64 0))]))) (.ptr r1.2.length 0) xs3).bind fun h6 =>
 bif (!decide (n5 = 2)) then (bif (decide (n5 = 0)) then (some ((.lit (.int .i64 3)), h6))
 else (some ((.lit (.int .i64 n5)), h6)))
 else ((nilCk d0).bind fun p7 =>
 (fieldP 3 p7).bind fun p8 =>
 (ld1 h6 p8).bind fun x9 =>
 (xMapLen h6 x9).bind fun x10 =>
 (asI .i64 x10).bind fun n11 =>
 bif (decide (n11 = 200)) then (some ((.lit (.int .i64 4)), h6))
 else ((nilCk d0).bind fun p12 =>
 (fieldP 3 p12).bind fun p13 =>
 (ld1 h6 p13).bind fun x14 =>
 (mapSet .str h6 x14 (mput (.string name1) (.agg ([(.lit (.string ({ data := #[] }))), (.lit (.int .i64 0))])))).bind fun h15 =>
 some ((.lit (.int .i64 0)), h15))) := by kernel_rfl
theorem S_fs_Disk_Create_ends {d0 : AVal} {name1 : ByteArray} {h h' : AHeap} {v : AVal} {R : AEnd → AHeap → Prop} (hx : S_fs_Disk_Create d0 name1 h = some (v, h')) (hR : HOk h → h.length ≤ h'.length → ABody.AEnds h h' (.ret v) R) : ACalls Try.prog 7 [d0, (.lit (.string name1))] h R := xfun_ends Efs_Disk_Create_ok tmix (i := 7) (by rfl) (by kernel_rfl) (by kernel_rfl) hx hR
noncomputable def w_fs_Disk_Create : XC := .l fun R args h K => match args with
  | [a0, .lit (.string a1)] => (S_fs_Disk_Create a0 a1 h).bind fun r => K r.1 r.2
  | _ => none
theorem w_fs_Disk_Create_ok : XC.Nat w_fs_Disk_Create ∧ XC.Ok Try.prog 7 w_fs_Disk_Create := by
  refine ⟨fun R args h K => ?_, tc7, fun args h v h' hx => ?_⟩
  · dsimp only; split <;> simp [Option.bind_assoc, mkP]
  · dsimp only at hx; split at hx
    · obtain ⟨r, hopt, hx⟩ := Option.bind_eq_some_iff.1 hx
      simp only [mkP, Option.some.injEq, Prod.mk.injEq] at hx
      obtain ⟨rfl, rfl⟩ := hx
      exact (by obtain ⟨v, h'⟩ := r; exact S_fs_Disk_Create_ends hopt selfR)
    · cases hx
-- (*chainman/fs.Disk).Append: function 10
noncomputable def Efs_Disk_Append : XE := { T := tabOf [(3, r3), (4, r4), (9, r9), (26, r26), (27, r27), (43, r43), (45, r45), (53, r53)], C := [(21, w_fs_Disk_find)], D := [(4, ⟨[], [0, 1, 2, 3, 4, 5, 6, 7, 8, 9, 10, 11, 12], [], [], [], [], []⟩), (7, ⟨[], [0, 1, 2, 3, 4, 5], [6], [], [], [], []⟩)], Ms := [], Ml := [], Mo := [], n := 52 }
theorem Efs_Disk_Append_ok : XE.Ok Efs_Disk_Append Try.prog := ⟨tabOf_ok (⟨r3_ok, ⟨r4_ok, ⟨r9_ok, ⟨r26_ok, ⟨r27_ok, ⟨r43_ok, ⟨r45_ok, ⟨r53_ok, trivial⟩⟩⟩⟩⟩⟩⟩⟩), ⟨w_fs_Disk_find_ok, trivial⟩⟩
noncomputable def c10 : Code := bodyOf f10
noncomputable def S_fs_Disk_Append (d0 : AVal) (name1 : ByteArray) (s2 : ByteArray) (h : AHeap) : Option (AVal × AHeap) := xfun Efs_Disk_Append f10 [d0, (.lit (.string name1)), (.lit (.string s2))] h
theorem S_fs_Disk_Append_eq (d0 : AVal) (name1 : ByteArray) (s2 : ByteArray) (h : AHeap) : S_fs_Disk_Append d0 name1 s2 h =
 (S_fs_Disk_find d0 name1 true h).bind fun r1 =>
 (xExtract r1.1 0).bind fun x2 =>
 (asA x2).bind fun xs3 =>
 (xExtract r1.1 1).bind fun x4 =>
 (asI .i64 x4).bind fun n5 =>
 (stn 2 ((psh r1.2 (.cells [(.lit (.string ({ data := #[] }))), (.lit (.int .i64 0))]))) (.ptr r1.2.length 0) xs3).bind fun h6 =>
 bif (!decide (n5 = 0)) then (some ((.lit (.int .i64 n5)), h6))
 else ((nilCk d0).bind fun p7 =>
 (fieldP 1 p7).bind fun p8 =>
 (ld1 h6 p8).bind fun x9 =>
 (asI .i64 x9).bind fun n10 =>
 (nilCk d0).bind fun p11 =>
 (fieldP 2 p11).bind fun p12 =>
 (ld1 h6 p12).bind fun x13 =>
 (asI .i64 x13).bind fun n14 =>
 bif (decide ((s2.size : Int) > (IntKind.wrap .i64 (n10 - n14)))) then (some ((.lit (.int .i64 4)), h6))
 else ((ld1 h6 (.ptr r1.2.length 0)).bind fun x15 =>
 (asS x15).bind fun s16 =>
 (req (s16.size + s2.size ≤ 9223372036854775807)).bind fun u17 =>
 (st1 h6 (.ptr r1.2.length 0) (.lit (.string (s16 ++ s2)))).bind fun h18 =>
 (nilCk d0).bind fun p19 =>
 (fieldP 3 p19).bind fun p20 =>
 (ld1 h18 p20).bind fun x21 =>
 (ldn 2 h18 (.ptr r1.2.length 0)).bind fun xs22 =>
 (mapSet .str h18 x21 (mput (.string name1) (.agg xs22))).bind fun h23 =>
 (nilCk d0).bind fun p24 =>
 (fieldP 2 p24).bind fun p25 =>
 (ld1 h23 p25).bind fun x26 =>
 (asI .i64 x26).bind fun n27 =>
 (nilCk d0).bind fun p28 =>
 (fieldP 2 p28).bind fun p29 =>
 (st1 h23 p29 (.lit (.int .i64 (IntKind.wrap .i64 (n27 + (s2.size : Int)))))).bind fun h30 =>
 some ((.lit (.int .i64 0)), h30))) := by kernel_rfl
theorem S_fs_Disk_Append_ends {d0 : AVal} {name1 : ByteArray} {s2 : ByteArray} {h h' : AHeap} {v : AVal} {R : AEnd → AHeap → Prop} (hx : S_fs_Disk_Append d0 name1 s2 h = some (v, h')) (hR : HOk h → h.length ≤ h'.length → ABody.AEnds h h' (.ret v) R) : ACalls Try.prog 10 [d0, (.lit (.string name1)), (.lit (.string s2))] h R := xfun_ends Efs_Disk_Append_ok tmix (i := 10) (by rfl) (by kernel_rfl) (by kernel_rfl) hx hR
noncomputable def w_fs_Disk_Append : XC := .l fun R args h K => match args with
  | [a0, .lit (.string a1), .lit (.string a2)] => (S_fs_Disk_Append a0 a1 a2 h).bind fun r => K r.1 r.2
  | _ => none
theorem w_fs_Disk_Append_ok : XC.Nat w_fs_Disk_Append ∧ XC.Ok Try.prog 10 w_fs_Disk_Append := by
  refine ⟨fun R args h K => ?_, tc10, fun args h v h' hx => ?_⟩
  · dsimp only; split <;> simp [Option.bind_assoc, mkP]
  · dsimp only at hx; split at hx
    · obtain ⟨r, hopt, hx⟩ := Option.bind_eq_some_iff.1 hx
      simp only [mkP, Option.some.injEq, Prod.mk.injEq] at hx
      obtain ⟨rfl, rfl⟩ := hx
      exact (by obtain ⟨v, h'⟩ := r; exact S_fs_Disk_Append_ends hopt selfR)
    · cases hx
-- (*chainman/fs.Disk).Read: function 14
noncomputable def Efs_Disk_Read : XE := { T := tabOf [(3, r3), (4, r4), (9, r9), (26, r26), (27, r27), (53, r53)], C := [(21, w_fs_Disk_find)], D := [], Ms := [], Ml := [], Mo := [(4014, [2, 3, 10, 40])], n := 48 }
theorem Efs_Disk_Read_ok : XE.Ok Efs_Disk_Read Try.prog := ⟨tabOf_ok (⟨r3_ok, ⟨r4_ok, ⟨r9_ok, ⟨r26_ok, ⟨r27_ok, ⟨r53_ok, trivial⟩⟩⟩⟩⟩⟩), ⟨w_fs_Disk_find_ok, trivial⟩⟩
noncomputable def c14 : Code := bodyOf f14
noncomputable def S_fs_Disk_Read (d0 : AVal) (name1 : ByteArray) (at2 : Int) (n3 : Int) (h : AHeap) : Option (AVal × AHeap) := xfun Efs_Disk_Read f14 [d0, (.lit (.string name1)), (.lit (.int .i64 at2)), (.lit (.int .i64 n3))] h
noncomputable def S_fs_Disk_Read_0 (at2 : Int) (n3 : Int) (f10 : Nat) (t40 : Bool) (h : AHeap) : Option (AVal × AHeap) := jo Efs_Disk_Read 4 (rops (ca (cb (cb (ca (ca (cb (cb c14)))))))) ((rops (ca (cb (cb (ca (ca (cb (cb c14)))))))).toList.drop 14) 14 [(2, (.lit (.int .i64 at2))), (3, (.lit (.int .i64 n3))), (10, (.ptr f10 0)), (40, (.lit (.bool t40)))] h (kN (kSeq Efs_Disk_Read (cb (cb (cb (ca (ca (cb (cb c14))))))) (kBlk 0 (kSeq Efs_Disk_Read (cb (cb (cb c14))) (xend Efs_Disk_Read f14)))))
theorem S_fs_Disk_Read_eq (d0 : AVal) (name1 : ByteArray) (at2 : Int) (n3 : Int) (h : AHeap) : S_fs_Disk_Read d0 name1 at2 n3 h =
 (S_fs_Disk_find d0 name1 (decide ((minI at2 n3) ≥ 0)) h).bind fun r1 =>
 (xExtract r1.1 0).bind fun x2 =>
 (asA x2).bind fun xs3 =>
 (xExtract r1.1 1).bind fun x4 =>
 (asI .i64 x4).bind fun n5 =>
 (stn 2 ((psh r1.2 (.cells [(.lit (.string ({ data := #[] }))), (.lit (.int .i64 0))]))) (.ptr r1.2.length 0) xs3).bind fun h6 =>
 bif (!decide (n5 = 0)) then (some ((.tup [(.lit (.string ({ data := #[] }))), (.lit (.int .i64 n5))]), h6))
 else ((ld1 h6 (.ptr r1.2.length 0)).bind fun x7 =>
 (asS x7).bind fun s8 =>
 bif (decide (at2 > (s8.size : Int))) then (S_fs_Disk_Read_0 at2 n3 r1.2.length true h6)
 else ((ld1 h6 (.ptr r1.2.length 0)).bind fun x9 =>
 (asS x9).bind fun s10 =>
 S_fs_Disk_Read_0 at2 n3 r1.2.length (decide (n3 > (IntKind.wrap .i64 ((s10.size : Int) - at2)))) h6)) := by kernel_rfl
theorem S_fs_Disk_Read_0_eq (at2 : Int) (n3 : Int) (f10 : Nat) (t40 : Bool) (h : AHeap) : S_fs_Disk_Read_0 at2 n3 f10 t40 h =
 bif t40 then (some ((.tup [(.lit (.string ({ data := #[] }))), (.lit (.int .i64 10))]), h))
 else ((ld1 h (.ptr f10 0)).bind fun x11 =>
 (asS x11).bind fun s12 =>
 (cutS s12 at2 (IntKind.wrap .i64 (at2 + n3))).bind fun s13 =>
 some ((.tup [(.lit (.string s13)), (.lit (.int .i64 0))]), h)) := (jo_eq ..).trans (by kernel_rfl)
theorem S_fs_Disk_Read_ends {d0 : AVal} {name1 : ByteArray} {at2 : Int} {n3 : Int} {h h' : AHeap} {v : AVal} {R : AEnd → AHeap → Prop} (hx : S_fs_Disk_Read d0 name1 at2 n3 h = some (v, h')) (hR : HOk h → h.length ≤ h'.length → ABody.AEnds h h' (.ret v) R) : ACalls Try.prog 14 [d0, (.lit (.string name1)), (.lit (.int .i64 at2)), (.lit (.int .i64 n3))] h R := xfun_ends Efs_Disk_Read_ok tmix (i := 14) (by rfl) (by kernel_rfl) (by kernel_rfl) hx hR
noncomputable def w_fs_Disk_Read : XC := .l fun R args h K => match args with
  | [a0, .lit (.string a1), .lit (.int .i64 a2), .lit (.int .i64 a3)] => (S_fs_Disk_Read a0 a1 a2 a3 h).bind fun r => K r.1 r.2
  | _ => none
theorem w_fs_Disk_Read_ok : XC.Nat w_fs_Disk_Read ∧ XC.Ok Try.prog 14 w_fs_Disk_Read := by
  refine ⟨fun R args h K => ?_, tc14, fun args h v h' hx => ?_⟩
  · dsimp only; split <;> simp [Option.bind_assoc, mkP]
  · dsimp only at hx; split at hx
    · obtain ⟨r, hopt, hx⟩ := Option.bind_eq_some_iff.1 hx
      simp only [mkP, Option.some.injEq, Prod.mk.injEq] at hx
      obtain ⟨rfl, rfl⟩ := hx
      exact (by obtain ⟨v, h'⟩ := r; exact S_fs_Disk_Read_ends hopt selfR)
    · cases hx
-- (*chainman/fs.Disk).Size: function 13
noncomputable def Efs_Disk_Size : XE := { T := tabOf [(3, r3), (9, r9), (26, r26), (27, r27), (53, r53)], C := [(21, w_fs_Disk_find)], D := [], Ms := [], Ml := [], Mo := [], n := 18 }
theorem Efs_Disk_Size_ok : XE.Ok Efs_Disk_Size Try.prog := ⟨tabOf_ok (⟨r3_ok, ⟨r9_ok, ⟨r26_ok, ⟨r27_ok, ⟨r53_ok, trivial⟩⟩⟩⟩⟩), ⟨w_fs_Disk_find_ok, trivial⟩⟩
noncomputable def c13 : Code := bodyOf f13
noncomputable def S_fs_Disk_Size (d0 : AVal) (name1 : ByteArray) (h : AHeap) : Option (AVal × AHeap) := xfun Efs_Disk_Size f13 [d0, (.lit (.string name1))] h
theorem S_fs_Disk_Size_eq (d0 : AVal) (name1 : ByteArray) (h : AHeap) : S_fs_Disk_Size d0 name1 h =
 (S_fs_Disk_find d0 name1 true h).bind fun r1 =>
 (xExtract r1.1 0).bind fun x2 =>
 (asA x2).bind fun xs3 =>
 (xExtract r1.1 1).bind fun x4 =>
 (asI .i64 x4).bind fun n5 =>
 (stn 2 ((psh r1.2 (.cells [(.lit (.string ({ data := #[] }))), (.lit (.int .i64 0))]))) (.ptr r1.2.length 0) xs3).bind fun h6 =>
 (ld1 h6 (.ptr r1.2.length 0)).bind fun x7 =>
 (asS x7).bind fun s8 =>
 some ((.tup [(.lit (.int .i64 (s8.size : Int))), (.lit (.int .i64 n5))]), h6) := by kernel_rfl
theorem S_fs_Disk_Size_ends {d0 : AVal} {name1 : ByteArray} {h h' : AHeap} {v : AVal} {R : AEnd → AHeap → Prop} (hx : S_fs_Disk_Size d0 name1 h = some (v, h')) (hR : HOk h → h.length ≤ h'.length → ABody.AEnds h h' (.ret v) R) : ACalls Try.prog 13 [d0, (.lit (.string name1))] h R := xfun_ends Efs_Disk_Size_ok tmix (i := 13) (by rfl) (by kernel_rfl) (by kernel_rfl) hx hR
noncomputable def w_fs_Disk_Size : XC := .l fun R args h K => match args with
  | [a0, .lit (.string a1)] => (S_fs_Disk_Size a0 a1 h).bind fun r => K r.1 r.2
  | _ => none
theorem w_fs_Disk_Size_ok : XC.Nat w_fs_Disk_Size ∧ XC.Ok Try.prog 13 w_fs_Disk_Size := by
  refine ⟨fun R args h K => ?_, tc13, fun args h v h' hx => ?_⟩
  · dsimp only; split <;> simp [Option.bind_assoc, mkP]
  · dsimp only at hx; split at hx
    · obtain ⟨r, hopt, hx⟩ := Option.bind_eq_some_iff.1 hx
      simp only [mkP, Option.some.injEq, Prod.mk.injEq] at hx
      obtain ⟨rfl, rfl⟩ := hx
      exact (by obtain ⟨v, h'⟩ := r; exact S_fs_Disk_Size_ends hopt selfR)
    · cases hx
-- (*chainman/fs.Disk).Sync: function 11
noncomputable def Efs_Disk_Sync : XE := { T := tabOf [(3, r3), (4, r4), (9, r9), (26, r26), (27, r27), (43, r43), (45, r45), (53, r53)], C := [(21, w_fs_Disk_find)], D := [(4, ⟨[], [0, 1, 2, 3, 4, 5], [6], [], [], [], []⟩)], Ms := [(5, [6])], Ml := [], Mo := [], n := 26 }
theorem Efs_Disk_Sync_ok : XE.Ok Efs_Disk_Sync Try.prog := ⟨tabOf_ok (⟨r3_ok, ⟨r4_ok, ⟨r9_ok, ⟨r26_ok, ⟨r27_ok, ⟨r43_ok, ⟨r45_ok, ⟨r53_ok, trivial⟩⟩⟩⟩⟩⟩⟩⟩), ⟨w_fs_Disk_find_ok, trivial⟩⟩
noncomputable def c11 : Code := bodyOf f11
noncomputable def S_fs_Disk_Sync (d0 : AVal) (name1 : ByteArray) (h : AHeap) : Option (AVal × AHeap) := xfun Efs_Disk_Sync f11 [d0, (.lit (.string name1))] h
noncomputable def S_fs_Disk_Sync_0 (e6 : Int) (h : AHeap) : Option (AVal × AHeap) := jn (xexec Efs_Disk_Sync (cb (cb (cb c11))) (AVal × AHeap) [(6, (.lit (.int .i64 e6)))] h (xend Efs_Disk_Sync f11))
theorem S_fs_Disk_Sync_eq (d0 : AVal) (name1 : ByteArray) (h : AHeap) : S_fs_Disk_Sync d0 name1 h =
 (S_fs_Disk_find d0 name1 true h).bind fun r1 =>
 (xExtract r1.1 0).bind fun x2 =>
 (asA x2).bind fun xs3 =>
 (xExtract r1.1 1).bind fun x4 =>
 (asI .i64 x4).bind fun n5 =>
 (stn 2 ((psh r1.2 (.cells [(.lit (.string ({ data := #[] }))), (.lit (.int .i64 0))]))) (.ptr r1.2.length 0) xs3).bind fun h6 =>
 bif (decide (n5 = 0)) then ((ld1 h6 (.ptr r1.2.length 0)).bind fun x7 =>
 (asS x7).bind fun s8 =>
 (st1 h6 (.ptr r1.2.length 1) (.lit (.int .i64 (s8.size : Int)))).bind fun h9 =>
 (nilCk d0).bind fun p10 =>
 (fieldP 3 p10).bind fun p11 =>
 (ld1 h9 p11).bind fun x12 =>
 (ldn 2 h9 (.ptr r1.2.length 0)).bind fun xs13 =>
 (mapSet .str h9 x12 (mput (.string name1) (.agg xs13))).bind fun h14 =>
 S_fs_Disk_Sync_0 n5 h14)
 else (S_fs_Disk_Sync_0 n5 h6) := by kernel_rfl
theorem S_fs_Disk_Sync_0_eq (e6 : Int) (h : AHeap) : S_fs_Disk_Sync_0 e6 h =
 some ((.lit (.int .i64 e6)), h) := (jn_eq _).trans (by kernel_rfl)
theorem S_fs_Disk_Sync_ends {d0 : AVal} {name1 : ByteArray} {h h' : AHeap} {v : AVal} {R : AEnd → AHeap → Prop} (hx : S_fs_Disk_Sync d0 name1 h = some (v, h')) (hR : HOk h → h.length ≤ h'.length → ABody.AEnds h h' (.ret v) R) : ACalls Try.prog 11 [d0, (.lit (.string name1))] h R := xfun_ends Efs_Disk_Sync_ok tmix (i := 11) (by rfl) (by kernel_rfl) (by kernel_rfl) hx hR
noncomputable def w_fs_Disk_Sync : XC := .l fun R args h K => match args with
  | [a0, .lit (.string a1)] => (S_fs_Disk_Sync a0 a1 h).bind fun r => K r.1 r.2
  | _ => none
theorem w_fs_Disk_Sync_ok : XC.Nat w_fs_Disk_Sync ∧ XC.Ok Try.prog 11 w_fs_Disk_Sync := by
  refine ⟨fun R args h K => ?_, tc11, fun args h v h' hx => ?_⟩
  · dsimp only; split <;> simp [Option.bind_assoc, mkP]
  · dsimp only at hx; split at hx
    · obtain ⟨r, hopt, hx⟩ := Option.bind_eq_some_iff.1 hx
      simp only [mkP, Option.some.injEq, Prod.mk.injEq] at hx
      obtain ⟨rfl, rfl⟩ := hx
      exact (by obtain ⟨v, h'⟩ := r; exact S_fs_Disk_Sync_ends hopt selfR)
    · cases hx
-- (*chainman/fs.Disk).Rename: function 16
noncomputable def Efs_Disk_Rename : XE := { T := tabOf [(3, r3), (4, r4), (9, r9), (26, r26), (27, r27), (43, r43), (45, r45), (53, r53)], C := [(21, w_fs_Disk_find), (26, w_fs_Right), (27, w_fs_Disk_drop)], D := [(6, ⟨[], [0, 1, 2, 3, 4, 5], [6], [], [], [], []⟩), (7, ⟨[], [0, 1, 2, 3, 4, 5, 6, 7, 8, 9], [10], [], [], [], []⟩)], Ms := [], Ml := [], Mo := [(2007, [0, 1, 2, 7, 8, 23])], n := 47 }
theorem Efs_Disk_Rename_ok : XE.Ok Efs_Disk_Rename Try.prog := ⟨tabOf_ok (⟨r3_ok, ⟨r4_ok, ⟨r9_ok, ⟨r26_ok, ⟨r27_ok, ⟨r43_ok, ⟨r45_ok, ⟨r53_ok, trivial⟩⟩⟩⟩⟩⟩⟩⟩), ⟨w_fs_Disk_find_ok, ⟨w_fs_Right_ok, ⟨w_fs_Disk_drop_ok, trivial⟩⟩⟩⟩
noncomputable def c16 : Code := bodyOf f16
noncomputable def S_fs_Disk_Rename (d0 : AVal) (from1 : ByteArray) (to2 : ByteArray) (h : AHeap) : Option (AVal × AHeap) := xfun Efs_Disk_Rename f16 [d0, (.lit (.string from1)), (.lit (.string to2))] h
noncomputable def S_fs_Disk_Rename_0 (d0 : AVal) (from1 : ByteArray) (to2 : ByteArray) (f7 : Nat) (e8 : Int) (t23 : Bool) (h : AHeap) : Option (AVal × AHeap) := jo Efs_Disk_Rename 2 (rops (ca (ca (cb (cb c16))))) ((rops (ca (ca (cb (cb c16))))).toList.drop 7) 7 [(0, d0), (1, (.lit (.string from1))), (2, (.lit (.string to2))), (7, (.ptr f7 0)), (8, (.lit (.int .i64 e8))), (23, (.lit (.bool t23)))] h (kN (kSeq Efs_Disk_Rename (cb (ca (cb (cb c16)))) (kSeq Efs_Disk_Rename (cb (cb (cb c16))) (xend Efs_Disk_Rename f16))))
theorem S_fs_Disk_Rename_eq (d0 : AVal) (from1 : ByteArray) (to2 : ByteArray) (h : AHeap) : S_fs_Disk_Rename d0 from1 to2 h =
 (req (to2.size ≤ 9223372036854775807)).bind fun _ =>
 (S_fs_Disk_find d0 from1 (rightB to2) h).bind fun r1 =>
 (xExtract r1.1 0).bind fun x2 =>
 (asA x2).bind fun xs3 =>
 (xExtract r1.1 1).bind fun x4 =>
 (asI .i64 x4).bind fun n5 =>
 (stn 2 ((psh r1.2 (.cells [(.lit (.string ({ data := #[] }))), (.lit (.int .i64 0))]))) (.ptr r1.2.length 0) xs3).bind fun h6 =>
 bif (!decide (n5 = 0)) then (S_fs_Disk_Rename_0 d0 from1 to2 r1.2.length n5 true h6)
 else (S_fs_Disk_Rename_0 d0 from1 to2 r1.2.length n5 (decide (from1 = to2)) h6) := by kernel_rfl
theorem S_fs_Disk_Rename_0_eq (d0 : AVal) (from1 : ByteArray) (to2 : ByteArray) (f7 : Nat) (e8 : Int) (t23 : Bool) (h : AHeap) : S_fs_Disk_Rename_0 d0 from1 to2 f7 e8 t23 h =
 bif t23 then (some ((.lit (.int .i64 e8)), h))
 else ((S_fs_Disk_drop d0 to2 h).bind fun r7 =>
 (S_fs_Disk_drop d0 from1 r7.2).bind fun r8 =>
 (nilCk d0).bind fun p9 =>
 (fieldP 3 p9).bind fun p10 =>
 (ld1 r8.2 p10).bind fun x11 =>
 (ldn 2 r8.2 (.ptr f7 0)).bind fun xs12 =>
 (mapSet .str r8.2 x11 (mput (.string to2) (.agg xs12))).bind fun h13 =>
 (nilCk d0).bind fun p14 =>
 (fieldP 2 p14).bind fun p15 =>
 (ld1 h13 p15).bind fun x16 =>
 (asI .i64 x16).bind fun n17 =>
 (ld1 h13 (.ptr f7 0)).bind fun x18 =>
 (asS x18).bind fun s19 =>
 (nilCk d0).bind fun p20 =>
 (fieldP 2 p20).bind fun p21 =>
 (st1 h13 p21 (.lit (.int .i64 (IntKind.wrap .i64 (n17 + (s19.size : Int)))))).bind fun h22 =>
 some ((.lit (.int .i64 0)), h22)) := (jo_eq ..).trans (by kernel_rfl)
theorem S_fs_Disk_Rename_ends {d0 : AVal} {from1 : ByteArray} {to2 : ByteArray} {h h' : AHeap} {v : AVal} {R : AEnd → AHeap → Prop} (hx : S_fs_Disk_Rename d0 from1 to2 h = some (v, h')) (hR : HOk h → h.length ≤ h'.length → ABody.AEnds h h' (.ret v) R) : ACalls Try.prog 16 [d0, (.lit (.string from1)), (.lit (.string to2))] h R := xfun_ends Efs_Disk_Rename_ok tmix (i := 16) (by rfl) (by kernel_rfl) (by kernel_rfl) hx hR
noncomputable def w_fs_Disk_Rename : XC := .l fun R args h K => match args with
  | [a0, .lit (.string a1), .lit (.string a2)] => (S_fs_Disk_Rename a0 a1 a2 h).bind fun r => K r.1 r.2
  | _ => none
theorem w_fs_Disk_Rename_ok : XC.Nat w_fs_Disk_Rename ∧ XC.Ok Try.prog 16 w_fs_Disk_Rename := by
  refine ⟨fun R args h K => ?_, tc16, fun args h v h' hx => ?_⟩
  · dsimp only; split <;> simp [Option.bind_assoc, mkP]
  · dsimp only at hx; split at hx
    · obtain ⟨r, hopt, hx⟩ := Option.bind_eq_some_iff.1 hx
      simp only [mkP, Option.some.injEq, Prod.mk.injEq] at hx
      obtain ⟨rfl, rfl⟩ := hx
      exact (by obtain ⟨v, h'⟩ := r; exact S_fs_Disk_Rename_ends hopt selfR)
    · cases hx
-- (*chainman/fs.Disk).Remove: function 17
noncomputable def Efs_Disk_Remove : XE := { T := tabOf [(3, r3), (4, r4), (9, r9), (26, r26), (27, r27), (53, r53)], C := [(21, w_fs_Disk_find), (27, w_fs_Disk_drop)], D := [], Ms := [(4, [6])], Ml := [], Mo := [], n := 19 }
theorem Efs_Disk_Remove_ok : XE.Ok Efs_Disk_Remove Try.prog := ⟨tabOf_ok (⟨r3_ok, ⟨r4_ok, ⟨r9_ok, ⟨r26_ok, ⟨r27_ok, ⟨r53_ok, trivial⟩⟩⟩⟩⟩⟩), ⟨w_fs_Disk_find_ok, ⟨w_fs_Disk_drop_ok, trivial⟩⟩⟩
noncomputable def c17 : Code := bodyOf f17
noncomputable def S_fs_Disk_Remove (d0 : AVal) (name1 : ByteArray) (h : AHeap) : Option (AVal × AHeap) := xfun Efs_Disk_Remove f17 [d0, (.lit (.string name1))] h
noncomputable def S_fs_Disk_Remove_0 (e6 : Int) (h : AHeap) : Option (AVal × AHeap) := jn (xexec Efs_Disk_Remove (cb (cb (cb c17))) (AVal × AHeap) [(6, (.lit (.int .i64 e6)))] h (xend Efs_Disk_Remove f17))
theorem S_fs_Disk_Remove_eq (d0 : AVal) (name1 : ByteArray) (h : AHeap) : S_fs_Disk_Remove d0 name1 h =
 (S_fs_Disk_find d0 name1 true h).bind fun r1 =>
 (xExtract r1.1 0).bind fun x2 =>
 (asA x2).bind fun xs3 =>
 (xExtract r1.1 1).bind fun x4 =>
 (asI .i64 x4).bind fun n5 =>
 (stn 2 ((psh r1.2 (.cells [(.lit (.string ({ data := #[] }))), (.lit (.int .i64 0))]))) (.ptr r1.2.length 0) xs3).bind fun h6 =>
 bif (decide (n5 = 0)) then ((S_fs_Disk_drop d0 name1 h6).bind fun r7 =>
 S_fs_Disk_Remove_0 n5 r7.2)
 else (S_fs_Disk_Remove_0 n5 h6) := by kernel_rfl
theorem S_fs_Disk_Remove_0_eq (e6 : Int) (h : AHeap) : S_fs_Disk_Remove_0 e6 h =
 some ((.lit (.int .i64 e6)), h) := (jn_eq _).trans (by kernel_rfl)
theorem S_fs_Disk_Remove_ends {d0 : AVal} {name1 : ByteArray} {h h' : AHeap} {v : AVal} {R : AEnd → AHeap → Prop} (hx : S_fs_Disk_Remove d0 name1 h = some (v, h')) (hR : HOk h → h.length ≤ h'.length → ABody.AEnds h h' (.ret v) R) : ACalls Try.prog 17 [d0, (.lit (.string name1))] h R := xfun_ends Efs_Disk_Remove_ok tmix (i := 17) (by rfl) (by kernel_rfl) (by kernel_rfl) hx hR
noncomputable def w_fs_Disk_Remove : XC := .l fun R args h K => match args with
  | [a0, .lit (.string a1)] => (S_fs_Disk_Remove a0 a1 h).bind fun r => K r.1 r.2
  | _ => none
theorem w_fs_Disk_Remove_ok : XC.Nat w_fs_Disk_Remove ∧ XC.Ok Try.prog 17 w_fs_Disk_Remove := by
  refine ⟨fun R args h K => ?_, tc17, fun args h v h' hx => ?_⟩
  · dsimp only; split <;> simp [Option.bind_assoc, mkP]
  · dsimp only at hx; split at hx
    · obtain ⟨r, hopt, hx⟩ := Option.bind_eq_some_iff.1 hx
      simp only [mkP, Option.some.injEq, Prod.mk.injEq] at hx
      obtain ⟨rfl, rfl⟩ := hx
      exact (by obtain ⟨v, h'⟩ := r; exact S_fs_Disk_Remove_ends hopt selfR)
    · cases hx
-- (*chainman/fs.Disk).List: function 15
noncomputable def Efs_Disk_List : XE := { T := tabOf [(4, r4), (9, r9), (22, r22), (26, r26), (27, r27)], C := [(24, w_fs_Disk_names), (25, w_fs_Disk_call)], D := [], Ms := [], Ml := [], Mo := [], n := 12 }
theorem Efs_Disk_List_ok : XE.Ok Efs_Disk_List Try.prog := ⟨tabOf_ok (⟨r4_ok, ⟨r9_ok, ⟨r22_ok, ⟨r26_ok, ⟨r27_ok, trivial⟩⟩⟩⟩⟩), ⟨w_fs_Disk_names_ok, ⟨w_fs_Disk_call_ok, trivial⟩⟩⟩
noncomputable def c15 : Code := bodyOf f15
noncomputable def S_fs_Disk_List (d0 : AVal) (h : AHeap) : Option (AVal × AHeap) := xfun Efs_Disk_List f15 [d0] h
theorem S_fs_Disk_List_eq (d0 : AVal) (h : AHeap) : S_fs_Disk_List d0 h =
 (S_fs_Disk_call d0 true h).bind fun r1 =>
 (asI .i64 r1.1).bind fun n2 =>
 bif (!decide (n2 = 0)) then (some ((.tup [(.lit (.slice none 0 0)), (.lit (.int .i64 n2))]), r1.2))
 else ((S_fs_Disk_names d0 r1.2).bind fun r3 =>
 some ((.tup [r3.1, (.lit (.int .i64 0))]), r3.2)) := by kernel_rfl
theorem S_fs_Disk_List_ends {d0 : AVal} {h h' : AHeap} {v : AVal} {R : AEnd → AHeap → Prop} (hx : S_fs_Disk_List d0 h = some (v, h')) (hR : HOk h → h.length ≤ h'.length → ABody.AEnds h h' (.ret v) R) : ACalls Try.prog 15 [d0] h R := xfun_ends Efs_Disk_List_ok tmix (i := 15) (by rfl) (by kernel_rfl) (by kernel_rfl) hx hR
noncomputable def w_fs_Disk_List : XC := .l fun R args h K => match args with
  | [a0] => (S_fs_Disk_List a0 h).bind fun r => K r.1 r.2
  | _ => none
theorem w_fs_Disk_List_ok : XC.Nat w_fs_Disk_List ∧ XC.Ok Try.prog 15 w_fs_Disk_List := by
  refine ⟨fun R args h K => ?_, tc15, fun args h v h' hx => ?_⟩
  · dsimp only; split <;> simp [Option.bind_assoc, mkP]
  · dsimp only at hx; split at hx
    · obtain ⟨r, hopt, hx⟩ := Option.bind_eq_some_iff.1 hx
      simp only [mkP, Option.some.injEq, Prod.mk.injEq] at hx
      obtain ⟨rfl, rfl⟩ := hx
      exact (by obtain ⟨v, h'⟩ := r; exact S_fs_Disk_List_ends hopt selfR)
    · cases hx
-- (*chainman/fs.Disk).Arm: function 9
noncomputable def Efs_Disk_Arm : XE := { T := tabOf [(3, r3), (4, r4), (9, r9), (26, r26), (43, r43), (45, r45), (53, r53)], C := [(22, w_fs_Disk_given)], D := [], Ms := [], Ml := [], Mo := [], n := 11 }
theorem Efs_Disk_Arm_ok : XE.Ok Efs_Disk_Arm Try.prog := ⟨tabOf_ok (⟨r3_ok, ⟨r4_ok, ⟨r9_ok, ⟨r26_ok, ⟨r43_ok, ⟨r45_ok, ⟨r53_ok, trivial⟩⟩⟩⟩⟩⟩⟩), ⟨w_fs_Disk_given_ok, trivial⟩⟩
noncomputable def c9 : Code := bodyOf f9
noncomputable def S_fs_Disk_Arm (d0 : AVal) (n1 : Int) (h : AHeap) : Option (AVal × AHeap) := xfun Efs_Disk_Arm f9 [d0, (.lit (.int .i64 n1))] h
theorem S_fs_Disk_Arm_eq (d0 : AVal) (n1 : Int) (h : AHeap) : S_fs_Disk_Arm d0 n1 h =
 (onlyR (S_fs_Disk_given d0 h) h).bind fun r1 =>
 (asB r1).bind fun b2 =>
 bif b2 then ((nilCk d0).bind fun p3 =>
 (fieldP 4 p3).bind fun p4 =>
 (st1 h p4 (.lit (.int .i64 (maxI (-1) n1)))).bind fun h5 =>
 some ((.tup []), h5))
 else (some ((.tup []), h)) := by kernel_rfl
theorem S_fs_Disk_Arm_ends {d0 : AVal} {n1 : Int} {h h' : AHeap} {v : AVal} {R : AEnd → AHeap → Prop} (hx : S_fs_Disk_Arm d0 n1 h = some (v, h')) (hR : HOk h → h.length ≤ h'.length → ABody.AEnds h h' (.ret v) R) : ACalls Try.prog 9 [d0, (.lit (.int .i64 n1))] h R := xfun_ends Efs_Disk_Arm_ok tmix (i := 9) (by rfl) (by kernel_rfl) (by kernel_rfl) hx hR
noncomputable def w_fs_Disk_Arm : XC := .l fun R args h K => match args with
  | [a0, .lit (.int .i64 a1)] => (S_fs_Disk_Arm a0 a1 h).bind fun r => K r.1 r.2
  | _ => none
theorem w_fs_Disk_Arm_ok : XC.Nat w_fs_Disk_Arm ∧ XC.Ok Try.prog 9 w_fs_Disk_Arm := by
  refine ⟨fun R args h K => ?_, tc9, fun args h v h' hx => ?_⟩
  · dsimp only; split <;> simp [Option.bind_assoc, mkP]
  · dsimp only at hx; split at hx
    · obtain ⟨r, hopt, hx⟩ := Option.bind_eq_some_iff.1 hx
      simp only [mkP, Option.some.injEq, Prod.mk.injEq] at hx
      obtain ⟨rfl, rfl⟩ := hx
      exact (by obtain ⟨v, h'⟩ := r; exact S_fs_Disk_Arm_ends hopt selfR)
    · cases hx
-- (*chainman/fs.Disk).Rise: function 12
noncomputable def Efs_Disk_Rise : XE := { T := tabOf [(3, r3), (4, r4), (9, r9), (22, r22), (24, r24), (26, r26), (43, r43), (45, r45), (53, r53)], C := [(22, w_fs_Disk_given), (24, w_fs_Disk_names)], D := [(6, ⟨[], [0, 1, 2, 3, 4, 5, 6, 7, 8, 9, 10, 11, 12], [], [], [], [], []⟩), (8, ⟨[], [0, 1, 2, 3, 4, 5, 6, 7, 8, 9, 10, 11, 12], [13], [], [], [], []⟩), (10, ⟨[], [0, 1, 2, 3, 4, 5], [6], [], [], [], []⟩)], Ms := [(7, [0, 1, 5, 6, 7, 12, 13, 14]), (12, [0])], Ml := [(2, [0, 1, 12, 13, 14])], Mo := [], n := 78 }
theorem Efs_Disk_Rise_ok : XE.Ok Efs_Disk_Rise Try.prog := ⟨tabOf_ok (⟨r3_ok, ⟨r4_ok, ⟨r9_ok, ⟨r22_ok, ⟨r24_ok, ⟨r26_ok, ⟨r43_ok, ⟨r45_ok, ⟨r53_ok, trivial⟩⟩⟩⟩⟩⟩⟩⟩⟩), ⟨w_fs_Disk_given_ok, ⟨w_fs_Disk_names_ok, trivial⟩⟩⟩
noncomputable def c12 : Code := bodyOf f12
noncomputable def S_fs_Disk_Rise (d0 : AVal) (keep1 : AVal) (h : AHeap) : Option (AVal × AHeap) := xfun Efs_Disk_Rise f12 [d0, keep1] h
noncomputable def S_fs_Disk_Rise_0 (d0 : AVal) (keep1 : AVal) (t12 : AVal) (t13 : Int) (t14 : Int) (h : AHeap) : Option (AVal × AHeap) := xexec Efs_Disk_Rise (.loop (ca (ca (cb (ca (cb c12)))))) (AVal × AHeap) [(0, d0), (1, keep1), (12, t12), (13, (.lit (.int .i64 t13))), (14, (.lit (.int .i64 t14)))] h (kBlk 0 (kSeq Efs_Disk_Rise (cb (cb c12)) (xend Efs_Disk_Rise f12)))
noncomputable def S_fs_Disk_Rise_1 (d0 : AVal) (keep1 : AVal) (name5 : ByteArray) (f6 : Nat) (n7 : Int) (t12 : AVal) (t13 : Int) (t14 : Int) (h : AHeap) : Option (AVal × AHeap) := jn (xexec Efs_Disk_Rise (cb (cb (cb (ca (ca (cb (cb (ca (ca (cb (ca (cb c12)))))))))))) (AVal × AHeap) [(0, d0), (1, keep1), (5, (.lit (.string name5))), (6, (.ptr f6 0)), (7, (.lit (.int .i64 n7))), (12, t12), (13, (.lit (.int .i64 t13))), (14, (.lit (.int .i64 t14)))] h (kBlk 1 (kSeq Efs_Disk_Rise (cb (cb (cb (ca (ca (cb (ca (cb c12)))))))) (kLoop Efs_Disk_Rise (ca (ca (cb (ca (cb c12))))) (kBlk 0 (kSeq Efs_Disk_Rise (cb (cb c12)) (xend Efs_Disk_Rise f12)))))))
noncomputable def S_fs_Disk_Rise_2 (d0 : AVal) (h : AHeap) : Option (AVal × AHeap) := jn (xexec Efs_Disk_Rise (cb (cb c12)) (AVal × AHeap) [(0, d0)] h (xend Efs_Disk_Rise f12))
theorem S_fs_Disk_Rise_eq (d0 : AVal) (keep1 : AVal) (h : AHeap) : S_fs_Disk_Rise d0 keep1 h =
 (onlyR (S_fs_Disk_given d0 h) h).bind fun r1 =>
 (asB r1).bind fun b2 =>
 bif (!b2) then (some ((.tup []), h))
 else ((S_fs_Disk_names d0 h).bind fun r3 =>
 (lenV r3.1).bind fun n4 =>
 S_fs_Disk_Rise_0 d0 keep1 r3.1 n4 0 r3.2) := by kernel_rfl
theorem S_fs_Disk_Rise_0_eq (d0 : AVal) (keep1 : AVal) (t12 : AVal) (t13 : Int) (t14 : Int) (h : AHeap) : S_fs_Disk_Rise_0 d0 keep1 t12 t13 t14 h =
 bif (decide (t14 < t13)) then ((idxP 1 t12 t14).bind fun p5 =>
 (ld1 h p5).bind fun x6 =>
 (asS x6).bind fun s7 =>
 (nilCk d0).bind fun p8 =>
 (fieldP 3 p8).bind fun p9 =>
 (ld1 h p9).bind fun x10 =>
 (mapAt .str h x10).bind fun es11 =>
 (asA ((mlook (.agg ([(.lit (.string ({ data := #[] }))), (.lit (.int .i64 0))])) (.string s7) es11).1)).bind fun xs12 =>
 (stn 2 ((psh h (.cells [(.lit (.string ({ data := #[] }))), (.lit (.int .i64 0))]))) (.ptr h.length 0) xs12).bind fun h13 =>
 (lenV keep1).bind fun n14 =>
 bif (decide (t14 < n14)) then ((idxP 1 keep1 t14).bind fun p15 =>
 (ld1 h13 p15).bind fun x16 =>
 (asI .i64 x16).bind fun n17 =>
 (ld1 h13 (.ptr h.length 0)).bind fun x18 =>
 (asS x18).bind fun s19 =>
 (ld1 h13 (.ptr h.length 1)).bind fun x20 =>
 (asI .i64 x20).bind fun n21 =>
 S_fs_Disk_Rise_1 d0 keep1 s7 h.length (maxI 0 (minI n17 (IntKind.wrap .i64 ((s19.size : Int) - n21)))) t12 t13 t14 h13)
 else (S_fs_Disk_Rise_1 d0 keep1 s7 h.length 0 t12 t13 t14 h13))
 else (S_fs_Disk_Rise_2 d0 h) := (xexec_loop Efs_Disk_Rise Efs_Disk_Rise_ok.C.nat _ _ _ _ _).trans (by kernel_rfl)
theorem S_fs_Disk_Rise_1_eq (d0 : AVal) (keep1 : AVal) (name5 : ByteArray) (f6 : Nat) (n7 : Int) (t12 : AVal) (t13 : Int) (t14 : Int) (h : AHeap) : S_fs_Disk_Rise_1 d0 keep1 name5 f6 n7 t12 t13 t14 h =
 (ld1 h (.ptr f6 1)).bind fun x22 =>
 (asI .i64 x22).bind fun n23 =>
 (st1 h (.ptr f6 1) (.lit (.int .i64 (IntKind.wrap .i64 (n23 + n7))))).bind fun h24 =>
 (nilCk d0).bind fun p25 =>
 (fieldP 2 p25).bind fun p26 =>
 (ld1 h24 p26).bind fun x27 =>
 (asI .i64 x27).bind fun n28 =>
 (ld1 h24 (.ptr f6 0)).bind fun x29 =>
 (asS x29).bind fun s30 =>
 (ld1 h24 (.ptr f6 1)).bind fun x31 =>
 (asI .i64 x31).bind fun n32 =>
 (nilCk d0).bind fun p33 =>
 (fieldP 2 p33).bind fun p34 =>
 (st1 h24 p34 (.lit (.int .i64 (IntKind.wrap .i64 (n28 - (IntKind.wrap .i64 ((s30.size : Int) - n32))))))).bind fun h35 =>
 (ld1 h35 (.ptr f6 0)).bind fun x36 =>
 (asS x36).bind fun s37 =>
 (ld1 h35 (.ptr f6 1)).bind fun x38 =>
 (asI .i64 x38).bind fun n39 =>
 (cutS s37 0 n39).bind fun s40 =>
 (st1 h35 (.ptr f6 0) (.lit (.string s40))).bind fun h41 =>
 (nilCk d0).bind fun p42 =>
 (fieldP 3 p42).bind fun p43 =>
 (ld1 h41 p43).bind fun x44 =>
 (ldn 2 h41 (.ptr f6 0)).bind fun xs45 =>
 (mapSet .str h41 x44 (mput (.string name5) (.agg xs45))).bind fun h46 =>
 S_fs_Disk_Rise_0 d0 keep1 t12 t13 (IntKind.wrap .i64 (t14 + 1)) h46 := (jn_eq _).trans (by kernel_rfl)
theorem S_fs_Disk_Rise_2_eq (d0 : AVal) (h : AHeap) : S_fs_Disk_Rise_2 d0 h =
 (nilCk d0).bind fun p47 =>
 (fieldP 4 p47).bind fun p48 =>
 (st1 h p48 (.lit (.int .i64 (-1)))).bind fun h49 =>
 (nilCk d0).bind fun p50 =>
 (fieldP 5 p50).bind fun p51 =>
 (st1 h49 p51 (.lit (.bool false))).bind fun h52 =>
 some ((.tup []), h52) := (jn_eq _).trans (by kernel_rfl)
theorem S_fs_Disk_Rise_ends {d0 : AVal} {keep1 : AVal} {h h' : AHeap} {v : AVal} {R : AEnd → AHeap → Prop} (hx : S_fs_Disk_Rise d0 keep1 h = some (v, h')) (hR : HOk h → h.length ≤ h'.length → ABody.AEnds h h' (.ret v) R) : ACalls Try.prog 12 [d0, keep1] h R := xfun_ends Efs_Disk_Rise_ok tmix (i := 12) (by rfl) (by kernel_rfl) (by kernel_rfl) hx hR
noncomputable def w_fs_Disk_Rise : XC := .l fun R args h K => match args with
  | [a0, a1] => (S_fs_Disk_Rise a0 a1 h).bind fun r => K r.1 r.2
  | _ => none
theorem w_fs_Disk_Rise_ok : XC.Nat w_fs_Disk_Rise ∧ XC.Ok Try.prog 12 w_fs_Disk_Rise := by
  refine ⟨fun R args h K => ?_, tc12, fun args h v h' hx => ?_⟩
  · dsimp only; split <;> simp [Option.bind_assoc, mkP]
  · dsimp only at hx; split at hx
    · obtain ⟨r, hopt, hx⟩ := Option.bind_eq_some_iff.1 hx
      simp only [mkP, Option.some.injEq, Prod.mk.injEq] at hx
      obtain ⟨rfl, rfl⟩ := hx
      exact (by obtain ⟨v, h'⟩ := r; exact S_fs_Disk_Rise_ends hopt selfR)
    · cases hx
-- (*chainman/fs.Disk).Turn: function 18
noncomputable def Efs_Disk_Turn : XE := { T := tabOf [(3, r3), (4, r4), (5, r5), (9, r9), (26, r26), (40, r40), (43, r43), (45, r45), (53, r53), (62, r62)], C := [(22, w_fs_Disk_given)], D := [(12, ⟨[], [0, 1, 2, 3, 4, 5, 6, 7, 8, 9, 10], [11], [], [], [], []⟩), (15, ⟨[], [0, 1, 2, 3, 4, 5], [6], [], [], [], []⟩)], Ms := [(13, [0, 1, 2, 3, 9, 11, 35]), (14, [0, 1, 9, 11])], Ml := [(8, [0, 1, 2, 3, 9, 11, 35])], Mo := [(1007, [0, 1, 2, 3, 20]), (11011, [0, 1, 2, 3, 9, 11, 12, 13, 35, 56])], n := 78 }
theorem Efs_Disk_Turn_ok : XE.Ok Efs_Disk_Turn Try.prog := ⟨tabOf_ok (⟨r3_ok, ⟨r4_ok, ⟨r5_ok, ⟨r9_ok, ⟨r26_ok, ⟨r40_ok, ⟨r43_ok, ⟨r45_ok, ⟨r53_ok, ⟨r62_ok, trivial⟩⟩⟩⟩⟩⟩⟩⟩⟩⟩), ⟨w_fs_Disk_given_ok, trivial⟩⟩
noncomputable def c18 : Code := bodyOf f18
noncomputable def S_fs_Disk_Turn (d0 : AVal) (name1 : ByteArray) (at2 : Int) (bits3 : Int) (h : AHeap) : Option (AVal × AHeap) := xfun Efs_Disk_Turn f18 [d0, (.lit (.string name1)), (.lit (.int .i64 at2)), (.lit (.int .u32 bits3))] h
noncomputable def S_fs_Disk_Turn_0 (d0 : AVal) (name1 : ByteArray) (at2 : Int) (bits3 : Int) (t20 : Bool) (h : AHeap) : Option (AVal × AHeap) := jo Efs_Disk_Turn 1 (rops (ca (ca (cb c18)))) ((rops (ca (ca (cb c18)))).toList.drop 7) 7 [(0, d0), (1, (.lit (.string name1))), (2, (.lit (.int .i64 at2))), (3, (.lit (.int .u32 bits3))), (20, (.lit (.bool t20)))] h (kN (kSeq Efs_Disk_Turn (cb (ca (cb c18))) (kSeq Efs_Disk_Turn (cb (cb c18)) (xend Efs_Disk_Turn f18))))
noncomputable def S_fs_Disk_Turn_1 (d0 : AVal) (name1 : ByteArray) (at2 : Int) (bits3 : Int) (f9 : Nat) (b11 : AVal) (t35 : Int) (h : AHeap) : Option (AVal × AHeap) := xexec Efs_Disk_Turn (.loop (ca (ca (cb (ca (cb (cb (cb (cb (cb c18)))))))))) (AVal × AHeap) [(0, d0), (1, (.lit (.string name1))), (2, (.lit (.int .i64 at2))), (3, (.lit (.int .u32 bits3))), (9, (.ptr f9 0)), (11, b11), (35, (.lit (.int .i64 t35)))] h (kBlk 0 (kSeq Efs_Disk_Turn (cb (cb (cb (cb (cb (cb c18)))))) (xend Efs_Disk_Turn f18)))
noncomputable def S_fs_Disk_Turn_2 (d0 : AVal) (name1 : ByteArray) (at2 : Int) (bits3 : Int) (f9 : Nat) (b11 : AVal) (k12 : Int) (i13 : Int) (t35 : Int) (t56 : Bool) (h : AHeap) : Option (AVal × AHeap) := jo Efs_Disk_Turn 11 (rops (ca (cb (cb (ca (ca (cb (cb (ca (ca (cb (ca (cb (cb (cb (cb (cb c18))))))))))))))))) ((rops (ca (cb (cb (ca (ca (cb (cb (ca (ca (cb (ca (cb (cb (cb (cb (cb c18))))))))))))))))).toList.drop 11) 11 [(0, d0), (1, (.lit (.string name1))), (2, (.lit (.int .i64 at2))), (3, (.lit (.int .u32 bits3))), (9, (.ptr f9 0)), (11, b11), (12, (.lit (.int .i64 k12))), (13, (.lit (.int .i64 i13))), (35, (.lit (.int .i64 t35))), (56, (.lit (.bool t56)))] h (kN (kSeq Efs_Disk_Turn (cb (cb (cb (ca (ca (cb (cb (ca (ca (cb (ca (cb (cb (cb (cb (cb c18)))))))))))))))) (kBlk 1 (kSeq Efs_Disk_Turn (cb (cb (cb (ca (ca (cb (ca (cb (cb (cb (cb (cb c18)))))))))))) (kLoop Efs_Disk_Turn (ca (ca (cb (ca (cb (cb (cb (cb (cb c18))))))))) (kBlk 0 (kSeq Efs_Disk_Turn (cb (cb (cb (cb (cb (cb c18)))))) (xend Efs_Disk_Turn f18))))))))
noncomputable def S_fs_Disk_Turn_3 (d0 : AVal) (name1 : ByteArray) (f9 : Nat) (b11 : AVal) (h : AHeap) : Option (AVal × AHeap) := jn (xexec Efs_Disk_Turn (cb (cb (cb (cb (cb (cb c18)))))) (AVal × AHeap) [(0, d0), (1, (.lit (.string name1))), (9, (.ptr f9 0)), (11, b11)] h (xend Efs_Disk_Turn f18))
noncomputable def S_fs_Disk_Turn_4 (d0 : AVal) (name1 : ByteArray) (at2 : Int) (bits3 : Int) (f9 : Nat) (b11 : AVal) (t35 : Int) (h : AHeap) : Option (AVal × AHeap) := jn (xexec Efs_Disk_Turn (cb (cb (cb (ca (ca (cb (ca (cb (cb (cb (cb (cb c18)))))))))))) (AVal × AHeap) [(0, d0), (1, (.lit (.string name1))), (2, (.lit (.int .i64 at2))), (3, (.lit (.int .u32 bits3))), (9, (.ptr f9 0)), (11, b11), (35, (.lit (.int .i64 t35)))] h (kLoop Efs_Disk_Turn (ca (ca (cb (ca (cb (cb (cb (cb (cb c18))))))))) (kBlk 0 (kSeq Efs_Disk_Turn (cb (cb (cb (cb (cb (cb c18)))))) (xend Efs_Disk_Turn f18)))))
theorem S_fs_Disk_Turn_eq (d0 : AVal) (name1 : ByteArray) (at2 : Int) (bits3 : Int) (h : AHeap) : S_fs_Disk_Turn d0 name1 at2 bits3 h =
 (onlyR (S_fs_Disk_given d0 h) h).bind fun r1 =>
 (asB r1).bind fun b2 =>
 bif (!b2) then (S_fs_Disk_Turn_0 d0 name1 at2 bits3 true h)
 else (S_fs_Disk_Turn_0 d0 name1 at2 bits3 (decide (at2 < 0)) h) := by kernel_rfl
theorem S_fs_Disk_Turn_0_eq (d0 : AVal) (name1 : ByteArray) (at2 : Int) (bits3 : Int) (t20 : Bool) (h : AHeap) : S_fs_Disk_Turn_0 d0 name1 at2 bits3 t20 h =
 bif t20 then (some ((.lit (.bool false)), h))
 else ((nilCk d0).bind fun p3 =>
 (fieldP 3 p3).bind fun p4 =>
 (ld1 h p4).bind fun x5 =>
 (mapAt .str h x5).bind fun es6 =>
 (asA ((mlook (.agg ([(.lit (.string ({ data := #[] }))), (.lit (.int .i64 0))])) (.string name1) es6).1)).bind fun xs7 =>
 (stn 2 ((psh h (.cells [(.lit (.string ({ data := #[] }))), (.lit (.int .i64 0))]))) (.ptr h.length 0) xs7).bind fun h8 =>
 bif (!((mlook (.agg ([(.lit (.string ({ data := #[] }))), (.lit (.int .i64 0))])) (.string name1) es6).2)) then (some ((.lit (.bool false)), h8))
 else ((ld1 h8 (.ptr h.length 0)).bind fun x9 =>
 (asS x9).bind fun s10 =>
 S_fs_Disk_Turn_1 d0 name1 at2 bits3 h.length (.sl 1 h8.length 0 s10.size) 0 ((psh h8 (.cells ((s10).data.toList.map byteV)))))) := (jo_eq ..).trans (by kernel_rfl)
theorem S_fs_Disk_Turn_1_eq (d0 : AVal) (name1 : ByteArray) (at2 : Int) (bits3 : Int) (f9 : Nat) (b11 : AVal) (t35 : Int) (h : AHeap) : S_fs_Disk_Turn_1 d0 name1 at2 bits3 f9 b11 t35 h =
 bif (decide (t35 < 32)) then ((req (0 ≤ t35)).bind fun u11 =>
 bif (decide ((andI .u32 (shrI .u32 bits3 t35) 1) = 1)) then ((lenV b11).bind fun n12 =>
 S_fs_Disk_Turn_2 d0 name1 at2 bits3 f9 b11 t35 (IntKind.wrap .i64 ((IntKind.wrap .i64 ((at2).tdiv 8)) + (IntKind.wrap .i64 ((IntKind.wrap .i64 (((at2).tmod 8) + t35)).tdiv 8)))) t35 (decide ((IntKind.wrap .i64 ((IntKind.wrap .i64 ((at2).tdiv 8)) + (IntKind.wrap .i64 ((IntKind.wrap .i64 (((at2).tmod 8) + t35)).tdiv 8)))) < n12)) h)
 else (S_fs_Disk_Turn_2 d0 name1 at2 bits3 f9 b11 t35 (IntKind.wrap .i64 ((IntKind.wrap .i64 ((at2).tdiv 8)) + (IntKind.wrap .i64 ((IntKind.wrap .i64 (((at2).tmod 8) + t35)).tdiv 8)))) t35 false h))
 else (S_fs_Disk_Turn_3 d0 name1 f9 b11 h) := (xexec_loop Efs_Disk_Turn Efs_Disk_Turn_ok.C.nat _ _ _ _ _).trans (by kernel_rfl)
theorem S_fs_Disk_Turn_2_eq (d0 : AVal) (name1 : ByteArray) (at2 : Int) (bits3 : Int) (f9 : Nat) (b11 : AVal) (k12 : Int) (i13 : Int) (t35 : Int) (t56 : Bool) (h : AHeap) : S_fs_Disk_Turn_2 d0 name1 at2 bits3 f9 b11 k12 i13 t35 t56 h =
 bif t56 then ((idxP 1 b11 i13).bind fun p13 =>
 (ld1 h p13).bind fun x14 =>
 (asI .u8 x14).bind fun n15 =>
 (req (0 ≤ (andI .i64 (IntKind.wrap .i64 (at2 + k12)) 7))).bind fun u16 =>
 (idxP 1 b11 i13).bind fun p17 =>
 (st1 h p17 (.lit (.int .u8 (xorI .u8 n15 (shlI .u8 1 (andI .i64 (IntKind.wrap .i64 (at2 + k12)) 7)))))).bind fun h18 =>
 S_fs_Disk_Turn_4 d0 name1 at2 bits3 f9 b11 t35 h18)
 else (S_fs_Disk_Turn_4 d0 name1 at2 bits3 f9 b11 t35 h) := (jo_eq ..).trans (by kernel_rfl)
theorem S_fs_Disk_Turn_3_eq (d0 : AVal) (name1 : ByteArray) (f9 : Nat) (b11 : AVal) (h : AHeap) : S_fs_Disk_Turn_3 d0 name1 f9 b11 h =
 (bytesOf h b11).bind fun s19 =>
 (st1 h (.ptr f9 0) (.lit (.string s19))).bind fun h20 =>
 (nilCk d0).bind fun p21 =>
 (fieldP 3 p21).bind fun p22 =>
 (ld1 h20 p22).bind fun x23 =>
 (ldn 2 h20 (.ptr f9 0)).bind fun xs24 =>
 (mapSet .str h20 x23 (mput (.string name1) (.agg xs24))).bind fun h25 =>
 some ((.lit (.bool true)), h25) := (jn_eq _).trans (by kernel_rfl)
theorem S_fs_Disk_Turn_4_eq (d0 : AVal) (name1 : ByteArray) (at2 : Int) (bits3 : Int) (f9 : Nat) (b11 : AVal) (t35 : Int) (h : AHeap) : S_fs_Disk_Turn_4 d0 name1 at2 bits3 f9 b11 t35 h =
 S_fs_Disk_Turn_1 d0 name1 at2 bits3 f9 b11 (IntKind.wrap .i64 (t35 + 1)) h := (jn_eq _).trans (by kernel_rfl)
theorem S_fs_Disk_Turn_ends {d0 : AVal} {name1 : ByteArray} {at2 : Int} {bits3 : Int} {h h' : AHeap} {v : AVal} {R : AEnd → AHeap → Prop} (hx : S_fs_Disk_Turn d0 name1 at2 bits3 h = some (v, h')) (hR : HOk h → h.length ≤ h'.length → ABody.AEnds h h' (.ret v) R) : ACalls Try.prog 18 [d0, (.lit (.string name1)), (.lit (.int .i64 at2)), (.lit (.int .u32 bits3))] h R := xfun_ends Efs_Disk_Turn_ok tmix (i := 18) (by rfl) (by kernel_rfl) (by kernel_rfl) hx hR
noncomputable def w_fs_Disk_Turn : XC := .l fun R args h K => match args with
  | [a0, .lit (.string a1), .lit (.int .i64 a2), .lit (.int .u32 a3)] => (S_fs_Disk_Turn a0 a1 a2 a3 h).bind fun r => K r.1 r.2
  | _ => none
theorem w_fs_Disk_Turn_ok : XC.Nat w_fs_Disk_Turn ∧ XC.Ok Try.prog 18 w_fs_Disk_Turn := by
  refine ⟨fun R args h K => ?_, tc18, fun args h v h' hx => ?_⟩
  · dsimp only; split <;> simp [Option.bind_assoc, mkP]
  · dsimp only at hx; split at hx
    · obtain ⟨r, hopt, hx⟩ := Option.bind_eq_some_iff.1 hx
      simp only [mkP, Option.some.injEq, Prod.mk.injEq] at hx
      obtain ⟨rfl, rfl⟩ := hx
      exact (by obtain ⟨v, h'⟩ := r; exact S_fs_Disk_Turn_ends hopt selfR)
    · cases hx
-- (*chainman/fs.Disk).Calls: function 19
noncomputable def Efs_Disk_Calls : XE := { T := tabOf [(3, r3), (4, r4), (9, r9), (26, r26), (43, r43), (45, r45), (53, r53)], C := [(22, w_fs_Disk_given)], D := [], Ms := [], Ml := [], Mo := [], n := 10 }
theorem Efs_Disk_Calls_ok : XE.Ok Efs_Disk_Calls Try.prog := ⟨tabOf_ok (⟨r3_ok, ⟨r4_ok, ⟨r9_ok, ⟨r26_ok, ⟨r43_ok, ⟨r45_ok, ⟨r53_ok, trivial⟩⟩⟩⟩⟩⟩⟩), ⟨w_fs_Disk_given_ok, trivial⟩⟩
noncomputable def c19 : Code := bodyOf f19
noncomputable def S_fs_Disk_Calls (d0 : AVal) (h : AHeap) : Option (AVal × AHeap) := xfun Efs_Disk_Calls f19 [d0] h
theorem S_fs_Disk_Calls_eq (d0 : AVal) (h : AHeap) : S_fs_Disk_Calls d0 h =
 (onlyR (S_fs_Disk_given d0 h) h).bind fun r1 =>
 (asB r1).bind fun b2 =>
 bif (!b2) then (some ((.lit (.int .i64 0)), h))
 else ((nilCk d0).bind fun p3 =>
 (fieldP 6 p3).bind fun p4 =>
 (ld1 h p4).bind fun x5 =>
 (asI .i64 x5).bind fun n6 =>
 some ((.lit (.int .i64 n6)), h)) := by kernel_rfl
theorem S_fs_Disk_Calls_ends {d0 : AVal} {h h' : AHeap} {v : AVal} {R : AEnd → AHeap → Prop} (hx : S_fs_Disk_Calls d0 h = some (v, h')) (hR : HOk h → h.length ≤ h'.length → ABody.AEnds h h' (.ret v) R) : ACalls Try.prog 19 [d0] h R := xfun_ends Efs_Disk_Calls_ok tmix (i := 19) (by rfl) (by kernel_rfl) (by kernel_rfl) hx hR
noncomputable def w_fs_Disk_Calls : XC := .l fun R args h K => match args with
  | [a0] => (S_fs_Disk_Calls a0 h).bind fun r => K r.1 r.2
  | _ => none
theorem w_fs_Disk_Calls_ok : XC.Nat w_fs_Disk_Calls ∧ XC.Ok Try.prog 19 w_fs_Disk_Calls := by
  refine ⟨fun R args h K => ?_, tc19, fun args h v h' hx => ?_⟩
  · dsimp only; split <;> simp [Option.bind_assoc, mkP]
  · dsimp only at hx; split at hx
    · obtain ⟨r, hopt, hx⟩ := Option.bind_eq_some_iff.1 hx
      simp only [mkP, Option.some.injEq, Prod.mk.injEq] at hx
      obtain ⟨rfl, rfl⟩ := hx
      exact (by obtain ⟨v, h'⟩ := r; exact S_fs_Disk_Calls_ends hopt selfR)
    · cases hx
-- (*chainman/fs.Disk).Used: function 20
noncomputable def Efs_Disk_Used : XE := { T := tabOf [(3, r3), (4, r4), (9, r9), (26, r26), (43, r43), (45, r45), (53, r53)], C := [(22, w_fs_Disk_given)], D := [], Ms := [], Ml := [], Mo := [], n := 10 }
theorem Efs_Disk_Used_ok : XE.Ok Efs_Disk_Used Try.prog := ⟨tabOf_ok (⟨r3_ok, ⟨r4_ok, ⟨r9_ok, ⟨r26_ok, ⟨r43_ok, ⟨r45_ok, ⟨r53_ok, trivial⟩⟩⟩⟩⟩⟩⟩), ⟨w_fs_Disk_given_ok, trivial⟩⟩
noncomputable def c20 : Code := bodyOf f20
noncomputable def S_fs_Disk_Used (d0 : AVal) (h : AHeap) : Option (AVal × AHeap) := xfun Efs_Disk_Used f20 [d0] h
theorem S_fs_Disk_Used_eq (d0 : AVal) (h : AHeap) : S_fs_Disk_Used d0 h =
 (onlyR (S_fs_Disk_given d0 h) h).bind fun r1 =>
 (asB r1).bind fun b2 =>
 bif (!b2) then (some ((.lit (.int .i64 0)), h))
 else ((nilCk d0).bind fun p3 =>
 (fieldP 2 p3).bind fun p4 =>
 (ld1 h p4).bind fun x5 =>
 (asI .i64 x5).bind fun n6 =>
 some ((.lit (.int .i64 n6)), h)) := by kernel_rfl
theorem S_fs_Disk_Used_ends {d0 : AVal} {h h' : AHeap} {v : AVal} {R : AEnd → AHeap → Prop} (hx : S_fs_Disk_Used d0 h = some (v, h')) (hR : HOk h → h.length ≤ h'.length → ABody.AEnds h h' (.ret v) R) : ACalls Try.prog 20 [d0] h R := xfun_ends Efs_Disk_Used_ok tmix (i := 20) (by rfl) (by kernel_rfl) (by kernel_rfl) hx hR
noncomputable def w_fs_Disk_Used : XC := .l fun R args h K => match args with
  | [a0] => (S_fs_Disk_Used a0 h).bind fun r => K r.1 r.2
  | _ => none
theorem w_fs_Disk_Used_ok : XC.Nat w_fs_Disk_Used ∧ XC.Ok Try.prog 20 w_fs_Disk_Used := by
  refine ⟨fun R args h K => ?_, tc20, fun args h v h' hx => ?_⟩
  · dsimp only; split <;> simp [Option.bind_assoc, mkP]
  · dsimp only at hx; split at hx
    · obtain ⟨r, hopt, hx⟩ := Option.bind_eq_some_iff.1 hx
      simp only [mkP, Option.some.injEq, Prod.mk.injEq] at hx
      obtain ⟨rfl, rfl⟩ := hx
      exact (by obtain ⟨v, h'⟩ := r; exact S_fs_Disk_Used_ends hopt selfR)
    · cases hx
noncomputable def w_maps_Clone_map_string_fs_file_string_fs_file : XC := .l fun R args h K => match args with
  | [m] => (mapOf h m).bind fun r => K (.map h.length) (psh h (.map r.1 r.2))
  | _ => none
theorem w_maps_Clone_map_string_fs_file_string_fs_file_ok : XC.Nat w_maps_Clone_map_string_fs_file_string_fs_file ∧ XC.Ok Try.prog 23 w_maps_Clone_map_string_fs_file_string_fs_file := by
  refine ⟨fun R args h K => ?_, tc23, fun args h v h' hx => ?_⟩
  · dsimp only; split <;> simp [Option.bind_assoc, mkP]
  · dsimp only at hx; split at hx
    · obtain ⟨r, hopt, hx⟩ := Option.bind_eq_some_iff.1 hx
      simp only [mkP, Option.some.injEq, Prod.mk.injEq] at hx
      obtain ⟨rfl, rfl⟩ := hx
      exact mapsClone_of hopt
    · cases hx
-- (*chainman/fs.Disk).Clone: function 8
noncomputable def Efs_Disk_Clone : XE := { T := tabOf [(3, r3), (4, r4), (9, r9), (26, r26), (43, r43), (45, r45), (53, r53)], C := [(22, w_fs_Disk_given), (23, w_maps_Clone_map_string_fs_file_string_fs_file)], D := [], Ms := [], Ml := [], Mo := [], n := 16 }
theorem Efs_Disk_Clone_ok : XE.Ok Efs_Disk_Clone Try.prog := ⟨tabOf_ok (⟨r3_ok, ⟨r4_ok, ⟨r9_ok, ⟨r26_ok, ⟨r43_ok, ⟨r45_ok, ⟨r53_ok, trivial⟩⟩⟩⟩⟩⟩⟩), ⟨w_fs_Disk_given_ok, ⟨w_maps_Clone_map_string_fs_file_string_fs_file_ok, trivial⟩⟩⟩
noncomputable def c8 : Code := bodyOf f8
noncomputable def S_fs_Disk_Clone (d0 : AVal) (h : AHeap) : Option (AVal × AHeap) := xfun Efs_Disk_Clone f8 [d0] h
theorem S_fs_Disk_Clone_eq (d0 : AVal) (h : AHeap) : S_fs_Disk_Clone d0 h =
 (onlyR (S_fs_Disk_given d0 h) h).bind fun r1 =>
 (asB r1).bind fun b2 =>
 bif (!b2) then (some ((.lit (.pointer none)), h))
 else ((nilCk d0).bind fun p3 =>
 (ldn 7 h p3).bind fun xs4 =>
 (stn 7 ((psh h (.cells [(.lit (.bool false)), (.lit (.int .i64 0)), (.lit (.int .i64 0)), (.lit (.map none)), (.lit (.int .i64 0)), (.lit (.bool false)), (.lit (.int .i64 0))]))) (.ptr h.length 0) xs4).bind fun h5 =>
 (nilCk d0).bind fun p6 =>
 (fieldP 3 p6).bind fun p7 =>
 (ld1 h5 p7).bind fun x8 =>
 (mapOf h5 x8).bind fun r9 =>
 (st1 (psh h5 (.map r9.1 r9.2)) (.ptr h.length 3) (.map h5.length)).bind fun h10 =>
 some ((.ptr h.length 0), h10)) := by kernel_rfl
theorem S_fs_Disk_Clone_ends {d0 : AVal} {h h' : AHeap} {v : AVal} {R : AEnd → AHeap → Prop} (hx : S_fs_Disk_Clone d0 h = some (v, h')) (hR : HOk h → h.length ≤ h'.length → ABody.AEnds h h' (.ret v) R) : ACalls Try.prog 8 [d0] h R := xfun_ends Efs_Disk_Clone_ok tmix (i := 8) (by rfl) (by kernel_rfl) (by kernel_rfl) hx hR
noncomputable def w_fs_Disk_Clone : XC := .l fun R args h K => match args with
  | [a0] => (S_fs_Disk_Clone a0 h).bind fun r => K r.1 r.2
  | _ => none
theorem w_fs_Disk_Clone_ok : XC.Nat w_fs_Disk_Clone ∧ XC.Ok Try.prog 8 w_fs_Disk_Clone := by
  refine ⟨fun R args h K => ?_, tc8, fun args h v h' hx => ?_⟩
  · dsimp only; split <;> simp [Option.bind_assoc, mkP]
  · dsimp only at hx; split at hx
    · obtain ⟨r, hopt, hx⟩ := Option.bind_eq_some_iff.1 hx
      simp only [mkP, Option.some.injEq, Prod.mk.injEq] at hx
      obtain ⟨rfl, rfl⟩ := hx
      exact (by obtain ⟨v, h'⟩ := r; exact S_fs_Disk_Clone_ends hopt selfR)
    · cases hx
end Go.Proofs.Ytglmofbcooefkaa.AL
