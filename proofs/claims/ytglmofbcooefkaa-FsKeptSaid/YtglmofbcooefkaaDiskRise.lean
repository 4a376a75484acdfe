/- The disk: names, rising again, copies, new ones. -/
import Derived.Test.YtglmofbcooefkaaDiskOps
import Derived.Test.YtglmofbcooefkaaSeq
namespace Go.Proofs.Ytglmofbcooefkaa.AL
set_option linter.unusedVariables false
set_option linter.unusedSimpArgs false
set_option maxRecDepth 100000
open Go
open Go.Proofs.Try

section ops
variable {h0 h : AHeap} {d mb : Nat} {D : Dsk} {l : List File}
def namesOf (l : List File) : List ByteArray := sortB (l.map (·.1))
theorem keyL_file : ∀ l : List File, keyL (fileE l) = some (l.map fun f => (f.1, .agg (fileC f.2.1 f.2.2)))
  | [] => rfl
  | f :: l => by
    have := keyL_file l
    simp only [fileE, List.map_cons, keyL] at this ⊢
    rw [this]; rfl
theorem names_run (H : DH h0 h d mb (dskC mb D) (fileE l)) (hl : l.length ≤ 1000) :
    ∃ h' v, S_fs_Disk_names (.ptr d 0) h = some (v, h') ∧ Own 1 h' v (namesOf l).length (strVs (namesOf l)) ∧ (∀ b, At v b → h.length ≤ b) ∧ DH h0 h' d mb (dskC mb D) (fileE l) ∧ Tmp h0 h h' ∧ h.length ≤ h'.length := by
  obtain ⟨H1, T1⟩ := H.psh (.cells [.map mb])
  have hk : keysV (psh h (.cells [.map mb])) (keysF h.length) = some (l.map (·.1)) := by
    unfold keysV keysF
    simp only [cellsAt_new, H1.ms]
    rw [keyL_file, Option.bind_some, req_true (by simp; omega)]
    simp
  have e : S_fs_Disk_names (.ptr d 0) h = some (sortedV (psh h (.cells [.map mb])) (namesOf l), sortedH (psh h (.cells [.map mb])) (namesOf l)) := by
    rw [S_fs_Disk_names_eq]
    exact bd rfl (bd rfl (bd (H.ld (k := 3) rfl) (bd rfl (bd hk rfl))))
  unfold sortedV sortedH at e
  by_cases hn : namesOf l = []
  · rw [if_pos hn, if_pos hn] at e
    refine ⟨_, _, e, ?_, ?_, H1, T1, by rw [psh_length]; omega⟩
    · rw [hn]; exact Own.nil 1 _
    · rintro b ⟨k, off, len, hb⟩; cases hb
  · rw [if_neg hn, if_neg hn] at e
    obtain ⟨H2, T2⟩ := H1.psh (.cells ((namesOf l).map strV))
    refine ⟨_, _, e, ⟨by simp [strVs], .inr ⟨_, rfl, cellsAt_new _ _⟩⟩, ?_, H2, T1.trans T2 (by rw [psh_length]; omega), by simp [psh]⟩
    rintro b ⟨k, off, len, hb⟩
    cases hb
    rw [psh_length]; omega
theorem list_run (H : DH h0 h d mb (dskC mb D) (fileE l)) (hl : l.length ≤ 1000) :
    ∃ h' v, S_fs_Disk_List (.ptr d 0) h = some (.tup [v, .lit (.int .i64 (if downN D then 5 else 0))], h') ∧ Own 1 h' v (if downN D then 0 else (namesOf l).length) (if downN D then [] else strVs (namesOf l)) ∧ (∀ b, At v b → h.length ≤ b) ∧
      DH h0 h' d mb (dskC mb (callD D)) (fileE l) ∧ Tmp h0 h h' ∧ h.length ≤ h'.length := by
  obtain ⟨h1, e1, H1, T1, l1⟩ := call_may H
  rw [S_fs_Disk_List_eq]
  cases hd : downN D with
  | true =>
    rw [hd] at e1
    refine ⟨h1, .lit (.slice none 0 0), bd e1 (bd rfl (cT rfl rfl)), Own.nil 1 _, ?_, H1, T1, by omega⟩
    rintro b ⟨k, off, len, hb⟩; cases hb
  | false =>
    rw [hd] at e1
    obtain ⟨h2, v, e2, O, f2, H2, T2, l2⟩ := names_run H1 hl
    exact ⟨h2, v, bd e1 (bd rfl (cF rfl (bd e2 rfl))), O, fun b hb => by have := f2 b hb; omega, H2, T1.trans T2 (by omega), by omega⟩

/-! ### Rising -/
def fileOf (l : List File) (name : ByteArray) : ByteArray × Int := (fask l name).getD (⟨#[]⟩, 0)
def riseN (k : Option Int) (x : ByteArray × Int) : Int := match k with
  | some v => maxI 0 (minI v ((x.1.size : Int) - x.2))
  | none => 0
def riseF (k : Option Int) (x : ByteArray × Int) : ByteArray × Int := (x.1.extract 0 (x.2 + riseN k x).toNat, x.2 + riseN k x)
def FileOk (x : ByteArray × Int) : Prop := 0 ≤ x.2 ∧ x.2 ≤ (x.1.size : Int) ∧ (x.1.size : Int) ≤ 4611686018427387904
theorem riseN_ok {k : Option Int} {x : ByteArray × Int} (hx : FileOk x) : 0 ≤ riseN k x ∧ riseN k x ≤ (x.1.size : Int) - x.2 := by
  obtain ⟨a, b, c⟩ := hx
  unfold riseN
  split
  · unfold maxI minI; constructor <;> (split <;> split <;> omega)
  · omega
theorem size_take {s : ByteArray} {n : Nat} (h : n ≤ s.size) : (s.extract 0 n).size = n := by rw [ByteArray.size_extract]; omega
theorem riseF_ok {k : Option Int} {x : ByteArray × Int} (hx : FileOk x) : FileOk (riseF k x) ∧ ((riseF k x).1.size : Int) = x.2 + riseN k x := by
  obtain ⟨a1, a2⟩ := riseN_ok (k := k) hx
  obtain ⟨a, b, c⟩ := hx
  have e : ((riseF k x).1.size : Int) = x.2 + riseN k x := by
    show ((x.1.extract 0 (x.2 + riseN k x).toNat).size : Int) = _
    rw [size_take (by omega)]; omega
  refine ⟨⟨?_, ?_, ?_⟩, e⟩
  · show 0 ≤ x.2 + riseN k x; omega
  · rw [e]; exact Int.le_refl _
  · rw [e]; omega
/-- One file after another. -/
def riseS (ki : List Int) : Nat → List ByteArray → List File × Int → List File × Int
  | _, [], r => r
  | i, n :: ns, r => riseS ki (i + 1) ns (flay r.1 n (riseF (ki[i]?) (fileOf r.1 n)), IntKind.wrap .i64 (r.2 - ((fileOf r.1 n).1.size - (riseF (ki[i]?) (fileOf r.1 n)).2)))
theorem fileOf_ok {l : List File} (hl : ∀ f ∈ l, FileOk f.2) (n : ByteArray) : FileOk (fileOf l n) := by
  unfold fileOf
  induction l with
  | nil => exact ⟨by simp [fask], by simp [fask], by show (0 : Int) ≤ _; omega⟩
  | cons f l ih =>
    unfold fask
    split
    · exact hl f (by simp)
    · exact ih fun f hf => hl f (by simp [hf])
theorem flay_all {p : File → Prop} : ∀ {l : List File} {n : ByteArray} {x : ByteArray × Int}, (∀ f ∈ l, p f) → p (n, x) → ∀ f ∈ flay l n x, p f
  | [], n, x, _, hx, f, hf => by simp [flay] at hf; subst hf; exact hx
  | g :: l, n, x, hl, hx, f, hf => by
    unfold flay at hf
    split at hf
    · rcases List.mem_cons.1 hf with rfl | hf
      · exact hx
      · exact hl f (by simp [hf])
    · rcases List.mem_cons.1 hf with rfl | hf
      · exact hl _ (by simp)
      · exact flay_all (fun f hf => hl f (by simp [hf])) hx f hf
theorem sless_int (n : Int) : (AVal.lit (.int .i64 n)).one = true := rfl
/-- The state of a disk, its used bytes apart. -/
theorem rise_loop {v keep : AVal} {ks : List ByteArray} {ki : List Int} (hk : ks.length ≤ 1000) (hS : ∀ g, Keep h0.length [d, mb] h0 g → Sl 1 g keep ki.length (intVs ki)) :
    ∀ (m i : Nat) (g : AHeap) (l : List File) (D : Dsk), ks.length - i = m → i ≤ ks.length → DH h0 g d mb (dskC mb D) (fileE l) → (∀ f ∈ l, FileOk f.2) → Own 1 g v ks.length (strVs ks) → (∀ b, At v b → h0.length ≤ b) →
      ∃ g', S_fs_Disk_Rise_0 (.ptr d 0) keep v (ks.length : Nat) (i : Nat) g = S_fs_Disk_Rise_2 (.ptr d 0) g' ∧ DH h0 g' d mb (dskC mb { D with used := (riseS ki i (ks.drop i) (l, D.used)).2 }) (fileE (riseS ki i (ks.drop i) (l, D.used)).1) ∧ Tmp h0 g g' ∧ g.length ≤ g'.length := by
  intro m
  induction m with
  | zero =>
    intro i g l D hm hi H hl O hv
    have hd : ks.drop i = [] := List.drop_of_length_le (by omega)
    refine ⟨g, ?_, by rw [hd]; exact H, Tmp.refl, Nat.le_refl _⟩
    rw [S_fs_Disk_Rise_0_eq]
    exact cF (by simp; omega) rfl
  | succ m ih =>
    intro i g l D hm hi H hl O hv
    have hlt : i < ks.length := by omega
    have hd : ks.drop i = ks[i] :: ks.drop (i + 1) := List.drop_eq_getElem_cons hlt
    -- the name
    obtain ⟨p, p1, _, _, p2⟩ := O.sl.idx hlt
    have p2 := p2 (by omega)
    rw [Nat.mul_one] at p2
    have p2 : ld1 g p = some (.lit (.string ks[i])) := by rw [p2]; simp [strVs, hlt]
    -- the file
    have hml := mlook_file (.agg zfC) ks[i] l
    have hfo : FileOk (fileOf l ks[i]) := fileOf_ok hl _
    have hml1 : (mlook (.agg zfC) (.string ks[i]) (fileE l)).1 = .agg (fileC (fileOf l ks[i]).1 (fileOf l ks[i]).2) := by
      rw [hml]; unfold fileOf; cases fask l ks[i] <;> rfl
    generalize hx : fileOf l ks[i] = x at hfo hml1
    have s1 : stn 2 (psh g (.cells zfC)) (.ptr g.length 0) (fileC x.1 x.2) = some (psh g (.cells (fileC x.1 x.2))) := stn_new rfl rfl rfl
    obtain ⟨H1, T1⟩ := H.psh (.cells (fileC x.1 x.2))
    have c1 : cellsAt (psh g (.cells (fileC x.1 x.2))) g.length = some (fileC x.1 x.2) := cellsAt_new _ _
    have hgl := H.keep.len
    obtain ⟨n1, n2⟩ := riseN_ok (k := ki[i]?) hfo
    obtain ⟨r1, r2⟩ := riseF_ok (k := ki[i]?) hfo
    obtain ⟨b1, b2, b3⟩ := hfo
    -- behind the number
    have behind : ∃ g', S_fs_Disk_Rise_1 (.ptr d 0) keep ks[i] g.length (riseN (ki[i]?) x) v (ks.length : Nat) (i : Nat) (psh g (.cells (fileC x.1 x.2))) = S_fs_Disk_Rise_2 (.ptr d 0) g' ∧ DH h0 g' d mb (dskC mb { D with used := (riseS ki i (ks.drop i) (l, D.used)).2 }) (fileE (riseS ki i (ks.drop i) (l, D.used)).1) ∧ Tmp h0 g g' ∧ g.length ≤ g'.length := by
      have w1 : IntKind.wrap .i64 (x.2 + riseN (ki[i]?) x) = x.2 + riseN (ki[i]?) x := wrap_i64 (by omega) (by omega)
      obtain ⟨h2, e2, H2, c2, l2, o2⟩ := H1.tst (k := 1) (v := .lit (.int .i64 (x.2 + riseN (ki[i]?) x))) hgl c1 (Nat.le_refl _) rfl
      have w2 : IntKind.wrap .i64 ((x.1.size : Int) - (x.2 + riseN (ki[i]?) x)) = (x.1.size : Int) - (x.2 + riseN (ki[i]?) x) := wrap_i64 (by omega) (by omega)
      obtain ⟨h3, e3, H3, T3, l3⟩ := H2.std (k := 2) (v := .lit (.int .i64 (IntKind.wrap .i64 (D.used - ((x.1.size : Int) - (x.2 + riseN (ki[i]?) x)))))) (by rw [dskC_len]; omega) rfl
      have c3 := T3.cells hgl c2
      obtain ⟨h4, e4, H4, c4, l4, o4⟩ := H3.tst (k := 0) (v := .lit (.string (riseF (ki[i]?) x).1)) hgl c3 (Nat.zero_lt_succ _) rfl
      obtain ⟨h5, e5, H5, T5, l5⟩ := H4.stm (mput (.string ks[i]) (.agg (fileC (riseF (ki[i]?) x).1 (riseF (ki[i]?) x).2)))
      rw [psh_length] at l2
      have hT : Tmp h0 g h5 := fun c hc hl' => (T5 c hc (by omega)).trans ((o4 c (by omega)).trans ((T3 c hc (by omega)).trans ((o2 c (by omega)).trans (T1 c hc hl'))))
      rw [mput_file] at H5
      have O5 : Own 1 h5 v ks.length (strVs ks) := O.keep fun b hb => hT b (hv b hb) (At.own O hb)
      obtain ⟨g', q1, q2, q3, q4⟩ := ih (i + 1) h5 (flay l ks[i] (riseF (ki[i]?) x)) { D with used := IntKind.wrap .i64 (D.used - ((x.1.size : Int) - (x.2 + riseN (ki[i]?) x))) } (by omega) (by omega) H5 (flay_all hl r1) O5 hv
      refine ⟨g', ?_, ?_, hT.trans q3 (by omega), by omega⟩
      · rw [← q1, S_fs_Disk_Rise_1_eq]
        refine bd (ld1_of c1) (bd rfl ?_)
        show (st1 _ _ (.lit (.int .i64 (IntKind.wrap .i64 (x.2 + riseN (ki[i]?) x))))).bind _ = _
        rw [w1]
        refine bd e2 (bd rfl (bd rfl (bd (H2.ld (k := 2) rfl) (bd rfl (bd (ld1_of c2) (bd rfl (bd (ld1_of c2) (bd rfl (bd rfl (bd rfl ?_))))))))))
        show (st1 _ _ (.lit (.int .i64 (IntKind.wrap .i64 (D.used - IntKind.wrap .i64 ((x.1.size : Int) - (x.2 + riseN (ki[i]?) x))))))).bind _ = _
        rw [w2]
        have hcut : cutS x.1 0 (x.2 + riseN (ki[i]?) x) = some (riseF (ki[i]?) x).1 := by
          unfold cutS; rw [req_true (by omega)]; rfl
        refine bd e3 (bd (ld1_of c3) (bd rfl (bd (ld1_of c3) (bd rfl (bd hcut (bd e4 (bd rfl (bd rfl (bd (H4.ld (k := 3) rfl) (bd (ldn_of (n := 2) (off := 0) c4 (Nat.le_refl _)) (bd e5 ?_)))))))))))
        rw [show IntKind.wrap .i64 ((i : Int) + 1) = ((i + 1 : Nat) : Int) from wrap_up (by omega)]
      · have e : riseS ki i (ks.drop i) (l, D.used) = riseS ki (i + 1) (ks.drop (i + 1)) (flay l ks[i] (riseF (ki[i]?) x), IntKind.wrap .i64 (D.used - ((x.1.size : Int) - (x.2 + riseN (ki[i]?) x)))) := by
          rw [hd, ← hx]; rfl
        rw [e]; exact q2
    obtain ⟨g', q1, q2, q3, q4⟩ := behind
    refine ⟨g', ?_, q2, q3, q4⟩
    rw [← q1, S_fs_Disk_Rise_0_eq]
    have S := hS _ H1.keep
    refine cT (by simp; omega) (bd p1 (bd p2 (bd rfl (bd rfl (bd rfl (bd (H.ld (k := 3) rfl) (bd H.at ?_)))))))
    rw [hml1]
    refine bd rfl (bd s1 (bd S.len ?_))
    by_cases hik : i < ki.length
    · obtain ⟨p', p1', _, _, p2'⟩ := S.idx hik
      have p2' := p2' (by omega)
      rw [Nat.mul_one] at p2'
      have p2' : ld1 (psh g (.cells (fileC x.1 x.2))) p' = some (.lit (.int .i64 ki[i])) := by rw [p2']; simp [intVs, hik]
      have e : ki[i]? = some ki[i] := List.getElem?_eq_getElem hik
      refine cT (by simp; omega) (bd p1' (bd p2' (bd rfl (bd (ld1_of c1) (bd rfl (bd (ld1_of c1) (bd rfl ?_)))))))
      show S_fs_Disk_Rise_1 _ _ _ _ (maxI 0 (minI ki[i] (IntKind.wrap .i64 ((x.1.size : Int) - x.2)))) _ _ _ _ = _
      rw [show IntKind.wrap .i64 ((x.1.size : Int) - x.2) = (x.1.size : Int) - x.2 from wrap_i64 (by omega) (by omega), e]
      rfl
    · have e : ki[i]? = none := List.getElem?_eq_none (by omega)
      refine cF (by simp; omega) ?_
      rw [e]; rfl
theorem rise_run (H : DH h0 h d mb (dskC mb D) (fileE l)) {keep : AVal} {ki : List Int} (hl : l.length ≤ 1000) (hf : ∀ f ∈ l, FileOk f.2) (hS : ∀ g, Keep h0.length [d, mb] h0 g → Sl 1 g keep ki.length (intVs ki)) :
    ∃ h', S_fs_Disk_Rise (.ptr d 0) keep h = some (.tup [], h') ∧ DH h0 h' d mb (dskC mb { D with used := (riseS ki 0 (namesOf l) (l, D.used)).2, fuse := -1, down := false }) (fileE (riseS ki 0 (namesOf l) (l, D.used)).1) ∧ Tmp h0 h h' ∧ h.length ≤ h'.length := by
  obtain ⟨h1, v, e1, O, f1, H1, T1, l1⟩ := names_run H hl
  have hn : (namesOf l).length ≤ 1000 := by unfold namesOf; rw [sortB_length]; simpa using hl
  obtain ⟨h2, e2, H2, T2, l2⟩ := rise_loop hn hS _ 0 h1 l D rfl (Nat.zero_le _) H1 hf O (fun b hb => Nat.le_trans H.keep.len (f1 b hb))
  obtain ⟨h3, e3, H3, T3, l3⟩ := H2.std (k := 4) (v := .lit (.int .i64 (-1))) (by rw [dskC_len]; omega) rfl
  obtain ⟨h4, e4, H4, T4, l4⟩ := H3.std (k := 5) (v := .lit (.bool false)) (by rw [List.length_set, dskC_len]; omega) rfl
  refine ⟨h4, ?_, H4, ((T1.trans T2 l1).trans T3 (by omega)).trans T4 (by omega), by omega⟩
  rw [S_fs_Disk_Rise_eq]
  refine bd (given_run H) (bd rfl (cF rfl (bd e1 (bd O.sl.len ?_))))
  refine (show _ = _ from e2).trans ?_
  rw [S_fs_Disk_Rise_2_eq]
  exact bd rfl (bd rfl (bd e3 (bd rfl (bd rfl (bd e4 rfl)))))

/-! ### Copies, new ones -/
theorem clone_run (H : DH h0 h d mb (dskC mb D) (fileE l)) :
    ∃ h', S_fs_Disk_Clone (.ptr d 0) h = some (.ptr h.length 0, h') ∧ DH h0 h' d mb (dskC mb D) (fileE l) ∧ DiskAt h' h.length (h.length + 1) D l ∧ Tmp h0 h h' ∧ h'.length = h.length + 2 := by
  have hN := H.keep.len
  obtain ⟨H1, T1⟩ := H.psh (.cells (dskC mb D))
  obtain ⟨H2, T2⟩ := H1.psh (.map .str (fileE l))
  have c1 : cellsAt (psh h (.cells (dskC mb D))) h.length = some (dskC mb D) := cellsAt_new _ _
  have c2 := T2.cells hN c1
  obtain ⟨h3, e3, H3, c3, l3, o3⟩ := H2.tst (k := 3) (v := .map (h.length + 1)) hN c2 (by rw [dskC_len]; omega) rfl
  rw [psh_length, psh_length] at l3
  refine ⟨h3, ?_, H3, ⟨c3, ?_⟩, fun c hc hl' => (o3 c (by omega)).trans ((T2 c hc (by rw [psh_length]; omega)).trans (T1 c hc hl')), by omega⟩
  · rw [S_fs_Disk_Clone_eq]
    have s1 : stn 7 (psh h (.cells [(.lit (.bool false)), (.lit (.int .i64 0)), (.lit (.int .i64 0)), (.lit (.map none)), (.lit (.int .i64 0)), (.lit (.bool false)), (.lit (.int .i64 0))])) (.ptr h.length 0) (dskC mb D) = some (psh h (.cells (dskC mb D))) := stn_new rfl rfl rfl
    have m1 : mapOf (psh h (.cells (dskC mb D))) (.map mb) = some (.str, fileE l) := by unfold mapOf; simp only [H1.ms]
    refine bd (given_run H) (bd rfl (cF rfl (bd rfl (bd (ldn_of (n := 7) (off := 0) H.dcs (Nat.le_refl _)) (bd s1 (bd rfl (bd rfl (bd (H1.ld (k := 3) rfl) (bd m1 ?_)))))))))
    show (st1 (psh (psh h (.cells (dskC mb D))) (.map .str (fileE l))) (.ptr h.length 3) (.map (psh h (.cells (dskC mb D))).length)).bind _ = _
    rw [psh_length]
    exact bd e3 rfl
  · rw [o3 _ (by omega)]
    show (psh (psh h (.cells (dskC mb D))) (.map .str (fileE l)))[h.length + 1]? = _
    have : (psh h (.cells (dskC mb D))).length = h.length + 1 := psh_length _ _
    simp [psh]
def newDsk (room : Int) : Dsk := ⟨room, 0, -1, false, 0⟩
-- chainman/fs.New: function 6
noncomputable def Efs_New : XE := { T := tabOf [(3, r3), (4, r4), (9, r9), (26, r26), (27, r27), (43, r43), (45, r45), (53, r53)], C := [], D := [], Ms := [], Ml := [], Mo := [(1006, [0, 9])], n := 14 }
theorem Efs_New_ok : XE.Ok Efs_New Try.prog := ⟨tabOf_ok (⟨r3_ok, ⟨r4_ok, ⟨r9_ok, ⟨r26_ok, ⟨r27_ok, ⟨r43_ok, ⟨r45_ok, ⟨r53_ok, trivial⟩⟩⟩⟩⟩⟩⟩⟩), trivial⟩
noncomputable def c6 : Code := bodyOf f6
noncomputable def S_fs_New (room0 : Int) (h : AHeap) : Option (AVal × AHeap) := xfun Efs_New f6 [(.lit (.int .i64 room0))] h
noncomputable def S_fs_New_0 (room0 : Int) (t9 : Bool) (h : AHeap) : Option (AVal × AHeap) := jo Efs_New 1 (rops (ca (ca (cb c6)))) ((rops (ca (ca (cb c6)))).toList.drop 6) 6 [(0, (.lit (.int .i64 room0))), (9, (.lit (.bool t9)))] h (kN (kSeq Efs_New (cb (ca (cb c6))) (kSeq Efs_New (cb (cb c6)) (xend Efs_New f6))))
theorem S_fs_New_eq (room0 : Int) (h : AHeap) : S_fs_New room0 h =
 bif (decide (room0 < 0)) then (S_fs_New_0 room0 true h)
 else (S_fs_New_0 room0 (decide (room0 > 16777216)) h) := by kernel_rfl
theorem S_fs_New_0_eq (room0 : Int) (t9 : Bool) (h : AHeap) : S_fs_New_0 room0 t9 h =
 bif t9 then (some ((.tup [(.lit (.pointer none)), (.lit (.int .i64 1))]), h))
 else (some ((.tup [(.ptr (((psh h (.map .str []))).length) 0), (.lit (.int .i64 0))]), (psh ((psh h (.map .str []))) (.cells ([(.lit (.bool true)), (.lit (.int .i64 room0)), (.lit (.int .i64 0)), (.map h.length), (.lit (.int .i64 (-1))), (.lit (.bool false)), (.lit (.int .i64 0))]))))) := (jo_eq ..).trans (by kernel_rfl)
theorem S_fs_New_ends {room0 : Int} {h h' : AHeap} {v : AVal} {R : AEnd → AHeap → Prop} (hx : S_fs_New room0 h = some (v, h')) (hR : HOk h → h.length ≤ h'.length → ABody.AEnds h h' (.ret v) R) : ACalls Try.prog 6 [(.lit (.int .i64 room0))] h R := xfun_ends Efs_New_ok tmix (i := 6) (by rfl) (by kernel_rfl) (by kernel_rfl) hx hR
noncomputable def w_fs_New : XC := .l fun R args h K => match args with
  | [.lit (.int .i64 a0)] => (S_fs_New a0 h).bind fun r => K r.1 r.2
  | _ => none
theorem w_fs_New_ok : XC.Nat w_fs_New ∧ XC.Ok Try.prog 6 w_fs_New := by
  refine ⟨fun R args h K => ?_, tc6, fun args h v h' hx => ?_⟩
  · dsimp only; split <;> simp [Option.bind_assoc, mkP]
  · dsimp only at hx; split at hx
    · obtain ⟨r, hopt, hx⟩ := Option.bind_eq_some_iff.1 hx
      simp only [mkP, Option.some.injEq, Prod.mk.injEq] at hx
      obtain ⟨rfl, rfl⟩ := hx
      exact (by obtain ⟨v, h'⟩ := r; exact S_fs_New_ends hopt selfR)
    · cases hx
theorem new_run (h : AHeap) {room : Int} (h0 : 0 ≤ room) (h1 : room ≤ 16777216) : ∃ h', S_fs_New room h = some (.tup [.ptr (h.length + 1) 0, .lit (.int .i64 0)], h') ∧ DiskAt h' (h.length + 1) h.length (newDsk room) [] ∧ (∀ c, c < h.length → h'[c]? = h[c]?) ∧ h'.length = h.length + 2 := by
  refine ⟨psh (psh h (.map .str [])) (.cells (dskC h.length (newDsk room))), ?_, ⟨?_, ?_⟩, fun c hc => ?_, by simp [psh]⟩
  · rw [S_fs_New_eq]
    refine cF (by simp; omega) ?_
    rw [S_fs_New_0_eq]
    refine cF (by simp; omega) ?_
    rw [psh_length]; rfl
  · have := cellsAt_new (psh h (.map .str [])) (dskC h.length (newDsk room))
    rw [psh_length] at this; exact this
  · show ((h ++ [_]) ++ [_])[h.length]? = _
    rw [List.getElem?_append_left (by simp)]; simp; rfl
  · show ((h ++ [_]) ++ [_])[c]? = _
    rw [List.getElem?_append_left (by simp; omega), List.getElem?_append_left hc]
theorem new_not (h : AHeap) {room : Int} (h0 : room < 0 ∨ 16777216 < room) : S_fs_New room h = some (.tup [.lit (.pointer none), .lit (.int .i64 1)], h) := by
  rw [S_fs_New_eq]
  by_cases hr : room < 0
  · refine cT (by simpa using hr) ?_
    rw [S_fs_New_0_eq]; rfl
  · refine cF (by simpa using hr) ?_
    rw [S_fs_New_0_eq]
    exact cT (by simp; omega) rfl
end ops
end Go.Proofs.Ytglmofbcooefkaa.AL
