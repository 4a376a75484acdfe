/- The disk's calls, one by one. -/
import Derived.Test.YtglmofbcooefkaaDiskRun
namespace Go.Proofs.Ytglmofbcooefkaa.AL
set_option linter.unusedVariables false
set_option linter.unusedSimpArgs false
set_option maxRecDepth 100000
open Go
open Go.Proofs.Try

section ops
variable {h0 h : AHeap} {d mb : Nat} {D : Dsk} {l : List File}
/-- Behind 'find' the file is laid into cells of its own. -/
theorem after_find (H : DH h0 h d mb (dskC mb D) (fileE l)) (name : ByteArray) (hn : name.size ≤ 9223372036854775807) (may : Bool) :
    ∃ g, S_fs_Disk_find (.ptr d 0) name may h = some (.tup [.agg (fileC (findR D l name may).1.1 (findR D l name may).1.2), .lit (.int .i64 (findR D l name may).2)], g) ∧
      stn 2 (psh g (.cells zfC)) (.ptr g.length 0) (fileC (findR D l name may).1.1 (findR D l name may).1.2) = some (psh g (.cells (fileC (findR D l name may).1.1 (findR D l name may).1.2))) ∧
      DH h0 (psh g (.cells (fileC (findR D l name may).1.1 (findR D l name may).1.2))) d mb (dskC mb (findD D name may)) (fileE l) ∧ Tmp h0 h (psh g (.cells (fileC (findR D l name may).1.1 (findR D l name may).1.2))) ∧ h.length ≤ g.length ∧ h0.length ≤ g.length := by
  obtain ⟨g, e, H1, T1, l1⟩ := find_run H name hn may
  obtain ⟨H2, T2⟩ := H1.psh (.cells (fileC (findR D l name may).1.1 (findR D l name may).1.2))
  exact ⟨g, e, stn_new rfl rfl rfl, H2, T1.trans T2 l1, l1, H1.keep.len⟩
def createE (D : Dsk) (l : List File) (name : ByteArray) : Int := if (findR D l name true).2 = 2 then (if l.length = 200 then 4 else 0) else if (findR D l name true).2 = 0 then 3 else (findR D l name true).2
def createL (D : Dsk) (l : List File) (name : ByteArray) : List File := if (findR D l name true).2 = 2 ∧ l.length ≠ 200 then flay l name (⟨#[]⟩, 0) else l
theorem create_run (H : DH h0 h d mb (dskC mb D) (fileE l)) (name : ByteArray) (hn : name.size ≤ 9223372036854775807) :
    ∃ h', S_fs_Disk_Create (.ptr d 0) name h = some (.lit (.int .i64 (createE D l name)), h') ∧ DH h0 h' d mb (dskC mb (findD D name true)) (fileE (createL D l name)) ∧ Tmp h0 h h' ∧ h.length ≤ h'.length := by
  obtain ⟨g, e, s1, H1, T1, l1, l0⟩ := after_find H name hn true
  unfold createE createL
  rw [S_fs_Disk_Create_eq]
  generalize hR : findR D l name true = R at e s1 H1 T1 ⊢
  by_cases h2 : R.2 = 2
  · by_cases h3 : l.length = 200
    · refine ⟨psh g (.cells (fileC R.1.1 R.1.2)), ?_, ?_, T1, by rw [psh_length]; omega⟩
      · rw [if_pos h2, if_pos h3]
        refine bd e (bd rfl (bd rfl (bd rfl (bd rfl (bd s1 (cF (by simp [h2]) (bd rfl (bd rfl (bd (H1.ld (k := 3) rfl) (bd H1.len (bd rfl (cT ?_ rfl))))))))))))
        have : (fileE l).length = 200 := by simp [fileE, h3]
        simp [this]
      · rw [if_neg (by simp [h3])]; exact H1
    · obtain ⟨h4, e4, H4, T4, l4⟩ := H1.stm (mput (.string name) (.agg zfC))
      rw [psh_length] at l4
      refine ⟨h4, ?_, ?_, T1.trans T4 (by rw [psh_length]; omega), by omega⟩
      · rw [if_pos h2, if_neg h3]
        refine bd e (bd rfl (bd rfl (bd rfl (bd rfl (bd s1 (cF (by simp [h2]) (bd rfl (bd rfl (bd (H1.ld (k := 3) rfl) (bd H1.len (bd rfl (cF ?_ (bd rfl (bd rfl (bd (H1.ld (k := 3) rfl) (bd e4 rfl))))))))))))))))
        have : (fileE l).length ≠ 200 := by simpa [fileE] using h3
        simp; omega
      · rw [if_pos ⟨h2, h3⟩, ← mput_file]; exact H4
  · refine ⟨psh g (.cells (fileC R.1.1 R.1.2)), ?_, ?_, T1, by rw [psh_length]; omega⟩
    · rw [if_neg h2]
      refine bd e (bd rfl (bd rfl (bd rfl (bd rfl (bd s1 (cT (by simp [h2]) ?_))))))
      show cond (decide (R.2 = 0)) _ _ = _
      by_cases h3 : R.2 = 0
      · rw [if_pos h3]; exact cT (decide_eq_true h3) rfl
      · rw [if_neg h3]; exact cF (decide_eq_false h3) rfl
    · rw [if_neg (fun h => h2 h.1)]; exact H1
def fullB (D : Dsk) (s : ByteArray) : Bool := decide ((s.size : Int) > IntKind.wrap .i64 (D.room - D.used))
def appE (D : Dsk) (l : List File) (name s : ByteArray) : Int := if (findR D l name true).2 ≠ 0 then (findR D l name true).2 else if fullB D s then 4 else 0
def appD (D : Dsk) (l : List File) (name s : ByteArray) : Dsk := if appE D l name s = 0 then { findD D name true with used := IntKind.wrap .i64 (D.used + (s.size : Int)) } else findD D name true
def appL (D : Dsk) (l : List File) (name s : ByteArray) : List File := if appE D l name s = 0 then flay l name ((findR D l name true).1.1 ++ s, (findR D l name true).1.2) else l
theorem findD_room (D : Dsk) (name : ByteArray) (may : Bool) : (findD D name may).room = D.room := by unfold findD; split <;> rfl
theorem findD_used (D : Dsk) (name : ByteArray) (may : Bool) : (findD D name may).used = D.used := by unfold findD; split <;> rfl
theorem append_run (H : DH h0 h d mb (dskC mb D) (fileE l)) (name s : ByteArray) (hn : name.size ≤ 9223372036854775807) (hs : appE D l name s = 0 → (findR D l name true).1.1.size + s.size ≤ 9223372036854775807) :
    ∃ h', S_fs_Disk_Append (.ptr d 0) name s h = some (.lit (.int .i64 (appE D l name s)), h') ∧ DH h0 h' d mb (dskC mb (appD D l name s)) (fileE (appL D l name s)) ∧ Tmp h0 h h' ∧ h.length ≤ h'.length := by
  obtain ⟨g, e, s1, H1, T1, l1, l0⟩ := after_find H name hn true
  unfold appD appL
  rw [S_fs_Disk_Append_eq]
  have hE : appE D l name s = if (findR D l name true).2 ≠ 0 then (findR D l name true).2 else if fullB D s then 4 else 0 := rfl
  have hr : (dskC mb (findD D name true))[1]? = some (.lit (.int .i64 D.room)) := by rw [← findD_room D name true]; rfl
  have hu : (dskC mb (findD D name true))[2]? = some (.lit (.int .i64 D.used)) := by rw [← findD_used D name true]; rfl
  generalize hR : findR D l name true = R at e s1 H1 T1 hE hs ⊢
  by_cases h2 : R.2 = 0
  · rw [if_neg (by simp [h2])] at hE
    cases hf : fullB D s with
    | true =>
      rw [hf, if_pos rfl] at hE
      rw [hE]
      refine ⟨psh g (.cells (fileC R.1.1 R.1.2)), ?_, by rw [if_neg (by omega), if_neg (by omega)]; exact H1, T1, by rw [psh_length]; omega⟩
      exact bd e (bd rfl (bd rfl (bd rfl (bd rfl (bd s1 (cF (by simp [h2]) (bd rfl (bd rfl (bd (H1.ld hr) (bd rfl (bd rfl (bd rfl (bd (H1.ld hu) (bd rfl (cT hf rfl)))))))))))))))
    | false =>
      rw [hf, if_neg (by simp)] at hE
      rw [hE, if_pos rfl, if_pos rfl]
      have c1 : cellsAt (psh g (.cells (fileC R.1.1 R.1.2))) g.length = some (fileC R.1.1 R.1.2) := cellsAt_new _ _
      obtain ⟨h2', e2, H2, c2, l2, o2⟩ := H1.tst (k := 0) (v := .lit (.string (R.1.1 ++ s))) l0 c1 (Nat.zero_lt_succ _) rfl
      obtain ⟨h3, e3, H3, T3, l3⟩ := H2.stm (mput (.string name) (.agg (fileC (R.1.1 ++ s) R.1.2)))
      obtain ⟨h4, e4, H4, T4, l4⟩ := H3.std (k := 2) (v := .lit (.int .i64 (IntKind.wrap .i64 (D.used + (s.size : Int))))) (by rw [dskC_len]; omega) rfl
      rw [psh_length] at l2
      refine ⟨h4, ?_, ?_, fun c hc hl => (T4 c hc (by omega)).trans ((T3 c hc (by omega)).trans ((o2 c (by omega)).trans (T1 c hc hl))), by omega⟩
      · exact bd e (bd rfl (bd rfl (bd rfl (bd rfl (bd s1 (cF (by simp [h2]) (bd rfl (bd rfl (bd (H1.ld hr) (bd rfl (bd rfl (bd rfl (bd (H1.ld hu) (bd rfl (cF hf
          (bd (ld1_of c1) (bd rfl (bd (req_true (hs hE)) (bd e2 (bd rfl (bd rfl (bd (H2.ld (k := 3) rfl) (bd (ldn_of (n := 2) (off := 0) c2 (Nat.le_refl _)) (bd e3 (bd rfl (bd rfl (bd (H3.ld hu) (bd rfl (bd rfl (bd rfl (bd e4 rfl)))))))))))))))))))))))))))))))
      · rw [← mput_file]; exact H4
  · rw [if_pos h2] at hE
    rw [hE]
    refine ⟨psh g (.cells (fileC R.1.1 R.1.2)), ?_, by rw [if_neg h2, if_neg h2]; exact H1, T1, by rw [psh_length]; omega⟩
    exact bd e (bd rfl (bd rfl (bd rfl (bd rfl (bd s1 (cT (by simp [h2]) rfl))))))
theorem size_run (H : DH h0 h d mb (dskC mb D) (fileE l)) (name : ByteArray) (hn : name.size ≤ 9223372036854775807) :
    ∃ h', S_fs_Disk_Size (.ptr d 0) name h = some (.tup [.lit (.int .i64 ((findR D l name true).1.1.size : Int)), .lit (.int .i64 (findR D l name true).2)], h') ∧ DH h0 h' d mb (dskC mb (findD D name true)) (fileE l) ∧ Tmp h0 h h' ∧ h.length ≤ h'.length := by
  obtain ⟨g, e, s1, H1, T1, l1, l0⟩ := after_find H name hn true
  refine ⟨_, ?_, H1, T1, by rw [psh_length]; omega⟩
  rw [S_fs_Disk_Size_eq]
  exact bd e (bd rfl (bd rfl (bd rfl (bd rfl (bd s1 (bd (ld1_of (cellsAt_new _ _)) (bd rfl rfl)))))))
def readR (D : Dsk) (l : List File) (name : ByteArray) (i n : Int) : ByteArray × Int :=
  let R := findR D l name (decide (minI i n ≥ 0))
  if R.2 ≠ 0 then (⟨#[]⟩, R.2) else if i > (R.1.1.size : Int) ∨ n > (R.1.1.size : Int) - i then (⟨#[]⟩, 10) else (R.1.1.extract i.toNat (i + n).toNat, 0)
theorem minI_nonneg {a b : Int} (h : minI a b ≥ 0) : 0 ≤ a ∧ 0 ≤ b := by unfold minI at h; split at h <;> omega
theorem read_run (H : DH h0 h d mb (dskC mb D) (fileE l)) (name : ByteArray) (i n : Int) (hn : name.size ≤ 9223372036854775807) (hs : (findR D l name (decide (minI i n ≥ 0))).1.1.size ≤ 9223372036854775807) :
    ∃ h', S_fs_Disk_Read (.ptr d 0) name i n h = some (.tup [.lit (.string (readR D l name i n).1), .lit (.int .i64 (readR D l name i n).2)], h') ∧ DH h0 h' d mb (dskC mb (findD D name (decide (minI i n ≥ 0)))) (fileE l) ∧ Tmp h0 h h' ∧ h.length ≤ h'.length := by
  obtain ⟨g, e, s1, H1, T1, l1, l0⟩ := after_find H name hn (decide (minI i n ≥ 0))
  have hrr : readR D l name i n = let R := findR D l name (decide (minI i n ≥ 0)); if R.2 ≠ 0 then (⟨#[]⟩, R.2) else if i > (R.1.1.size : Int) ∨ n > (R.1.1.size : Int) - i then (⟨#[]⟩, 10) else (R.1.1.extract i.toNat (i + n).toNat, 0) := rfl
  have hmay : (findR D l name (decide (minI i n ≥ 0))).2 = 0 → 0 ≤ i ∧ 0 ≤ n := fun h => by
    by_cases hm : minI i n ≥ 0
    · exact minI_nonneg hm
    · unfold findR at h; rw [decide_eq_false hm] at h; simp at h
  rw [S_fs_Disk_Read_eq]
  generalize hR : findR D l name (decide (minI i n ≥ 0)) = R at e s1 H1 T1 hrr hs hmay ⊢
  simp only at hrr
  have c1 : cellsAt (psh g (.cells (fileC R.1.1 R.1.2))) g.length = some (fileC R.1.1 R.1.2) := cellsAt_new _ _
  refine ⟨psh g (.cells (fileC R.1.1 R.1.2)), ?_, H1, T1, by rw [psh_length]; omega⟩
  by_cases h2 : R.2 = 0
  · obtain ⟨p1, p2⟩ := hmay h2
    rw [if_neg (by simp [h2])] at hrr
    refine bd e (bd rfl (bd rfl (bd rfl (bd rfl (bd s1 (cF (by simp [h2]) (bd (ld1_of c1) (bd rfl ?_))))))))
    by_cases h3 : i > (R.1.1.size : Int)
    · rw [if_pos (.inl h3)] at hrr
      rw [hrr]
      refine cT (decide_eq_true h3) ?_
      rw [S_fs_Disk_Read_0_eq]; rfl
    · refine cF (decide_eq_false h3) (bd (ld1_of c1) (bd rfl ?_))
      have hw : IntKind.wrap .i64 ((R.1.1.size : Int) - i) = (R.1.1.size : Int) - i := wrap_i64 (by omega) (by omega)
      show S_fs_Disk_Read_0 i n g.length (decide (n > IntKind.wrap .i64 ((R.1.1.size : Int) - i))) _ = _
      rw [hw, S_fs_Disk_Read_0_eq]
      by_cases h4 : n > (R.1.1.size : Int) - i
      · rw [if_pos (.inr h4)] at hrr
        rw [hrr]
        exact cT (decide_eq_true h4) rfl
      · rw [if_neg (by omega)] at hrr
        rw [hrr]
        refine cF (decide_eq_false h4) (bd (ld1_of c1) (bd rfl ?_))
        show (cutS R.1.1 i (IntKind.wrap .i64 (i + n))).bind _ = _
        rw [wrap_i64 (by omega) (by omega)]
        unfold cutS
        rw [req_true (by omega)]
        rfl
  · rw [if_pos h2] at hrr
    rw [hrr]
    exact bd e (bd rfl (bd rfl (bd rfl (bd rfl (bd s1 (cT (by simp [h2]) rfl))))))
def syncL (D : Dsk) (l : List File) (name : ByteArray) : List File := if (findR D l name true).2 = 0 then flay l name ((findR D l name true).1.1, ((findR D l name true).1.1.size : Int)) else l
theorem sync_run (H : DH h0 h d mb (dskC mb D) (fileE l)) (name : ByteArray) (hn : name.size ≤ 9223372036854775807) :
    ∃ h', S_fs_Disk_Sync (.ptr d 0) name h = some (.lit (.int .i64 (findR D l name true).2), h') ∧ DH h0 h' d mb (dskC mb (findD D name true)) (fileE (syncL D l name)) ∧ Tmp h0 h h' ∧ h.length ≤ h'.length := by
  obtain ⟨g, e, s1, H1, T1, l1, l0⟩ := after_find H name hn true
  unfold syncL
  rw [S_fs_Disk_Sync_eq]
  generalize hR : findR D l name true = R at e s1 H1 T1 ⊢
  by_cases h2 : R.2 = 0
  · have c1 : cellsAt (psh g (.cells (fileC R.1.1 R.1.2))) g.length = some (fileC R.1.1 R.1.2) := cellsAt_new _ _
    obtain ⟨h2', e2, H2, c2, l2, o2⟩ := H1.tst (k := 1) (v := .lit (.int .i64 (R.1.1.size : Int))) l0 c1 (Nat.le_refl _) rfl
    obtain ⟨h3, e3, H3, T3, l3⟩ := H2.stm (mput (.string name) (.agg (fileC R.1.1 (R.1.1.size : Int))))
    rw [psh_length] at l2
    refine ⟨h3, ?_, ?_, fun c hc hl => (T3 c hc (by omega)).trans ((o2 c (by omega)).trans (T1 c hc hl)), by omega⟩
    · refine bd e (bd rfl (bd rfl (bd rfl (bd rfl (bd s1 (cT (by simp [h2]) (bd (ld1_of c1) (bd rfl (bd e2 (bd rfl (bd rfl (bd (H2.ld (k := 3) rfl) (bd (ldn_of (n := 2) (off := 0) c2 (Nat.le_refl _)) (bd e3 ?_))))))))))))))
      rw [S_fs_Disk_Sync_0_eq]
    · rw [if_pos h2, ← mput_file]; exact H3
  · refine ⟨psh g (.cells (fileC R.1.1 R.1.2)), ?_, by rw [if_neg h2]; exact H1, T1, by rw [psh_length]; omega⟩
    refine bd e (bd rfl (bd rfl (bd rfl (bd rfl (bd s1 (cF (by simp [h2]) ?_))))))
    rw [S_fs_Disk_Sync_0_eq]
def dropSz (l : List File) (name : ByteArray) : Int := match fask l name with
  | some x => (x.1.size : Int)
  | none => 0
def dropD (D : Dsk) (l : List File) (name : ByteArray) : Dsk := { D with used := IntKind.wrap .i64 (D.used - dropSz l name) }
theorem drop_run (H : DH h0 h d mb (dskC mb D) (fileE l)) (name : ByteArray) :
    ∃ h', S_fs_Disk_drop (.ptr d 0) name h = some (.tup [], h') ∧ DH h0 h' d mb (dskC mb (dropD D l name)) (fileE (fdrop l name)) ∧ Tmp h0 h h' ∧ h'.length = h.length := by
  obtain ⟨h1, e1, H1, T1, l1⟩ := H.std (k := 2) (v := .lit (.int .i64 (IntKind.wrap .i64 (D.used - dropSz l name)))) (by rw [dskC_len]; omega) rfl
  obtain ⟨h2, e2, H2, T2, l2⟩ := H1.del (.string name)
  refine ⟨h2, ?_, by rw [← mdel_file]; exact H2, T1.trans T2 (by omega), by omega⟩
  rw [S_fs_Disk_drop_eq]
  have hml := mlook_file (.agg zfC) name l
  refine bd rfl (bd rfl (bd (H.ld (k := 2) rfl) (bd rfl (bd rfl (bd rfl (bd (H.ld (k := 3) rfl) (bd H.at ?_)))))))
  have hds : dropSz l name = match fask l name with
    | some x => (x.1.size : Int)
    | none => 0 := rfl
  cases hg : fask l name with
  | none =>
    rw [hg] at hml hds
    rw [hml]
    rw [hds] at e1
    exact bd rfl (bd rfl (bd rfl (bd rfl (bd rfl (bd e1 (bd rfl (bd rfl (bd (H1.ld (k := 3) rfl) (bd e2 rfl)))))))))
  | some x =>
    rw [hg] at hml hds
    rw [hml]
    rw [hds] at e1
    exact bd rfl (bd rfl (bd rfl (bd rfl (bd rfl (bd e1 (bd rfl (bd rfl (bd (H1.ld (k := 3) rfl) (bd e2 rfl)))))))))
theorem remove_run (H : DH h0 h d mb (dskC mb D) (fileE l)) (name : ByteArray) (hn : name.size ≤ 9223372036854775807) :
    ∃ h', S_fs_Disk_Remove (.ptr d 0) name h = some (.lit (.int .i64 (findR D l name true).2), h') ∧
      DH h0 h' d mb (dskC mb (if (findR D l name true).2 = 0 then dropD (findD D name true) l name else findD D name true)) (fileE (if (findR D l name true).2 = 0 then fdrop l name else l)) ∧ Tmp h0 h h' ∧ h.length ≤ h'.length := by
  obtain ⟨g, e, s1, H1, T1, l1, l0⟩ := after_find H name hn true
  rw [S_fs_Disk_Remove_eq]
  generalize hR : findR D l name true = R at e s1 H1 T1 ⊢
  by_cases h2 : R.2 = 0
  · obtain ⟨h3, e3, H3, T3, l3⟩ := drop_run H1 name
    rw [psh_length] at l3
    refine ⟨h3, ?_, by rw [if_pos h2, if_pos h2]; exact H3, T1.trans T3 (by rw [psh_length]; omega), by omega⟩
    refine bd e (bd rfl (bd rfl (bd rfl (bd rfl (bd s1 (cT (by simp [h2]) (bd e3 ?_)))))))
    rw [S_fs_Disk_Remove_0_eq]
  · refine ⟨psh g (.cells (fileC R.1.1 R.1.2)), ?_, by rw [if_neg h2, if_neg h2]; exact H1, T1, by rw [psh_length]; omega⟩
    refine bd e (bd rfl (bd rfl (bd rfl (bd rfl (bd s1 (cF (by simp [h2]) ?_))))))
    rw [S_fs_Disk_Remove_0_eq]
theorem arm_run (H : DH h0 h d mb (dskC mb D) (fileE l)) (n : Int) :
    ∃ h', S_fs_Disk_Arm (.ptr d 0) n h = some (.tup [], h') ∧ DH h0 h' d mb (dskC mb { D with fuse := maxI (-1) n }) (fileE l) ∧ Tmp h0 h h' ∧ h'.length = h.length := by
  obtain ⟨h1, e1, H1, T1, l1⟩ := H.std (k := 4) (v := .lit (.int .i64 (maxI (-1) n))) (by rw [dskC_len]; omega) rfl
  refine ⟨h1, ?_, H1, T1, l1⟩
  rw [S_fs_Disk_Arm_eq]
  exact bd (given_run H) (bd rfl (cT rfl (bd rfl (bd rfl (bd e1 rfl)))))
theorem calls_run (H : DH h0 h d mb (dskC mb D) (fileE l)) : S_fs_Disk_Calls (.ptr d 0) h = some (.lit (.int .i64 D.calls), h) := by
  rw [S_fs_Disk_Calls_eq]
  refine bd (given_run H) (bd rfl (cF rfl (bd rfl (bd rfl (bd (H.ld (k := 6) rfl) rfl)))))
theorem used_run (H : DH h0 h d mb (dskC mb D) (fileE l)) : S_fs_Disk_Used (.ptr d 0) h = some (.lit (.int .i64 D.used), h) := by
  rw [S_fs_Disk_Used_eq]
  refine bd (given_run H) (bd rfl (cF rfl (bd rfl (bd rfl (bd (H.ld (k := 2) rfl) rfl)))))
end ops
end Go.Proofs.Ytglmofbcooefkaa.AL
