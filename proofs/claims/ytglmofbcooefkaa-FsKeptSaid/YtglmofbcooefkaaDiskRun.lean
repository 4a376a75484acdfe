/- The disk, as it runs: what each call does to a disk that was made. -/
import Derived.Test.YtglmofbcooefkaaDiskMem
namespace Go.Proofs.Ytglmofbcooefkaa.AL
set_option linter.unusedVariables false
set_option linter.unusedSimpArgs false
set_option maxRecDepth 100000
open Go
open Go.Proofs.Try

/-- Begins a call: the machine is down, or it is not. -/
def downN (D : Dsk) : Bool := D.down || decide (D.fuse = 0)
def callD (D : Dsk) : Dsk := { D with calls := IntKind.wrap .i64 (D.calls + 1), down := downN D, fuse := if D.fuse > -1 then IntKind.wrap .i64 (D.fuse - 1) else D.fuse }
section run
variable {h0 h : AHeap} {d mb : Nat} {D : Dsk} {es : List (Value × AVal)} {l : List File}
theorem dskC_len : (dskC mb D).length = 7 := rfl
theorem given_run (H : DH h0 h d mb (dskC mb D) es) : onlyR (S_fs_Disk_given (.ptr d 0) h) h = some (.lit (.bool true)) := by
  rw [show S_fs_Disk_given (.ptr d 0) h = some (.lit (.bool true), h) from ?_, onlyR_same]
  rw [S_fs_Disk_given_eq]
  refine bd rfl (cT rfl (bd rfl (bd rfl (bd (H.ld (k := 0) rfl) (bd rfl ?_)))))
  exact S_fs_Disk_given_0_eq _ _
theorem call_not (H : DH h0 h d mb (dskC mb D) es) : S_fs_Disk_call (.ptr d 0) false h = some (.lit (.int .i64 1), h) := by
  rw [S_fs_Disk_call_eq]
  refine bd (given_run H) (bd rfl (cF rfl ?_))
  rw [S_fs_Disk_call_0_eq]; rfl
theorem call_may (H : DH h0 h d mb (dskC mb D) es) : ∃ h', S_fs_Disk_call (.ptr d 0) true h = some (.lit (.int .i64 (if downN D then 5 else 0)), h') ∧ DH h0 h' d mb (dskC mb (callD D)) es ∧ Tmp h0 h h' ∧ h'.length = h.length := by
  obtain ⟨h1, e1, H1, T1, l1⟩ := H.std (k := 6) (v := .lit (.int .i64 (IntKind.wrap .i64 (D.calls + 1)))) (by rw [dskC_len]; omega) rfl
  obtain ⟨h2, e2, H2, T2, l2⟩ := H1.std (k := 5) (v := .lit (.bool (downN D))) (by rw [List.length_set, dskC_len]; omega) rfl
  obtain ⟨h3, H3, T3, l3, e3⟩ : ∃ h3, DH h0 h3 d mb (dskC mb (callD D)) es ∧ Tmp h0 h2 h3 ∧ h3.length = h2.length ∧ S_fs_Disk_call_1 (.ptr d 0) (.ptr d 0) (downN D) h1 = S_fs_Disk_call_2 (.ptr d 0) h3 := by
    by_cases hf : D.fuse > -1
    · obtain ⟨h3, e3, H3, T3, l3⟩ := H2.std (k := 4) (v := .lit (.int .i64 (IntKind.wrap .i64 (D.fuse - 1)))) (by rw [List.length_set, List.length_set, dskC_len]; omega) rfl
      refine ⟨h3, ?_, T3, l3, ?_⟩
      · have e : (((dskC mb D).set 6 (.lit (.int .i64 (IntKind.wrap .i64 (D.calls + 1))))).set 5 (.lit (.bool (downN D)))).set 4 (.lit (.int .i64 (IntKind.wrap .i64 (D.fuse - 1)))) = dskC mb (callD D) := by
          unfold callD; rw [if_pos hf]; rfl
        rw [← e]; exact H3
      · rw [S_fs_Disk_call_1_eq]
        exact bd rfl (bd rfl (bd e2 (bd rfl (bd rfl (bd (H2.ld (k := 4) rfl) (bd rfl (cT (decide_eq_true hf) (bd rfl (bd rfl (bd (H2.ld (k := 4) rfl) (bd rfl (bd rfl (bd rfl (bd e3 rfl))))))))))))))
    · refine ⟨h2, ?_, Tmp.refl, rfl, ?_⟩
      · have e : ((dskC mb D).set 6 (.lit (.int .i64 (IntKind.wrap .i64 (D.calls + 1))))).set 5 (.lit (.bool (downN D))) = dskC mb (callD D) := by
          unfold callD; rw [if_neg hf]; rfl
        rw [← e]; exact H2
      · rw [S_fs_Disk_call_1_eq]
        exact bd rfl (bd rfl (bd e2 (bd rfl (bd rfl (bd (H2.ld (k := 4) rfl) (bd rfl (cF (decide_eq_false hf) rfl)))))))
  refine ⟨h3, ?_, H3, (T1.trans T2 (by omega)).trans T3 (by omega), by omega⟩
  rw [S_fs_Disk_call_eq]
  refine bd (given_run H) (bd rfl (cF rfl ?_))
  rw [S_fs_Disk_call_0_eq]
  refine cF rfl (bd rfl (bd rfl (bd (H.ld (k := 6) rfl) (bd rfl (bd rfl (bd rfl (bd e1 (bd rfl (bd rfl (bd (H1.ld (k := 5) rfl) (bd rfl ?_)))))))))))
  have fin : S_fs_Disk_call_1 (.ptr d 0) (.ptr d 0) (downN D) h1 = some (.lit (.int .i64 (if downN D then 5 else 0)), h3) := by
    rw [e3, S_fs_Disk_call_2_eq]
    refine bd rfl (bd rfl (bd (H3.ld (k := 5) rfl) (bd rfl ?_)))
    show cond (downN D) _ _ = _
    cases downN D <;> rfl
  cases hd : D.down with
  | true =>
    show S_fs_Disk_call_1 _ _ true h1 = _
    have : downN D = true := by unfold downN; rw [hd]; rfl
    rw [this] at fin ⊢; exact fin
  | false =>
    refine cF rfl (bd rfl (bd rfl (bd (H1.ld (k := 4) rfl) (bd rfl ?_))))
    have : downN D = decide (D.fuse = 0) := by unfold downN; rw [hd]; rfl
    rw [← this]; exact fin

/-- What 'find' tells: the file, or why there is none. -/
def findR (D : Dsk) (l : List File) (name : ByteArray) (may : Bool) : (ByteArray × Int) × Int := if may && rightB name then (if downN D then ((⟨#[]⟩, 0), 5) else match fask l name with
    | some x => (x, 0)
    | none => ((⟨#[]⟩, 0), 2)) else ((⟨#[]⟩, 0), 1)
def findD (D : Dsk) (name : ByteArray) (may : Bool) : Dsk := if may && rightB name then callD D else D
theorem find_run (H : DH h0 h d mb (dskC mb D) (fileE l)) (name : ByteArray) (hn : name.size ≤ 9223372036854775807) (may : Bool) :
    ∃ h', S_fs_Disk_find (.ptr d 0) name may h = some (.tup [.agg (fileC (findR D l name may).1.1 (findR D l name may).1.2), .lit (.int .i64 (findR D l name may).2)], h') ∧ DH h0 h' d mb (dskC mb (findD D name may)) (fileE l) ∧ Tmp h0 h h' ∧ h.length ≤ h'.length := by
  have hN := H.keep.len
  obtain ⟨H1, T1⟩ := H.psh (.cells zfC)
  have hc1 : cellsAt (psh h (.cells zfC)) h.length = some zfC := cellsAt_new h zfC
  suffices key : ∀ ok, ok = (may && rightB name) → ∃ h', S_fs_Disk_find_0 (.ptr d 0) name h.length (.ptr d 0) ok (psh h (.cells zfC)) = some (.tup [.agg (fileC (findR D l name may).1.1 (findR D l name may).1.2), .lit (.int .i64 (findR D l name may).2)], h') ∧ DH h0 h' d mb (dskC mb (findD D name may)) (fileE l) ∧ Tmp h0 h h' ∧ h.length ≤ h'.length by
    obtain ⟨h', e, r⟩ := key _ rfl
    refine ⟨h', ?_, r⟩
    rw [S_fs_Disk_find_eq]
    cases may with
    | true => exact cT rfl (bd (req_true hn) e)
    | false => exact cF rfl e
  intro ok hok
  unfold findR findD
  rw [← hok]
  cases ok with
  | false =>
    obtain ⟨h2, e2, H2, c2, l2, o2⟩ := H1.tstn (f := h.length) (n := 2) (vs := zfC) hN hc1 rfl rfl rfl
    refine ⟨h2, ?_, H2, fun c hc hl => (o2 c (by omega)).trans (T1 c hc hl), by rw [l2, psh_length]; omega⟩
    rw [S_fs_Disk_find_0_eq]
    exact bd (call_not H1) (bd rfl (cT rfl (bd e2 (bd (ldn_of (n := 2) (off := 0) c2 (Nat.le_refl _)) rfl))))
  | true =>
    obtain ⟨h2, e2, H2, T2, l2⟩ := call_may H1
    have hc2 := T2.cells hN hc1
    rw [psh_length] at l2
    cases hd : downN D with
    | true =>
      rw [hd] at e2
      obtain ⟨h3, e3, H3, c3, l3, o3⟩ := H2.tstn (f := h.length) (n := 2) (vs := zfC) hN hc2 rfl rfl rfl
      refine ⟨h3, ?_, H3, fun c hc hl => (o3 c (by omega)).trans ((T2 c hc (by rw [psh_length]; omega)).trans (T1 c hc hl)), by omega⟩
      rw [S_fs_Disk_find_0_eq]
      exact bd e2 (bd rfl (cT rfl (bd e3 (bd (ldn_of (n := 2) (off := 0) c3 (Nat.le_refl _)) rfl))))
    | false =>
      rw [hd] at e2
      obtain ⟨H3, T3⟩ := H2.psh (.cells zfC)
      have hml := mlook_file (.agg zfC) name l
      have ml : mapAt .str h2 (.map mb) = some (fileE l) := H2.at
      rw [S_fs_Disk_find_0_eq]
      cases hg : fask l name with
      | none =>
        rw [hg] at hml
        have s1 : stn 2 (psh h2 (.cells zfC)) (.ptr h2.length 0) zfC = some (psh h2 (.cells zfC)) := stn_new rfl rfl rfl
        have hc3 := T3.cells hN hc2
        obtain ⟨h4, e4, H4, c4, l4, o4⟩ := H3.tstn (f := h.length) (n := 2) (vs := zfC) hN hc3 rfl rfl rfl
        rw [psh_length] at l4
        refine ⟨h4, ?_, H4, fun c hc hl => (o4 c (by omega)).trans ((T3 c hc (by omega)).trans ((T2 c hc (by rw [psh_length]; omega)).trans (T1 c hc hl))), by omega⟩
        refine bd e2 (bd rfl (cF rfl (bd rfl (bd rfl (bd (H2.ld (k := 3) rfl) (bd ml ?_))))))
        rw [hml]
        exact bd rfl (bd s1 (cT rfl (bd e4 (bd (ldn_of (n := 2) (off := 0) c4 (Nat.le_refl _)) rfl))))
      | some x =>
        rw [hg] at hml
        have s1 : stn 2 (psh h2 (.cells zfC)) (.ptr h2.length 0) (fileC x.1 x.2) = some (psh h2 (.cells (fileC x.1 x.2))) := stn_new rfl rfl rfl
        obtain ⟨H3, T3⟩ := H2.psh (.cells (fileC x.1 x.2))
        have hc3 := T3.cells hN hc2
        obtain ⟨h4, e4, H4, c4, l4, o4⟩ := H3.tstn (f := h.length) (n := 2) (vs := fileC x.1 x.2) hN hc3 rfl rfl rfl
        rw [psh_length] at l4
        refine ⟨h4, ?_, H4, fun c hc hl => (o4 c (by omega)).trans ((T3 c hc (by omega)).trans ((T2 c hc (by rw [psh_length]; omega)).trans (T1 c hc hl))), by omega⟩
        refine bd e2 (bd rfl (cF rfl (bd rfl (bd rfl (bd (H2.ld (k := 3) rfl) (bd ml ?_))))))
        rw [hml]
        exact bd rfl (bd s1 (cF rfl (bd (ldn_of (n := 2) (off := 0) (cellsAt_new h2 _) (Nat.le_refl _)) (bd e4 (bd (ldn_of (n := 2) (off := 0) c4 (Nat.le_refl _)) rfl)))))
end run
end Go.Proofs.Ytglmofbcooefkaa.AL
