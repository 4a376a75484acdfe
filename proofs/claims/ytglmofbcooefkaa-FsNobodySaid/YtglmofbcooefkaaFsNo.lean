/- A disk that nobody made: its calls. -/
import Derived.Test.YtglmofbcooefkaaFs
namespace Go.Proofs.Ytglmofbcooefkaa.AL
set_option linter.unusedVariables false
set_option linter.unusedSimpArgs false
set_option maxRecDepth 100000
open Go
open Go.Proofs.Try

def NoOne (h : AHeap) (d : AVal) : Prop := d = .lit (.pointer none) ∨ ∃ b cs, d = .ptr b 0 ∧ cellsAt h b = some (.lit (.bool false) :: cs)
theorem NoOne.psh {h : AHeap} {d : AVal} (hd : NoOne h d) (o : AObj) : NoOne (psh h o) d := by
  rcases hd with rfl | ⟨b, cs, rfl, hc⟩
  · exact .inl rfl
  · exact .inr ⟨b, cs, rfl, cellsAt_psh o hc⟩
def zf : List AVal := [.lit (.string { data := #[] }), .lit (.int .i64 0)]
def zh (h : AHeap) : AHeap := psh h (.cells zf)
theorem stn_zf (h : AHeap) : stn 2 (psh h (.cells [.lit (.string { data := #[] }), .lit (.int .i64 0)])) (.ptr h.length 0) zf = some (zh h) := stn_new rfl rfl rfl
theorem NoOne.zh {h : AHeap} {d : AVal} (hd : NoOne h d) : NoOne (zh h) d := hd.psh _
theorem zh_at (h : AHeap) : cellsAt (zh h) h.length = some zf := cellsAt_new h zf
theorem given_no {h : AHeap} {d : AVal} (hd : NoOne h d) : S_fs_Disk_given d h = some (.lit (.bool false), h) := by
  rw [S_fs_Disk_given_eq]
  rcases hd with rfl | ⟨b, cs, rfl, hc⟩
  · show S_fs_Disk_given_0 false h = _
    rw [S_fs_Disk_given_0_eq]
  · show (ld1 h (.ptr b (0 + 0))).bind _ = _
    rw [ld1_of hc]
    show S_fs_Disk_given_0 false h = _
    rw [S_fs_Disk_given_0_eq]
theorem giv_no {h : AHeap} {d : AVal} (hd : NoOne h d) : onlyR (S_fs_Disk_given d h) h = some (.lit (.bool false)) := by rw [given_no hd, onlyR_same]
theorem call_no {h : AHeap} {d : AVal} (hd : NoOne h d) (m : Bool) : S_fs_Disk_call d m h = some (.lit (.int .i64 1), h) := by
  rw [S_fs_Disk_call_eq, giv_no hd]
  show S_fs_Disk_call_0 d true h = _
  rw [S_fs_Disk_call_0_eq]; rfl
theorem find0_no {h : AHeap} {d : AVal} (hd : NoOne h d) (name : ByteArray) (b : Bool) : S_fs_Disk_find_0 d name h.length d b (zh h) = some (.tup [.agg zf, .lit (.int .i64 1)], zh h) := by
  rw [S_fs_Disk_find_0_eq, call_no hd.zh, Option.bind_some]
  show (stn 2 (zh h) (.ptr h.length 0) zf).bind _ = _
  rw [show stn 2 (zh h) (.ptr h.length 0) zf = some (zh h) from stn_zf h, Option.bind_some]
  rw [ldn_of (zh_at h) (by simp [zf])]; rfl
theorem find_no {h : AHeap} {d : AVal} (hd : NoOne h d) (name : ByteArray) (hs : name.size ≤ 9223372036854775807) (may : Bool) : S_fs_Disk_find d name may h = some (.tup [.agg zf, .lit (.int .i64 1)], zh h) := by
  rw [S_fs_Disk_find_eq]
  cases may with
  | true => rw [cond_true, req_true hs, Option.bind_some]; exact find0_no hd name _
  | false => rw [cond_false]; exact find0_no hd name _
theorem create_no {h : AHeap} {d : AVal} (hd : NoOne h d) (name : ByteArray) (hs : name.size ≤ 9223372036854775807) : S_fs_Disk_Create d name h = some (.lit (.int .i64 1), zh (zh h)) := by
  rw [S_fs_Disk_Create_eq, find_no hd name hs, Option.bind_some]
  show (stn 2 (psh (zh h) (.cells zf)) (.ptr (zh h).length 0) zf).bind _ = _
  rw [show stn 2 (psh (zh h) (.cells zf)) (.ptr (zh h).length 0) zf = some (zh (zh h)) from stn_zf _]; rfl
theorem append_no {h : AHeap} {d : AVal} (hd : NoOne h d) (name s : ByteArray) (hs : name.size ≤ 9223372036854775807) : S_fs_Disk_Append d name s h = some (.lit (.int .i64 1), zh (zh h)) := by
  rw [S_fs_Disk_Append_eq, find_no hd name hs, Option.bind_some]
  show (stn 2 (psh (zh h) (.cells zf)) (.ptr (zh h).length 0) zf).bind _ = _
  rw [show stn 2 (psh (zh h) (.cells zf)) (.ptr (zh h).length 0) zf = some (zh (zh h)) from stn_zf _]; rfl
theorem read_no {h : AHeap} {d : AVal} (hd : NoOne h d) (name : ByteArray) (i n : Int) (hs : name.size ≤ 9223372036854775807) : S_fs_Disk_Read d name i n h = some (.tup [.lit (.string { data := #[] }), .lit (.int .i64 1)], zh (zh h)) := by
  rw [S_fs_Disk_Read_eq, find_no hd name hs, Option.bind_some]
  show (stn 2 (psh (zh h) (.cells zf)) (.ptr (zh h).length 0) zf).bind _ = _
  rw [show stn 2 (psh (zh h) (.cells zf)) (.ptr (zh h).length 0) zf = some (zh (zh h)) from stn_zf _]; rfl
theorem size_no {h : AHeap} {d : AVal} (hd : NoOne h d) (name : ByteArray) (hs : name.size ≤ 9223372036854775807) : S_fs_Disk_Size d name h = some (.tup [.lit (.int .i64 0), .lit (.int .i64 1)], zh (zh h)) := by
  rw [S_fs_Disk_Size_eq, find_no hd name hs, Option.bind_some]
  show (stn 2 (psh (zh h) (.cells zf)) (.ptr (zh h).length 0) zf).bind _ = _
  rw [show stn 2 (psh (zh h) (.cells zf)) (.ptr (zh h).length 0) zf = some (zh (zh h)) from stn_zf _, Option.bind_some]
  show (ld1 (zh (zh h)) (.ptr (zh h).length 0)).bind _ = _
  rw [ld1_of (zh_at (zh h))]; rfl
theorem sync_no {h : AHeap} {d : AVal} (hd : NoOne h d) (name : ByteArray) (hs : name.size ≤ 9223372036854775807) : S_fs_Disk_Sync d name h = some (.lit (.int .i64 1), zh (zh h)) := by
  rw [S_fs_Disk_Sync_eq, find_no hd name hs, Option.bind_some]
  show (stn 2 (psh (zh h) (.cells zf)) (.ptr (zh h).length 0) zf).bind _ = _
  rw [show stn 2 (psh (zh h) (.cells zf)) (.ptr (zh h).length 0) zf = some (zh (zh h)) from stn_zf _, Option.bind_some]
  show S_fs_Disk_Sync_0 1 _ = _
  rw [S_fs_Disk_Sync_0_eq]
theorem rename_no {h : AHeap} {d : AVal} (hd : NoOne h d) (name to : ByteArray) (hs : name.size ≤ 9223372036854775807) (ht : to.size ≤ 9223372036854775807) : S_fs_Disk_Rename d name to h = some (.lit (.int .i64 1), zh (zh h)) := by
  rw [S_fs_Disk_Rename_eq, req_true ht, Option.bind_some, find_no hd name hs, Option.bind_some]
  show (stn 2 (psh (zh h) (.cells zf)) (.ptr (zh h).length 0) zf).bind _ = _
  rw [show stn 2 (psh (zh h) (.cells zf)) (.ptr (zh h).length 0) zf = some (zh (zh h)) from stn_zf _, Option.bind_some]
  show S_fs_Disk_Rename_0 d name to _ 1 true _ = _
  rw [S_fs_Disk_Rename_0_eq]; rfl
theorem remove_no {h : AHeap} {d : AVal} (hd : NoOne h d) (name : ByteArray) (hs : name.size ≤ 9223372036854775807) : S_fs_Disk_Remove d name h = some (.lit (.int .i64 1), zh (zh h)) := by
  rw [S_fs_Disk_Remove_eq, find_no hd name hs, Option.bind_some]
  show (stn 2 (psh (zh h) (.cells zf)) (.ptr (zh h).length 0) zf).bind _ = _
  rw [show stn 2 (psh (zh h) (.cells zf)) (.ptr (zh h).length 0) zf = some (zh (zh h)) from stn_zf _, Option.bind_some]
  show S_fs_Disk_Remove_0 1 _ = _
  rw [S_fs_Disk_Remove_0_eq]
theorem list_no {h : AHeap} {d : AVal} (hd : NoOne h d) : S_fs_Disk_List d h = some (.tup [.lit (.slice none 0 0), .lit (.int .i64 1)], h) := by
  rw [S_fs_Disk_List_eq, call_no hd]; rfl
theorem arm_no {h : AHeap} {d : AVal} (hd : NoOne h d) (n : Int) : S_fs_Disk_Arm d n h = some (.tup [], h) := by
  rw [S_fs_Disk_Arm_eq, giv_no hd]; rfl
theorem rise_no {h : AHeap} {d : AVal} (hd : NoOne h d) (k : AVal) : S_fs_Disk_Rise d k h = some (.tup [], h) := by
  rw [S_fs_Disk_Rise_eq, giv_no hd]; rfl
theorem turn_no {h : AHeap} {d : AVal} (hd : NoOne h d) (name : ByteArray) (i n : Int) : S_fs_Disk_Turn d name i n h = some (.lit (.bool false), h) := by
  rw [S_fs_Disk_Turn_eq, giv_no hd]
  show S_fs_Disk_Turn_0 d name i n true h = _
  rw [S_fs_Disk_Turn_0_eq]; rfl
theorem calls_no {h : AHeap} {d : AVal} (hd : NoOne h d) : S_fs_Disk_Calls d h = some (.lit (.int .i64 0), h) := by
  rw [S_fs_Disk_Calls_eq, giv_no hd]; rfl
theorem used_no {h : AHeap} {d : AVal} (hd : NoOne h d) : S_fs_Disk_Used d h = some (.lit (.int .i64 0), h) := by
  rw [S_fs_Disk_Used_eq, giv_no hd]; rfl
theorem clone_no {h : AHeap} {d : AVal} (hd : NoOne h d) : S_fs_Disk_Clone d h = some (.lit (.pointer none), h) := by
  rw [S_fs_Disk_Clone_eq, giv_no hd]; rfl
end Go.Proofs.Ytglmofbcooefkaa.AL
