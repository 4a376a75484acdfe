/- What lies in the memory, as the equations ask for it. -/
import Derived.Test.YtglmofbcooefkaaX6
namespace Go.Proofs.Ytglmofbcooefkaa.AL
set_option linter.unusedVariables false
set_option linter.unusedSimpArgs false
open Go

/-- 'delete(m, k)'. -/
def mapDel (d : MKey) (h : AHeap) (m : AVal) (u : Value) : Option AHeap := match m with
  | .lit (.map none) => some h
  | m => mapSet d h m (mdel u)
theorem psh_length (h : AHeap) (o : AObj) : (psh h o).length = h.length + 1 := by simp [psh]
theorem apd_length (h : AHeap) (l : List AObj) : (apd h l).length = h.length + l.length := by simp [apd]
theorem cellsAt_lt {h : AHeap} {b : Nat} {cs : List AVal} (H : cellsAt h b = some cs) : b < h.length := lt_of_getL (cellsAt_some H)
theorem cellsAt_new (h : AHeap) (cs : List AVal) : cellsAt (psh h (.cells cs)) h.length = some cs := by simp [cellsAt, psh]
theorem cellsAt_psh {h : AHeap} {b : Nat} {cs : List AVal} (o : AObj) (H : cellsAt h b = some cs) : cellsAt (psh h o) b = some cs := cellsAt_more [o] H
theorem cellsAt_apd {h : AHeap} {b : Nat} {cs : List AVal} (l : List AObj) (H : cellsAt h b = some cs) : cellsAt (apd h l) b = some cs := cellsAt_more l H
theorem cellsAt_set {h : AHeap} {b : Nat} {cs cs' : List AVal} (H : cellsAt h b = some cs) : cellsAt (h.set b (.cells cs')) b = some cs' := by
  have := cellsAt_lt H
  simp [cellsAt, this]
theorem cellsAt_set_ne {h : AHeap} {b c : Nat} {cs : List AVal} (o : AObj) (hn : c ≠ b) (H : cellsAt h b = some cs) : cellsAt (h.set c o) b = some cs := by
  have := cellsAt_some H
  unfold cellsAt
  rw [List.getElem?_set_ne hn, this]
theorem req_true {p : Prop} [Decidable p] (h : p) : req p = some () := if_pos h
theorem ld1_of {h : AHeap} {b off : Nat} {cs : List AVal} (H : cellsAt h b = some cs) : ld1 h (.ptr b off) = cs[off]? := by simp [ld1, H]
theorem ldn_of {n : Nat} {h : AHeap} {b off : Nat} {cs : List AVal} (H : cellsAt h b = some cs) (hl : off + n ≤ cs.length) : ldn n h (.ptr b off) = some ((cs.drop off).take n) := by simp [ldn, H, req, hl]
theorem st1_of {h : AHeap} {b off : Nat} {cs : List AVal} {x : AVal} (H : cellsAt h b = some cs) (h1 : x.one = true) (hl : off < cs.length) : st1 h (.ptr b off) x = some (h.set b (.cells (cs.set off x))) := by simp [st1, H, req, hl, h1]
theorem stn_of {n : Nat} {h : AHeap} {b off : Nat} {cs vs : List AVal} (H : cellsAt h b = some cs) (h1 : vs.all (·.one) = true) (hn : n = vs.length) (hl : off + vs.length ≤ cs.length) : stn n h (.ptr b off) vs = some (h.set b (.cells (splice cs off vs))) := by
  subst hn
  show (cellsAt h b).bind _ = _
  rw [H, Option.bind_some, req_true ⟨h1, rfl, hl⟩]; rfl
theorem set_psh (h : AHeap) (o o' : AObj) : (psh h o).set h.length o' = psh h o' := by simp [psh]
theorem stn_new {n : Nat} {h : AHeap} {cs vs : List AVal} (h1 : vs.all (·.one) = true) (hn : n = vs.length) (hl : cs.length = n) : stn n (psh h (.cells cs)) (.ptr h.length 0) vs = some (psh h (.cells vs)) := by
  rw [stn_of (cellsAt_new h cs) h1 hn (by omega), set_psh, splice, List.take_zero, List.nil_append, List.drop_of_length_le (by omega), List.append_nil]
theorem req_false {p : Prop} [Decidable p] (h : ¬ p) : req p = none := if_neg h

/-- A function that is told by its own reckoning. -/
theorem selfR {h h' : AHeap} {v : AVal} (_ : HOk h) (hl : h.length ≤ h'.length) : ABody.AEnds h h' (.ret v) fun e g => e = .ret v ∧ g = h' := ⟨_, .ret _, hl, ⟨rfl, rfl⟩, fun ρ w u hR hE => ⟨Fewer.refl _, hR, hE⟩⟩
/-- A receiver that is a pointer. -/
def ptrV (f : Nat → Nat → AHeap → Option (AVal × AHeap)) (v : AVal) (h : AHeap) : Option (AVal × AHeap) := match v with
  | .ptr b o => f b o h
  | _ => none
theorem ptrV_some {f : Nat → Nat → AHeap → Option (AVal × AHeap)} {v : AVal} {h : AHeap} {r : AVal × AHeap} (hx : ptrV f v h = some r) : ∃ b o, v = .ptr b o ∧ f b o h = some r := by
  unfold ptrV at hx; split at hx
  · exact ⟨_, _, rfl, hx⟩
  · cases hx
/-- What leaves the memory. -/
noncomputable def onlyR (x : Option (AVal × AHeap)) (h : AHeap) : Option AVal := x.bind fun r => (reqC (r.2 = h)).bind fun _ => some r.1
theorem onlyR_some {x : Option (AVal × AHeap)} {h : AHeap} {v : AVal} (hx : onlyR x h = some v) : x = some (v, h) := by
  unfold onlyR at hx
  obtain ⟨r, h1, hx⟩ := Option.bind_eq_some_iff.1 hx
  obtain ⟨u, h2, hx⟩ := Option.bind_eq_some_iff.1 hx
  cases hx
  rw [h1, ← reqC_some h2]
theorem onlyR_same (v : AVal) (h : AHeap) : onlyR (some (v, h)) h = some v := by unfold onlyR; rw [Option.bind_some, reqC_true rfl]; rfl
/-- It comes to true. -/
def Tru (x : Option (AVal × AHeap)) : Prop := ∃ h', x = some (.lit (.bool true), h')
theorem Tru.here {h : AHeap} : Tru (some (.lit (.bool true), h)) := ⟨h, rfl⟩
end Go.Proofs.Ytglmofbcooefkaa.AL
