/- Slices, as lists of cells; what stays of the memory. -/
import Derived.Test.YtglmofbcooefkaaKeep
import Derived.Test.YtglmofbcooefkaaAL18
namespace Go.Proofs.Ytglmofbcooefkaa.AL
set_option linter.unusedVariables false
set_option linter.unusedSimpArgs false
set_option maxRecDepth 10000
open Go
/-- 'n' elements of 'k' cells each. -/
def Sl (k : Nat) (h : AHeap) (v : AVal) (n : Nat) (cs : List AVal) : Prop := cs.length = n * k ∧ match v with
  | .sl k' b off len => k' = k ∧ len = n ∧ ∃ all, cellsAt h b = some all ∧ off + n * k ≤ all.length ∧ (all.drop off).take (n * k) = cs
  | .ros all len => len = n ∧ n * k ≤ all.length ∧ all.take (n * k) = cs
  | .lit (.slice none 0 0) => n = 0
  | _ => False
theorem Sl.nil (k : Nat) (h : AHeap) : Sl k h (.lit (.slice none 0 0)) 0 [] := ⟨by simp, rfl⟩
theorem Sl.own {k b n : Nat} {h : AHeap} {cs : List AVal} (H : cellsAt h b = some cs) (hl : cs.length = n * k) : Sl k h (.sl k b 0 n) n cs := ⟨hl, rfl, rfl, cs, H, by omega, by simp [List.take_of_length_le, hl]⟩
theorem Sl.keep {k n : Nat} {h h' : AHeap} {v : AVal} {cs : List AVal} (S : Sl k h v n cs) {X : List Nat} (K : Keep h.length X h h') (hx : ∀ b off len, v = .sl k b off len → b ∉ X) : Sl k h' v n cs := by
  refine ⟨S.1, ?_⟩
  have h2 := S.2
  split at h2
  · obtain ⟨rfl, rfl, all, H, h3, h4⟩ := h2
    exact ⟨rfl, rfl, all, K.cells (cellsAt_lt H) (hx _ _ _ rfl) H, h3, h4⟩
  · exact h2
  · exact h2
  · exact h2.elim
theorem Sl.len {k n : Nat} {h : AHeap} {v : AVal} {cs : List AVal} (S : Sl k h v n cs) : lenV v = some (n : Int) := by
  have h2 := S.2
  split at h2
  · obtain ⟨rfl, rfl, _⟩ := h2; rfl
  · obtain ⟨rfl, _⟩ := h2; rfl
  · subst h2; rfl
  · exact h2.elim
theorem Sl.srcLen {k n : Nat} {h : AHeap} {v : AVal} {cs : List AVal} (S : Sl k h v n cs) : srcLen v = some n := by
  have h2 := S.2
  split at h2
  · obtain ⟨rfl, rfl, _⟩ := h2; rfl
  · obtain ⟨rfl, _⟩ := h2; rfl
  · subst h2; rfl
  · exact h2.elim
theorem Sl.src {k n m : Nat} {h : AHeap} {v : AVal} {cs : List AVal} (S : Sl k h v n cs) (hm : m ≤ n) : srcCells h k v m = some (cs.take (m * k)) := by
  have h2 := S.2
  have hmk : m * k ≤ n * k := Nat.mul_le_mul_right k hm
  split at h2
  · obtain ⟨rfl, rfl, all, H, h3, h4⟩ := h2
    unfold srcCells
    simp only [cellsAt_some H]
    rw [if_pos ⟨by first | trivial | rfl, hm, by omega⟩, ← h4, List.take_take, Nat.min_eq_left hmk]
  · obtain ⟨rfl, h3, h4⟩ := h2
    unfold srcCells
    simp only
    rw [if_pos ⟨hm, by omega⟩, ← h4, List.take_take, Nat.min_eq_left hmk]
  · subst h2
    have : m = 0 := by omega
    subst this
    simp [srcCells]
  · exact h2.elim
theorem Sl.src_all {k n : Nat} {h : AHeap} {v : AVal} {cs : List AVal} (S : Sl k h v n cs) : srcCells h k v n = some cs := by
  rw [S.src (Nat.le_refl _), ← S.1, List.take_length]
/-- One element's place, and what is read there. -/
theorem Sl.idx {k n i : Nat} {h : AHeap} {v : AVal} {cs : List AVal} (S : Sl k h v n cs) (hi : i < n) :
    ∃ p, idxP k v (i : Int) = some p ∧ ldn k h p = some ((cs.drop (i * k)).take k) ∧ (∀ o, o < k → ∃ q, fieldP o p = some q ∧ ld1 h q = cs[i * k + o]?) ∧ (0 < k → ld1 h p = cs[i * k]?) := by
  have h2 := S.2
  have hik : (i + 1) * k ≤ n * k := Nat.mul_le_mul_right k hi
  rw [Nat.add_mul, Nat.one_mul] at hik
  have hint : (0 : Int) ≤ (i : Int) ∧ (i : Int) < (n : Int) := by omega
  split at h2
  · rename_i k' b off len
    obtain ⟨rfl, rfl, all, H, h3, h4⟩ := h2
    refine ⟨.ptr b (off + i * k'), ?_, ?_, fun o ho => ⟨_, rfl, ?_⟩, fun hk => ?_⟩
    · unfold idxP; simp only [Nat.beq_refl]; rw [req_true hint]; rfl
    · rw [ldn_of H (by omega), ← h4, List.drop_take, List.take_take, List.drop_drop, Nat.min_eq_left (by omega)]
    · rw [ld1_of H, ← h4, List.getElem?_take_of_lt (by omega), List.getElem?_drop]; congr 1; omega
    · rw [ld1_of H, ← h4, List.getElem?_take_of_lt (by omega), List.getElem?_drop]
  · rename_i all len
    obtain ⟨rfl, h3, h4⟩ := h2
    refine ⟨.rop (all.drop (i * k)), ?_, ?_, fun o ho => ⟨_, rfl, ?_⟩, fun hk => ?_⟩
    · unfold idxP; simp only; rw [req_true hint]; rfl
    · unfold ldn; simp only; rw [req_true (by simp; omega), ← h4, List.drop_take, List.take_take, Nat.min_eq_left (by omega)]; rfl
    · unfold ld1; simp only [List.drop_drop]
      rw [List.getElem?_drop, ← h4, List.getElem?_take_of_lt (by omega)]; rfl
    · unfold ld1; simp only
      rw [List.getElem?_drop, ← h4, List.getElem?_take_of_lt (by omega)]; rfl
  · omega
  · exact h2.elim
theorem idx_none {k : Nat} {h : AHeap} {v : AVal} {n : Nat} {cs : List AVal} (S : Sl k h v n cs) : True := trivial
/-- A slice that may be appended to: nobody's yet, or all of an object. -/
def Own (k : Nat) (h : AHeap) (v : AVal) (n : Nat) (cs : List AVal) : Prop := cs.length = n * k ∧ ((v = .lit (.slice none 0 0) ∧ n = 0) ∨ ∃ b, v = .sl k b 0 n ∧ cellsAt h b = some cs)
theorem Own.sl {k n : Nat} {h : AHeap} {v : AVal} {cs : List AVal} (O : Own k h v n cs) : Sl k h v n cs := by
  obtain ⟨h1, ⟨rfl, rfl⟩ | ⟨b, rfl, H⟩⟩ := O
  · have : cs = [] := List.length_eq_zero_iff.1 (by omega)
    subst this; exact Sl.nil _ _
  · exact Sl.own H h1
theorem Own.nil (k : Nat) (h : AHeap) : Own k h (.lit (.slice none 0 0)) 0 [] := ⟨by simp, .inl ⟨rfl, rfl⟩⟩
/-- Whose object it is. -/
def At (v : AVal) (b : Nat) : Prop := ∃ k off len, v = .sl k b off len
theorem Own.keep {k n : Nat} {h h' : AHeap} {v : AVal} {cs : List AVal} (O : Own k h v n cs) (K : ∀ b, At v b → h'[b]? = h[b]?) : Own k h' v n cs := by
  obtain ⟨h1, ⟨rfl, rfl⟩ | ⟨b, rfl, H⟩⟩ := O
  · exact ⟨h1, .inl ⟨rfl, rfl⟩⟩
  · refine ⟨h1, .inr ⟨b, rfl, ?_⟩⟩
    have := cellsAt_some H
    unfold cellsAt
    rw [K b ⟨_, _, _, rfl⟩, this]
theorem app_src {k w : Nat} {h : AHeap} {v x : AVal} {n m : Nat} {cs ns : List AVal} (O : Own k h v n cs) (h1 : srcLen x = some m) (h2 : srcCells h k x m = some ns) (hns : ns.length = m * k) (h3 : (n + m) * w ≤ 140737488355328) (h4 : ns.all (·.one) = true) :
    ∃ v' h', appV k w h v x = some (v', h') ∧ Own k h' v' (n + m) (cs ++ ns) ∧ h.length ≤ h'.length ∧ h'.length ≤ h.length + 1 ∧ (∀ b, At v' b → b = h.length) ∧ ∀ c, c < h.length → ¬ At v c → h'[c]? = h[c]? := by
  obtain ⟨hl, ⟨rfl, rfl⟩ | ⟨b, rfl, H⟩⟩ := O
  · have : cs = [] := List.length_eq_zero_iff.1 (by omega)
    subst this
    unfold appV
    rw [h1, Option.bind_some, h2, Option.bind_some]
    simp only
    rw [req_true (by rw [Nat.zero_add] at h3; exact h3)]
    simp only [Option.bind_some]
    by_cases hm : m = 0
    · subst hm
      have : ns = [] := List.length_eq_zero_iff.1 (by omega)
      subst this
      rw [if_pos rfl]
      refine ⟨_, _, rfl, Own.nil _ _, Nat.le_refl _, by omega, fun b hb => ?_, fun _ _ _ => rfl⟩
      obtain ⟨_, _, _, hb⟩ := hb; cases hb
    · rw [if_neg hm]
      refine ⟨_, _, rfl, ⟨by simpa using hns, .inr ⟨_, by rw [Nat.zero_add], by simp [cellsAt]⟩⟩, by simp, by simp, fun b hb => ?_, fun c hc _ => List.getElem?_append_left hc⟩
      obtain ⟨_, _, _, hb⟩ := hb; cases hb; rfl
  · unfold appV
    rw [h1, Option.bind_some, h2, Option.bind_some]
    simp only
    rw [H, Option.bind_some, req_true ⟨by first | trivial | rfl, by omega, h3, h4⟩]
    simp only [Option.bind_some]
    refine ⟨_, _, rfl, ⟨by simp [hl, hns, Nat.add_mul], .inr ⟨_, rfl, ?_⟩⟩, by simp, by simp, fun c hb => ?_, fun c hc hn => ?_⟩
    · have e : (cs.drop 0).take (n * k) = cs := by rw [List.drop_zero, ← hl, List.take_length]
      rw [e]
      simp [cellsAt]
    · obtain ⟨_, _, _, hb⟩ := hb; cases hb; rfl
    · rw [List.getElem?_append_left (by simpa using hc)]
      exact List.getElem?_set_ne fun e => hn ⟨_, _, _, by rw [e]⟩
theorem blit_one {z v : AVal} (h : v.one = true) : blitA 1 [z] 1 [(0, v)] = some [v] := by
  have hp : v.parts = some [v] := by
    cases v with
    | lit u => cases u <;> simp_all [AVal.one, AVal.parts, Value.oneCell']
    | _ => simp_all [AVal.one, AVal.parts]
  unfold blitA
  rw [req_true (by omega)]
  simp [aFill, hp, splice]
theorem blit_agg {k : Nat} {zs xs : List AVal} (hz : zs.length = k) (h : xs.length = k) (hk : k ≤ 16777216) : blitA k zs 1 [(0, .agg xs)] = some xs := by
  unfold blitA
  rw [req_true (by omega)]
  simp only [Option.bind_some, aFill, AVal.parts, List.replicate_one, List.flatten_cons, List.flatten_nil, List.append_nil, Nat.zero_mul, Nat.zero_add]
  rw [if_pos ⟨h, by omega⟩]
  simp [splice, h, hz]
/-- One element is put behind. -/
theorem push_app {k w n : Nat} {h : AHeap} {v : AVal} {cs xs : List AVal} (O : Own k h v n cs) (hx : xs.length = k) (h1 : xs.all (·.one) = true) (hw : (n + 1) * w ≤ 140737488355328) :
    ∃ v' h', appV k w (apd h [.cells xs]) v (.sl k h.length 0 1) = some (v', h') ∧ Own k h' v' (n + 1) (cs ++ xs) ∧ h.length ≤ h'.length ∧ h'.length ≤ h.length + 2 ∧ (∀ b, At v' b → h.length ≤ b) ∧ ∀ c, c < h.length → ¬ At v c → h'[c]? = h[c]? := by
  have hid : ∀ b, At v b → b < h.length := by
    intro b hb
    obtain ⟨_, ⟨rfl, _⟩ | ⟨c, rfl, H⟩⟩ := O
    · obtain ⟨_, _, _, hb⟩ := hb; cases hb
    · obtain ⟨_, _, _, hb⟩ := hb; cases hb; exact cellsAt_lt H
  have O' : Own k (apd h [.cells xs]) v n cs := O.keep fun b hb => by simp only [apd]; exact List.getElem?_append_left (hid b hb)
  have hc : (apd h [AObj.cells xs])[h.length]? = some (.cells xs) := by simp [apd]
  obtain ⟨v', h', a1, a2, a3, a4, a5, a6⟩ := app_src (w := w) (x := .sl k h.length 0 1) (m := 1) (ns := xs) O' rfl (by
    unfold srcCells
    simp only [hc]
    rw [if_pos ⟨by first | trivial | rfl, Nat.le_refl _, by omega⟩]
    simp [← hx]) (by omega) hw h1
  refine ⟨v', h', a1, a2, ?_, ?_, fun b hb => ?_, fun c hc hn => ?_⟩
  · simp [apd] at a3; omega
  · simp [apd] at a4; omega
  · rw [a5 b hb]; simp [apd]
  · rw [a6 c (by simp [apd]; omega) hn]
    simp only [apd]; exact List.getElem?_append_left hc
theorem At.own {k n : Nat} {h : AHeap} {v : AVal} {cs : List AVal} (O : Own k h v n cs) {b : Nat} (hb : At v b) : b < h.length := by
  obtain ⟨_, ⟨rfl, _⟩ | ⟨c, rfl, H⟩⟩ := O
  · obtain ⟨_, _, _, hb⟩ := hb; cases hb
  · obtain ⟨_, _, _, hb⟩ := hb; cases hb; exact cellsAt_lt H
/-- One cell is set in place. -/
theorem Own.set1 {h : AHeap} {v : AVal} {n i : Nat} {cs : List AVal} {x : AVal} (O : Own 1 h v n cs) (hi : i < n) (hx : x.one = true) :
    ∃ p b, At v b ∧ idxP 1 v (i : Int) = some p ∧ st1 h p x = some (h.set b (.cells (cs.set i x))) ∧ Own 1 (h.set b (.cells (cs.set i x))) v n (cs.set i x) := by
  obtain ⟨hl, ⟨rfl, rfl⟩ | ⟨b, rfl, H⟩⟩ := O
  · omega
  · refine ⟨.ptr b i, b, ⟨_, _, _, rfl⟩, ?_, st1_of H hx (by omega), by simpa using hl, .inr ⟨b, rfl, cellsAt_set H⟩⟩
    unfold idxP
    simp only [Nat.beq_refl]
    rw [req_true (by omega)]
    simp
/-- A piece of a slice. -/
theorem Sl.cut {k n lo hi : Nat} {h : AHeap} {v : AVal} {cs : List AVal} (S : Sl k h v n cs) (h1 : lo ≤ hi) (h2 : hi ≤ n) :
    ∃ v', cutV k v (some (lo : Int)) (some (hi : Int)) none = some v' ∧ Sl k h v' (hi - lo) ((cs.drop (lo * k)).take ((hi - lo) * k)) := by
  have e1 : hi * k ≤ n * k := Nat.mul_le_mul_right k h2
  have e2 : lo * k ≤ hi * k := Nat.mul_le_mul_right k h1
  have e3 : (hi - lo) * k = hi * k - lo * k := Nat.sub_mul _ _ _
  have e4 : ((hi : Int) - (lo : Int)).toNat = hi - lo := by omega
  have e5 : (lo : Int).toNat = lo := by omega
  have hs := S.2
  have hl := S.1
  have hlen : ((cs.drop (lo * k)).take ((hi - lo) * k)).length = (hi - lo) * k := by simp; omega
  split at hs
  · rename_i k' b off len
    obtain ⟨rfl, rfl, all, H, h3, h4⟩ := hs
    refine ⟨.sl k' b (off + lo * k') (hi - lo), ?_, hlen, rfl, rfl, all, H, by omega, ?_⟩
    · unfold cutV
      simp only [Nat.beq_refl, Option.getD_some]
      rw [req_true ⟨by omega, by omega, by omega, fun m hm => by cases hm⟩]
      simp only [Option.bind_some, e4, e5]
    · rw [← h4, List.drop_take, List.take_take, List.drop_drop, Nat.min_eq_left (by omega)]
  · rename_i all len
    obtain ⟨rfl, h3, h4⟩ := hs
    refine ⟨.ros (all.drop (lo * k)) (hi - lo), ?_, hlen, rfl, by simp; omega, ?_⟩
    · unfold cutV
      simp only [Option.getD_some]
      rw [req_true ⟨by omega, by omega, by omega, fun m hm => by cases hm⟩]
      simp only [Option.bind_some, e4, e5]
    · rw [← h4, List.drop_take, List.take_take, Nat.min_eq_left (by omega)]
  · subst hs
    have : hi = 0 := by omega
    subst this
    have : lo = 0 := by omega
    subst this
    refine ⟨.lit (.slice none 0 0), ?_, hlen, rfl⟩
    unfold cutV
    simp only [Option.getD_some]
    rw [req_true ⟨by rfl, by rfl, by rfl⟩]; rfl
  · exact hs.elim
/-! Kinds of elements -/
def strVs (l : List ByteArray) : List AVal := l.map fun s => .lit (.string s)
def intVs (l : List Int) : List AVal := l.map fun n => .lit (.int .i64 n)
def boolVs (l : List Bool) : List AVal := l.map fun b => .lit (.bool b)
/-- What came in as a slice. -/
theorem slice_fits {α H : Type} {e : Sh} {k : Nat} {cells : α → List AVal} {Q : α → Prop} (hk : ∀ a, (cells a).length = k) (he : ∀ x : DataW H, Fits e x → ∃ a, absD x = cells a ∧ Q a) {d : DataW H} (hd : Fits (.slice e) d) (h : AHeap) :
    ∃ l : List α, Sl k h ((absD d).headD .any) l.length (l.flatMap cells) ∧ (∀ a ∈ l, Q a) ∧ l.length ≤ maxLen := by
  simp only [Fits] at hd
  rcases hd with rfl | ⟨es, sp, rfl, hl, hall⟩
  · refine ⟨[], Sl.nil _ _, ?_, ?_⟩
    · intro a ha; cases ha
    · exact Nat.zero_le _
  · have key : ∀ es : List (DataW H), (∀ x ∈ es, Fits e x) → ∃ l : List α, l.length = es.length ∧ absDs es = l.flatMap cells ∧ ∀ a ∈ l, Q a := by
      intro es
      induction es with
      | nil => intro _; exact ⟨[], rfl, rfl, fun a ha => by cases ha⟩
      | cons x es ih =>
        intro hx
        obtain ⟨a, h1, h2⟩ := he x (hx x (by simp))
        obtain ⟨l, h3, h4, h5⟩ := ih fun y hy => hx y (by simp [hy])
        refine ⟨a :: l, by simp [h3], by simp [absDs, h1, h4], fun b hb => ?_⟩
        rcases List.mem_cons.1 hb with rfl | hb
        · exact h2
        · exact h5 b hb
    obtain ⟨l, h1, h2, h3⟩ := key es hall
    have hlen : (l.flatMap cells).length = l.length * k := by
      clear h1 h2 h3
      induction l with
      | nil => simp
      | cons a l ih => simp [hk, ih, Nat.add_mul, Nat.add_comm]
    refine ⟨l, ?_, h3, by omega⟩
    simp only [absD, List.headD_cons]
    rw [h2, ← h1]
    exact ⟨hlen, rfl, by omega, by rw [← hlen, List.take_length]⟩
theorem fits_strs {H : Type} {d : DataW H} (hd : Fits (.slice .str) d) (h : AHeap) : ∃ l : List ByteArray, Sl 1 h ((absD d).headD .any) l.length (strVs l) := by
  obtain ⟨l, h1, _, _⟩ := slice_fits (α := ByteArray) (k := 1) (cells := fun s => [.lit (.string s)]) (Q := fun _ => True) (fun _ => rfl) (fun x hx => by
    simp only [Fits] at hx
    obtain ⟨l, rfl, _⟩ := hx
    exact ⟨⟨l.toArray⟩, rfl, trivial⟩) hd h
  refine ⟨l, ?_⟩
  have : (l.flatMap fun s => [AVal.lit (.string s)]) = strVs l := by simp [strVs, List.map_eq_flatMap]
  rwa [this] at h1
theorem fits_bools {H : Type} {d : DataW H} (hd : Fits (.slice .bool) d) (h : AHeap) : ∃ l : List Bool, Sl 1 h ((absD d).headD .any) l.length (boolVs l) := by
  obtain ⟨l, h1, _, _⟩ := slice_fits (α := Bool) (k := 1) (cells := fun s => [.lit (.bool s)]) (Q := fun _ => True) (fun _ => rfl) (fun x hx => by
    simp only [Fits] at hx
    obtain ⟨l, rfl⟩ := hx
    exact ⟨l, rfl, trivial⟩) hd h
  refine ⟨l, ?_⟩
  have : (l.flatMap fun s => [AVal.lit (.bool s)]) = boolVs l := by simp [boolVs, List.map_eq_flatMap]
  rwa [this] at h1
theorem fits_ints {H : Type} {d : DataW H} (hd : Fits (.slice (.int .i64)) d) (h : AHeap) : ∃ l : List Int, Sl 1 h ((absD d).headD .any) l.length (intVs l) := by
  obtain ⟨l, h1, _, _⟩ := slice_fits (α := Int) (k := 1) (cells := fun s => [.lit (.int .i64 s)]) (Q := fun _ => True) (fun _ => rfl) (fun x hx => by
    simp only [Fits] at hx
    obtain ⟨l, rfl, _⟩ := hx
    exact ⟨l, rfl, trivial⟩) hd h
  refine ⟨l, ?_⟩
  have : (l.flatMap fun s => [AVal.lit (.int .i64 s)]) = intVs l := by simp [intVs, List.map_eq_flatMap]
  rwa [this] at h1
theorem Sl.everywhere {k n : Nat} {v : AVal} {cs : List AVal} (S : Sl k [] v n cs) (g : AHeap) : Sl k g v n cs := S.keep (X := []) ⟨by simp, fun c hc => by simp at hc⟩ (fun _ _ _ _ => by simp)
theorem closed_rep {zs : List AVal} (hz : closedL zs = true) : ∀ n, closedL (List.replicate n zs).flatten = true
  | 0 => rfl
  | n + 1 => by
    have app : ∀ (a b : List AVal), closedL a = true → closedL b = true → closedL (a ++ b) = true := by
      intro a
      induction a with
      | nil => intro b _ h; exact h
      | cons x a ih => intro b h1 h2; simp only [closedL, Bool.and_eq_true, List.cons_append] at h1 ⊢; exact ⟨h1.1, ih b h1.2 h2⟩
    rw [List.replicate_succ, List.flatten_cons]
    exact app _ _ hz (closed_rep hz n)
theorem mkA_nat {b n : Nat} {zs : List AVal} (h : b * n ≤ 140737488355328) (h2 : n ≤ 140737488355328) : mkA b zs (n : Int) (n : Int) = some (List.replicate n zs).flatten := by
  unfold mkA
  rw [req_true ⟨by omega, by omega, by rw [← Int.natCast_mul]; omega, by omega⟩]
  simp
theorem flat_one (n : Nat) (z : AVal) : (List.replicate n [z]).flatten = List.replicate n z := by
  induction n with
  | zero => rfl
  | succ n ih => simp [List.replicate_succ, ih]
end Go.Proofs.Ytglmofbcooefkaa.AL
