/- What is written is read; how records stand to one another. Plain. -/
import Derived.Test.YtpjocohpogihcaaRefGet
namespace Go.Proofs.Ytpjocohpogihcaa.AL
set_option linter.unusedVariables false
set_option linter.unusedSimpArgs false
set_option maxRecDepth 10000
open Go

theorem num_be : ∀ (k n : Nat), n < 256 ^ k → num (be n k) = n
  | 0, n, h => by simp [be, num]; simp at h; exact h.symm
  | k + 1, n, h => by
    rw [be_cons, num_cons, be_len]
    have h1 : n / 256 ^ k < 256 := Nat.div_lt_of_lt_mul (by rw [Nat.pow_succ] at h; exact h)
    have e : be n k = be (n % 256 ^ k) k := by
      conv => lhs; rw [← Nat.div_add_mod n (256 ^ k), Nat.mul_comm]
      exact be_add _ _ _
    rw [e, num_be k _ (Nat.mod_lt _ (Nat.pow_pos (by omega)))]
    have : (UInt8.ofNat (n / 256 ^ k)).toNat = n / 256 ^ k := by simp; omega
    rw [this]
    have := Nat.div_add_mod n (256 ^ k)
    rw [Nat.mul_comm] at this
    exact this
theorem less_app : ∀ (a b x y : List UInt8), a.length = b.length → Op.bytesLess (a ++ x) (b ++ y) = (decide (num a < num b) || (decide (num a = num b) && Op.bytesLess x y))
  | [], [], x, y, _ => by simp [num]
  | a :: xs, b :: ys, x, y, h => by
    have hl : xs.length = ys.length := by simpa using h
    simp only [List.cons_append, Op.bytesLess, less_app xs ys x y hl, num_cons, hl]
    have h1 := num_lt xs
    have h2 := num_lt ys
    rw [hl] at h1
    rw [Bool.eq_iff_iff]
    simp only [Bool.or_eq_true, Bool.and_eq_true, decide_eq_true_eq, beq_iff_eq]
    have key : a < b ↔ a.toNat < b.toNat := UInt8.lt_iff_toNat_lt
    have key2 : a = b ↔ a.toNat = b.toNat := UInt8.toNat_inj.symm
    rw [key, key2]
    generalize a.toNat = p
    generalize b.toNat = q
    generalize hA : num xs = A at *
    generalize hB : num ys = B at *
    generalize 256 ^ ys.length = M at *
    have c1 : p < q → p * M + A < q * M + B := fun hpq => by
      have : (p + 1) * M ≤ q * M := Nat.mul_le_mul_right M hpq
      rw [Nat.add_mul] at this; omega
    have c2 : q < p → q * M + B < p * M + A := fun hpq => by
      have : (q + 1) * M ≤ p * M := Nat.mul_le_mul_right M hpq
      rw [Nat.add_mul] at this; omega
    rcases Nat.lt_trichotomy p q with hpq | rfl | hpq
    · exact ⟨fun _ => .inl (c1 hpq), fun _ => .inl hpq⟩
    · constructor
      · rintro (h | ⟨_, h | ⟨h, h'⟩⟩)
        · omega
        · exact .inl (by omega)
        · exact .inr ⟨by omega, h'⟩
      · rintro (h | ⟨h, h'⟩)
        · exact .inr ⟨rfl, .inl (by omega)⟩
        · exact .inr ⟨rfl, .inr ⟨by omega, h'⟩⟩
    · have := c2 hpq
      constructor
      · rintro (h | ⟨h, _⟩) <;> omega
      · rintro (h | ⟨h, _⟩) <;> omega
theorem sless_list (x y : ByteArray) : sless x y = Op.bytesLess x.data.toList y.data.toList := by
  unfold sless; rw [ByteArray.toList_eq, ByteArray.toList_eq]
theorem app_list (x y : ByteArray) : (x ++ y).data.toList = x.data.toList ++ y.data.toList := by simp [ByteArray.data_append]
theorem putS_list {n k : Int} (h : putB n k = true) : (putS n k).data.toList = be n.toNat k.toNat := by
  unfold putS; rw [if_pos h]
theorem putB_spec {n k : Int} (h : putB n k = true) : 0 ≤ n ∧ 1 ≤ k ∧ k ≤ 8 ∧ n < 256 ^ k.toNat := by
  simp [putB] at h; omega
theorem size_list (s : ByteArray) : s.size = s.data.toList.length := by rw [Array.length_toList]; rfl

/-- A field that lies somewhere is read. -/
theorem getP_lies {s : ByteArray} {pre post : List UInt8} {n k : Nat} (hs : s.data.toList = pre ++ be n k ++ post) (h1 : 1 ≤ k) (h8 : k ≤ 8) (hn : n < 256 ^ k) (h63 : n < 9223372036854775808) : getP s pre.length k = ((n : Int), true) := by
  have hc : cut s pre.length k = be n k := by
    unfold cut
    rw [hs, List.append_assoc, List.drop_left, List.take_left' (be_len n k)]
  have hz : s.size = pre.length + k + post.length := by rw [size_list, hs]; simp [be_len]; omega
  unfold getP
  have e1 : ((pre.length : Nat) : Int).toNat = pre.length := by omega
  have e2 : ((k : Nat) : Int).toNat = k := by omega
  rw [e1, e2, hc, num_be k n hn, if_pos ⟨by omega, by omega, by omega, by omega, h63⟩]
theorem less_put {a b : Int} {k : Nat} (ha : putB a k = true) (hb : putB b k = true) (x y : List UInt8) :
    Op.bytesLess (be a.toNat k ++ x) (be b.toNat k ++ y) = (decide (a < b) || (decide (a = b) && Op.bytesLess x y)) := by
  have h1 := putB_spec ha
  have h2 := putB_spec hb
  have e : ((k : Nat) : Int).toNat = k := by omega
  rw [e] at h1 h2
  obtain ⟨m, rfl⟩ : ∃ m : Nat, a = m := ⟨a.toNat, by omega⟩
  obtain ⟨l, rfl⟩ : ∃ l : Nat, b = l := ⟨b.toNat, by omega⟩
  have g1 : m < 256 ^ k := by have := h1.2.2.2; exact_mod_cast this
  have g2 : l < 256 ^ k := by have := h2.2.2.2; exact_mod_cast this
  rw [less_app _ _ _ _ (by rw [be_len, be_len])]
  simp only [Int.toNat_natCast, num_be k m g1, num_be k l g2]
  congr 1
  · simp
  · congr 1; simp; omega

/-! Pairs -/
theorem id_put {n : Int} (h : idB n = true) : putB n 4 = true ∧ 0 ≤ n ∧ n < 1048576 := by
  simp [idB] at h
  refine ⟨?_, h.1, h.2⟩
  simp [putB]; omega
theorem pair_lies {a b : Int} (h : (pairP a b).2 = true) : (pairP a b).1.data.toList = be a.toNat 4 ++ be b.toNat 4 ∧ idB a = true ∧ idB b = true ∧ a < b := by
  unfold pairP at h ⊢
  split at h
  · rename_i hc
    simp only [Bool.and_eq_true, decide_eq_true_eq] at hc
    rw [if_pos (by simp only [Bool.and_eq_true, decide_eq_true_eq]; exact hc)]
    refine ⟨?_, hc.1.1, hc.1.2, hc.2⟩
    simp only [app_list]
    rw [putS_list (id_put hc.1.1).1, putS_list (id_put hc.1.2).1]; rfl
  · cases h
theorem field_at {s : ByteArray} (pre post : List UInt8) {n : Int} {a k : Nat} (hp : putB n k = true) (h63 : n < 9223372036854775808) (hs : s.data.toList = pre ++ be n.toNat k ++ post) (ha : pre.length = a) : getP s a k = (n, true) := by
  have h1 := putB_spec hp
  have e : ((k : Nat) : Int).toNat = k := by omega
  rw [e] at h1
  obtain ⟨m, rfl⟩ : ∃ m : Nat, n = m := ⟨n.toNat, by omega⟩
  have g1 : m < 256 ^ k := by have := h1.2.2.2; exact_mod_cast this
  subst ha
  exact getP_lies (by simpa using hs) (by omega) (by omega) g1 (by omega)
theorem pair_back {a b : Int} (h : (pairP a b).2 = true) : getPair (pairP a b).1 = (a, b, true) ∧ (pairP a b).1.size = 8 := by
  obtain ⟨hl, ha, hb, hab⟩ := pair_lies h
  have hsz : (pairP a b).1.size = 8 := by rw [size_list, hl]; simp [be_len]
  have h1 := field_at (s := (pairP a b).1) [] (be b.toNat 4) (k := 4) (id_put ha).1 (by have := (id_put ha).2; omega) (by rw [hl]; rfl) rfl
  have h2 := field_at (s := (pairP a b).1) (be a.toNat 4) [] (k := 4) (id_put hb).1 (by have := (id_put hb).2; omega) (by rw [hl]; simp) (be_len _ _)
  refine ⟨?_, hsz⟩
  unfold getPair
  have e1 : getP (pairP a b).1 0 4 = (a, true) := h1
  have e2 : getP (pairP a b).1 4 4 = (b, true) := h2
  simp [e1, e2, doneB, hsz, mayB, ha, hb, hab]
theorem pair_less {a b c d : Int} (h : (pairP a b).2 = true) (h' : (pairP c d).2 = true) : sless (pairP a b).1 (pairP c d).1 = decide (a < c ∨ a = c ∧ b < d) := by
  obtain ⟨hl, ha, hb, _⟩ := pair_lies h
  obtain ⟨hl', hc, hd, _⟩ := pair_lies h'
  rw [sless_list, hl, hl', less_put (id_put ha).1 (id_put hc).1]
  have := less_put (id_put hb).1 (id_put hd).1 [] []
  rw [List.append_nil, List.append_nil] at this
  rw [this]
  rw [Bool.eq_iff_iff]; simp [Op.bytesLess]
/-! Cells -/
theorem coord_put {x : Int} (h : (coordP x).2 = true) : -2147483648 ≤ x ∧ x < 2147483648 ∧ putB (x + 2147483648) 4 = true ∧ (coordP x).1 = putS (x + 2147483648) 4 := by
  unfold coordP at h ⊢
  split at h
  · rename_i hc; rw [if_pos hc]; exact ⟨hc.1, hc.2, h, rfl⟩
  · cases h
theorem cell_lies {x y n : Int} (h : (cellP x y n).2 = true) : (cellP x y n).1.data.toList = be (x + 2147483648).toNat 4 ++ be (y + 2147483648).toNat 4 ++ be n.toNat 4 ∧ (coordP x).2 = true ∧ (coordP y).2 = true ∧ idB n = true := by
  unfold cellP at h ⊢
  split at h
  · rename_i hc
    rw [if_pos hc]
    simp only [Bool.and_eq_true] at hc
    refine ⟨?_, hc.1.1, hc.1.2, hc.2⟩
    simp only [app_list]
    rw [(coord_put hc.1.1).2.2.2, (coord_put hc.1.2).2.2.2, putS_list (coord_put hc.1.1).2.2.1, putS_list (coord_put hc.1.2).2.2.1, putS_list (id_put hc.2).1]; rfl
  · cases h
theorem cell_back {x y n : Int} (h : (cellP x y n).2 = true) : getCell (cellP x y n).1 = (x, y, n, true) ∧ (cellP x y n).1.size = 12 := by
  obtain ⟨hl, hx, hy, hn⟩ := cell_lies h
  have cx := coord_put hx
  have cy := coord_put hy
  have hsz : (cellP x y n).1.size = 12 := by rw [size_list, hl]; simp [be_len]
  have e1 : getP (cellP x y n).1 0 4 = (x + 2147483648, true) := field_at (s := (cellP x y n).1) [] (be (y + 2147483648).toNat 4 ++ be n.toNat 4) (k := 4) cx.2.2.1 (by omega) (by rw [hl]; simp) rfl
  have e2 : getP (cellP x y n).1 4 4 = (y + 2147483648, true) := field_at (s := (cellP x y n).1) (be (x + 2147483648).toNat 4) (be n.toNat 4) (k := 4) cy.2.2.1 (by omega) (by rw [hl]) (be_len _ _)
  have e3 : getP (cellP x y n).1 8 4 = (n, true) := field_at (s := (cellP x y n).1) (be (x + 2147483648).toNat 4 ++ be (y + 2147483648).toNat 4) [] (k := 4) (id_put hn).1 (by have := (id_put hn).2; omega) (by rw [hl]; simp) (by simp [be_len])
  refine ⟨?_, hsz⟩
  simp only [getCell, doneB, cellBad, getC, e1, e2, e3, hsz, mayB]
  simp [hn]
theorem cell_less {x y n x' y' n' : Int} (h : (cellP x y n).2 = true) (h' : (cellP x' y' n').2 = true) : sless (cellP x y n).1 (cellP x' y' n').1 = decide (x < x' ∨ x = x' ∧ (y < y' ∨ y = y' ∧ n < n')) := by
  obtain ⟨hl, hx, hy, hn⟩ := cell_lies h
  obtain ⟨hl', hx', hy', hn'⟩ := cell_lies h'
  rw [sless_list, hl, hl', List.append_assoc, List.append_assoc, less_put (coord_put hx).2.2.1 (coord_put hx').2.2.1, less_put (coord_put hy).2.2.1 (coord_put hy').2.2.1]
  have := less_put (id_put hn).1 (id_put hn').1 [] []
  rw [List.append_nil, List.append_nil] at this
  rw [this]
  rw [Bool.eq_iff_iff]; simp [Op.bytesLess]
/-! Edges -/
theorem edge_lies {f d i : Int} {b : Bool} (h : (edgeP f d i b).2 = true) : (edgeP f d i b).1.data.toList = be f.toNat 4 ++ be d.toNat 8 ++ be i.toNat 4 ++ be (bitI b).toNat 1 ∧ idB f = true ∧ idB i = true ∧ 0 ≤ d ∧ d ≤ 4611686018427387904 := by
  unfold edgeP at h ⊢
  split at h
  · rename_i hc
    rw [if_pos hc]
    simp only [Bool.and_eq_true, decide_eq_true_eq] at hc
    refine ⟨?_, hc.1.1, hc.1.2, hc.2.1, hc.2.2⟩
    have hb : putB (bitI b) 1 = true := by cases b <;> simp [bitI, putB]
    simp only [app_list]
    rw [putS_list (id_put hc.1.1).1, putS_list (putB_8 hc.2.1 (by omega)), putS_list (id_put hc.1.2).1, putS_list hb]; rfl
  · cases h
theorem bit_put (b : Bool) : putB (bitI b) 1 = true := by cases b <;> simp [bitI, putB]
theorem edge_back {f d i : Int} {b : Bool} (h : (edgeP f d i b).2 = true) : getEdge (edgeP f d i b).1 = (f, d, i, b, true) ∧ (edgeP f d i b).1.size = 17 := by
  obtain ⟨hl, hf, hi, h0, h1⟩ := edge_lies h
  have hsz : (edgeP f d i b).1.size = 17 := by rw [size_list, hl]; simp [be_len]
  have e1 : getP (edgeP f d i b).1 0 4 = (f, true) := field_at (s := (edgeP f d i b).1) [] (be d.toNat 8 ++ be i.toNat 4 ++ be (bitI b).toNat 1) (k := 4) (id_put hf).1 (by have := (id_put hf).2; omega) (by rw [hl]; simp) rfl
  have e2 : getP (edgeP f d i b).1 4 8 = (d, true) := field_at (s := (edgeP f d i b).1) (be f.toNat 4) (be i.toNat 4 ++ be (bitI b).toNat 1) (k := 8) (putB_8 h0 (by omega)) (by omega) (by rw [hl]; simp) (be_len _ _)
  have e3 : getP (edgeP f d i b).1 12 4 = (i, true) := field_at (s := (edgeP f d i b).1) (be f.toNat 4 ++ be d.toNat 8) (be (bitI b).toNat 1) (k := 4) (id_put hi).1 (by have := (id_put hi).2; omega) (by rw [hl]) (by simp [be_len])
  have e4 : getP (edgeP f d i b).1 16 1 = (bitI b, true) := field_at (s := (edgeP f d i b).1) (be f.toNat 4 ++ be d.toNat 8 ++ be i.toNat 4) [] (k := 1) (bit_put b) (by cases b <;> simp [bitI]) (by rw [hl]; simp) (by simp [be_len])
  refine ⟨?_, hsz⟩
  simp only [getEdge, doneB, edgeBad, e1, e2, e3, e4, hsz, mayB]
  cases b <;> simp [hf, hi, h1, bitI]
theorem edge_less {f d i f' d' i' : Int} {b b' : Bool} (h : (edgeP f d i b).2 = true) (h' : (edgeP f' d' i' b').2 = true) : sless (edgeP f d i b).1 (edgeP f' d' i' b').1 = decide (f < f' ∨ f = f' ∧ (d < d' ∨ d = d' ∧ (i < i' ∨ i = i' ∧ (b = false ∧ b' = true)))) := by
  obtain ⟨hl, hf, hi, h0, h1⟩ := edge_lies h
  obtain ⟨hl', hf', hi', h0', h1'⟩ := edge_lies h'
  rw [sless_list, hl, hl']
  simp only [List.append_assoc]
  rw [less_put (id_put hf).1 (id_put hf').1, less_put (putB_8 h0 (by omega)) (putB_8 h0' (by omega)), less_put (id_put hi).1 (id_put hi').1]
  have := less_put (bit_put b) (bit_put b') [] []
  rw [List.append_nil, List.append_nil] at this
  rw [this]
  rw [Bool.eq_iff_iff]
  cases b <;> cases b' <;> simp [Op.bytesLess, bitI]
/-! Draws -/
theorem byte_put {k : Int} (h : 0 ≤ k ∧ k ≤ 255) : putB k 1 = true := putB_1 h.1 h.2
theorem draw_lies {o k l i : Int} (hl63 : l < 9223372036854775808) (h : (drawP o k l i).2 = true) : (drawP o k l i).1.data.toList = be o.toNat 4 ++ be k.toNat 1 ++ be l.toNat 8 ++ be i.toNat 4 ∧ idB o = true ∧ idB i = true ∧ (0 ≤ k ∧ k ≤ 255) ∧ 0 ≤ l := by
  unfold drawP at h ⊢
  split at h
  · rename_i hc
    rw [if_pos hc]
    simp only [Bool.and_eq_true, decide_eq_true_eq] at hc
    refine ⟨?_, hc.1.1, hc.1.2, ⟨hc.2.1, hc.2.2.1⟩, hc.2.2.2⟩
    simp only [app_list]
    rw [putS_list (id_put hc.1.1).1, putS_list (byte_put ⟨hc.2.1, hc.2.2.1⟩), putS_list (putB_8 hc.2.2.2 hl63), putS_list (id_put hc.1.2).1]; rfl
  · cases h
theorem draw_back {o k l i : Int} (hl63 : l < 9223372036854775808) (h : (drawP o k l i).2 = true) : getDraw (drawP o k l i).1 = (o, k, l, i, true) ∧ (drawP o k l i).1.size = 17 := by
  obtain ⟨hl, ho, hi, hk, h0⟩ := draw_lies hl63 h
  have hsz : (drawP o k l i).1.size = 17 := by rw [size_list, hl]; simp [be_len]
  have e1 : getP (drawP o k l i).1 0 4 = (o, true) := field_at (s := (drawP o k l i).1) [] (be k.toNat 1 ++ be l.toNat 8 ++ be i.toNat 4) (k := 4) (id_put ho).1 (by have := (id_put ho).2; omega) (by rw [hl]; simp) rfl
  have e2 : getP (drawP o k l i).1 4 1 = (k, true) := field_at (s := (drawP o k l i).1) (be o.toNat 4) (be l.toNat 8 ++ be i.toNat 4) (k := 1) (byte_put hk) (by omega) (by rw [hl]; simp) (be_len _ _)
  have e3 : getP (drawP o k l i).1 5 8 = (l, true) := field_at (s := (drawP o k l i).1) (be o.toNat 4 ++ be k.toNat 1) (be i.toNat 4) (k := 8) (putB_8 h0 hl63) (by omega) (by rw [hl]) (by simp [be_len])
  have e4 : getP (drawP o k l i).1 13 4 = (i, true) := field_at (s := (drawP o k l i).1) (be o.toNat 4 ++ be k.toNat 1 ++ be l.toNat 8) [] (k := 4) (id_put hi).1 (by have := (id_put hi).2; omega) (by rw [hl]; simp) (by simp [be_len])
  refine ⟨?_, hsz⟩
  simp only [getDraw, doneB, drawBad, e1, e2, e3, e4, hsz, mayB]
  simp [ho, hi]
theorem draw_less {o k l i o' k' l' i' : Int} (hl63 : l < 9223372036854775808) (hl63' : l' < 9223372036854775808) (h : (drawP o k l i).2 = true) (h' : (drawP o' k' l' i').2 = true) :
    sless (drawP o k l i).1 (drawP o' k' l' i').1 = decide (o < o' ∨ o = o' ∧ (k < k' ∨ k = k' ∧ (l < l' ∨ l = l' ∧ i < i'))) := by
  obtain ⟨hl, ho, hi, hk, h0⟩ := draw_lies hl63 h
  obtain ⟨hl', ho', hi', hk', h0'⟩ := draw_lies hl63' h'
  rw [sless_list, hl, hl']
  simp only [List.append_assoc]
  rw [less_put (id_put ho).1 (id_put ho').1, less_put (byte_put hk) (byte_put hk'), less_put (putB_8 h0 hl63) (putB_8 h0' hl63')]
  have := less_put (id_put hi).1 (id_put hi').1 [] []
  rw [List.append_nil, List.append_nil] at this
  rw [this]
  rw [Bool.eq_iff_iff]
  simp [Op.bytesLess]
end Go.Proofs.Ytpjocohpogihcaa.AL
