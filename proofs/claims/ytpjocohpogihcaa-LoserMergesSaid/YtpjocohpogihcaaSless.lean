/- The order of texts. -/
import Derived.Test.YtpjocohpogihcaaX7
namespace Go.Proofs.Ytpjocohpogihcaa.AL
set_option linter.unusedVariables false
set_option linter.unusedSimpArgs false
open Go
theorem sless_list (x y : ByteArray) : sless x y = Op.bytesLess x.data.toList y.data.toList := by
  unfold sless; rw [ByteArray.toList_eq, ByteArray.toList_eq]
theorem app_list (x y : ByteArray) : (x ++ y).data.toList = x.data.toList ++ y.data.toList := by simp [ByteArray.data_append]
theorem size_list (s : ByteArray) : s.size = s.data.toList.length := by rw [Array.length_toList]; rfl
theorem bl_irrefl : ∀ x : List UInt8, Op.bytesLess x x = false
  | [] => rfl
  | a :: x => by simp [Op.bytesLess, bl_irrefl x]
theorem bl_trans : ∀ {x y z : List UInt8}, Op.bytesLess x y = true → Op.bytesLess y z = true → Op.bytesLess x z = true
  | [], [], _, h, _ => by simp [Op.bytesLess] at h
  | [], b :: y, [], _, h => by simp [Op.bytesLess] at h
  | [], b :: y, c :: z, _, _ => by simp [Op.bytesLess]
  | a :: x, [], _, h, _ => by simp [Op.bytesLess] at h
  | a :: x, b :: y, [], _, h => by simp [Op.bytesLess] at h
  | a :: x, b :: y, c :: z, h1, h2 => by
    simp only [Op.bytesLess, Bool.or_eq_true, Bool.and_eq_true, decide_eq_true_eq, beq_iff_eq] at h1 h2 ⊢
    rcases h1 with h1 | ⟨rfl, h1⟩ <;> rcases h2 with h2 | ⟨rfl, h2⟩
    · exact .inl (UInt8.lt_trans h1 h2)
    · exact .inl h1
    · exact .inl h2
    · exact .inr ⟨rfl, bl_trans h1 h2⟩
theorem bl_tri : ∀ {x y : List UInt8}, Op.bytesLess x y = false → Op.bytesLess y x = false → x = y
  | [], [], _, _ => rfl
  | [], b :: y, h, _ => by simp [Op.bytesLess] at h
  | a :: x, [], _, h => by simp [Op.bytesLess] at h
  | a :: x, b :: y, h1, h2 => by
    simp only [Op.bytesLess, Bool.or_eq_false_iff, Bool.and_eq_false_iff, decide_eq_false_iff_not, beq_eq_false_iff_ne] at h1 h2
    have e : a = b := by
      have := UInt8.not_lt.1 h1.1
      have := UInt8.not_lt.1 h2.1
      exact UInt8.le_antisymm ‹_› ‹_›
    subst e
    rw [bl_tri (h1.2.resolve_left (by simp)) (h2.2.resolve_left (by simp))]
theorem sl_irrefl (x : ByteArray) : sless x x = false := by rw [sless_list]; exact bl_irrefl _
theorem sl_trans {x y z : ByteArray} (h1 : sless x y = true) (h2 : sless y z = true) : sless x z = true := by
  rw [sless_list] at h1 h2 ⊢; exact bl_trans h1 h2
theorem sl_tri {x y : ByteArray} (h1 : sless x y = false) (h2 : sless y x = false) : x = y := by
  rw [sless_list] at h1 h2
  have := bl_tri h1 h2
  cases x; cases y
  simp only [ByteArray.mk.injEq]
  exact Array.toList_inj.1 this
end Go.Proofs.Ytpjocohpogihcaa.AL
