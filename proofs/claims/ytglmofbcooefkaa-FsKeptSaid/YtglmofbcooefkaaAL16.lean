/- Numbers: what wraps, and what does not. -/
import Derived.Test.YtglmofbcooefkaaAL15
namespace Go.Proofs.Ytglmofbcooefkaa.AL
set_option linter.unusedVariables false
set_option linter.unusedSimpArgs false
open Go

theorem wrap_id {n : Int} (h0 : -9223372036854775808 ≤ n) (h1 : n < 9223372036854775808) : IntKind.i64.wrap n = n := wrap_i64 h0 (by omega)

theorem wrap_u8 (a : Nat) : IntKind.u8.wrap (a : Int) = ((a % 256 : Nat) : Int) := by
  simp only [IntKind.wrap, IntKind.signed, IntKind.bits]; simp

theorem wrap_u32 (a : Nat) : IntKind.u32.wrap (a : Int) = ((a % 4294967296 : Nat) : Int) := by
  simp only [IntKind.wrap, IntKind.signed, IntKind.bits]; simp

theorem wrap_u64 (a : Nat) : IntKind.u64.wrap (a : Int) = ((a % 18446744073709551616 : Nat) : Int) := by
  simp only [IntKind.wrap, IntKind.signed, IntKind.bits]; simp

theorem wrap_u64_id {n : Int} (h0 : 0 ≤ n) (h1 : n < 18446744073709551616) : IntKind.u64.wrap n = n := by
  simp only [IntKind.wrap, IntKind.signed, IntKind.bits]; simp; omega

theorem shr_nat (k : IntKind) (a s : Nat) (hs : s ≤ k.bits) : shrI k (a : Int) (s : Int) = ((a / 2 ^ s : Nat) : Int) := by
  unfold shrI
  have : min ((s : Int).toNat) k.bits = s := by simp; omega
  rw [this]
  rw [Int.fdiv_eq_ediv_of_nonneg _ (by exact_mod_cast Nat.zero_le _)]
  push_cast
  rfl

theorem shr8 (a : Nat) : shrI .i64 (a : Int) 8 = ((a / 256 : Nat) : Int) := shr_nat .i64 a 8 (by decide)

theorem lits_int {a b : Int} (k : IntKind) (h : a = b) : AVal.lit (.int k a) = AVal.lit (.int k b) := by rw [h]

theorem nat_tmod (a b : Nat) : (a : Int).tmod (b : Int) = ((a % b : Nat) : Int) := rfl
theorem nat_tdiv (a b : Nat) : (a : Int).tdiv (b : Int) = ((a / b : Nat) : Int) := rfl
theorem wrap_nat {q : Nat} (h : q < 9223372036854775808) : IntKind.i64.wrap (q : Int) = (q : Int) := wrap_id (by omega) (by omega)

end Go.Proofs.Ytglmofbcooefkaa.AL
