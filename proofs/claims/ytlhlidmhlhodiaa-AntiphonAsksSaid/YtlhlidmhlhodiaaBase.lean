/-
  Small words that every proof of this seat uses: results of calls as equations, arithmetic of unsigned kinds. No program in sight.
-/
import Derived.WalkKit
import Derived.Below
import Derived.Lib.Hide
import Derived.Laws.BitsAllLaws
import Derived.Laws.BitsLemmas
namespace Go.Proofs.Ytlhlidmhlhodiaa
set_option linter.unusedSimpArgs false
set_option linter.unusedVariables false
open Go.RowKit

theorem ret_int {k : IntKind} {a b : Int} (h : a = b) : Ending.returned (.int k a) = .returned (.int k b) := by rw [h]
theorem ret_bool {a b : Bool} (h : a = b) : Ending.returned (.bool a) = .returned (.bool b) := by rw [h]
theorem hide {p : Prop} (h : p) : Hid p := h
theorem unhide {p : Prop} (h : Hid p) : p := h

/-- '&' with a number of ones, on an int: the remainder -/
theorem and_ones (x : Int) (k : Nat) (hk : k ≤ 62) : bits .and .i64 x ((2 ^ k - 1 : Nat) : Int) = x % (2 ^ k : Nat) := by
  have h2 : (2 : Nat) ^ k ≤ 2 ^ 62 := Nat.pow_le_pow_right (by omega) hk
  have hp : 0 < (2 : Nat) ^ k := Nat.two_pow_pos k
  have hx : ∀ a : Nat, a < 9223372036854775808 → (BitVec.ofInt 64 (a : Int)).toNat = a := fun a ha => by
    rw [BitVec.ofInt_natCast, BitVec.toNat_ofNat]; exact Nat.mod_eq_of_lt (by omega)
  show IntKind.i64.wrap ((BitVec.ofInt 64 x &&& BitVec.ofInt 64 ((2 ^ k - 1 : Nat) : Int)).toNat : Int) = _
  rw [BitVec.toNat_and, hx (2 ^ k - 1) (by omega), Nat.and_two_pow_sub_one_eq_mod, IntKind.wrap_i64, BitVec.toNat_ofInt]
  have hm : ((x % ((2 ^ 64 : Nat) : Int)).toNat : Int) = x % ((2 ^ 64 : Nat) : Int) := Int.toNat_of_nonneg (Int.emod_nonneg _ (by decide))
  rw [Int.natCast_emod, hm, Int.emod_emod_of_dvd x (by exact_mod_cast Nat.pow_dvd_pow 2 (by omega : k ≤ 64))]
  have h3 := Int.emod_nonneg x (show ((2 ^ k : Nat) : Int) ≠ 0 by omega)
  have h4 := Int.emod_lt_of_pos x (show (0 : Int) < ((2 ^ k : Nat) : Int) by omega)
  omega
theorem and_7 (x : Int) : bits .and .i64 x 7 = x % 8 := and_ones x 3 (by omega)
theorem and_15 (x : Int) : bits .and .i64 x 15 = x % 16 := and_ones x 4 (by omega)
theorem and_31 (x : Int) : bits .and .i64 x 31 = x % 32 := and_ones x 5 (by omega)
theorem and_63 (x : Int) : bits .and .i64 x 63 = x % 64 := and_ones x 6 (by omega)
theorem and_127 (x : Int) : bits .and .i64 x 127 = x % 128 := and_ones x 7 (by omega)
theorem and_16383 (x : Int) : bits .and .i64 x 16383 = x % 16384 := and_ones x 14 (by omega)
theorem and_65535 (x : Int) : bits .and .i64 x 65535 = x % 65536 := and_ones x 16 (by omega)
end Go.Proofs.Ytlhlidmhlhodiaa
