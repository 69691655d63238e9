/-
  Layer 2: numbers written and read; the reference's Num.
-/
import Derived.Test.YtlhlidmhlhodiaaOctU
namespace Go.Proofs.Ytlhlidmhlhodiaa
set_option linter.unusedSimpArgs false
set_option linter.unusedVariables false
set_option linter.unusedSimpArgs false
set_option linter.unusedVariables false
open Go.RowKit
set_option maxRecDepth 100000
attribute [local irreducible] Pv WO WC Fn

theorem sb_left (a b : ByteArray) {i : Nat} (h : i < a.size) : sb (a ++ b) i = sb a i := by
  have h' : i < a.data.toList.length := by simpa using h
  unfold sb
  congr 2
  rw [ByteArray.data_append, Array.toList_append, List.getD_eq_getElem?_getD, List.getD_eq_getElem?_getD, List.getElem?_append_left h']
theorem sb_last (a : ByteArray) {x : Int} (h : 0 ≤ x ∧ x ≤ 255) : sb (a ++ b1 x) a.size = x := by
  have e : (((UInt8.ofNat x.toNat).toNat : Nat) : Int) = x := by
    simp only [UInt8.toNat_ofNat']; omega
  unfold sb
  rw [ByteArray.data_append, Array.toList_append, List.getD_eq_getElem?_getD, List.getElem?_append_right (by simp)]
  have : a.size - a.data.toList.length = 0 := by simp
  rw [this]
  exact e
theorem valK_left (a b : ByteArray) : ∀ k, k ≤ a.size → valK (a ++ b) k = valK a k
  | 0, _ => rfl
  | k + 1, h => by rw [valK, valK, valK_left a b k (by omega), sb_left a b (by omega)]
theorem valK_b1 (a : ByteArray) {x : Int} (h : 0 ≤ x ∧ x ≤ 255) : valK (a ++ b1 x) (a.size + 1) = valK a a.size * 256 + x := by
  rw [valK, valK_left a _ _ (Nat.le_refl _), sb_last a h]
theorem valK_num (k : Nat) (x : Int) : valK (numS (k + 1) x) (k + 1) = valK (numS k (x / 256)) k * 256 + x % 256 := by
  have := valK_b1 (numS k (x / 256)) (x := x % 256) (by omega)
  rw [numS_size] at this
  exact this
theorem num_val : ∀ (k : Nat) (x : Int), numS k (valK (numS k x) k) = numS k x
  | 0, _ => rfl
  | k + 1, x => by
    rw [valK_num]
    show numS k ((valK (numS k (x / 256)) k * 256 + x % 256) / 256) ++ b1 ((valK (numS k (x / 256)) k * 256 + x % 256) % 256) = numS k (x / 256) ++ b1 (x % 256)
    rw [show (valK (numS k (x / 256)) k * 256 + x % 256) / 256 = valK (numS k (x / 256)) k by omega, show (valK (numS k (x / 256)) k * 256 + x % 256) % 256 = x % 256 by omega, num_val k]
theorem val_num2 {x : Int} (h : 0 ≤ x ∧ x ≤ 65535) : valK (numS 2 x) 2 = x := by
  rw [valK_num, valK_num]
  show (0 * 256 + x / 256 % 256) * 256 + x % 256 = x
  omega
theorem val_num4 {x : Int} (h : 0 ≤ x ∧ x ≤ 4294967295) : valK (numS 4 x) 4 = x := by
  rw [valK_num, valK_num, valK_num, valK_num]
  show (((0 * 256 + x / 256 / 256 / 256 % 256) * 256 + x / 256 / 256 % 256) * 256 + x / 256 % 256) * 256 + x % 256 = x
  omega
theorem val_b1 {x : Int} (h : 0 ≤ x ∧ x ≤ 255) : valK (b1 x) 1 = x := by
  have := valK_b1 E0 h
  rw [E0_append] at this
  have e : valK (b1 x) 1 = valK E0 0 * 256 + x := this
  rw [e]
  show 0 * 256 + x = x
  omega
theorem numS_front : ∀ (k : Nat) (x : Int), numS (k + 1) x = b1 (sh x k % 256) ++ numS k x
  | 0, x => by
    show E0 ++ b1 (x % 256) = b1 (x % 256) ++ E0
    rw [E0_append, append_E0]
  | k + 1, x => by
    have e : ∀ k, sh (x / 256) k = sh x (k + 1) := fun k => by
      induction k with
      | zero => rfl
      | succ k ih => rw [sh, ih]; rfl
    show numS (k + 1) (x / 256) ++ b1 (x % 256) = b1 (sh x (k + 1) % 256) ++ (numS k (x / 256) ++ b1 (x % 256))
    rw [numS_front k (x / 256), ByteArray.append_assoc, e]
theorem ext_head2 (s z : ByteArray) : (s ++ z).extract 0 s.size = s := by
  apply ByteArray.ext
  simp [ByteArray.data_extract]
theorem ext_tail2 (s z : ByteArray) : (s ++ z).extract s.size (s ++ z).size = z := by
  apply ByteArray.ext
  simp [ByteArray.data_extract]
  rw [show s.data.extract s.size (s.size + z.size) = #[] from by apply Array.eq_empty_of_size_eq_zero; simp]
  show #[] ++ z.data.extract 0 z.data.size = z.data
  simp
theorem rdB_front (z rest : ByteArray) (n : Int) (h : n = (z.size : Int)) : rdB (z ++ rest) 0 n = (z, rest, 0) := by
  unfold rdB
  rw [if_neg (by omega), if_neg (by omega), if_neg (by rw [ByteArray.size_append]; omega), h, Int.toNat_natCast, ext_head2, ext_tail2]
attribute [local irreducible] ByteArray.extract
theorem numsS_one (k : Nat) (x : Int) : numsS k [x] = numS k x := append_E0 _
theorem brows_one {x : Int} (h : 0 ≤ x ∧ x ≤ 255) : [[Value.int .u8 x]] = brows (b1 x) := (b1_rows h).symm
end Go.Proofs.Ytlhlidmhlhodiaa
