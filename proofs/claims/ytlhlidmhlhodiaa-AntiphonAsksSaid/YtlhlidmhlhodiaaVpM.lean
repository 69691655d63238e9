/-
  Layer 4, plain: descriptors, how they are read of bytes, their bytes. No program in sight.
-/
import Derived.Test.YtlhlidmhlhodiaaOctV
namespace Go.Proofs.Ytlhlidmhlhodiaa
set_option linter.unusedSimpArgs false
set_option linter.unusedVariables false
open Go.RowKit
attribute [local irreducible] ByteArray.extract

/-! bits of bytes -/
theorem u8_all {p : Int → Prop} (h : ∀ n : Fin 256, p ((n.val : Nat) : Int)) {a : Int} (ha : 0 ≤ a ∧ a ≤ 255) : p a := by
  have := h ⟨a.toNat, by omega⟩
  rwa [show (((⟨a.toNat, by omega⟩ : Fin 256).val : Nat) : Int) = a by simp; omega] at this
theorem and8_32 {a : Int} : 0 ≤ a ∧ a ≤ 255 → bits .and .u8 a 32 = a / 32 % 2 * 32 := u8_all (p := fun a => bits .and .u8 a 32 = a / 32 % 2 * 32) (by decide +kernel)
theorem and8_16 {a : Int} : 0 ≤ a ∧ a ≤ 255 → bits .and .u8 a 16 = a / 16 % 2 * 16 := u8_all (p := fun a => bits .and .u8 a 16 = a / 16 % 2 * 16) (by decide +kernel)
theorem and8_7 {a : Int} : 0 ≤ a ∧ a ≤ 255 → bits .and .u8 a 7 = a % 8 := u8_all (p := fun a => bits .and .u8 a 7 = a % 8) (by decide +kernel)
theorem and8_128 {a : Int} : 0 ≤ a ∧ a ≤ 255 → bits .and .u8 a 128 = a / 128 % 2 * 128 := u8_all (p := fun a => bits .and .u8 a 128 = a / 128 % 2 * 128) (by decide +kernel)
theorem and8_64 {a : Int} : 0 ≤ a ∧ a ≤ 255 → bits .and .u8 a 64 = a / 64 % 2 * 64 := u8_all (p := fun a => bits .and .u8 a 64 = a / 64 % 2 * 64) (by decide +kernel)
theorem and8_48 {a : Int} : 0 ≤ a ∧ a ≤ 255 → bits .and .u8 a 48 = a / 16 % 4 * 16 := u8_all (p := fun a => bits .and .u8 a 48 = a / 16 % 4 * 16) (by decide +kernel)
theorem and8_31 {a : Int} : 0 ≤ a ∧ a ≤ 255 → bits .and .u8 a 31 = a % 32 := u8_all (p := fun a => bits .and .u8 a 31 = a % 32) (by decide +kernel)
theorem and8_1 {a : Int} : 0 ≤ a ∧ a ≤ 255 → bits .and .u8 a 1 = a % 2 := u8_all (p := fun a => bits .and .u8 a 1 = a % 2) (by decide +kernel)

/-! one byte read -/
abbrev Rs := ByteArray × Int
def t1 (r : Rs) : Int × Rs := (valK (rdB r.1 r.2 1).1 (rdB r.1 r.2 1).1.size, (rdB r.1 r.2 1).2)
theorem t1_b (r : Rs) : 0 ≤ (t1 r).1 ∧ (t1 r).1 ≤ 255 := by
  have h : (rdB r.1 r.2 1).1.size ≤ 1 := by have := rdB_size r.1 r.2 1 (by omega); omega
  have h1 := valK_b (rdB r.1 r.2 1).1
  show 0 ≤ valK _ _ ∧ valK _ _ ≤ 255
  have h2 : (rdB r.1 r.2 1).1.size = 0 ∨ (rdB r.1 r.2 1).1.size = 1 := by omega
  rcases h2 with h2 | h2
  · rw [h2]; simp [valK]
  · rw [h2]; exact ⟨h1.1 1, h1.2.1⟩
theorem t1_size (r : Rs) : (t1 r).2.1.size ≤ r.1.size := rdB_size2 r.1 r.2 1
theorem t1_front {x : Int} (h : 0 ≤ x ∧ x ≤ 255) (z : ByteArray) : t1 (b1 x ++ z, 0) = (x, z, 0) := by
  unfold t1
  rw [rdB_front (b1 x) z 1 rfl]
  show (valK (b1 x) 1, z, 0) = _
  rw [val_b1 h]
theorem t1_err {r : Rs} (h : r.2 ≠ 0) : (t1 r).2 = r := by
  obtain ⟨s, e⟩ := r
  show (rdB s e 1).2 = (s, e)
  unfold rdB
  rw [if_pos h]
theorem t1_end : t1 (E0, 0) = (0, E0, 1) := by decide
/-- a byte that is read stands in front -/
theorem t1_ok {r : Rs} (h : (t1 r).2.2 = 0) : r.2 = 0 ∧ r.1 = b1 (t1 r).1 ++ (t1 r).2.1 := by
  obtain ⟨s, e⟩ := r
  have h0 : e = 0 := by
    by_cases h0 : e = 0
    · exact h0
    · rw [t1_err h0] at h; exact absurd h h0
  subst h0
  refine ⟨rfl, ?_⟩
  have hz : ¬ ((s.size : Int) < 1) := fun hz => by
    have : (t1 (s, 0)).2.2 = 1 := by
      show (rdB s 0 1).2.2 = 1
      unfold rdB
      rw [if_neg (by simp), if_neg (by simp), if_pos hz]
    rw [this] at h; cases h
  obtain ⟨x, z, rfl, hx⟩ : ∃ x z, s = b1 x ++ z ∧ 0 ≤ x ∧ x ≤ 255 := by
    obtain ⟨⟨l⟩⟩ := s
    cases l with
    | nil => exact absurd (by show ((0 : Nat) : Int) < 1; decide) hz
    | cons u l =>
      refine ⟨(u.toNat : Int), ⟨l.toArray⟩, ?_, by have := u.toNat_lt; omega⟩
      have : b1 (u.toNat : Int) = ⟨#[u]⟩ := by simp [b1]
      rw [this]
      apply ByteArray.ext
      simp
  rw [t1_front hx]
theorem t1_more {s z : ByteArray} {x : Int} {s' : ByteArray} (h : t1 (s, 0) = (x, s', 0)) : t1 (s ++ z, 0) = (x, s' ++ z, 0) := by
  have hb := t1_b (s, 0)
  obtain ⟨_, h2⟩ := t1_ok (r := (s, 0)) (by rw [h])
  rw [h] at h2 hb
  simp only at h2 hb
  rw [h2, ByteArray.append_assoc, t1_front hb]
theorem t1_e (r : Rs) (h : r.2 = 0) : (t1 r).2.2 = 0 ∨ (t1 r).2.2 = 1 := by
  obtain ⟨s, e⟩ := r
  simp only at h; subst h
  show (rdB s 0 1).2.2 = 0 ∨ (rdB s 0 1).2.2 = 1
  unfold rdB
  rw [if_neg (by simp), if_neg (by simp)]
  split <;> simp
end Go.Proofs.Ytlhlidmhlhodiaa
