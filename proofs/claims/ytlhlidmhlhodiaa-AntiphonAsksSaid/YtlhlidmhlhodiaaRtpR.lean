/-
  The reference of rtp: ext.
-/
import Derived.Test.YtlhlidmhlhodiaaRtpP
namespace Go.Proofs.Ytlhlidmhlhodiaa
set_option linter.unusedSimpArgs false
set_option linter.unusedVariables false
open Go.RowKit
attribute [local irreducible] Pv WO WC Fn
set_option maxRecDepth 100000
attribute [local irreducible] ByteArray.extract

theorem tK_err {k : Int} {r : Rs} (h : r.2 ≠ 0) : (tK k r).2 = r := by
  unfold tK rdB; rw [if_pos h]
theorem csN_err {r : Rs} (h : r.2 ≠ 0) : ∀ n, (csN r n).2 = r
  | 0 => rfl
  | n + 1 => by
    rw [csN]
    dsimp only
    rw [tK_err (by rw [csN_err h n]; exact h), csN_err h n]
theorem exR_err {b : Bool} {r : Rs} (h : r.2 ≠ 0) : (exR b r).2.2 = r := by
  unfold exR
  split
  · dsimp only
    have e1 := tK_err (k := 2) h
    have e2 : (tK 2 (tK 2 r).2).2 = r := by rw [tK_err (by rw [e1]; exact h), e1]
    rw [e2]; unfold rdB; rw [if_pos h]
  · rfl
theorem tK1_ok {s : ByteArray} (h : 1 ≤ s.size) : (tK 1 (s, 0)).2.2 = 0 := by
  unfold tK rdB
  dsimp only
  rw [if_neg (by simp), if_neg (by omega), if_neg (by omega)]
theorem prR_short {s : ByteArray} (h : s.size < 2) : prR s = (Rp0, 1) := by
  have e1 : (tK 1 (tK 1 (s, 0)).2).2.2 = 1 := by
    rcases t1_e (s, 0) rfl with h1 | h1
    · have h2 := t1_ok (r := (s, 0)) h1
      have h3 : s.size = 1 + (t1 (s, 0)).2.1.size := by
        have := congrArg ByteArray.size h2.2
        simpa [ByteArray.size_append, b1_size] using this
      have h4 : (t1 (s, 0)).2 = ((t1 (s, 0)).2.1, 0) := Prod.ext rfl h1
      show (t1 (t1 (s, 0)).2).2.2 = 1
      rw [h4]
      have h5 : (t1 (s, 0)).2.1 = E0 := ByteArray.size_eq_zero_iff.1 (by omega)
      rw [h5]; exact congrArg (fun x => x.2.2) t1_end
    · show (t1 (t1 (s, 0)).2).2.2 = 1
      rw [t1_err (r := (t1 (s, 0)).2) (by rw [h1]; omega)]; exact h1
  unfold prR
  rw [if_neg (by omega)]
  dsimp only
  rw [if_neg (by rw [e1]; omega)]
  have h0 : (tK 1 (tK 1 (s, 0)).2).2.2 ≠ 0 := by rw [e1]; omega
  generalize (tK 1 (tK 1 (s, 0)).2) = y at e1 h0 ⊢
  have g1 := tK_err (k := 2) h0
  have g2 : (tK 4 (tK 2 y.2).2).2 = y.2 := by rw [tK_err (by rw [g1]; exact h0), g1]
  have g3 : (tK 4 (tK 4 (tK 2 y.2).2).2).2 = y.2 := by rw [tK_err (by rw [g2]; exact h0), g2]
  have g4 : (csN (tK 4 (tK 4 (tK 2 y.2).2).2).2 ((tK 1 (s, 0)).1 % 16).toNat).2 = y.2 := by rw [g3]; exact csN_err h0 _
  unfold enR
  rw [exR_err (by rw [g4]; exact h0), g4]
  have g5 : (rdB y.2.1 y.2.2 y.2.1.size).2.2 = 1 := by unfold rdB; rw [if_pos h0]; exact e1
  rw [if_pos (by rw [g5]; omega), g5]
theorem tK4_b (r : Rs) : 0 ≤ (tK 4 r).1 ∧ (tK 4 r).1 ≤ 4294967295 := by
  have h : (rdB r.1 r.2 4).1.size ≤ 4 := by have := rdB_size r.1 r.2 4 (by omega); omega
  have h1 := valK_b (rdB r.1 r.2 4).1
  obtain ⟨v0, v1, v2, v3, v4, _⟩ := h1
  show 0 ≤ valK _ _ ∧ valK _ _ ≤ 4294967295
  have h2 : (rdB r.1 r.2 4).1.size = 0 ∨ (rdB r.1 r.2 4).1.size = 1 ∨ (rdB r.1 r.2 4).1.size = 2 ∨ (rdB r.1 r.2 4).1.size = 3 ∨ (rdB r.1 r.2 4).1.size = 4 := by omega
  rcases h2 with h2 | h2 | h2 | h2 | h2
  · rw [h2]; simp [valK]
  · rw [h2]; exact ⟨v0 1, by omega⟩
  · rw [h2]; exact ⟨v0 2, by omega⟩
  · rw [h2]; exact ⟨v0 3, by omega⟩
  · rw [h2]; exact ⟨v0 4, v4⟩
theorem sb_b1 {x : Int} (h : 0 ≤ x ∧ x ≤ 255) : sb (b1 x) 0 = x := by
  have := sb_last E0 h
  rwa [E0_append] at this
theorem two_front {s : ByteArray} (h : 2 ≤ s.size) : ∃ r1 : ByteArray, tK 1 (s, 0) = (sb s 0, (r1, 0)) ∧ tK 1 (r1, 0) = (sb s 1, (s.extract 2 s.size, 0)) := by
  have h1 := tK1_ok (s := s) (by omega)
  have hb := t1_b (s, 0)
  have h2 := (t1_ok (r := (s, 0)) h1).2
  rw [show t1 (s, 0) = tK 1 (s, 0) from rfl] at hb h2
  generalize tK 1 (s, 0) = x at h1 h2 hb ⊢
  obtain ⟨a, r1, e1⟩ := x
  dsimp only at h1 h2 hb ⊢
  subst h1
  have hs1 : s.size = 1 + r1.size := by rw [h2, ByteArray.size_append, b1_size]
  have h3 := tK1_ok (s := r1) (by omega)
  have hb2 := t1_b (r1, 0)
  have h4 := (t1_ok (r := (r1, 0)) h3).2
  rw [show t1 (r1, 0) = tK 1 (r1, 0) from rfl] at hb2 h4
  refine ⟨r1, ?_⟩
  generalize tK 1 (r1, 0) = x at h3 h4 hb2 ⊢
  obtain ⟨b, r2, e2⟩ := x
  dsimp only at h3 h4 hb2 ⊢
  subst h3
  have hs : s = b1 a ++ b1 b ++ r2 := by rw [h2, h4, ByteArray.append_assoc]
  have z : (b1 a ++ b1 b).size = 2 := by rw [ByteArray.size_append, b1_size, b1_size]
  have g0 : sb s 0 = a := by rw [h2, sb_left _ _ (by rw [b1_size]; omega), sb_b1 hb]
  have g1 : sb s 1 = b := by
    rw [hs, sb_left _ _ (by rw [z]; omega)]
    have := sb_last (b1 a) hb2
    rwa [b1_size] at this
  have g2 : s.extract 2 s.size = r2 := by
    have := ByteArray.extract_append_eq_right (a := b1 a ++ b1 b) (b := r2) (i := (b1 a ++ b1 b).size) rfl (by rw [ByteArray.size_append])
    rw [z] at this
    rw [hs, show (b1 a ++ b1 b ++ r2).size = 2 + r2.size by rw [ByteArray.size_append, z]]
    simp only [ByteArray.size_append, b1_size] at this
    exact this
  rw [g0, g1, g2]
  exact ⟨rfl, rfl⟩
end Go.Proofs.Ytlhlidmhlhodiaa
