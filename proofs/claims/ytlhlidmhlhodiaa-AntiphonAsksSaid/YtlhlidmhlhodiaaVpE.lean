/-
  Layer 4, plain: what is read is valid; a beginning is none.
-/
import Derived.Test.YtlhlidmhlhodiaaVpD
namespace Go.Proofs.Ytlhlidmhlhodiaa
set_option linter.unusedSimpArgs false
set_option linter.unusedVariables false
open Go.RowKit
attribute [local irreducible] ByteArray.extract

theorem t1_back {r : Rs} (h : (t1 r).2.2 = 0) : r.2 = 0 ∧ (t1 r).2.1.size + 1 = r.1.size := by
  obtain ⟨h1, h2⟩ := t1_ok h
  refine ⟨h1, ?_⟩
  have := congrArg ByteArray.size h2
  rw [ByteArray.size_append, b1_size] at this
  omega
theorem t1_ext {s z : ByteArray} (h : (t1 (s, 0)).2.2 = 0) : t1 (s ++ z, 0) = ((t1 (s, 0)).1, (t1 (s, 0)).2.1 ++ z, 0) := t1_more (Prod.ext rfl (Prod.ext rfl h))
theorem t1_01 {r : Rs} (h : r.2 = 0 ∨ r.2 = 1) : (t1 r).2.2 = 0 ∨ (t1 r).2.2 = 1 := by
  rcases h with h | h
  · exact t1_e r h
  · right; rw [t1_err (by omega)]; exact h
theorem rs_eta {r : Rs} (h : r.2 = 0) : (r.1, (0 : Int)) = r := by rw [← h]
def bx1 (c : Prop) [Decidable c] : Nat := if c then 1 else 0
/-! the flags' byte -/
theorem sFl_b (a : Int) (r : Rs) : 0 ≤ (sFl a r).1 ∧ (sFl a r).1 ≤ 255 := by
  unfold sFl; split
  · exact t1_b r
  · simp
theorem sFl_back {a : Int} {r : Rs} (h : (sFl a r).2.2 = 0) : r.2 = 0 ∧ (sFl a r).2.1.size + bx1 (127 < a) = r.1.size := by
  unfold sFl bx1 at *
  split
  · rename_i hc; rw [if_pos hc] at h; exact t1_back h
  · rename_i hc; rw [if_neg hc] at h; exact ⟨h, rfl⟩
theorem sFl_ext {a : Int} {s z : ByteArray} (h : (sFl a (s, 0)).2.2 = 0) : sFl a (s ++ z, 0) = ((sFl a (s, 0)).1, (sFl a (s, 0)).2.1 ++ z, 0) := by
  unfold sFl at *
  split
  · rename_i hc; rw [if_pos hc] at h; exact t1_ext h
  · rfl
theorem sFl_01 {a : Int} {r : Rs} (h : r.2 = 0 ∨ r.2 = 1) : (sFl a r).2.2 = 0 ∨ (sFl a r).2.2 = 1 := by
  unfold sFl; split
  · exact t1_01 h
  · exact h
/-! the picture's number -/
theorem sPic_v (f : Int) (r : Rs) : (f / 128 % 2 = 1 ∧ 0 ≤ (sPic f r).1 ∧ (sPic f r).1 ≤ 32767 ∧ ((sPic f r).2.1 = false → (sPic f r).1 ≤ 127)) ∨ (f / 128 % 2 ≠ 1 ∧ (sPic f r).1 = -1 ∧ (sPic f r).2.1 = false) := by
  unfold sPic
  have h1 := t1_b r
  have h2 := t1_b (t1 r).2
  by_cases hc : f / 128 % 2 = 1
  · refine .inl ⟨hc, ?_⟩
    rw [if_pos hc]
    split
    · simp only; refine ⟨by omega, by omega, fun h => by cases h⟩
    · simp only; refine ⟨by omega, by omega, fun _ => by omega⟩
  · exact .inr ⟨hc, by rw [if_neg hc], by rw [if_neg hc]⟩
theorem sPic_back {f : Int} {r : Rs} (h : (sPic f r).2.2.2 = 0) : r.2 = 0 ∧ (sPic f r).2.2.1.size + (if f / 128 % 2 = 1 then (if (sPic f r).2.1 = true then 2 else 1) else 0) = r.1.size := by
  unfold sPic at *
  by_cases hc : f / 128 % 2 = 1
  · rw [if_pos hc] at h ⊢
    rw [if_pos hc]
    by_cases hn : 127 < (t1 r).1
    · rw [if_pos hn] at h ⊢
      obtain ⟨h1, h2⟩ := t1_back (r := (t1 r).2) h
      obtain ⟨h3, h4⟩ := t1_back (r := r) h1
      refine ⟨h3, ?_⟩
      simp only [if_true]; omega
    · rw [if_neg hn] at h ⊢
      obtain ⟨h3, h4⟩ := t1_back (r := r) h
      exact ⟨h3, h4⟩
  · rw [if_neg hc] at h ⊢
    rw [if_neg hc]
    exact ⟨h, rfl⟩
theorem sPic_ext {f : Int} {s z : ByteArray} (h : (sPic f (s, 0)).2.2.2 = 0) : sPic f (s ++ z, 0) = ((sPic f (s, 0)).1, (sPic f (s, 0)).2.1, (sPic f (s, 0)).2.2.1 ++ z, 0) := by
  unfold sPic at *
  by_cases hc : f / 128 % 2 = 1
  · rw [if_pos hc] at h
    rw [if_pos hc, if_pos hc]
    by_cases hn : 127 < (t1 (s, 0)).1
    · rw [if_pos hn] at h
      obtain ⟨h1, _⟩ := t1_back (r := (t1 (s, 0)).2) h
      have e1 := t1_ext (z := z) h1
      have e2 := t1_ext (s := (t1 (s, 0)).2.1) (z := z) (by rw [rs_eta h1]; exact h)
      rw [rs_eta h1] at e2
      rw [e1, if_pos hn, if_pos hn]
      simp only
      rw [e2]
    · rw [if_neg hn] at h
      have e1 := t1_ext (z := z) h
      rw [e1, if_neg hn, if_neg hn]
  · rw [if_neg hc, if_neg hc]
theorem sPic_01 {f : Int} {r : Rs} (h : r.2 = 0 ∨ r.2 = 1) : (sPic f r).2.2.2 = 0 ∨ (sPic f r).2.2.2 = 1 := by
  unfold sPic
  split
  · split
    · exact t1_01 (t1_01 h)
    · exact t1_01 h
  · exact h
/-! the level's -/
theorem sLv_v (f : Int) (r : Rs) : (f / 64 % 2 = 1 ∧ 0 ≤ (sLv f r).1 ∧ (sLv f r).1 ≤ 255) ∨ (f / 64 % 2 ≠ 1 ∧ (sLv f r).1 = -1) := by
  unfold sLv
  by_cases hc : f / 64 % 2 = 1
  · exact .inl ⟨hc, by rw [if_pos hc]; exact t1_b r⟩
  · exact .inr ⟨hc, by rw [if_neg hc]⟩
theorem sLv_back {f : Int} {r : Rs} (h : (sLv f r).2.2 = 0) : r.2 = 0 ∧ (sLv f r).2.1.size + bx1 (f / 64 % 2 = 1) = r.1.size := by
  unfold sLv bx1 at *
  split
  · rename_i hc; rw [if_pos hc] at h; exact t1_back h
  · rename_i hc; rw [if_neg hc] at h; exact ⟨h, rfl⟩
theorem sLv_ext {f : Int} {s z : ByteArray} (h : (sLv f (s, 0)).2.2 = 0) : sLv f (s ++ z, 0) = ((sLv f (s, 0)).1, (sLv f (s, 0)).2.1 ++ z, 0) := by
  unfold sLv at *
  split
  · rename_i hc; rw [if_pos hc] at h; exact t1_ext h
  · rfl
theorem sLv_01 {f : Int} {r : Rs} (h : r.2 = 0 ∨ r.2 = 1) : (sLv f r).2.2 = 0 ∨ (sLv f r).2.2 = 1 := by
  unfold sLv; split
  · exact t1_01 h
  · exact h
/-! the rest -/
theorem sLast_v (f : Int) (r : Rs) : -1 ≤ (sLast f r).1 ∧ (sLast f r).1 ≤ 3 ∧ -1 ≤ (sLast f r).2.2.1 ∧ (sLast f r).2.2.1 ≤ 31 ∧ ((sLast f r).1 < 0 → (sLast f r).2.1 = false) ∧ (0 ≤ (sLast f r).1 ∨ 0 ≤ (sLast f r).2.2.1 → 0 < f / 16 % 4) ∧ (0 ≤ (sLast f r).1 → f / 32 % 2 = 1) ∧ (0 ≤ (sLast f r).2.2.1 → f / 16 % 2 = 1) := by
  unfold sLast
  have h1 := t1_b r
  by_cases hc : 0 < f / 16 % 4
  · rw [if_pos hc]
    simp only
    by_cases h2 : f / 32 % 2 = 1 <;> by_cases h3 : f / 16 % 2 = 1
    · rw [if_pos h2, if_pos h3]; exact ⟨by omega, by omega, by omega, by omega, fun h => by omega, fun _ => hc, fun _ => h2, fun _ => h3⟩
    · rw [if_pos h2, if_neg h3]; exact ⟨by omega, by omega, by omega, by omega, fun h => by omega, fun _ => hc, fun _ => h2, fun h => by omega⟩
    · rw [if_neg h2, if_pos h3]; exact ⟨by omega, by omega, by omega, by omega, fun _ => by simp [h2], fun _ => hc, fun h => by omega, fun _ => h3⟩
    · omega
  · rw [if_neg hc]; exact ⟨by simp, by simp, by simp, by simp, fun _ => rfl, fun h => by simp at h, fun h => by simp at h, fun h => by simp at h⟩
theorem sLast_back {f : Int} {r : Rs} (h : (sLast f r).2.2.2.2 = 0) : r.2 = 0 ∧ (sLast f r).2.2.2.1.size + bx1 (0 < f / 16 % 4) = r.1.size := by
  unfold sLast bx1 at *
  by_cases hc : 0 < f / 16 % 4
  · rw [if_pos hc] at h
    rw [if_pos hc, if_pos hc]; exact t1_back h
  · rw [if_neg hc] at h
    rw [if_neg hc, if_neg hc]; exact ⟨h, rfl⟩
theorem sLast_ext {f : Int} {s z : ByteArray} (h : (sLast f (s, 0)).2.2.2.2 = 0) : sLast f (s ++ z, 0) = ((sLast f (s, 0)).1, (sLast f (s, 0)).2.1, (sLast f (s, 0)).2.2.1, (sLast f (s, 0)).2.2.2.1 ++ z, 0) := by
  unfold sLast at *
  by_cases hc : 0 < f / 16 % 4
  · rw [if_pos hc] at h
    have e1 := t1_ext (z := z) h
    rw [if_pos hc, if_pos hc, e1]
  · rw [if_neg hc, if_neg hc]
theorem sLast_01 {f : Int} {r : Rs} (h : r.2 = 0 ∨ r.2 = 1) : (sLast f r).2.2.2.2 = 0 ∨ (sLast f r).2.2.2.2 = 1 := by
  unfold sLast; split
  · exact t1_01 h
  · exact h
/-! all -/
theorem prs_e (s : ByteArray) : ((prs s).2.2 = 0) ∨ (prs s = (Dc0, E0, 1)) := by
  unfold prs mkD
  simp only
  split
  · rename_i h
    have h1 : (t1 (s, 0)).2.2 = 0 ∨ (t1 (s, 0)).2.2 = 1 := t1_01 (.inl rfl)
    rcases sLast_01 (f := (sFl (t1 (s, 0)).1 (t1 (s, 0)).2).1) (sLv_01 (f := (sFl (t1 (s, 0)).1 (t1 (s, 0)).2).1) (sPic_01 (f := (sFl (t1 (s, 0)).1 (t1 (s, 0)).2).1) (sFl_01 (a := (t1 (s, 0)).1) h1))) with h2 | h2
    · exact absurd h2 h
    · right; rw [h2]
  · exact .inl rfl
theorem prs_back {s : ByteArray} (h : (prs s).2.2 = 0) :
    (t1 (s, 0)).2.2 = 0 ∧ (sFl (t1 (s, 0)).1 (t1 (s, 0)).2).2.2 = 0 ∧ (sPic (sFl (t1 (s, 0)).1 (t1 (s, 0)).2).1 (sFl (t1 (s, 0)).1 (t1 (s, 0)).2).2).2.2.2 = 0
    ∧ (sLv (sFl (t1 (s, 0)).1 (t1 (s, 0)).2).1 (sPic (sFl (t1 (s, 0)).1 (t1 (s, 0)).2).1 (sFl (t1 (s, 0)).1 (t1 (s, 0)).2).2).2.2).2.2 = 0
    ∧ (sLast (sFl (t1 (s, 0)).1 (t1 (s, 0)).2).1 (sLv (sFl (t1 (s, 0)).1 (t1 (s, 0)).2).1 (sPic (sFl (t1 (s, 0)).1 (t1 (s, 0)).2).1 (sFl (t1 (s, 0)).1 (t1 (s, 0)).2).2).2.2).2).2.2.2.2 = 0 := by
  unfold prs mkD at h
  simp only at h
  split at h
  · rename_i h2; exact absurd h h2
  · rename_i h2
    have h5 := Classical.not_not.1 h2
    have h4 := (sLast_back h5).1
    have h3 := (sLv_back h4).1
    have h2' := (sPic_back h3).1
    have h1 := (sFl_back h2').1
    exact ⟨h1, h2', h3, h4, h5⟩
theorem prs_eq {s : ByteArray} {a : Int} {r1 r2 r3 r4 r5 : ByteArray} {f p : Int} {w : Bool} {l y k : Int} {sy : Bool} (h1 : t1 (s, 0) = (a, r1, 0)) (h2 : sFl a (r1, 0) = (f, r2, 0)) (h3 : sPic f (r2, 0) = (p, w, r3, 0)) (h4 : sLv f (r3, 0) = (l, r4, 0)) (h5 : sLast f (r4, 0) = (y, sy, k, r5, 0)) :
    prs s = (⟨decide (a / 32 % 2 = 1), decide (a / 16 % 2 = 1), a % 8, p, w, l, y, sy, k⟩, r5, 0) := by
  unfold prs
  rw [h1]; simp only; rw [h2]; simp only; rw [h3]; simp only; rw [h4]; simp only; rw [h5]
  unfold mkD; simp
theorem prs_parts {s : ByteArray} (h : (prs s).2.2 = 0) : ∃ a r1 f r2 p w r3 l r4 y sy k r5, t1 (s, 0) = (a, r1, 0) ∧ sFl a (r1, 0) = (f, r2, 0) ∧ sPic f (r2, 0) = (p, w, r3, 0) ∧ sLv f (r3, 0) = (l, r4, 0) ∧ sLast f (r4, 0) = (y, sy, k, r5, 0) := by
  obtain ⟨h1, h2, h3, h4, h5⟩ := prs_back h
  generalize e1 : t1 (s, 0) = x1 at *
  obtain ⟨a, r1, z1⟩ := x1
  simp only at h1; subst h1
  simp only at *
  generalize e2 : sFl a (r1, 0) = x2 at *
  obtain ⟨f, r2, z2⟩ := x2
  simp only at h2; subst h2
  simp only at *
  generalize e3 : sPic f (r2, 0) = x3 at *
  obtain ⟨p, w, r3, z3⟩ := x3
  simp only at h3; subst h3
  simp only at *
  generalize e4 : sLv f (r3, 0) = x4 at *
  obtain ⟨l, r4, z4⟩ := x4
  simp only at h4; subst h4
  simp only at *
  generalize e5 : sLast f (r4, 0) = x5 at *
  obtain ⟨y, sy, k, r5, z5⟩ := x5
  simp only at h5; subst h5
  exact ⟨a, r1, f, r2, p, w, r3, l, r4, y, sy, k, r5, rfl, e2, e3, e4, e5⟩
theorem prs_ext {s z : ByteArray} (h : (prs s).2.2 = 0) : prs (s ++ z) = ((prs s).1, (prs s).2.1 ++ z, 0) := by
  obtain ⟨a, r1, f, r2, p, w, r3, l, r4, y, sy, k, r5, h1, h2, h3, h4, h5⟩ := prs_parts h
  rw [prs_eq h1 h2 h3 h4 h5]
  have g1 := t1_ext (z := z) (show (t1 (s, 0)).2.2 = 0 by rw [h1])
  have g2 := sFl_ext (z := z) (show (sFl a (r1, 0)).2.2 = 0 by rw [h2])
  have g3 := sPic_ext (z := z) (show (sPic f (r2, 0)).2.2.2 = 0 by rw [h3])
  have g4 := sLv_ext (z := z) (show (sLv f (r3, 0)).2.2 = 0 by rw [h4])
  have g5 := sLast_ext (z := z) (show (sLast f (r4, 0)).2.2.2.2 = 0 by rw [h5])
  rw [h1] at g1; rw [h2] at g2; rw [h3] at g3; rw [h4] at g4; rw [h5] at g5
  exact prs_eq g1 g2 g3 g4 g5
theorem tPic_size (d : Dc) : (tPic d).size = if 0 ≤ d.pic then (if d.wd = true then 2 else 1) else 0 := by
  unfold tPic
  split
  · split
    · exact numS_size 2 _
    · rfl
  · rfl
theorem prs_ok {s : ByteArray} (h : (prs s).2.2 = 0) : okA (prs s).1 ∧ okF (prs s).1 ∧ (txt (prs s).1).size + (prs s).2.1.size ≤ s.size := by
  obtain ⟨a, r1, f, r2, p, w, r3, l, r4, y, sy, k, r5, h1, h2, h3, h4, h5⟩ := prs_parts h
  rw [prs_eq h1 h2 h3 h4 h5]
  have ha := t1_b (s, 0)
  have b1' := t1_back (r := (s, 0)) (by rw [h1])
  have b2 := sFl_back (a := a) (r := (r1, 0)) (by rw [h2])
  have b3 := sPic_back (f := f) (r := (r2, 0)) (by rw [h3])
  have b4 := sLv_back (f := f) (r := (r3, 0)) (by rw [h4])
  have b5 := sLast_back (f := f) (r := (r4, 0)) (by rw [h5])
  have v3 := sPic_v f (r2, 0)
  have v4 := sLv_v f (r3, 0)
  have v5 := sLast_v f (r4, 0)
  have hf0 : ¬ 127 < a → f = 0 := fun hn => by unfold sFl at h2; rw [if_neg hn] at h2; exact (Prod.ext_iff.1 h2).1.symm
  rw [h1] at ha b1'; rw [h2] at b2; rw [h3] at b3 v3; rw [h4] at b4 v4; rw [h5] at b5 v5
  simp only [bx1] at *
  obtain ⟨v51, v52, v53, v54, v55, v56, v57, v58⟩ := v5
  refine ⟨⟨by simp only; omega, by simp only; omega, by simp only; omega, by simp only; omega, by simp only; omega, by simp only; omega, v51, v52, v53, v54⟩, ⟨?_, ?_, ?_⟩, ?_⟩
  · rintro ⟨g1, g2⟩; simp only at g1 g2
    rcases v3 with v3 | v3
    · omega
    · rw [v3.2.2] at g2; cases g2
  · rintro ⟨g1, g2⟩; simp only at g1 g2
    rcases v3 with v3 | v3
    · have := v3.2.2.2 g2; omega
    · omega
  · rintro ⟨g1, g2⟩; simp only at g1 g2
    rw [v55 g1] at g2; cases g2
  · unfold txt
    rw [ByteArray.size_append, b1_size]
    by_cases hm : moreB ⟨decide (a / 32 % 2 = 1), decide (a / 16 % 2 = 1), a % 8, p, w, l, y, sy, k⟩ = true
    · rw [if_pos hm, ByteArray.size_append, ByteArray.size_append, ByteArray.size_append, b1_size, tPic_size]
      have h127 : 127 < a := by
        by_cases h : 127 < a
        · exact h
        · exfalso
          have := hf0 h; subst this
          unfold moreB at hm
          simp only [Bool.or_eq_true, decide_eq_true_eq] at hm
          omega
      have l1 : (tLv ⟨decide (a / 32 % 2 = 1), decide (a / 16 % 2 = 1), a % 8, p, w, l, y, sy, k⟩).size = if 0 ≤ l then 1 else 0 := by unfold tLv; split <;> rfl
      have l2 : (tLast ⟨decide (a / 32 % 2 = 1), decide (a / 16 % 2 = 1), a % 8, p, w, l, y, sy, k⟩).size = if 0 ≤ y ∨ 0 ≤ k then 1 else 0 := by unfold tLast; split <;> rfl
      rw [l1, l2]
      simp only
      rw [if_pos h127] at b2
      have q3 : (if 0 ≤ p then (if w = true then 2 else 1) else 0) + r3.size ≤ r2.size := by
        rcases v3 with v3 | v3
        · rw [if_pos v3.1] at b3; rw [if_pos v3.2.1]; omega
        · rw [if_neg v3.1] at b3; rw [if_neg (by omega)]; omega
      have q4 : (if 0 ≤ l then 1 else 0) + r4.size ≤ r3.size := by
        rcases v4 with v4 | v4
        · rw [if_pos v4.1] at b4; rw [if_pos v4.2.1]; omega
        · rw [if_neg v4.1] at b4; rw [if_neg (by omega)]; omega
      have q5 : (if 0 ≤ y ∨ 0 ≤ k then 1 else 0) + r5.size ≤ r4.size := by
        by_cases h : 0 ≤ y ∨ 0 ≤ k
        · rw [if_pos (v56 h)] at b5; rw [if_pos h]; omega
        · rw [if_neg h]; split at b5 <;> omega
      omega
    · rw [if_neg hm]
      have : E0.size = 0 := rfl
      rw [this]
      have e2 : r2.size ≤ r1.size := by have := b2.2; split at this <;> omega
      have e3 : r3.size ≤ r2.size := by omega
      have e4 : r4.size ≤ r3.size := by have := b4.2; split at this <;> omega
      have e5 : r5.size ≤ r4.size := by have := b5.2; split at this <;> omega
      omega
/-- a beginning of a valid descriptor's bytes is none -/
theorem prs_cut {d : Dc} (ha : okA d) (hf : okF d) {s z : ByteArray} (h : s ++ z = txt d) (hz : 0 < z.size) : prs s = (Dc0, E0, 1) := by
  rcases prs_e s with h1 | h1
  · exfalso
    have h2 := prs_ext (z := z) h1
    have h3 := prs_txt ha hf E0
    rw [append_E0, ← h, h2] at h3
    have h4 := congrArg (fun x => x.2.1.size) h3
    simp only at h4
    rw [ByteArray.size_append] at h4
    have : E0.size = 0 := rfl
    omega
  · exact h1
end Go.Proofs.Ytlhlidmhlhodiaa
