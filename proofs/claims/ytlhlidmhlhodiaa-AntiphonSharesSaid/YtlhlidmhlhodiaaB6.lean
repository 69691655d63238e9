/-
  Texts of this proof, laid together (part 6 of 7).
-/
import Derived.Test.YtlhlidmhlhodiaaB5
/-
  Layer 4, plain: what is read is valid; a beginning is none.
-/
namespace Go.Proofs.Ytlhlidmhlhodiaa
set_option linter.unusedSimpArgs false
set_option linter.unusedVariables false
open Go.RowKit
attribute [local irreducible] ByteArray.extract

theorem t1_back {r : Rs} (h : (t1 r).2.2 = 0) : r.2 = 0 ∧ (t1 r).2.1.size + 1 = r.1.size := by
  obtain ⟨h1, h2⟩ := t1_ok h
  refine ⟨h1, ?_⟩
  have := congrArg ByteArray.size h2
  rw [ByteArray.size_append, b1_size] at this
  omega
theorem t1_ext {s z : ByteArray} (h : (t1 (s, 0)).2.2 = 0) : t1 (s ++ z, 0) = ((t1 (s, 0)).1, (t1 (s, 0)).2.1 ++ z, 0) := t1_more (Prod.ext rfl (Prod.ext rfl h))
theorem t1_01 {r : Rs} (h : r.2 = 0 ∨ r.2 = 1) : (t1 r).2.2 = 0 ∨ (t1 r).2.2 = 1 := by
  rcases h with h | h
  · exact t1_e r h
  · right; rw [t1_err (by omega)]; exact h
theorem rs_eta {r : Rs} (h : r.2 = 0) : (r.1, (0 : Int)) = r := by rw [← h]
def bx1 (c : Prop) [Decidable c] : Nat := if c then 1 else 0
/-! the flags' byte -/
theorem sFl_b (a : Int) (r : Rs) : 0 ≤ (sFl a r).1 ∧ (sFl a r).1 ≤ 255 := by
  unfold sFl; split
  · exact t1_b r
  · simp
theorem sFl_back {a : Int} {r : Rs} (h : (sFl a r).2.2 = 0) : r.2 = 0 ∧ (sFl a r).2.1.size + bx1 (127 < a) = r.1.size := by
  unfold sFl bx1 at *
  split
  · rename_i hc; rw [if_pos hc] at h; exact t1_back h
  · rename_i hc; rw [if_neg hc] at h; exact ⟨h, rfl⟩
theorem sFl_ext {a : Int} {s z : ByteArray} (h : (sFl a (s, 0)).2.2 = 0) : sFl a (s ++ z, 0) = ((sFl a (s, 0)).1, (sFl a (s, 0)).2.1 ++ z, 0) := by
  unfold sFl at *
  split
  · rename_i hc; rw [if_pos hc] at h; exact t1_ext h
  · rfl
theorem sFl_01 {a : Int} {r : Rs} (h : r.2 = 0 ∨ r.2 = 1) : (sFl a r).2.2 = 0 ∨ (sFl a r).2.2 = 1 := by
  unfold sFl; split
  · exact t1_01 h
  · exact h
/-! the picture's number -/
theorem sPic_v (f : Int) (r : Rs) : (f / 128 % 2 = 1 ∧ 0 ≤ (sPic f r).1 ∧ (sPic f r).1 ≤ 32767 ∧ ((sPic f r).2.1 = false → (sPic f r).1 ≤ 127)) ∨ (f / 128 % 2 ≠ 1 ∧ (sPic f r).1 = -1 ∧ (sPic f r).2.1 = false) := by
  unfold sPic
  have h1 := t1_b r
  have h2 := t1_b (t1 r).2
  by_cases hc : f / 128 % 2 = 1
  · refine .inl ⟨hc, ?_⟩
    rw [if_pos hc]
    split
    · simp only; refine ⟨by omega, by omega, fun h => by cases h⟩
    · simp only; refine ⟨by omega, by omega, fun _ => by omega⟩
  · exact .inr ⟨hc, by rw [if_neg hc], by rw [if_neg hc]⟩
theorem sPic_back {f : Int} {r : Rs} (h : (sPic f r).2.2.2 = 0) : r.2 = 0 ∧ (sPic f r).2.2.1.size + (if f / 128 % 2 = 1 then (if (sPic f r).2.1 = true then 2 else 1) else 0) = r.1.size := by
  unfold sPic at *
  by_cases hc : f / 128 % 2 = 1
  · rw [if_pos hc] at h ⊢
    rw [if_pos hc]
    by_cases hn : 127 < (t1 r).1
    · rw [if_pos hn] at h ⊢
      obtain ⟨h1, h2⟩ := t1_back (r := (t1 r).2) h
      obtain ⟨h3, h4⟩ := t1_back (r := r) h1
      refine ⟨h3, ?_⟩
      simp only [if_true]; omega
    · rw [if_neg hn] at h ⊢
      obtain ⟨h3, h4⟩ := t1_back (r := r) h
      exact ⟨h3, h4⟩
  · rw [if_neg hc] at h ⊢
    rw [if_neg hc]
    exact ⟨h, rfl⟩
theorem sPic_ext {f : Int} {s z : ByteArray} (h : (sPic f (s, 0)).2.2.2 = 0) : sPic f (s ++ z, 0) = ((sPic f (s, 0)).1, (sPic f (s, 0)).2.1, (sPic f (s, 0)).2.2.1 ++ z, 0) := by
  unfold sPic at *
  by_cases hc : f / 128 % 2 = 1
  · rw [if_pos hc] at h
    rw [if_pos hc, if_pos hc]
    by_cases hn : 127 < (t1 (s, 0)).1
    · rw [if_pos hn] at h
      obtain ⟨h1, _⟩ := t1_back (r := (t1 (s, 0)).2) h
      have e1 := t1_ext (z := z) h1
      have e2 := t1_ext (s := (t1 (s, 0)).2.1) (z := z) (by rw [rs_eta h1]; exact h)
      rw [rs_eta h1] at e2
      rw [e1, if_pos hn, if_pos hn]
      simp only
      rw [e2]
    · rw [if_neg hn] at h
      have e1 := t1_ext (z := z) h
      rw [e1, if_neg hn, if_neg hn]
  · rw [if_neg hc, if_neg hc]
theorem sPic_01 {f : Int} {r : Rs} (h : r.2 = 0 ∨ r.2 = 1) : (sPic f r).2.2.2 = 0 ∨ (sPic f r).2.2.2 = 1 := by
  unfold sPic
  split
  · split
    · exact t1_01 (t1_01 h)
    · exact t1_01 h
  · exact h
/-! the level's -/
theorem sLv_v (f : Int) (r : Rs) : (f / 64 % 2 = 1 ∧ 0 ≤ (sLv f r).1 ∧ (sLv f r).1 ≤ 255) ∨ (f / 64 % 2 ≠ 1 ∧ (sLv f r).1 = -1) := by
  unfold sLv
  by_cases hc : f / 64 % 2 = 1
  · exact .inl ⟨hc, by rw [if_pos hc]; exact t1_b r⟩
  · exact .inr ⟨hc, by rw [if_neg hc]⟩
theorem sLv_back {f : Int} {r : Rs} (h : (sLv f r).2.2 = 0) : r.2 = 0 ∧ (sLv f r).2.1.size + bx1 (f / 64 % 2 = 1) = r.1.size := by
  unfold sLv bx1 at *
  split
  · rename_i hc; rw [if_pos hc] at h; exact t1_back h
  · rename_i hc; rw [if_neg hc] at h; exact ⟨h, rfl⟩
theorem sLv_ext {f : Int} {s z : ByteArray} (h : (sLv f (s, 0)).2.2 = 0) : sLv f (s ++ z, 0) = ((sLv f (s, 0)).1, (sLv f (s, 0)).2.1 ++ z, 0) := by
  unfold sLv at *
  split
  · rename_i hc; rw [if_pos hc] at h; exact t1_ext h
  · rfl
theorem sLv_01 {f : Int} {r : Rs} (h : r.2 = 0 ∨ r.2 = 1) : (sLv f r).2.2 = 0 ∨ (sLv f r).2.2 = 1 := by
  unfold sLv; split
  · exact t1_01 h
  · exact h
/-! the rest -/
theorem sLast_v (f : Int) (r : Rs) : -1 ≤ (sLast f r).1 ∧ (sLast f r).1 ≤ 3 ∧ -1 ≤ (sLast f r).2.2.1 ∧ (sLast f r).2.2.1 ≤ 31 ∧ ((sLast f r).1 < 0 → (sLast f r).2.1 = false) ∧ (0 ≤ (sLast f r).1 ∨ 0 ≤ (sLast f r).2.2.1 → 0 < f / 16 % 4) ∧ (0 ≤ (sLast f r).1 → f / 32 % 2 = 1) ∧ (0 ≤ (sLast f r).2.2.1 → f / 16 % 2 = 1) := by
  unfold sLast
  have h1 := t1_b r
  by_cases hc : 0 < f / 16 % 4
  · rw [if_pos hc]
    simp only
    by_cases h2 : f / 32 % 2 = 1 <;> by_cases h3 : f / 16 % 2 = 1
    · rw [if_pos h2, if_pos h3]; exact ⟨by omega, by omega, by omega, by omega, fun h => by omega, fun _ => hc, fun _ => h2, fun _ => h3⟩
    · rw [if_pos h2, if_neg h3]; exact ⟨by omega, by omega, by omega, by omega, fun h => by omega, fun _ => hc, fun _ => h2, fun h => by omega⟩
    · rw [if_neg h2, if_pos h3]; exact ⟨by omega, by omega, by omega, by omega, fun _ => by simp [h2], fun _ => hc, fun h => by omega, fun _ => h3⟩
    · omega
  · rw [if_neg hc]; exact ⟨by simp, by simp, by simp, by simp, fun _ => rfl, fun h => by simp at h, fun h => by simp at h, fun h => by simp at h⟩
theorem sLast_back {f : Int} {r : Rs} (h : (sLast f r).2.2.2.2 = 0) : r.2 = 0 ∧ (sLast f r).2.2.2.1.size + bx1 (0 < f / 16 % 4) = r.1.size := by
  unfold sLast bx1 at *
  by_cases hc : 0 < f / 16 % 4
  · rw [if_pos hc] at h
    rw [if_pos hc, if_pos hc]; exact t1_back h
  · rw [if_neg hc] at h
    rw [if_neg hc, if_neg hc]; exact ⟨h, rfl⟩
theorem sLast_ext {f : Int} {s z : ByteArray} (h : (sLast f (s, 0)).2.2.2.2 = 0) : sLast f (s ++ z, 0) = ((sLast f (s, 0)).1, (sLast f (s, 0)).2.1, (sLast f (s, 0)).2.2.1, (sLast f (s, 0)).2.2.2.1 ++ z, 0) := by
  unfold sLast at *
  by_cases hc : 0 < f / 16 % 4
  · rw [if_pos hc] at h
    have e1 := t1_ext (z := z) h
    rw [if_pos hc, if_pos hc, e1]
  · rw [if_neg hc, if_neg hc]
theorem sLast_01 {f : Int} {r : Rs} (h : r.2 = 0 ∨ r.2 = 1) : (sLast f r).2.2.2.2 = 0 ∨ (sLast f r).2.2.2.2 = 1 := by
  unfold sLast; split
  · exact t1_01 h
  · exact h
/-! all -/
theorem prs_e (s : ByteArray) : ((prs s).2.2 = 0) ∨ (prs s = (Dc0, E0, 1)) := by
  unfold prs mkD
  simp only
  split
  · rename_i h
    have h1 : (t1 (s, 0)).2.2 = 0 ∨ (t1 (s, 0)).2.2 = 1 := t1_01 (.inl rfl)
    rcases sLast_01 (f := (sFl (t1 (s, 0)).1 (t1 (s, 0)).2).1) (sLv_01 (f := (sFl (t1 (s, 0)).1 (t1 (s, 0)).2).1) (sPic_01 (f := (sFl (t1 (s, 0)).1 (t1 (s, 0)).2).1) (sFl_01 (a := (t1 (s, 0)).1) h1))) with h2 | h2
    · exact absurd h2 h
    · right; rw [h2]
  · exact .inl rfl
theorem prs_back {s : ByteArray} (h : (prs s).2.2 = 0) :
    (t1 (s, 0)).2.2 = 0 ∧ (sFl (t1 (s, 0)).1 (t1 (s, 0)).2).2.2 = 0 ∧ (sPic (sFl (t1 (s, 0)).1 (t1 (s, 0)).2).1 (sFl (t1 (s, 0)).1 (t1 (s, 0)).2).2).2.2.2 = 0
    ∧ (sLv (sFl (t1 (s, 0)).1 (t1 (s, 0)).2).1 (sPic (sFl (t1 (s, 0)).1 (t1 (s, 0)).2).1 (sFl (t1 (s, 0)).1 (t1 (s, 0)).2).2).2.2).2.2 = 0
    ∧ (sLast (sFl (t1 (s, 0)).1 (t1 (s, 0)).2).1 (sLv (sFl (t1 (s, 0)).1 (t1 (s, 0)).2).1 (sPic (sFl (t1 (s, 0)).1 (t1 (s, 0)).2).1 (sFl (t1 (s, 0)).1 (t1 (s, 0)).2).2).2.2).2).2.2.2.2 = 0 := by
  unfold prs mkD at h
  simp only at h
  split at h
  · rename_i h2; exact absurd h h2
  · rename_i h2
    have h5 := Classical.not_not.1 h2
    have h4 := (sLast_back h5).1
    have h3 := (sLv_back h4).1
    have h2' := (sPic_back h3).1
    have h1 := (sFl_back h2').1
    exact ⟨h1, h2', h3, h4, h5⟩
theorem prs_eq {s : ByteArray} {a : Int} {r1 r2 r3 r4 r5 : ByteArray} {f p : Int} {w : Bool} {l y k : Int} {sy : Bool} (h1 : t1 (s, 0) = (a, r1, 0)) (h2 : sFl a (r1, 0) = (f, r2, 0)) (h3 : sPic f (r2, 0) = (p, w, r3, 0)) (h4 : sLv f (r3, 0) = (l, r4, 0)) (h5 : sLast f (r4, 0) = (y, sy, k, r5, 0)) :
    prs s = (⟨decide (a / 32 % 2 = 1), decide (a / 16 % 2 = 1), a % 8, p, w, l, y, sy, k⟩, r5, 0) := by
  unfold prs
  rw [h1]; simp only; rw [h2]; simp only; rw [h3]; simp only; rw [h4]; simp only; rw [h5]
  unfold mkD; simp
theorem prs_parts {s : ByteArray} (h : (prs s).2.2 = 0) : ∃ a r1 f r2 p w r3 l r4 y sy k r5, t1 (s, 0) = (a, r1, 0) ∧ sFl a (r1, 0) = (f, r2, 0) ∧ sPic f (r2, 0) = (p, w, r3, 0) ∧ sLv f (r3, 0) = (l, r4, 0) ∧ sLast f (r4, 0) = (y, sy, k, r5, 0) := by
  obtain ⟨h1, h2, h3, h4, h5⟩ := prs_back h
  generalize e1 : t1 (s, 0) = x1 at *
  obtain ⟨a, r1, z1⟩ := x1
  simp only at h1; subst h1
  simp only at *
  generalize e2 : sFl a (r1, 0) = x2 at *
  obtain ⟨f, r2, z2⟩ := x2
  simp only at h2; subst h2
  simp only at *
  generalize e3 : sPic f (r2, 0) = x3 at *
  obtain ⟨p, w, r3, z3⟩ := x3
  simp only at h3; subst h3
  simp only at *
  generalize e4 : sLv f (r3, 0) = x4 at *
  obtain ⟨l, r4, z4⟩ := x4
  simp only at h4; subst h4
  simp only at *
  generalize e5 : sLast f (r4, 0) = x5 at *
  obtain ⟨y, sy, k, r5, z5⟩ := x5
  simp only at h5; subst h5
  exact ⟨a, r1, f, r2, p, w, r3, l, r4, y, sy, k, r5, rfl, e2, e3, e4, e5⟩
theorem prs_ext {s z : ByteArray} (h : (prs s).2.2 = 0) : prs (s ++ z) = ((prs s).1, (prs s).2.1 ++ z, 0) := by
  obtain ⟨a, r1, f, r2, p, w, r3, l, r4, y, sy, k, r5, h1, h2, h3, h4, h5⟩ := prs_parts h
  rw [prs_eq h1 h2 h3 h4 h5]
  have g1 := t1_ext (z := z) (show (t1 (s, 0)).2.2 = 0 by rw [h1])
  have g2 := sFl_ext (z := z) (show (sFl a (r1, 0)).2.2 = 0 by rw [h2])
  have g3 := sPic_ext (z := z) (show (sPic f (r2, 0)).2.2.2 = 0 by rw [h3])
  have g4 := sLv_ext (z := z) (show (sLv f (r3, 0)).2.2 = 0 by rw [h4])
  have g5 := sLast_ext (z := z) (show (sLast f (r4, 0)).2.2.2.2 = 0 by rw [h5])
  rw [h1] at g1; rw [h2] at g2; rw [h3] at g3; rw [h4] at g4; rw [h5] at g5
  exact prs_eq g1 g2 g3 g4 g5
theorem tPic_size (d : Dc) : (tPic d).size = if 0 ≤ d.pic then (if d.wd = true then 2 else 1) else 0 := by
  unfold tPic
  split
  · split
    · exact numS_size 2 _
    · rfl
  · rfl
theorem prs_ok {s : ByteArray} (h : (prs s).2.2 = 0) : okA (prs s).1 ∧ okF (prs s).1 ∧ (txt (prs s).1).size + (prs s).2.1.size ≤ s.size := by
  obtain ⟨a, r1, f, r2, p, w, r3, l, r4, y, sy, k, r5, h1, h2, h3, h4, h5⟩ := prs_parts h
  rw [prs_eq h1 h2 h3 h4 h5]
  have ha := t1_b (s, 0)
  have b1' := t1_back (r := (s, 0)) (by rw [h1])
  have b2 := sFl_back (a := a) (r := (r1, 0)) (by rw [h2])
  have b3 := sPic_back (f := f) (r := (r2, 0)) (by rw [h3])
  have b4 := sLv_back (f := f) (r := (r3, 0)) (by rw [h4])
  have b5 := sLast_back (f := f) (r := (r4, 0)) (by rw [h5])
  have v3 := sPic_v f (r2, 0)
  have v4 := sLv_v f (r3, 0)
  have v5 := sLast_v f (r4, 0)
  have hf0 : ¬ 127 < a → f = 0 := fun hn => by unfold sFl at h2; rw [if_neg hn] at h2; exact (Prod.ext_iff.1 h2).1.symm
  rw [h1] at ha b1'; rw [h2] at b2; rw [h3] at b3 v3; rw [h4] at b4 v4; rw [h5] at b5 v5
  simp only [bx1] at *
  obtain ⟨v51, v52, v53, v54, v55, v56, v57, v58⟩ := v5
  refine ⟨⟨by simp only; omega, by simp only; omega, by simp only; omega, by simp only; omega, by simp only; omega, by simp only; omega, v51, v52, v53, v54⟩, ⟨?_, ?_, ?_⟩, ?_⟩
  · rintro ⟨g1, g2⟩; simp only at g1 g2
    rcases v3 with v3 | v3
    · omega
    · rw [v3.2.2] at g2; cases g2
  · rintro ⟨g1, g2⟩; simp only at g1 g2
    rcases v3 with v3 | v3
    · have := v3.2.2.2 g2; omega
    · omega
  · rintro ⟨g1, g2⟩; simp only at g1 g2
    rw [v55 g1] at g2; cases g2
  · unfold txt
    rw [ByteArray.size_append, b1_size]
    by_cases hm : moreB ⟨decide (a / 32 % 2 = 1), decide (a / 16 % 2 = 1), a % 8, p, w, l, y, sy, k⟩ = true
    · rw [if_pos hm, ByteArray.size_append, ByteArray.size_append, ByteArray.size_append, b1_size, tPic_size]
      have h127 : 127 < a := by
        by_cases h : 127 < a
        · exact h
        · exfalso
          have := hf0 h; subst this
          unfold moreB at hm
          simp only [Bool.or_eq_true, decide_eq_true_eq] at hm
          omega
      have l1 : (tLv ⟨decide (a / 32 % 2 = 1), decide (a / 16 % 2 = 1), a % 8, p, w, l, y, sy, k⟩).size = if 0 ≤ l then 1 else 0 := by unfold tLv; split <;> rfl
      have l2 : (tLast ⟨decide (a / 32 % 2 = 1), decide (a / 16 % 2 = 1), a % 8, p, w, l, y, sy, k⟩).size = if 0 ≤ y ∨ 0 ≤ k then 1 else 0 := by unfold tLast; split <;> rfl
      rw [l1, l2]
      simp only
      rw [if_pos h127] at b2
      have q3 : (if 0 ≤ p then (if w = true then 2 else 1) else 0) + r3.size ≤ r2.size := by
        rcases v3 with v3 | v3
        · rw [if_pos v3.1] at b3; rw [if_pos v3.2.1]; omega
        · rw [if_neg v3.1] at b3; rw [if_neg (by omega)]; omega
      have q4 : (if 0 ≤ l then 1 else 0) + r4.size ≤ r3.size := by
        rcases v4 with v4 | v4
        · rw [if_pos v4.1] at b4; rw [if_pos v4.2.1]; omega
        · rw [if_neg v4.1] at b4; rw [if_neg (by omega)]; omega
      have q5 : (if 0 ≤ y ∨ 0 ≤ k then 1 else 0) + r5.size ≤ r4.size := by
        by_cases h : 0 ≤ y ∨ 0 ≤ k
        · rw [if_pos (v56 h)] at b5; rw [if_pos h]; omega
        · rw [if_neg h]; split at b5 <;> omega
      omega
    · rw [if_neg hm]
      have : E0.size = 0 := rfl
      rw [this]
      have e2 : r2.size ≤ r1.size := by have := b2.2; split at this <;> omega
      have e3 : r3.size ≤ r2.size := by omega
      have e4 : r4.size ≤ r3.size := by have := b4.2; split at this <;> omega
      have e5 : r5.size ≤ r4.size := by have := b5.2; split at this <;> omega
      omega
/-- a beginning of a valid descriptor's bytes is none -/
theorem prs_cut {d : Dc} (ha : okA d) (hf : okF d) {s z : ByteArray} (h : s ++ z = txt d) (hz : 0 < z.size) : prs s = (Dc0, E0, 1) := by
  rcases prs_e s with h1 | h1
  · exfalso
    have h2 := prs_ext (z := z) h1
    have h3 := prs_txt ha hf E0
    rw [append_E0, ← h, h2] at h3
    have h4 := congrArg (fun x => x.2.1.size) h3
    simp only at h4
    rw [ByteArray.size_append] at h4
    have : E0.size = 0 := rfl
    omega
  · exact h1
end Go.Proofs.Ytlhlidmhlhodiaa

/-
  Layer 4: the program's functions.
-/
namespace Go.Proofs.Ytlhlidmhlhodiaa
set_option linter.unusedSimpArgs false
set_option linter.unusedVariables false
set_option linter.unusedSimpArgs false
set_option linter.unusedVariables false
open Go.RowKit
attribute [local irreducible] Pv WO WC Fn
attribute [local irreducible] ByteArray.extract
set_option maxRecDepth 100000

abbrev dT : TypeId := 23
instance : TEq Try.prog 23 [.b, .b, .i .i64, .i .i64, .b, .i .i64, .i .i64, .b, .i .i64] := ⟨by kernel_rfl⟩
abbrev dL (nr st : Bool) (pt pic : Int) (wd : Bool) (lv ly : Int) (sy : Bool) (ky : Int) : List Value := [.bool nr, .bool st, .int .i64 pt, .int .i64 pic, .bool wd, .int .i64 lv, .int .i64 ly, .bool sy, .int .i64 ky]
abbrev dv (d : Dc) : List Value := dL d.nr d.st d.pt d.pic d.wd d.lv d.ly d.sy d.ky
abbrev dO (h : Nat) (nr st : Bool) (pt pic : Int) (wd : Bool) (lv ly : Int) (sy : Bool) (ky : Int) : It := .ob h (.cells (dL nr st pt pic wd lv ly sy ky).toArray dT (0, 0))
theorem rdU8 (g : Nat) (r : Rs) (hs : r.1.size ≤ 1099511627776) : Fn Try.prog 63 #[.pointer (some ⟨g, 0, none⟩)] [rdO g r.1 r.2] []
    (fun v L' R' => v = .int .u8 (t1 r).1 ∧ L' = [rdO g (t1 r).2.1 (t1 r).2.2] ∧ R' = []) := octU8 g r.1 _ _ r.2 _ hs rfl
theorem vBit (c : Bool) (b x : Int) (h : bt c b = x) : Fn Try.prog 58 #[.bool c, .int .u8 b] [] [] (fun v L' R' => v = .int .u8 x ∧ L' = [] ∧ R' = []) := by
  subst h
  cases c
  all_goals
    refine fn_intro Try.func58 rfl Try.ntmps58 rfl (fun E => ?_)
    (repeat (first | ((first | (apply wo_v; rfl) ); (· first | (apply pv_ev; rfl) )) | apply wo_nil | apply wc_seq | apply wc_region | apply wc_skip | apply wc_ret | (apply wc_true; rfl) | (apply wc_false; rfl) ))
    exact ret1 rfl rfl ⟨rfl, rfl, rfl⟩ ((by (repeat (first | apply sub_nil )); done) : List.Perm _ ([] ++ _)) (by first | exact fun _ h => h | (intro r hr; cases hr; done) | (simp; done) | exact fun _ h => List.mem_append_left _ h | (intro r hr; simp [hr]; done))
theorem vIn (n m : Int) : Fn Try.prog 56 #[.int .i64 n, .int .i64 m] [] [] (fun v L' R' => v = .bool (decide (-1 ≤ n ∧ n ≤ m)) ∧ L' = [] ∧ R' = []) := by
  by_cases h1 : -1 ≤ n
  · by_cases h2 : n ≤ m
    · rw [show decide (-1 ≤ n ∧ n ≤ m) = true by simp [h1, h2]]
      refine fn_intro Try.func56 rfl Try.ntmps56 rfl (fun E => ?_)
      (repeat (first | ((first | (apply wo_v; rfl) ); (· first | (apply pv_ev; rfl) | (apply g_pick; first | (apply pv_pick_t; rfl; rfl) ) )) | apply wo_nil | apply wc_seq | apply wc_region | apply wc_ret | (apply wo_run; rfl; rfl) | (apply wo_skip; rfl; rfl; rfl; rfl) | (apply wo_skip_u; rfl; rfl; rfl) | (apply a_gt; rfl; rfl; (· first | assumption | omega)) ))
      exact ret1 rfl rfl ⟨by simp [h2], rfl, rfl⟩ ((by (repeat (first | apply sub_nil )); done) : List.Perm _ ([] ++ _)) (by first | exact fun _ h => h | (intro r hr; cases hr; done) | (simp; done) | exact fun _ h => List.mem_append_left _ h | (intro r hr; simp [hr]; done))
    · rw [show decide (-1 ≤ n ∧ n ≤ m) = false by simp [h2]]
      refine fn_intro Try.func56 rfl Try.ntmps56 rfl (fun E => ?_)
      (repeat (first | ((first | (apply wo_v; rfl) ); (· first | (apply pv_ev; rfl) | (apply g_pick; first | (apply pv_pick_t; rfl; rfl) ) )) | apply wo_nil | apply wc_seq | apply wc_region | apply wc_ret | (apply wo_run; rfl; rfl) | (apply wo_skip; rfl; rfl; rfl; rfl) | (apply wo_skip_u; rfl; rfl; rfl) | (apply a_gt; rfl; rfl; (· first | assumption | omega)) ))
      exact ret1 rfl rfl ⟨by simp [h2], rfl, rfl⟩ ((by (repeat (first | apply sub_nil )); done) : List.Perm _ ([] ++ _)) (by first | exact fun _ h => h | (intro r hr; cases hr; done) | (simp; done) | exact fun _ h => List.mem_append_left _ h | (intro r hr; simp [hr]; done))
  · rw [show decide (-1 ≤ n ∧ n ≤ m) = false by simp [h1]]
    refine fn_intro Try.func56 rfl Try.ntmps56 rfl (fun E => ?_)
    (repeat (first | ((first | (apply wo_v; rfl) ); (· first | (apply pv_ev; rfl) | (apply g_pick; first | (apply pv_pick_t; rfl; rfl) | (apply pv_pick_f; rfl; rfl)) )) | apply wo_nil | apply wc_seq | apply wc_region | apply wc_ret | (apply wo_run; rfl; rfl) | (apply wo_skip; rfl; rfl; rfl; rfl) | (apply wo_skip_u; rfl; rfl; rfl) | (apply a_gt; rfl; rfl; (· first | assumption | omega)) | (apply a_gf; rfl; rfl; (· first | assumption | omega)) ))
    exact ret1 rfl rfl ⟨rfl, rfl, rfl⟩ ((by (repeat (first | apply sub_nil )); done) : List.Perm _ ([] ++ _)) (by first | exact fun _ h => h | (intro r hr; cases hr; done) | (simp; done) | exact fun _ h => List.mem_append_left _ h | (intro r hr; simp [hr]; done))
theorem vMore (nr st : Bool) (pt pic : Int) (wd : Bool) (lv ly : Int) (sy : Bool) (ky : Int) (b : Bool) (hb : moreB ⟨nr, st, pt, pic, wd, lv, ly, sy, ky⟩ = b) :
    Fn Try.prog 59 #[.agg (dL nr st pt pic wd lv ly sy ky).toArray] [] [] (fun v L' R' => v = .bool b ∧ L' = [] ∧ R' = []) := by
  subst hb
  unfold moreB
  by_cases h1 : 0 ≤ pic
  · refine fn_intro Try.func59 rfl Try.ntmps59 rfl (fun E => ?_)
    (repeat (first | ((first | (apply wo_v; rfl) ); (· first | (apply pv_ev; rfl) | (apply pv_fld; rfl) | (apply g_load; first | (apply pv_ld; rfl; (· (repeat (first | apply sel_here ))); rfl) ) | (apply g_pick; first | (apply pv_pick_t; rfl; rfl) ) )) | apply wo_nil | apply wc_seq | apply wc_region | apply wc_ret | (apply wo_run; rfl; rfl) | (apply wo_skip; rfl; rfl; rfl; rfl) | (apply wo_skip_u; rfl; rfl; rfl) | (apply a_gt; rfl; rfl; (· first | assumption | omega)) | (apply wo_box1; rfl; rfl; rfl; intro bx) | (apply wo_boxa; rfl; rfl; intro bx) ))
    exact ret1 rfl rfl ⟨by simp [h1], rfl, rfl⟩ ((by (repeat (first | apply sub_nil )); done) : List.Perm _ ([] ++ _)) (by first | exact fun _ h => h | (intro r hr; cases hr; done) | (simp; done) | exact fun _ h => List.mem_append_left _ h | (intro r hr; simp [hr]; done))
  by_cases h2 : 0 ≤ lv
  · refine fn_intro Try.func59 rfl Try.ntmps59 rfl (fun E => ?_)
    (repeat (first | ((first | (apply wo_v; rfl) ); (· first | (apply pv_ev; rfl) | (apply pv_fld; rfl) | (apply g_load; first | (apply pv_ld; rfl; (· (repeat (first | apply sel_here ))); rfl) ) | (apply g_pick; first | (apply pv_pick_t; rfl; rfl) | (apply pv_pick_f; rfl; rfl)) )) | apply wo_nil | apply wc_seq | apply wc_region | apply wc_ret | (apply wo_run; rfl; rfl) | (apply wo_skip; rfl; rfl; rfl; rfl) | (apply wo_skip_u; rfl; rfl; rfl) | (apply a_gt; rfl; rfl; (· first | assumption | omega)) | (apply a_gf; rfl; rfl; (· first | assumption | omega)) | (apply wo_box1; rfl; rfl; rfl; intro bx) | (apply wo_boxa; rfl; rfl; intro bx) ))
    exact ret1 rfl rfl ⟨by simp [h2], rfl, rfl⟩ ((by (repeat (first | apply sub_nil )); done) : List.Perm _ ([] ++ _)) (by first | exact fun _ h => h | (intro r hr; cases hr; done) | (simp; done) | exact fun _ h => List.mem_append_left _ h | (intro r hr; simp [hr]; done))
  by_cases h3 : 0 ≤ ly
  · refine fn_intro Try.func59 rfl Try.ntmps59 rfl (fun E => ?_)
    (repeat (first | ((first | (apply wo_v; rfl) ); (· first | (apply pv_ev; rfl) | (apply pv_fld; rfl) | (apply g_load; first | (apply pv_ld; rfl; (· (repeat (first | apply sel_here ))); rfl) ) | (apply g_pick; first | (apply pv_pick_t; rfl; rfl) | (apply pv_pick_f; rfl; rfl)) )) | apply wo_nil | apply wc_seq | apply wc_region | apply wc_ret | (apply wo_run; rfl; rfl) | (apply wo_skip; rfl; rfl; rfl; rfl) | (apply wo_skip_u; rfl; rfl; rfl) | (apply a_gt; rfl; rfl; (· first | assumption | omega)) | (apply a_gf; rfl; rfl; (· first | assumption | omega)) | (apply wo_box1; rfl; rfl; rfl; intro bx) | (apply wo_boxa; rfl; rfl; intro bx) ))
    exact ret1 rfl rfl ⟨by simp [h3], rfl, rfl⟩ ((by (repeat (first | apply sub_nil )); done) : List.Perm _ ([] ++ _)) (by first | exact fun _ h => h | (intro r hr; cases hr; done) | (simp; done) | exact fun _ h => List.mem_append_left _ h | (intro r hr; simp [hr]; done))
  · refine fn_intro Try.func59 rfl Try.ntmps59 rfl (fun E => ?_)
    (repeat (first | ((first | (apply wo_v; rfl) ); (· first | (apply pv_ev; rfl) | (apply pv_fld; rfl) | (apply g_load; first | (apply pv_ld; rfl; (· (repeat (first | apply sel_here ))); rfl) ) | (apply g_pick; first | (apply pv_pick_t; rfl; rfl) | (apply pv_pick_f; rfl; rfl)) )) | apply wo_nil | apply wc_seq | apply wc_region | apply wc_ret | (apply wo_run; rfl; rfl) | (apply wo_skip; rfl; rfl; rfl; rfl) | (apply wo_skip_u; rfl; rfl; rfl) | (apply a_gt; rfl; rfl; (· first | assumption | omega)) | (apply a_gf; rfl; rfl; (· first | assumption | omega)) | (apply wo_box1; rfl; rfl; rfl; intro bx) | (apply wo_boxa; rfl; rfl; intro bx) ))
    exact ret1 rfl rfl ⟨by simp [h1, h2, h3], rfl, rfl⟩ ((by (repeat (first | apply sub_nil )); done) : List.Perm _ ([] ++ _)) (by first | exact fun _ h => h | (intro r hr; cases hr; done) | (simp; done) | exact fun _ h => List.mem_append_left _ h | (intro r hr; simp [hr]; done))
theorem vPlain : Fn Try.prog 39 #[] [] [] (fun v L' R' => v = .agg (dL false false 0 (-1) false (-1) (-1) false (-1)).toArray ∧ L' = [] ∧ R' = []) := by
  refine fn_intro Try.func39 rfl Try.ntmps39 rfl (fun E => ?_)
  (repeat (first | ((first | (apply wo_v; rfl) ); (· first | (apply pv_ev; rfl) | (apply g_build; apply pv_build; (· (repeat (first | apply Bld.nil | (apply Bld.one; rfl; rfl; (· (repeat (first | apply SetAt.here | apply SetAt.there)))) )))) )) | apply wo_nil | apply wc_seq | apply wc_region | apply wc_ret | (apply wo_alloc; rfl; intro bx) | (apply wo_sta; rfl; rfl; rfl; rfl; (· (repeat (first | apply sel_here ))); (· (repeat (first | apply LayAt.nil | apply LayAt.here ))); rfl) ))
  exact retv rfl (by (repeat (first | apply RV.nil | (apply RV.agg; rfl; (· (repeat (first | apply sel_here ))); infer_instance; (· (repeat (first | apply Cut.here0 | apply Cut.here )))) )); done) (⟨rfl, rfl, rfl⟩) (by (repeat (first | apply sub_nil )); done) (by first | exact fun _ h => h | (intro r hr; cases hr; done) | (simp; done) | exact fun _ h => List.mem_append_left _ h | (intro r hr; simp [hr]; done))
theorem vPicture (h g : Nat) (nr st : Bool) (pt pic : Int) (wd : Bool) (lv ly : Int) (sy : Bool) (ky : Int) (f : Int) (hf : f / 128 % 2 = 1) (r : Rs) (hs : r.1.size ≤ 1099511627776) :
    Fn Try.prog 74 #[.pointer (some ⟨h, 0, none⟩), .pointer (some ⟨g, 0, none⟩)] [dO h nr st pt pic wd lv ly sy ky, rdO g r.1 r.2] []
      (fun v L' R' => v = .tuple #[] ∧ L' = [dO h nr st pt (sPic f r).1 (sPic f r).2.1 lv ly sy ky, rdO g (sPic f r).2.2.1 (sPic f r).2.2.2] ∧ R' = []) := by
  have hb := t1_b r
  have hs1 := t1_size r
  have hb2 := t1_b (t1 r).2
  by_cases hn : 127 < (t1 r).1
  · rw [show sPic f r = ((t1 r).1 % 128 * 256 + (t1 (t1 r).2).1, true, (t1 (t1 r).2).2) by unfold sPic; rw [if_pos hf, if_pos hn]]
    have q := rdU8 g r hs
    have q2 := rdU8 g (t1 r).2 (by omega)
    have e127 := and_127 (t1 r).1
    generalize t1 r = x1 at *
    generalize t1 x1.2 = x2 at *
    refine fn_intro Try.func74 rfl Try.ntmps74 rfl (fun E => ?_)
    (repeat (first | ((first | (apply wo_v; rfl) ); (· first | (apply pv_ev; rfl) )) | apply wc_seq | apply wc_region ))
    (refine wo_call (q) rfl (by (repeat (first | apply sub_nil | (apply sub_cons; (· (repeat (first | apply sel_here | apply sel_there)))))); done) (by first | exact fun _ h => h | (intro r hr; cases hr; done) | (simp; done) | exact fun _ h => List.mem_append_left _ h | (intro r hr; simp [hr]; done)) rfl ?_; rintro v L' R' ⟨rfl, rfl, rfl⟩ H' hH RR hR; simp only [List.cons_append, List.nil_append] at hH hR; subst hH; have hR := hR.symm; subst hR)
    (repeat (first | ((first | (apply wo_v; rfl) ); (· first | (apply pv_ev; rfl) | (apply pv_fld; rfl) | (apply g_load; first | (apply pv_ld; rfl; (· (repeat (first | apply sel_here ))); rfl) ) | (apply g_bin; first | (apply pv_and; rfl; rfl) | (apply a_shl; rfl; rfl; rfl; omega; rfl; infer_instance; omega) ) | (apply g_conv; first | (apply a_conv; rfl; infer_instance; infer_instance; infer_instance; omega) ) )) | apply wo_nil | apply wc_seq | apply wc_region | (apply wc_true; rfl) | (apply wc_false; rfl) | (apply a_dec_t; rfl; (· first | assumption | omega)) | (apply wo_st; rfl; rfl; rfl; (· (repeat (first | apply sel_here | apply sel_there))); (· (repeat (first | apply SetAt.here | apply SetAt.there))); rfl) ))
    rw [e127]
    (repeat (first | ((first | (apply wo_v; rfl) ); (· first | (apply pv_ev; rfl) )) ))
    (refine wo_call (q2) rfl (by (repeat (first | apply sub_nil | (apply sub_cons; (· (repeat (first | apply sel_here | apply sel_there)))))); done) (by first | exact fun _ h => h | (intro r hr; cases hr; done) | (simp; done) | exact fun _ h => List.mem_append_left _ h | (intro r hr; simp [hr]; done)) rfl ?_; rintro v L' R' ⟨rfl, rfl, rfl⟩ H' hH RR hR; simp only [List.cons_append, List.nil_append] at hH hR; subst hH; have hR := hR.symm; subst hR)
    rw [decide_eq_true hn]
    (repeat (first | ((first | (apply wo_v; rfl) ); (· first | (apply pv_ev; rfl) | (apply pv_fld; rfl) | (apply g_bin; first | (apply (a_or 4); rfl; rfl; infer_instance; rfl; omega) | (apply (a_or 5); rfl; rfl; infer_instance; rfl; omega) | (apply (a_or 6); rfl; rfl; infer_instance; rfl; omega) | (apply (a_or 7); rfl; rfl; infer_instance; rfl; omega) | (apply (a_or 8); rfl; rfl; infer_instance; rfl; omega) ) | (apply g_conv; first | (apply a_conv; rfl; infer_instance; infer_instance; infer_instance; omega) ) )) | apply wo_nil | apply wc_region | (apply wo_st; rfl; rfl; rfl; (· (repeat (first | apply sel_here | apply sel_there))); (· (repeat (first | apply SetAt.here | apply SetAt.there))); rfl) ))
    exact ret0 rfl ⟨rfl, rfl, rfl⟩ (by (repeat (first | apply sub_nil )); done) (by first | exact fun _ h => h | (intro r hr; cases hr; done) | (simp; done) | exact fun _ h => List.mem_append_left _ h | (intro r hr; simp [hr]; done))
  · rw [show sPic f r = ((t1 r).1, false, (t1 r).2) by unfold sPic; rw [if_pos hf, if_neg hn]]
    have q := rdU8 g r hs
    generalize t1 r = x1 at *
    refine fn_intro Try.func74 rfl Try.ntmps74 rfl (fun E => ?_)
    (repeat (first | ((first | (apply wo_v; rfl) ); (· first | (apply pv_ev; rfl) )) | apply wc_seq | apply wc_region ))
    (refine wo_call (q) rfl (by (repeat (first | apply sub_nil | (apply sub_cons; (· (repeat (first | apply sel_here | apply sel_there)))))); done) (by first | exact fun _ h => h | (intro r hr; cases hr; done) | (simp; done) | exact fun _ h => List.mem_append_left _ h | (intro r hr; simp [hr]; done)) rfl ?_; rintro v L' R' ⟨rfl, rfl, rfl⟩ H' hH RR hR; simp only [List.cons_append, List.nil_append] at hH hR; subst hH; have hR := hR.symm; subst hR)
    (repeat (first | ((first | (apply wo_v; rfl) ); (· first | (apply pv_ev; rfl) | (apply pv_fld; rfl) | (apply g_load; first | (apply pv_ld; rfl; (· (repeat (first | apply sel_here ))); rfl) ) | (apply g_conv; first | (apply a_conv; rfl; infer_instance; infer_instance; infer_instance; omega) ) )) | apply wo_nil | apply wc_seq | apply wc_region | apply wc_skip | (apply wc_true; rfl) | (apply wc_false; rfl) | (apply a_dec_t; rfl; (· first | assumption | omega)) | (apply a_dec_f; rfl; (· first | assumption | omega)) | (apply wo_st; rfl; rfl; rfl; (· (repeat (first | apply sel_here | apply sel_there))); (· (repeat (first | apply SetAt.here | apply SetAt.there))); rfl) ))
    rw [decide_eq_false hn]
    exact ret0 rfl ⟨rfl, rfl, rfl⟩ (by (repeat (first | apply sub_nil )); done) (by first | exact fun _ h => h | (intro r hr; cases hr; done) | (simp; done) | exact fun _ h => List.mem_append_left _ h | (intro r hr; simp [hr]; done))
theorem rest0 (s : ByteArray) : (rdB s 0 s.size).1 = s := by
  have := rdB_front s E0 s.size rfl
  rw [append_E0] at this
  rw [this]
theorem sFl_size (a : Int) (r : Rs) : (sFl a r).2.1.size ≤ r.1.size := by
  unfold sFl; split
  · exact t1_size r
  · exact Nat.le_refl _
theorem sPic_size (f : Int) (r : Rs) : (sPic f r).2.2.1.size ≤ r.1.size := by
  unfold sPic
  have h1 := t1_size r
  have h2 := t1_size (t1 r).2
  split
  · split
    · simp only; omega
    · exact h1
  · exact Nat.le_refl _
theorem sLv_size (f : Int) (r : Rs) : (sLv f r).2.1.size ≤ r.1.size := by
  unfold sLv; split
  · exact t1_size r
  · exact Nat.le_refl _
theorem sLast_size (f : Int) (r : Rs) : (sLast f r).2.2.2.1.size ≤ r.1.size := by
  unfold sLast; split
  · exact t1_size r
  · exact Nat.le_refl _
abbrev tblV (g z : Nat) (s : ByteArray) (r2 : Rs) (new : It) : Nat → List (List It) → Value → List (List It) → Prop := fun k Ls v Ms =>
  if k = 2 then v = .string s ∧ Ms = [[rdO g r2.1 r2.2]] else v = undef ∧ Ms = [[new]]
set_option maxHeartbeats 64000000 in
theorem vParse (s : ByteArray) (hs : s.size ≤ 1099511627776) : Fn Try.prog 17 #[.string s] [] []
    (fun v L' R' => v = .tuple #[.agg (dv (prs s).1).toArray, .string (prs s).2.1, .int .i64 (prs s).2.2] ∧ L' = [] ∧ R' = []) := by
  obtain ⟨x, hx⟩ : ∃ x, t1 (s, 0) = x := ⟨_, rfl⟩
  have hxb := t1_b (s, 0)
  have hxs := t1_size (s, 0)
  have q1 := fun g => rdU8 g (s, 0) hs
  rw [hx] at hxb hxs q1
  obtain ⟨f, hf⟩ : ∃ f, sFl x.1 x.2 = f := ⟨_, rfl⟩
  have hfb := sFl_b x.1 x.2
  have hfs := sFl_size x.1 x.2
  rw [hf] at hfb hfs
  obtain ⟨p, hp⟩ : ∃ p, sPic f.1 f.2 = p := ⟨_, rfl⟩
  have hps := sPic_size f.1 f.2
  rw [hp] at hps
  obtain ⟨l, hl⟩ : ∃ l, sLv f.1 p.2.2 = l := ⟨_, rfl⟩
  have hls := sLv_size f.1 p.2.2
  rw [hl] at hls
  obtain ⟨q, hq⟩ : ∃ q, sLast f.1 l.2 = q := ⟨_, rfl⟩
  have hqs := sLast_size f.1 l.2
  rw [hq] at hqs
  have hprs : prs s = mkD x.1 p l q := by unfold prs; simp only; rw [hx, hf, hp, hl, hq]
  rw [hprs]
  clear hprs
  dsimp only at hxs
  have e32 : decide (0 < bits .and .u8 x.1 32) = decide (x.1 / 32 % 2 = 1) := by rw [and8_32 hxb]; exact decide_eq_decide.2 (by omega)
  have e16 : decide (0 < bits .and .u8 x.1 16) = decide (x.1 / 16 % 2 = 1) := by rw [and8_16 hxb]; exact decide_eq_decide.2 (by omega)
  have e7 := and8_7 hxb
  obtain ⟨a, r1⟩ := x
  dsimp only at hxb hxs q1 hf hfb hfs e32 e16 e7
  refine fn_intro Try.func17 rfl Try.ntmps17 rfl (fun E => ?_)
  (repeat (first | ((first | (apply wo_v; rfl) ); (· first | (apply pv_ev; rfl) )) | apply wo_nil | apply wc_seq | apply wc_region | (apply wo_alloc; rfl; intro bx) ))
  (refine wo_call (octRead s) rfl (by (repeat (first | apply sub_nil )); done) (by first | exact fun _ h => h | (intro r hr; cases hr; done) | (simp; done) | exact fun _ h => List.mem_append_left _ h | (intro r hr; simp [hr]; done)) rfl ?_; rintro v L' R' ⟨g, rfl, rfl, rfl⟩ H' hH RR hR; simp only [List.cons_append, List.nil_append] at hH hR; subst hH; have hR := hR.symm; subst hR)
  (repeat (first | ((first | (apply wo_v; rfl) ); (· first | (apply pv_ev; rfl) )) | apply wo_nil | apply wc_seq | apply wc_region ))
  (refine wo_call (q1 g) rfl (by (repeat (first | apply sub_nil )); done) (by first | exact fun _ h => h | (intro r hr; cases hr; done) | (simp; done) | exact fun _ h => List.mem_append_left _ h | (intro r hr; simp [hr]; done)) rfl ?_; rintro v L' R' ⟨rfl, rfl, rfl⟩ H' hH RR hR; simp only [List.cons_append, List.nil_append] at hH hR; subst hH; have hR := hR.symm; subst hR)
  (repeat (first | ((first | (apply wo_v; rfl) ); (· first | (apply pv_ev; rfl) )) | apply wo_nil | apply wc_seq | apply wc_region ))
  obtain ⟨z, hz⟩ : ∃ z, z = bx := ⟨_, rfl⟩
  subst hz
  (refine wo_call (vPlain) rfl (by (repeat (first | apply sub_nil )); done) (by first | exact fun _ h => h | (intro r hr; cases hr; done) | (simp; done) | exact fun _ h => List.mem_append_left _ h | (intro r hr; simp [hr]; done)) rfl ?_; rintro v L' R' ⟨rfl, rfl, rfl⟩ H' hH RR hR; simp only [List.cons_append, List.nil_append] at hH hR; subst hH; have hR := hR.symm; subst hR)
  (repeat (first | ((first | (apply wo_v; rfl) ); (· first | (apply pv_ev; rfl) | (apply pv_fld; rfl) | (apply g_bin; first | (apply pv_and; rfl; rfl) ) | (apply g_conv; first | (apply a_conv; rfl; infer_instance; infer_instance; infer_instance; omega) ) )) | apply wo_nil | apply wc_seq | apply wc_region | (apply wc_true; rfl) | (apply wc_false; rfl) | (apply a_dec_t; rfl; (· first | assumption | omega)) | (apply a_dec_f; rfl; (· first | assumption | omega)) | (apply a_dec_t; rfl; (· first | (simp; done) | (simp; omega))) | (apply a_dec_f; rfl; (· first | (simp; done) | (simp; omega))) | (apply wo_st; rfl; rfl; rfl; (· (repeat (first | apply sel_here ))); (· (repeat (first | apply SetAt.here | apply SetAt.there))); rfl) | (apply wo_alloc; rfl; intro bx) | (apply wo_sta; rfl; rfl; rfl; rfl; (· (repeat (first | apply sel_here ))); (· (repeat (first | apply LayAt.nil | apply LayAt.here ))); rfl) ))
  obtain ⟨h, hh⟩ : ∃ h, h = bx := ⟨_, rfl⟩
  subst hh
  rw [e7]
  (repeat (first | (apply wc_true; rfl) | (apply wc_false; rfl) | (apply a_dec_t; rfl; (· first | assumption | omega)) | (apply a_dec_f; rfl; (· first | assumption | omega)) | (apply a_dec_t; rfl; (· first | (simp; done) | (simp; omega))) | (apply a_dec_f; rfl; (· first | (simp; done) | (simp; omega))) ))
  rw [e32, e16]
  generalize hnr : decide (a / 32 % 2 = 1) = nr, hst : decide (a / 16 % 2 = 1) = st
  refine wc_join0 (fun st' => st' = ⟨[(2, .pointer (some ⟨z, 0, none⟩)), (5, .pointer (some ⟨g, 0, none⟩)), (6, .int .u8 a), (7, .pointer (some ⟨h, 0, none⟩)), (8, .int .u8 f.1)], [dO z false false 0 0 false 0 0 false 0, dO h nr st (a % 8) (-1) false (-1) (-1) false (-1), rdO g f.2.1 f.2.2], []⟩) ?_ ?_
  · by_cases hc : 127 < a
    · have e : f = t1 r1 := by rw [← hf]; unfold sFl; rw [if_pos hc]
      have qu := rdU8 g r1 (by omega)
      rw [← e] at qu
      (repeat (first | ((first | (apply wo_v; rfl) ); (· first | (apply pv_ev; rfl) )) | apply wc_region | (apply wc_true; rfl) | (apply wc_false; rfl) | (apply a_dec_t; rfl; (· first | assumption | omega)) ))
      (refine wo_call (qu) rfl (by (repeat (first | apply sub_nil | (apply sub_cons; (· (repeat (first | apply sel_here | apply sel_there)))))); done) (by first | exact fun _ h => h | (intro r hr; cases hr; done) | (simp; done) | exact fun _ h => List.mem_append_left _ h | (intro r hr; simp [hr]; done)) rfl ?_; rintro v L' R' ⟨rfl, rfl, rfl⟩ H' hH RR hR; simp only [List.cons_append, List.nil_append] at hH hR; subst hH; have hR := hR.symm; subst hR)
      (repeat (first | ((first | (apply wo_v; rfl) ); (· first | (apply pv_ev; rfl) )) | apply wo_nil ))
      exact cut_end rfl (wk_mk (by (repeat (first | apply wkf_nil | (apply wkf_cons; rfl))); done) (by (repeat (first | apply sub_nil | (apply sub_cons; (· (repeat (first | apply sel_here | apply sel_there)))))); done) (by first | exact fun _ h => h | (intro r hr; cases hr; done) | (simp; done) | exact fun _ h => List.mem_append_left _ h | (intro r hr; simp [hr]; done)))
    · have e : f = (0, r1) := by rw [← hf]; unfold sFl; rw [if_neg hc]
      rw [e]
      (repeat (first | apply wc_skip | (apply wc_true; rfl) | (apply wc_false; rfl) | (apply a_dec_t; rfl; (· first | assumption | omega)) | (apply a_dec_f; rfl; (· first | assumption | omega)) ))
      exact cut_end rfl (wk_mk (by (repeat (first | apply wkf_nil | (apply wkf_cons; rfl))); done) (by (repeat (first | apply sub_nil | (apply sub_cons; (· (repeat (first | apply sel_here | apply sel_there)))))); done) (by first | exact fun _ h => h | (intro r hr; cases hr; done) | (simp; done) | exact fun _ h => List.mem_append_left _ h | (intro r hr; simp [hr]; done)))
  rintro st' rfl
  clear hf e32 e16 e7 q1 hx
  have e128 := and8_128 hfb
  have e64 := and8_64 hfb
  have e48 := and8_48 hfb
  have e32 := and8_32 hfb
  have e16 := and8_16 hfb
  obtain ⟨fl, r2⟩ := f
  dsimp only at hfb hfs hp hps hl hq e128 e64 e48 e32 e16
  (repeat (first | ((first | (apply wo_v; rfl) ); (· first | (apply pv_ev; rfl) | (apply g_bin; first | (apply pv_and; rfl; rfl) ) )) | apply wo_nil | apply wc_seq | apply wc_region | (apply wc_true; rfl) | (apply wc_false; rfl) | (apply a_dec_t; rfl; (· first | assumption | omega)) | (apply a_dec_f; rfl; (· first | assumption | omega)) | (apply a_dec_t; rfl; (· first | (simp; done) | (simp; omega))) | (apply a_dec_f; rfl; (· first | (simp; done) | (simp; omega))) ))
  refine wc_join0 (fun st' => st' = ⟨[(2, .pointer (some ⟨z, 0, none⟩)), (5, .pointer (some ⟨g, 0, none⟩)), (6, .int .u8 a), (7, .pointer (some ⟨h, 0, none⟩)), (8, .int .u8 fl)], [dO z false false 0 0 false 0 0 false 0, dO h nr st (a % 8) p.1 p.2.1 (-1) (-1) false (-1), rdO g p.2.2.1 p.2.2.2], []⟩) ?_ ?_
  · by_cases hc : fl / 128 % 2 = 1
    · have qp := vPicture h g nr st (a % 8) (-1) false (-1) (-1) false (-1) fl hc r2 (by omega)
      rw [hp] at qp
      (repeat (first | ((first | (apply wo_v; rfl) ); (· first | (apply pv_ev; rfl) )) | apply wc_region | (apply wc_true; rfl) | (apply wc_false; rfl) | (apply a_dec_t; rfl; (· first | assumption | omega)) | (apply a_dec_f; rfl; (· first | assumption | omega)) | (apply a_dec_t; rfl; (· first | (simp; done) | (simp; omega))) ))
      (refine wo_call (qp) rfl (by (repeat (first | apply sub_nil | (apply sub_cons; (· (repeat (first | apply sel_here | apply sel_there)))))); done) (by first | exact fun _ h => h | (intro r hr; cases hr; done) | (simp; done) | exact fun _ h => List.mem_append_left _ h | (intro r hr; simp [hr]; done)) rfl ?_; rintro v L' R' ⟨rfl, rfl, rfl⟩ H' hH RR hR; simp only [List.cons_append, List.nil_append] at hH hR; subst hH; have hR := hR.symm; subst hR)
      (repeat (first | apply wo_nil ))
      exact cut_end rfl (wk_mk (by (repeat (first | apply wkf_nil | (apply wkf_cons; rfl))); done) (by (repeat (first | apply sub_nil | (apply sub_cons; (· (repeat (first | apply sel_here | apply sel_there)))))); done) (by first | exact fun _ h => h | (intro r hr; cases hr; done) | (simp; done) | exact fun _ h => List.mem_append_left _ h | (intro r hr; simp [hr]; done)))
    · have e : p = (-1, false, r2) := by rw [← hp]; unfold sPic; rw [if_neg hc]
      rw [e]
      (repeat (first | apply wc_skip | (apply wc_true; rfl) | (apply wc_false; rfl) | (apply a_dec_t; rfl; (· first | assumption | omega)) | (apply a_dec_f; rfl; (· first | assumption | omega)) | (apply a_dec_t; rfl; (· first | (simp; done) | (simp; omega))) | (apply a_dec_f; rfl; (· first | (simp; done) | (simp; omega))) ))
      exact cut_end rfl (wk_mk (by (repeat (first | apply wkf_nil | (apply wkf_cons; rfl))); done) (by (repeat (first | apply sub_nil )); done) (by first | exact fun _ h => h | (intro r hr; cases hr; done) | (simp; done) | exact fun _ h => List.mem_append_left _ h | (intro r hr; simp [hr]; done)))
  rintro st' rfl
  clear hp e128
  obtain ⟨pc, w, r3⟩ := p
  dsimp only at hps hl hls
  (repeat (first | ((first | (apply wo_v; rfl) ); (· first | (apply pv_ev; rfl) | (apply g_bin; first | (apply pv_and; rfl; rfl) ) )) | apply wo_nil | apply wc_seq | apply wc_region | (apply wc_true; rfl) | (apply wc_false; rfl) | (apply a_dec_t; rfl; (· first | assumption | omega)) | (apply a_dec_f; rfl; (· first | assumption | omega)) | (apply a_dec_t; rfl; (· first | (simp; done) | (simp; omega))) | (apply a_dec_f; rfl; (· first | (simp; done) | (simp; omega))) ))
  refine wc_join0 (fun st' => st' = ⟨[(2, .pointer (some ⟨z, 0, none⟩)), (5, .pointer (some ⟨g, 0, none⟩)), (6, .int .u8 a), (7, .pointer (some ⟨h, 0, none⟩)), (8, .int .u8 fl)], [dO z false false 0 0 false 0 0 false 0, dO h nr st (a % 8) pc w l.1 (-1) false (-1), rdO g l.2.1 l.2.2], []⟩) ?_ ?_
  · by_cases hc : fl / 64 % 2 = 1
    · have e : l = t1 r3 := by rw [← hl]; unfold sLv; rw [if_pos hc]
      have qu := rdU8 g r3 (by omega)
      have hlb := t1_b r3
      rw [← e] at qu hlb
      (repeat (first | ((first | (apply wo_v; rfl) ); (· first | (apply pv_ev; rfl) )) | apply wc_region | (apply wc_true; rfl) | (apply wc_false; rfl) | (apply a_dec_t; rfl; (· first | assumption | omega)) ))
      (refine wo_call (qu) rfl (by (repeat (first | apply sub_nil | (apply sub_cons; (· (repeat (first | apply sel_here | apply sel_there)))))); done) (by first | exact fun _ h => h | (intro r hr; cases hr; done) | (simp; done) | exact fun _ h => List.mem_append_left _ h | (intro r hr; simp [hr]; done)) rfl ?_; rintro v L' R' ⟨rfl, rfl, rfl⟩ H' hH RR hR; simp only [List.cons_append, List.nil_append] at hH hR; subst hH; have hR := hR.symm; subst hR)
      (repeat (first | ((first | (apply wo_v; rfl) ); (· first | (apply pv_ev; rfl) | (apply pv_fld; rfl) | (apply g_conv; first | (apply a_conv; rfl; infer_instance; infer_instance; infer_instance; omega) ) )) | apply wo_nil | (apply wo_st; rfl; rfl; rfl; (· (repeat (first | apply sel_here | apply sel_there))); (· (repeat (first | apply SetAt.here | apply SetAt.there))); rfl) ))
      exact cut_end rfl (wk_mk (by (repeat (first | apply wkf_nil | (apply wkf_cons; rfl))); done) (by (repeat (first | apply sub_nil | (apply sub_cons; (· (repeat (first | apply sel_here | apply sel_there)))))); done) (by first | exact fun _ h => h | (intro r hr; cases hr; done) | (simp; done) | exact fun _ h => List.mem_append_left _ h | (intro r hr; simp [hr]; done)))
    · have e : l = (-1, r3) := by rw [← hl]; unfold sLv; rw [if_neg hc]
      rw [e]
      (repeat (first | apply wc_skip | (apply wc_true; rfl) | (apply wc_false; rfl) | (apply a_dec_t; rfl; (· first | assumption | omega)) | (apply a_dec_f; rfl; (· first | assumption | omega)) ))
      exact cut_end rfl (wk_mk (by (repeat (first | apply wkf_nil | (apply wkf_cons; rfl))); done) (by (repeat (first | apply sub_nil )); done) (by first | exact fun _ h => h | (intro r hr; cases hr; done) | (simp; done) | exact fun _ h => List.mem_append_left _ h | (intro r hr; simp [hr]; done)))
  rintro st' rfl
  clear hl e64
  obtain ⟨lv, r4⟩ := l
  dsimp only at hls hq hqs
  (repeat (first | ((first | (apply wo_v; rfl) ); (· first | (apply pv_ev; rfl) | (apply g_bin; first | (apply pv_and; rfl; rfl) ) )) | apply wo_nil | apply wc_seq | apply wc_region | (apply wc_true; rfl) | (apply wc_false; rfl) | (apply a_dec_t; rfl; (· first | assumption | omega)) | (apply a_dec_f; rfl; (· first | assumption | omega)) | (apply a_dec_t; rfl; (· first | (simp; done) | (simp; omega))) | (apply a_dec_f; rfl; (· first | (simp; done) | (simp; omega))) ))
  refine wc_join0 (fun st' => st' = ⟨[(2, .pointer (some ⟨z, 0, none⟩)), (5, .pointer (some ⟨g, 0, none⟩)), (6, .int .u8 a), (7, .pointer (some ⟨h, 0, none⟩))], [dO z false false 0 0 false 0 0 false 0, dO h nr st (a % 8) pc w lv q.1 q.2.1 q.2.2.1, rdO g q.2.2.2.1 q.2.2.2.2], []⟩) ?_ ?_
  · by_cases hc : 0 < fl / 16 % 4
    · have e : q = (if fl / 32 % 2 = 1 then (t1 r4).1 / 64 else -1, decide (fl / 32 % 2 = 1) && decide ((t1 r4).1 / 32 % 2 = 1), if fl / 16 % 2 = 1 then (t1 r4).1 % 32 else -1, (t1 r4).2) := by rw [← hq]; unfold sLast; rw [if_pos hc]
      have qu := rdU8 g r4 (by omega)
      have hcb := t1_b r4
      rw [e]
      generalize t1 r4 = y at qu hcb ⊢
      obtain ⟨c, r5⟩ := y
      dsimp only at qu hcb
      have e31 := and8_31 hcb
      have ec : decide (0 < bits .and .u8 c 32) = decide (c / 32 % 2 = 1) := by rw [and8_32 hcb]; exact decide_eq_decide.2 (by omega)
      (repeat (first | ((first | (apply wo_v; rfl) ); (· first | (apply pv_ev; rfl) )) | apply wc_seq | apply wc_region | (apply wc_true; rfl) | (apply wc_false; rfl) | (apply a_dec_t; rfl; (· first | assumption | omega)) ))
      (refine wo_call (qu) rfl (by (repeat (first | apply sub_nil | (apply sub_cons; (· (repeat (first | apply sel_here | apply sel_there)))))); done) (by first | exact fun _ h => h | (intro r hr; cases hr; done) | (simp; done) | exact fun _ h => List.mem_append_left _ h | (intro r hr; simp [hr]; done)) rfl ?_; rintro v L' R' ⟨rfl, rfl, rfl⟩ H' hH RR hR; simp only [List.cons_append, List.nil_append] at hH hR; subst hH; have hR := hR.symm; subst hR)
      (repeat (first | ((first | (apply wo_v; rfl) ); (· first | (apply pv_ev; rfl) | (apply g_bin; first | (apply pv_and; rfl; rfl) ) )) | apply wo_nil | apply wc_seq | apply wc_region | (apply wc_true; rfl) | (apply wc_false; rfl) | (apply a_dec_t; rfl; (· first | assumption | omega)) | (apply a_dec_f; rfl; (· first | assumption | omega)) | (apply a_dec_t; rfl; (· first | (simp; done) | (simp; omega))) | (apply a_dec_f; rfl; (· first | (simp; done) | (simp; omega))) ))
      by_cases h1 : fl / 32 % 2 = 1 <;> by_cases h2 : fl / 16 % 2 = 1
      · rw [if_pos h1, if_pos h2, decide_eq_true h1]
        (repeat (first | ((first | (apply wo_v; rfl) ); (· first | (apply pv_ev; rfl) | (apply pv_fld; rfl) | (apply g_bin; first | (apply pv_and; rfl; rfl) | (apply a_shr; rfl; rfl; rfl; omega; rfl) ) | (apply g_conv; first | (apply a_conv; rfl; infer_instance; infer_instance; infer_instance; omega) ) )) | apply wo_nil | apply wc_seq | apply wc_region | (apply wc_true; rfl) | (apply wc_false; rfl) | (apply a_dec_t; rfl; (· first | assumption | omega)) | (apply wo_st; rfl; rfl; rfl; (· (repeat (first | apply sel_here | apply sel_there))); (· (repeat (first | apply SetAt.here | apply SetAt.there))); rfl) ))
        rw [e31]
        (repeat (first | fail ))
        rw [ec]
        exact cut_end rfl (wk_mk (by (repeat (first | apply wkf_nil | (apply wkf_cons; rfl))); done) (by (repeat (first | apply sub_nil | (apply sub_cons; (· (repeat (first | apply sel_here | apply sel_there)))))); done) (by first | exact fun _ h => h | (intro r hr; cases hr; done) | (simp; done) | exact fun _ h => List.mem_append_left _ h | (intro r hr; simp [hr]; done)))
      · rw [if_pos h1, if_neg h2, decide_eq_true h1]
        (repeat (first | ((first | (apply wo_v; rfl) ); (· first | (apply pv_ev; rfl) | (apply pv_fld; rfl) | (apply g_bin; first | (apply pv_and; rfl; rfl) | (apply a_shr; rfl; rfl; rfl; omega; rfl) ) | (apply g_conv; first | (apply a_conv; rfl; infer_instance; infer_instance; infer_instance; omega) ) )) | apply wo_nil | apply wc_seq | apply wc_region | apply wc_skip | (apply wc_true; rfl) | (apply wc_false; rfl) | (apply a_dec_t; rfl; (· first | assumption | omega)) | (apply a_dec_f; rfl; (· first | assumption | omega)) | (apply wo_st; rfl; rfl; rfl; (· (repeat (first | apply sel_here | apply sel_there))); (· (repeat (first | apply SetAt.here | apply SetAt.there))); rfl) ))
        rw [ec]
        exact cut_end rfl (wk_mk (by (repeat (first | apply wkf_nil | (apply wkf_cons; rfl))); done) (by (repeat (first | apply sub_nil | (apply sub_cons; (· (repeat (first | apply sel_here | apply sel_there)))))); done) (by first | exact fun _ h => h | (intro r hr; cases hr; done) | (simp; done) | exact fun _ h => List.mem_append_left _ h | (intro r hr; simp [hr]; done)))
      · rw [if_neg h1, if_pos h2, decide_eq_false h1]
        (repeat (first | ((first | (apply wo_v; rfl) ); (· first | (apply pv_ev; rfl) | (apply pv_fld; rfl) | (apply g_bin; first | (apply pv_and; rfl; rfl) ) | (apply g_conv; first | (apply a_conv; rfl; infer_instance; infer_instance; infer_instance; omega) ) )) | apply wo_nil | apply wc_seq | apply wc_region | apply wc_skip | (apply wc_true; rfl) | (apply wc_false; rfl) | (apply a_dec_t; rfl; (· first | assumption | omega)) | (apply a_dec_f; rfl; (· first | assumption | omega)) | (apply wo_st; rfl; rfl; rfl; (· (repeat (first | apply sel_here | apply sel_there))); (· (repeat (first | apply SetAt.here | apply SetAt.there))); rfl) ))
        rw [e31]
        (repeat (first | fail ))
        exact cut_end rfl (wk_mk (by (repeat (first | apply wkf_nil | (apply wkf_cons; rfl))); done) (by (repeat (first | apply sub_nil | (apply sub_cons; (· (repeat (first | apply sel_here | apply sel_there)))))); done) (by first | exact fun _ h => h | (intro r hr; cases hr; done) | (simp; done) | exact fun _ h => List.mem_append_left _ h | (intro r hr; simp [hr]; done)))
      · omega
    · have e : q = (-1, false, -1, r4) := by rw [← hq]; unfold sLast; rw [if_neg hc]
      rw [e]
      (repeat (first | apply wc_skip | (apply wc_true; rfl) | (apply wc_false; rfl) | (apply a_dec_t; rfl; (· first | assumption | omega)) | (apply a_dec_f; rfl; (· first | assumption | omega)) ))
      exact cut_end rfl (wk_mk (by (repeat (first | apply wkf_nil | (apply wkf_cons; rfl))); done) (by (repeat (first | apply sub_nil )); done) (by first | exact fun _ h => h | (intro r hr; cases hr; done) | (simp; done) | exact fun _ h => List.mem_append_left _ h | (intro r hr; simp [hr]; done)))
  rintro st' rfl
  clear hq e48 e32 e16
  obtain ⟨ly, sy, ky, s6, e6⟩ := q
  dsimp only at hqs
  (repeat (first | ((first | (apply wo_v; rfl) ); (· first | (apply pv_ev; rfl) )) | apply wc_seq | apply wc_region ))
  (refine wo_call (octErr g s6 e6) rfl (by (repeat (first | apply sub_nil | (apply sub_cons; (· (repeat (first | apply sel_here | apply sel_there)))))); done) (by first | exact fun _ h => h | (intro r hr; cases hr; done) | (simp; done) | exact fun _ h => List.mem_append_left _ h | (intro r hr; simp [hr]; done)) rfl ?_; rintro v L' R' ⟨rfl, rfl, rfl⟩ H' hH RR hR; simp only [List.cons_append, List.nil_append] at hH hR; subst hH; have hR := hR.symm; subst hR)
  by_cases he : e6 ≠ 0
  · rw [show mkD a (pc, w, r3) (lv, r4) (ly, sy, ky, s6, e6) = (Dc0, E0, e6) from if_pos he]
    (repeat (first | ((first | (apply wo_v; rfl) ); (· first | (apply pv_ev; rfl) | (apply g_build; apply pv_build; (· (repeat (first | apply Bld.nil )))) )) | apply wo_nil | apply wc_seq | apply wc_region | apply wc_ret | (apply wc_true; rfl) | (apply wc_false; rfl) | (apply a_dec_t; rfl; (· first | assumption | omega)) | (apply wo_sta; rfl; rfl; rfl; rfl; (· (repeat (first | apply sel_here | apply sel_there))); (· (repeat (first | apply LayAt.nil | apply LayAt.here ))); rfl) ))
    exact retv rfl (by (repeat (first | apply RV.nil | (apply RV.tmp; rfl) | (apply RV.agg; rfl; (· (repeat (first | apply sel_here ))); infer_instance; (· (repeat (first | apply Cut.here0 | apply Cut.here )))) )); done) (⟨rfl, rfl, rfl⟩) (by (repeat (first | apply sub_nil )); done) (by first | exact fun _ h => h | (intro r hr; cases hr; done) | (simp; done) | exact fun _ h => List.mem_append_left _ h | (intro r hr; simp [hr]; done))
  · obtain rfl := Classical.not_not.1 he
    have hm : mkD a (pc, w, r3) (lv, r4) (ly, sy, ky, s6, 0) = (⟨nr, st, a % 8, pc, w, lv, ly, sy, ky⟩, s6, 0) := by unfold mkD; simp only; rw [if_neg (by simp), hnr, hst]
    rw [hm]
    have qr := octRest g s6 0 (by omega)
    rw [rest0] at qr
    (repeat (first | ((first | (apply wo_v; rfl) ); (· first | (apply pv_ev; rfl) )) | apply wo_nil | apply wc_seq | apply wc_region | apply wc_skip | (apply wc_true; rfl) | (apply wc_false; rfl) ))
    (refine wc_regM [0, 1] (aslL [(2, [0]), (3, [1])]) (tblV g z s6 (rdB s6 0 s6.size).2 (dO z nr st (a % 8) pc w lv ly sy ky)) ([dO h nr st (a % 8) pc w lv ly sy ky]) (fm [(0, [rdO g s6 0]), (1, [dO z false false 0 0 false 0 0 false 0])]) mixed (by kernel_rfl) (by kernel_rfl) (by decide) (aslL_ok (by decide)) (by (repeat (first | (apply prm_cons; (· (repeat (first | apply sel_here | apply sel_there)))) | apply List.Perm.nil )); done) ?_; (repeat (first | (apply HdM.val; rfl; rfl; (· first | apply gok_none ); (· first | (apply pv_ev; rfl) | (apply g_load; first | (apply pv_lda; rfl; (· (repeat (first | apply sel_here ))); (· (repeat (first | apply Cut.here0 | apply Cut.here )))) ) )) )))
    (refine hm_eff (cs := [0]) rfl (by decide) rfl rfl (by first | exact gok_none | exact gok_run rfl rfl) (fun a ha => outc_mono (outc_call (F1 := _) (T := fun v M => v = .string s6 ∧ M = [rdO g (rdB s6 0 s6.size).2.1 (rdB s6 0 s6.size).2.2]) qr rfl (by (repeat (first | apply sub_nil )); done) (by first | exact fun _ h => h | (intro r hr; cases hr; done) | (simp; done) | exact fun _ h => List.mem_append_left _ h | (intro r hr; simp [hr]; done)) (by rintro v L' R' ⟨rfl, rfl, _⟩; exact ⟨_, ⟨rfl, rfl⟩, (by (repeat (first | (apply prm_cons; (· (repeat (first | apply sel_here )))) | apply List.Perm.nil )); done)⟩) a ha) (fun v M h => ⟨[M], And.intro h.1 (congrArg (fun x => [x]) h.2), rfl, by simp⟩)) (⟨_, _, And.intro rfl rfl, rfl⟩) ?_; rintro v Ms ⟨rfl, rfl⟩ _; simp only [setls, setl, reduceIte, Nat.reduceEqDiff]; (repeat (first | fail )))
    (refine hm_eff (cs := [1]) rfl (by decide) rfl rfl (by first | exact gok_none | exact gok_run rfl rfl) (fun a ha => outc_mono (outc_sta rfl rfl rfl rfl (by (repeat (first | apply LayAt.nil | apply LayAt.here )); done) a ha) (fun v M h => ⟨[M], And.intro h.1 (congrArg (fun x => [x]) h.2), rfl, by simp⟩)) ⟨_, _, And.intro rfl rfl, rfl⟩ ?_; rintro v Ms ⟨rfl, rfl⟩ _; simp only [setls, setl, reduceIte, Nat.reduceEqDiff]; (repeat (first | (apply HdM.val; rfl; rfl; (· first | apply gok_none ); (· first | (apply pv_ev; rfl) )) )))
    (refine HdM.nil ?_; intro H hH; simp only [Hp, fm, look, setl, List.flatMap_cons, List.flatMap_nil, reduceIte, Nat.reduceEqDiff, Option.getD_some, List.append_nil, List.cons_append, List.nil_append] at hH; subst hH)
    (repeat (first | apply wc_ret ))
    exact retv rfl (by (repeat (first | apply RV.nil | (apply RV.tmp; rfl) | (apply RV.agg; rfl; (· (repeat (first | apply sel_here | apply sel_there))); infer_instance; (· (repeat (first | apply Cut.here0 | apply Cut.here )))) )); done) (⟨rfl, rfl, rfl⟩) (by (repeat (first | apply sub_nil )); done) (by first | exact fun _ h => h | (intro r hr; cases hr; done) | (simp; done) | exact fun _ h => List.mem_append_left _ h | (intro r hr; simp [hr]; done))
end Go.Proofs.Ytlhlidmhlhodiaa

/-
  Layer 4: a descriptor's bytes; Check, With, Keyframe.
-/
namespace Go.Proofs.Ytlhlidmhlhodiaa
set_option linter.unusedSimpArgs false
set_option linter.unusedVariables false
set_option linter.unusedSimpArgs false
set_option linter.unusedVariables false
open Go.RowKit
attribute [local irreducible] Pv WO WC Fn
attribute [local irreducible] ByteArray.extract
set_option maxRecDepth 100000

theorem or16_hi {p : Int} (h : 0 ≤ p ∧ p ≤ 32767) : bits .or .u16 p 32768 = p + 32768 := by
  obtain ⟨u, rfl⟩ := Int.eq_ofNat_of_zero_le h.1
  show IntKind.u16.wrap ((BitVec.ofInt 16 (u : Int) ||| BitVec.ofInt 16 ((32768 : Nat) : Int)).toNat : Int) = _
  have hz : ∀ c : Nat, c < 2 ^ 16 → (BitVec.ofInt 16 (c : Int)).toNat = c := fun c hc => by
    rw [BitVec.ofInt_natCast, BitVec.toNat_ofNat]; exact Nat.mod_eq_of_lt hc
  rw [BitVec.toNat_or, hz u (by omega), hz 32768 (by omega), Nat.or_comm]
  have e := Nat.two_pow_add_eq_or_of_lt (i := 15) (b := u) (by omega) 1
  rw [show 2 ^ 15 * 1 = 32768 from rfl] at e
  rw [← e, IntKind.wrap_u16]
  omega
abbrev wrR0 (g : Nat) (t : ByteArray) (v : Value) (Ms : List (List It)) : Prop := ∃ (p ao : Option Addr) (c : Nat), v = .pointer (some ⟨g, 0, none⟩) ∧ Ms = [wrH g p ao c t, []] ∧ WOk g p ao c t
/-- quiet calls' values qs, a slice of one byte y at k1, the write at k2 -/
abbrev tblT (g : Nat) (T : ByteArray) (y : Int) (k1 k2 : Nat) (qs : List (Nat × Value)) : Nat → List (List It) → Value → List (List It) → Prop := fun k Ls v Ms =>
  if k = k1 then ∃ b, v = .slice (some ⟨b, 0, none⟩) 1 1 ∧ Ms = [[byO b 1 (b1 y)]]
  else if k = k2 then wrR0 g T v Ms
  else v = (qs.lookup k).getD undef ∧ Ms = [[]]
theorem imp_b1 {y y' : Int} (hy : y' = y) (h : 0 ≤ y ∧ y ≤ 255) {v : Value} {M : List It} (hM : ∃ b, v = .slice (some ⟨b, 0, none⟩) 1 1 ∧ M = [.own 5 1 (some ⟨b, 0, none⟩) 1 1 [[.int .u8 y']]]) : ∃ b, v = .slice (some ⟨b, 0, none⟩) 1 1 ∧ M = [byO b 1 (b1 y)] := by
  obtain ⟨b, h1, h2⟩ := hM
  refine ⟨b, h1, h2.trans ?_⟩
  show _ = [It.own 5 1 (some ⟨b, 0, none⟩) 1 1 (brows (b1 y))]
  rw [← brows_one h, hy]
set_option maxHeartbeats 64000000 in
theorem vText (nr st : Bool) (pt pic : Int) (wd : Bool) (lv ly : Int) (sy : Bool) (ky : Int) (hA : okA ⟨nr, st, pt, pic, wd, lv, ly, sy, ky⟩) (hF : okF ⟨nr, st, pt, pic, wd, lv, ly, sy, ky⟩) :
    Fn Try.prog 14 #[.agg (dL nr st pt pic wd lv ly sy ky).toArray] [] [] (fun v L' R' => v = .string (txt ⟨nr, st, pt, pic, wd, lv, ly, sy, ky⟩) ∧ L' = [] ∧ R' = []) := by
  have hfb := first_b _ hA
  have hfl := fls_b ⟨nr, st, pt, pic, wd, lv, ly, sy, ky⟩
  obtain ⟨a1, a2, a3, a4, a5, a6, a7, a8, a9, a10⟩ := hA
  obtain ⟨f1, f2, f3⟩ := hF
  dsimp only at a1 a2 a3 a4 a5 a6 a7 a8 a9 a10 f1 f2 f3 hfb
  have e7 := and_7 pt
  obtain ⟨mb, hmb⟩ : ∃ mb, moreB ⟨nr, st, pt, pic, wd, lv, ly, sy, ky⟩ = mb := ⟨_, rfl⟩
  obtain ⟨x1, hx1⟩ : ∃ x, bt mb 128 = x := ⟨_, rfl⟩
  obtain ⟨x2, hx2⟩ : ∃ x, bt nr 32 = x := ⟨_, rfl⟩
  obtain ⟨x3, hx3⟩ : ∃ x, bt st 16 = x := ⟨_, rfl⟩
  have o1 := bt_or mb 128
  have o2 := bt_or nr 32
  have o3 := bt_or st 16
  rw [hmb, hx1, hx2, hx3] at hfb
  rw [hx1] at o1
  rw [hx2] at o2
  rw [hx3] at o3
  obtain ⟨y, hy⟩ : ∃ y, x1 + x2 + x3 + pt = y := ⟨_, rfl⟩
  rw [hy] at hfb
  have hy' : x1 + x2 + x3 + bits .and .i64 pt 7 = y := by omega
  have qm := vMore nr st pt pic wd lv ly sy ky mb hmb
  have hW1 := fun g bl => wU8 g 0 bl 1 none none E0 (b1 y) ⟨.inl rfl, .inl ⟨rfl, rfl, rfl⟩⟩ (by rw [b1_size]; omega) (by rw [b1_size]; decide)
  simp only [E0_append] at hW1
  have htx : txt ⟨nr, st, pt, pic, wd, lv, ly, sy, ky⟩ = b1 y ++ (if mb = true then b1 (fls ⟨nr, st, pt, pic, wd, lv, ly, sy, ky⟩) ++ (tPic ⟨nr, st, pt, pic, wd, lv, ly, sy, ky⟩ ++ (tLv ⟨nr, st, pt, pic, wd, lv, ly, sy, ky⟩ ++ tLast ⟨nr, st, pt, pic, wd, lv, ly, sy, ky⟩)) else E0) := by
    unfold txt; simp only; rw [hmb, hx1, hx2, hx3, hy]
  rw [htx]
  clear htx
  refine fn_intro Try.func14 rfl Try.ntmps14 rfl (fun E => ?_)
  (repeat (first | ((first | (apply wo_v; rfl) ); (· first | (apply pv_ev; rfl) )) | apply wo_nil | apply wc_seq | apply wc_region | (apply wo_box1; rfl; rfl; rfl; intro bx) | (apply wo_boxa; rfl; rfl; intro bx) | (apply wo_alloc; rfl; intro bx) ))
  obtain ⟨h, hh⟩ : ∃ h, h = bx := ⟨_, rfl⟩
  subst hh
  obtain ⟨g, hg⟩ : ∃ g, g = h := ⟨_, rfl⟩
  subst hg
  refine wc_own0 5 1 ?_
  refine wc_join0 (fun st' => ∃ (p ao : Option Addr) (c : Nat), st' = ⟨[(1, .pointer (some ⟨bx, 0, none⟩)), (3, .pointer (some ⟨g, 0, none⟩))], wrH g p ao c (b1 y) ++ [dO bx nr st pt pic wd lv ly sy ky], []⟩ ∧ WOk g p ao c (b1 y)) ?_ ?_
  · (refine wc_regM [0, 1, 2, 3, 4, 5] (aslL [(1, [2]), (2, [3]), (5, [4]), (9, [5]), (16, [1]), (17, [0, 1])]) (tblT g (b1 y) y 16 17 [(1, .bool mb), (2, .int .u8 x1), (5, .int .u8 x2), (9, .int .u8 x3)]) ([dO bx nr st pt pic wd lv ly sy ky]) (fm [(0, wrH g none none 0 E0), (1, []), (2, []), (3, []), (4, []), (5, [])]) mixed (by kernel_rfl) (by kernel_rfl) (by decide) (aslL_ok (by decide)) (by (repeat (first | (apply prm_cons; (· (repeat (first | apply sel_here | apply sel_there)))) | apply List.Perm.nil )); done) ?_; (repeat (first | (apply HdM.val; rfl; rfl; (· first | apply gok_none ); (· first | (apply pv_ev; rfl) | (apply g_load; first | (apply pv_lda; rfl; (· (repeat (first | apply sel_here ))); (· (repeat (first | apply Cut.here0 | apply Cut.here )))) ) )) )))
    (refine hm_eff (cs := [2]) rfl (by decide) rfl rfl (by first | exact gok_none | exact gok_run rfl rfl) (fun a ha => outc_mono (outc_call (F1 := _) (T := fun v M => v = .bool mb ∧ M = []) (qm) rfl (by (repeat (first | apply sub_nil )); done) (by first | exact fun _ h => h | (intro r hr; cases hr; done) | (simp; done) | exact fun _ h => List.mem_append_left _ h | (intro r hr; simp [hr]; done)) (by rintro v L' R' ⟨rfl, rfl, _⟩; exact ⟨_, ⟨rfl, rfl⟩, (by (repeat (first | (apply prm_cons; (· (repeat (first | apply sel_here )))) | apply List.Perm.nil )); done)⟩) a ha) (fun v M h => ⟨[[]], And.intro h.1 rfl, rfl, h.2⟩)) ⟨_, _, And.intro rfl rfl, rfl⟩ ?_; rintro v Ms ⟨rfl, rfl⟩ _; simp only [setls, setl, reduceIte, Nat.reduceEqDiff]; (repeat (first | (apply HdM.val; rfl; rfl; (· first | fail ); (· first | fail )) )))
    (refine hm_eff (cs := [3]) rfl (by decide) rfl rfl (by first | exact gok_none | exact gok_run rfl rfl) (fun a ha => outc_mono (outc_call (F1 := _) (T := fun v M => v = .int .u8 x1 ∧ M = []) (vBit mb 128 x1 hx1) rfl (by (repeat (first | apply sub_nil )); done) (by first | exact fun _ h => h | (intro r hr; cases hr; done) | (simp; done) | exact fun _ h => List.mem_append_left _ h | (intro r hr; simp [hr]; done)) (by rintro v L' R' ⟨rfl, rfl, _⟩; exact ⟨_, ⟨rfl, rfl⟩, (by (repeat (first | (apply prm_cons; (· (repeat (first | apply sel_here )))) | apply List.Perm.nil )); done)⟩) a ha) (fun v M h => ⟨[[]], And.intro h.1 rfl, rfl, h.2⟩)) ⟨_, _, And.intro rfl rfl, rfl⟩ ?_; rintro v Ms ⟨rfl, rfl⟩ _; simp only [setls, setl, reduceIte, Nat.reduceEqDiff]; (repeat (first | (apply HdM.val; rfl; rfl; (· first | apply gok_none ); (· first | (apply pv_ev; rfl) | (apply pv_fld; rfl) | (apply g_load; first | (apply pv_ld; rfl; (· (repeat (first | apply sel_here ))); rfl) ) )) )))
    (refine hm_eff (cs := [4]) rfl (by decide) rfl rfl (by first | exact gok_none | exact gok_run rfl rfl) (fun a ha => outc_mono (outc_call (F1 := _) (T := fun v M => v = .int .u8 x2 ∧ M = []) (vBit nr 32 x2 hx2) rfl (by (repeat (first | apply sub_nil )); done) (by first | exact fun _ h => h | (intro r hr; cases hr; done) | (simp; done) | exact fun _ h => List.mem_append_left _ h | (intro r hr; simp [hr]; done)) (by rintro v L' R' ⟨rfl, rfl, _⟩; exact ⟨_, ⟨rfl, rfl⟩, (by (repeat (first | (apply prm_cons; (· (repeat (first | apply sel_here )))) | apply List.Perm.nil )); done)⟩) a ha) (fun v M h => ⟨[[]], And.intro h.1 rfl, rfl, h.2⟩)) ⟨_, _, And.intro rfl rfl, rfl⟩ ?_; rintro v Ms ⟨rfl, rfl⟩ _; simp only [setls, setl, reduceIte, Nat.reduceEqDiff]; (repeat (first | (apply HdM.val; rfl; rfl; (· first | apply gok_none ); (· first | (apply pv_ev; rfl) | (apply pv_fld; rfl) | (apply g_load; first | (apply pv_ld; rfl; (· (repeat (first | apply sel_here ))); rfl) ) | (apply g_bin; first | (apply (a_or 4); rfl; rfl; infer_instance; rfl; omega) | (apply (a_or 5); rfl; rfl; infer_instance; rfl; omega) | (apply (a_or 6); rfl; rfl; infer_instance; rfl; omega) ) )) )))
    (refine hm_eff (cs := [5]) rfl (by decide) rfl rfl (by first | exact gok_none | exact gok_run rfl rfl) (fun a ha => outc_mono (outc_call (F1 := _) (T := fun v M => v = .int .u8 x3 ∧ M = []) (vBit st 16 x3 hx3) rfl (by (repeat (first | apply sub_nil )); done) (by first | exact fun _ h => h | (intro r hr; cases hr; done) | (simp; done) | exact fun _ h => List.mem_append_left _ h | (intro r hr; simp [hr]; done)) (by rintro v L' R' ⟨rfl, rfl, _⟩; exact ⟨_, ⟨rfl, rfl⟩, (by (repeat (first | (apply prm_cons; (· (repeat (first | apply sel_here )))) | apply List.Perm.nil )); done)⟩) a ha) (fun v M h => ⟨[[]], And.intro h.1 rfl, rfl, h.2⟩)) ⟨_, _, And.intro rfl rfl, rfl⟩ ?_; rintro v Ms ⟨rfl, rfl⟩ _; simp only [setls, setl, reduceIte, Nat.reduceEqDiff]; (repeat (first | (apply HdM.val; rfl; rfl; (· first | apply gok_none ); (· first | (apply pv_ev; rfl) | (apply pv_fld; rfl) | (apply g_load; first | (apply pv_ld; rfl; (· (repeat (first | apply sel_here ))); rfl) ) | (apply g_bin; first | (apply pv_and; rfl; rfl) | (apply (a_or 4); rfl; rfl; infer_instance; rfl; omega) | (apply (a_or 5); rfl; rfl; infer_instance; rfl; omega) ) | (apply g_conv; first | (apply a_conv; rfl; infer_instance; infer_instance; infer_instance; omega) ) )) )))
    (refine hm_eff (cs := [1]) rfl (by decide) rfl rfl (by first | exact gok_none | exact gok_run rfl rfl) (fun a ha => outc_mono (outc_bsl (by (repeat (first | apply Rws'.nil | (apply Rws'.one; rfl; rfl; rfl) )); done) rfl rfl rfl a ha) (fun v M h => by obtain ⟨b, h1, h2⟩ := imp_b1 hy' hfb h; exact ⟨[M], Exists.intro b (And.intro h1 (congrArg (fun x => [x]) h2)), rfl, by simp⟩)) (⟨_, _, Exists.intro 0 (And.intro rfl rfl), rfl⟩) ?_; rintro v Ms ⟨b16, rfl, rfl⟩ _; simp only [setls, setl, reduceIte, Nat.reduceEqDiff]; (repeat (first | (apply HdM.val; rfl; rfl; (· first | fail ); (· first | fail )) )))
    (refine hm_eff (cs := [0, 1]) rfl (by decide) rfl rfl (by first | exact gok_none | exact gok_run rfl rfl) (fun a ha => outc_mono (outc_call (F1 := _) (T := fun v M => ∃ (p ao : Option Addr) (c : Nat), v = .pointer (some ⟨g, 0, none⟩) ∧ M = wrH g p ao c (b1 y) ∧ WOk g p ao c (b1 y)) (hW1 g b16) rfl (by (repeat (first | apply sub_nil )); done) (by first | exact fun _ h => h | (intro r hr; cases hr; done) | (simp; done) | exact fun _ h => List.mem_append_left _ h | (intro r hr; simp [hr]; done)) (by rintro v L' R' ⟨p', ao', c', rfl, rfl, _, hw'⟩; exact ⟨_, ⟨p', ao', c', rfl, rfl, hw'⟩, (by (repeat (first | (apply prm_cons; (· (repeat (first | apply sel_here )))) | apply List.Perm.nil )); done)⟩) a ha) (fun v M h => Exists.elim h fun p h => Exists.elim h fun ao h => Exists.elim h fun c h => ⟨[M, []], Exists.intro p (Exists.intro ao (Exists.intro c (And.intro h.1 (And.intro (congrArg (fun x => [x, []]) h.2.1) h.2.2)))), rfl, by simp⟩)) ((by obtain ⟨p, ao, c, h⟩ := WOk.ex g (b1 y); exact ⟨_, _, Exists.intro p (Exists.intro ao (Exists.intro c (And.intro rfl (And.intro rfl h)))), rfl⟩)) ?_; rintro v Ms ⟨p1, ao1, c1, rfl, rfl, hw1⟩ _; simp only [setls, setl, reduceIte, Nat.reduceEqDiff]; (repeat (first | fail )))
    (refine HdM.nil ?_; intro H hH; simp only [Hp, fm, look, setl, List.flatMap_cons, List.flatMap_nil, reduceIte, Nat.reduceEqDiff, Option.getD_some, List.append_nil, List.cons_append, List.nil_append] at hH; subst hH)
    exact cut_end ⟨p1, ao1, c1, rfl, hw1⟩ (wk_mk (by (repeat (first | apply wkf_nil | (apply wkf_cons; rfl))); done) (by (repeat (first | apply sub_nil | (apply sub_cons; (· (repeat (first | apply sel_here | apply sel_there)))))); done) (by first | exact fun _ h => h | (intro r hr; cases hr; done) | (simp; done) | exact fun _ h => List.mem_append_left _ h | (intro r hr; simp [hr]; done)))
  rintro st' ⟨p1, ao1, c1, rfl, hw1⟩
  (repeat (first | ((first | (apply wo_v; rfl) ); (· first | (apply pv_ev; rfl) | (apply g_load; first | (apply pv_lda; rfl; (· (repeat (first | apply sel_here | apply sel_there))); (· (repeat (first | apply Cut.here0 | apply Cut.here )))) ) )) | apply wc_seq | apply wc_region ))
  (refine wo_call (qm) rfl (by (repeat (first | apply sub_nil )); done) (by first | exact fun _ h => h | (intro r hr; cases hr; done) | (simp; done) | exact fun _ h => List.mem_append_left _ h | (intro r hr; simp [hr]; done)) rfl ?_; rintro v L' R' ⟨rfl, rfl, rfl⟩ H' hH RR hR; simp only [List.cons_append, List.nil_append] at hH hR; subst hH; have hR := hR.symm; subst hR)
  cases mb with
  | false =>
    (repeat (first | ((first | (apply wo_v; rfl) ); (· first | (apply pv_ev; rfl) | (apply g_un; first | (apply pv_not_t; rfl) | (apply pv_not_f; rfl) ) )) | apply wo_nil | apply wc_seq | apply wc_region | (apply wc_true; rfl) ))
    (refine wo_call (wText g c1 p1 ao1 (b1 y) hw1) rfl (by (repeat (first | apply sub_nil )); done) (by first | exact fun _ h => h | (intro r hr; cases hr; done) | (simp; done) | exact fun _ h => List.mem_append_left _ h | (intro r hr; simp [hr]; done)) rfl ?_; rintro v L' R' ⟨rfl, rfl, rfl⟩ H' hH RR hR; simp only [List.cons_append, List.nil_append] at hH hR; subst hH; have hR := hR.symm; subst hR)
    (repeat (first | ((first | (apply wo_v; rfl) ); (· first | (apply pv_ev; rfl) )) | apply wo_nil | apply wc_ret ))
    exact ret1 rfl rfl ⟨by rw [if_neg (by simp), append_E0], rfl, rfl⟩ ((by (repeat (first | apply sub_nil )); done) : List.Perm _ ([] ++ _)) (by first | exact fun _ h => h | (intro r hr; cases hr; done) | (simp; done) | exact fun _ h => List.mem_append_left _ h | (intro r hr; simp [hr]; done))
  | true =>
  rw [if_pos rfl]
  obtain ⟨x5, hx5⟩ : ∃ x, bt (decide (0 ≤ pic)) 128 = x := ⟨_, rfl⟩
  obtain ⟨x6, hx6⟩ : ∃ x, bt (decide (0 ≤ lv)) 64 = x := ⟨_, rfl⟩
  obtain ⟨x7, hx7⟩ : ∃ x, bt (decide (0 ≤ ly)) 32 = x := ⟨_, rfl⟩
  obtain ⟨x8, hx8⟩ : ∃ x, bt (decide (0 ≤ ky)) 16 = x := ⟨_, rfl⟩
  have o5 := bt_or (decide (0 ≤ pic)) 128
  have o6 := bt_or (decide (0 ≤ lv)) 64
  have o7 := bt_or (decide (0 ≤ ly)) 32
  have o8 := bt_or (decide (0 ≤ ky)) 16
  rw [hx5] at o5
  rw [hx6] at o6
  rw [hx7] at o7
  rw [hx8] at o8
  have hF0 : x5 + x6 + x7 + x8 = fls ⟨nr, st, pt, pic, wd, lv, ly, sy, ky⟩ := by unfold fls; simp only; rw [hx5, hx6, hx7, hx8]
  generalize fls ⟨nr, st, pt, pic, wd, lv, ly, sy, ky⟩ = F at hF0 hfl ⊢
  have hfl2 : 0 ≤ F ∧ F ≤ 255 := by omega
  have hW2 := fun bl => wU8 g c1 bl 1 p1 ao1 (b1 y) (b1 F) hw1 (by rw [b1_size]; omega) (by rw [b1_size, b1_size]; decide)
  (repeat (first | ((first | (apply wo_v; rfl) ); (· first | (apply pv_ev; rfl) | (apply g_un; first | (apply pv_not_t; rfl) ) )) | apply wo_nil | apply wc_seq | apply wc_skip | (apply wc_true; rfl) | (apply wc_false; rfl) ))
  refine wc_join0 (fun st' => ∃ (p ao : Option Addr) (c : Nat), st' = ⟨[(1, .pointer (some ⟨bx, 0, none⟩)), (3, .pointer (some ⟨g, 0, none⟩))], wrH g p ao c (b1 y ++ b1 F) ++ [dO bx nr st pt pic wd lv ly sy ky], []⟩ ∧ WOk g p ao c (b1 y ++ b1 F)) ?_ ?_
  · (refine wc_regM [0, 1, 2, 3, 4, 5] (aslL [(3, [2]), (7, [3]), (12, [4]), (17, [5]), (19, [1]), (20, [0, 1])]) (tblT g (b1 y ++ b1 F) F 19 20 [(3, .int .u8 x5), (7, .int .u8 x6), (12, .int .u8 x7), (17, .int .u8 x8)]) ([dO bx nr st pt pic wd lv ly sy ky]) (fm [(0, wrH g p1 ao1 c1 (b1 y)), (1, []), (2, []), (3, []), (4, []), (5, [])]) mixed (by kernel_rfl) (by kernel_rfl) (by decide) (aslL_ok (by decide)) (by (repeat (first | (apply prm_cons; (· (repeat (first | apply sel_here | apply sel_there)))) | apply List.Perm.nil )); done) ?_; (repeat (first | (apply HdM.val; rfl; rfl; (· first | apply gok_none ); (· first | (apply pv_ev; rfl) | (apply pv_fld; rfl) | (apply g_load; first | (apply pv_ld; rfl; (· (repeat (first | apply sel_here ))); rfl) ) )) )))
    (refine hm_eff (cs := [2]) rfl (by decide) rfl rfl (by first | exact gok_none | exact gok_run rfl rfl) (fun a ha => outc_mono (outc_call (F1 := _) (T := fun v M => v = .int .u8 x5 ∧ M = []) (vBit (decide (0 ≤ pic)) 128 x5 hx5) rfl (by (repeat (first | apply sub_nil )); done) (by first | exact fun _ h => h | (intro r hr; cases hr; done) | (simp; done) | exact fun _ h => List.mem_append_left _ h | (intro r hr; simp [hr]; done)) (by rintro v L' R' ⟨rfl, rfl, _⟩; exact ⟨_, ⟨rfl, rfl⟩, (by (repeat (first | (apply prm_cons; (· (repeat (first | apply sel_here )))) | apply List.Perm.nil )); done)⟩) a ha) (fun v M h => ⟨[[]], And.intro h.1 rfl, rfl, h.2⟩)) ⟨_, _, And.intro rfl rfl, rfl⟩ ?_; rintro v Ms ⟨rfl, rfl⟩ _; simp only [setls, setl, reduceIte, Nat.reduceEqDiff]; (repeat (first | (apply HdM.val; rfl; rfl; (· first | apply gok_none ); (· first | (apply pv_ev; rfl) | (apply pv_fld; rfl) | (apply g_load; first | (apply pv_ld; rfl; (· (repeat (first | apply sel_here ))); rfl) ) )) )))
    (refine hm_eff (cs := [3]) rfl (by decide) rfl rfl (by first | exact gok_none | exact gok_run rfl rfl) (fun a ha => outc_mono (outc_call (F1 := _) (T := fun v M => v = .int .u8 x6 ∧ M = []) (vBit (decide (0 ≤ lv)) 64 x6 hx6) rfl (by (repeat (first | apply sub_nil )); done) (by first | exact fun _ h => h | (intro r hr; cases hr; done) | (simp; done) | exact fun _ h => List.mem_append_left _ h | (intro r hr; simp [hr]; done)) (by rintro v L' R' ⟨rfl, rfl, _⟩; exact ⟨_, ⟨rfl, rfl⟩, (by (repeat (first | (apply prm_cons; (· (repeat (first | apply sel_here )))) | apply List.Perm.nil )); done)⟩) a ha) (fun v M h => ⟨[[]], And.intro h.1 rfl, rfl, h.2⟩)) ⟨_, _, And.intro rfl rfl, rfl⟩ ?_; rintro v Ms ⟨rfl, rfl⟩ _; simp only [setls, setl, reduceIte, Nat.reduceEqDiff]; (repeat (first | (apply HdM.val; rfl; rfl; (· first | apply gok_none ); (· first | (apply pv_ev; rfl) | (apply pv_fld; rfl) | (apply g_load; first | (apply pv_ld; rfl; (· (repeat (first | apply sel_here ))); rfl) ) | (apply g_bin; first | (apply (a_or 4); rfl; rfl; infer_instance; rfl; omega) | (apply (a_or 5); rfl; rfl; infer_instance; rfl; omega) | (apply (a_or 6); rfl; rfl; infer_instance; rfl; omega) | (apply (a_or 7); rfl; rfl; infer_instance; rfl; omega) ) )) )))
    (refine hm_eff (cs := [4]) rfl (by decide) rfl rfl (by first | exact gok_none | exact gok_run rfl rfl) (fun a ha => outc_mono (outc_call (F1 := _) (T := fun v M => v = .int .u8 x7 ∧ M = []) (vBit (decide (0 ≤ ly)) 32 x7 hx7) rfl (by (repeat (first | apply sub_nil )); done) (by first | exact fun _ h => h | (intro r hr; cases hr; done) | (simp; done) | exact fun _ h => List.mem_append_left _ h | (intro r hr; simp [hr]; done)) (by rintro v L' R' ⟨rfl, rfl, _⟩; exact ⟨_, ⟨rfl, rfl⟩, (by (repeat (first | (apply prm_cons; (· (repeat (first | apply sel_here )))) | apply List.Perm.nil )); done)⟩) a ha) (fun v M h => ⟨[[]], And.intro h.1 rfl, rfl, h.2⟩)) ⟨_, _, And.intro rfl rfl, rfl⟩ ?_; rintro v Ms ⟨rfl, rfl⟩ _; simp only [setls, setl, reduceIte, Nat.reduceEqDiff]; (repeat (first | (apply HdM.val; rfl; rfl; (· first | apply gok_none ); (· first | (apply pv_ev; rfl) | (apply pv_fld; rfl) | (apply g_load; first | (apply pv_ld; rfl; (· (repeat (first | apply sel_here ))); rfl) ) | (apply g_bin; first | (apply (a_or 4); rfl; rfl; infer_instance; rfl; omega) | (apply (a_or 5); rfl; rfl; infer_instance; rfl; omega) | (apply (a_or 6); rfl; rfl; infer_instance; rfl; omega) ) )) )))
    (refine hm_eff (cs := [5]) rfl (by decide) rfl rfl (by first | exact gok_none | exact gok_run rfl rfl) (fun a ha => outc_mono (outc_call (F1 := _) (T := fun v M => v = .int .u8 x8 ∧ M = []) (vBit (decide (0 ≤ ky)) 16 x8 hx8) rfl (by (repeat (first | apply sub_nil )); done) (by first | exact fun _ h => h | (intro r hr; cases hr; done) | (simp; done) | exact fun _ h => List.mem_append_left _ h | (intro r hr; simp [hr]; done)) (by rintro v L' R' ⟨rfl, rfl, _⟩; exact ⟨_, ⟨rfl, rfl⟩, (by (repeat (first | (apply prm_cons; (· (repeat (first | apply sel_here )))) | apply List.Perm.nil )); done)⟩) a ha) (fun v M h => ⟨[[]], And.intro h.1 rfl, rfl, h.2⟩)) ⟨_, _, And.intro rfl rfl, rfl⟩ ?_; rintro v Ms ⟨rfl, rfl⟩ _; simp only [setls, setl, reduceIte, Nat.reduceEqDiff]; (repeat (first | (apply HdM.val; rfl; rfl; (· first | apply gok_none ); (· first | (apply pv_ev; rfl) | (apply g_bin; first | (apply (a_or 4); rfl; rfl; infer_instance; rfl; omega) | (apply (a_or 5); rfl; rfl; infer_instance; rfl; omega) ) )) )))
    (refine hm_eff (cs := [1]) rfl (by decide) rfl rfl (by first | exact gok_none | exact gok_run rfl rfl) (fun a ha => outc_mono (outc_bsl (by (repeat (first | apply Rws'.nil | (apply Rws'.one; rfl; rfl; rfl) )); done) rfl rfl rfl a ha) (fun v M h => by obtain ⟨b, h1, h2⟩ := imp_b1 hF0 hfl2 h; exact ⟨[M], Exists.intro b (And.intro h1 (congrArg (fun x => [x]) h2)), rfl, by simp⟩)) (⟨_, _, Exists.intro 0 (And.intro rfl rfl), rfl⟩) ?_; rintro v Ms ⟨b19, rfl, rfl⟩ _; simp only [setls, setl, reduceIte, Nat.reduceEqDiff]; (repeat (first | (apply HdM.val; rfl; rfl; (· first | fail ); (· first | fail )) )))
    (refine hm_eff (cs := [0, 1]) rfl (by decide) rfl rfl (by first | exact gok_none | exact gok_run rfl rfl) (fun a ha => outc_mono (outc_call (F1 := _) (T := fun v M => ∃ (p ao : Option Addr) (c : Nat), v = .pointer (some ⟨g, 0, none⟩) ∧ M = wrH g p ao c (b1 y ++ b1 F) ∧ WOk g p ao c (b1 y ++ b1 F)) (hW2 b19) rfl (by (repeat (first | apply sub_nil )); done) (by first | exact fun _ h => h | (intro r hr; cases hr; done) | (simp; done) | exact fun _ h => List.mem_append_left _ h | (intro r hr; simp [hr]; done)) (by rintro v L' R' ⟨p', ao', c', rfl, rfl, _, hw'⟩; exact ⟨_, ⟨p', ao', c', rfl, rfl, hw'⟩, (by (repeat (first | (apply prm_cons; (· (repeat (first | apply sel_here )))) | apply List.Perm.nil )); done)⟩) a ha) (fun v M h => Exists.elim h fun p h => Exists.elim h fun ao h => Exists.elim h fun c h => ⟨[M, []], Exists.intro p (Exists.intro ao (Exists.intro c (And.intro h.1 (And.intro (congrArg (fun x => [x, []]) h.2.1) h.2.2)))), rfl, by simp⟩)) ((by obtain ⟨p, ao, c, h⟩ := WOk.ex g (b1 y ++ b1 F); exact ⟨_, _, Exists.intro p (Exists.intro ao (Exists.intro c (And.intro rfl (And.intro rfl h)))), rfl⟩)) ?_; rintro v Ms ⟨p2, ao2, c2, rfl, rfl, hw2⟩ _; simp only [setls, setl, reduceIte, Nat.reduceEqDiff]; (repeat (first | fail )))
    (refine HdM.nil ?_; intro H hH; simp only [Hp, fm, look, setl, List.flatMap_cons, List.flatMap_nil, reduceIte, Nat.reduceEqDiff, Option.getD_some, List.append_nil, List.cons_append, List.nil_append] at hH; subst hH)
    exact cut_end ⟨p2, ao2, c2, rfl, hw2⟩ (wk_mk (by (repeat (first | apply wkf_nil | (apply wkf_cons; rfl))); done) (by (repeat (first | apply sub_nil | (apply sub_cons; (· (repeat (first | apply sel_here | apply sel_there)))))); done) (by first | exact fun _ h => h | (intro r hr; cases hr; done) | (simp; done) | exact fun _ h => List.mem_append_left _ h | (intro r hr; simp [hr]; done)))
  rintro st' ⟨p2, ao2, c2, rfl, hw2⟩
  have z2 : (b1 y ++ b1 F).size = 2 := by rw [ByteArray.size_append, b1_size, b1_size]
  rw [← ByteArray.append_assoc, ← ByteArray.append_assoc, ← ByteArray.append_assoc]
  generalize b1 y ++ b1 F = t2 at hw2 z2 ⊢
  clear hW1 hW2 hw1 hx1 hx2 hx3 hx5 hx6 hx7 hx8 o1 o2 o3 o5 o6 o7 o8 hy hy' hF0 qm
  have e127 := and_127 pic
  have wb := fun c2 bl p2 ao2 hw2 x => wU8 g c2 bl 1 p2 ao2 t2 (b1 x) hw2 (by rw [b1_size]; omega) (by rw [b1_size]; omega)
  simp only [b1_size] at wb
  (repeat (first | apply wc_seq ))
  refine wc_join0 (fun st' => ∃ (p ao : Option Addr) (c : Nat), st' = ⟨[(1, .pointer (some ⟨bx, 0, none⟩)), (3, .pointer (some ⟨g, 0, none⟩))], wrH g p ao c (t2 ++ tPic ⟨nr, st, pt, pic, wd, lv, ly, sy, ky⟩) ++ [dO bx nr st pt pic wd lv ly sy ky], []⟩ ∧ WOk g p ao c (t2 ++ tPic ⟨nr, st, pt, pic, wd, lv, ly, sy, ky⟩)) ?_ ?_
  · unfold tPic
    simp only
    refine wc_block ?_
    by_cases hp : 0 ≤ pic
    · cases wd with
      | true =>
        have w16 := fun c2 bl p2 ao2 hw2 => wU16 g c2 bl 1 p2 ao2 t2 [pic + 32768] (by intro y hy; simp at hy; omega) (by simp) hw2 (by omega)
        rw [numsS_one] at w16
        rw [if_pos hp, if_pos rfl]
        have hor := or16_hi (p := pic) (by omega)
        (repeat (first | ((first | (apply wo_v; rfl) ); (· first | (apply pv_ev; rfl) | (apply pv_fld; rfl) | (apply g_load; first | (apply pv_ld; rfl; (· (repeat (first | apply sel_here | apply sel_there))); rfl) ) | (apply g_pick; first | (apply pv_pick_t; rfl; rfl) ) | (apply g_bin; first | (apply (a_or 4); rfl; rfl; infer_instance; rfl; omega) | (apply (a_or 5); rfl; rfl; infer_instance; rfl; omega) | (apply (a_or 6); rfl; rfl; infer_instance; rfl; omega) | (apply (a_or 7); rfl; rfl; infer_instance; rfl; omega) | (apply (a_or 8); rfl; rfl; infer_instance; rfl; omega) | (apply (a_or 16); rfl; rfl; infer_instance; rfl; omega) | (apply (a_or 24); rfl; rfl; infer_instance; rfl; omega) | (apply (a_or 32); rfl; rfl; infer_instance; rfl; omega) | (apply pv_or; rfl; rfl) ) | (apply g_conv; first | (apply a_conv; rfl; infer_instance; infer_instance; infer_instance; omega) ) )) | apply wo_nil | apply wc_seq | apply wc_region | (apply wc_true; rfl) | (apply wo_run; rfl; rfl) | (apply wo_skip; rfl; rfl; rfl; rfl) | (apply wo_skip_u; rfl; rfl; rfl) | (apply a_gt; rfl; rfl; (· first | assumption | omega)) ))
        rw [hor]
        (repeat (first | ((first | (apply wo_v; rfl) ); (· first | (apply pv_ev; rfl) )) | (apply wo_bsl; (· (repeat (first | apply Rws'.nil | (apply Rws'.one; rfl; rfl; rfl) ))); rfl; rfl; rfl; rfl; intro bx) ))
        (refine wo_call (w16 c2 _ p2 ao2 hw2) rfl (by (repeat (first | apply sub_nil | (apply sub_cons; (· (repeat (first | apply sel_here | apply sel_there)))))); done) (by first | exact fun _ h => h | (intro r hr; cases hr; done) | (simp; done) | exact fun _ h => List.mem_append_left _ h | (intro r hr; simp [hr]; done)) rfl ?_; rintro v L' R' ⟨p3, ao3, c3, rfl, rfl, rfl, hw3⟩ H' hH RR hR; simp only [List.cons_append, List.nil_append] at hH hR; subst hH; have hR := hR.symm; subst hR)
        (repeat (first | apply wo_nil ))
        exact cut_end ⟨p3, ao3, c3, rfl, hw3⟩ (wk_mk (by (repeat (first | apply wkf_nil | (apply wkf_cons; rfl))); done) (by (repeat (first | apply sub_nil )); done) (by first | exact fun _ h => h | (intro r hr; cases hr; done) | (simp; done) | exact fun _ h => List.mem_append_left _ h | (intro r hr; simp [hr]; done)))
      | false =>
        have h127 : pic ≤ 127 := by
          rcases Int.lt_or_le 127 pic with h | h
          · exact absurd ⟨h, rfl⟩ f2
          · exact h
        rw [if_pos hp, if_neg (by simp)]
        (repeat (first | ((first | (apply wo_v; rfl) ); (· first | (apply pv_ev; rfl) | (apply pv_fld; rfl) | (apply g_load; first | (apply pv_ld; rfl; (· (repeat (first | apply sel_here | apply sel_there))); rfl) ) | (apply g_pick; first | (apply pv_pick_t; rfl; rfl) ) | (apply g_bin; first | (apply pv_and; rfl; rfl) ) | (apply g_conv; first | (apply a_conv; rfl; infer_instance; infer_instance; infer_instance; omega) ) )) | apply wo_nil | apply wc_seq | apply wc_region | (apply wc_true; rfl) | (apply wc_false; rfl) | (apply a_dec_t; rfl; (· first | assumption | omega)) | (apply wo_run; rfl; rfl) | (apply wo_skip; rfl; rfl; rfl; rfl) | (apply wo_skip_u; rfl; rfl; rfl) | (apply a_gt; rfl; rfl; (· first | assumption | omega)) ))
        rw [e127]
        (repeat (first | ((first | (apply wo_v; rfl) ); (· first | (apply pv_ev; rfl) )) | (apply wo_bsl; (· (repeat (first | apply Rws'.nil | (apply Rws'.one; rfl; rfl; rfl) ))); rfl; rfl; rfl; rfl; intro bx) ))
        rw [brows_one (by omega)]
        (refine wo_call (wb c2 _ p2 ao2 hw2 (pic % 128)) rfl (by (repeat (first | apply sub_nil | (apply sub_cons; (· (repeat (first | apply sel_here | apply sel_there)))))); done) (by first | exact fun _ h => h | (intro r hr; cases hr; done) | (simp; done) | exact fun _ h => List.mem_append_left _ h | (intro r hr; simp [hr]; done)) rfl ?_; rintro v L' R' ⟨p3, ao3, c3, rfl, rfl, rfl, hw3⟩ H' hH RR hR; simp only [List.cons_append, List.nil_append] at hH hR; subst hH; have hR := hR.symm; subst hR)
        (repeat (first | apply wo_nil ))
        exact cut_end ⟨p3, ao3, c3, rfl, hw3⟩ (wk_mk (by (repeat (first | apply wkf_nil | (apply wkf_cons; rfl))); done) (by (repeat (first | apply sub_nil )); done) (by first | exact fun _ h => h | (intro r hr; cases hr; done) | (simp; done) | exact fun _ h => List.mem_append_left _ h | (intro r hr; simp [hr]; done)))
    · rw [if_neg hp, append_E0]
      (repeat (first | ((first | (apply wo_v; rfl) ); (· first | (apply pv_ev; rfl) | (apply pv_fld; rfl) | (apply g_load; first | (apply pv_ld; rfl; (· (repeat (first | apply sel_here | apply sel_there))); rfl) ) | (apply g_pick; first | (apply pv_pick_t; rfl; rfl) | (apply pv_pick_f; rfl; rfl)) )) | apply wo_nil | apply wc_seq | apply wc_region | apply wc_skip | (apply wc_true; rfl) | (apply wc_false; rfl) | (apply a_dec_t; rfl; (· first | assumption | omega)) | (apply a_dec_f; rfl; (· first | assumption | omega)) | (apply wo_run; rfl; rfl) | (apply wo_skip; rfl; rfl; rfl; rfl) | (apply wo_skip_u; rfl; rfl; rfl) | (apply a_gt; rfl; rfl; (· first | assumption | omega)) | (apply a_gf; rfl; rfl; (· first | assumption | omega)) ))
      exact cut_end ⟨p2, ao2, c2, rfl, hw2⟩ (wk_mk (by (repeat (first | apply wkf_nil | (apply wkf_cons; rfl))); done) (by (repeat (first | apply sub_nil )); done) (by first | exact fun _ h => h | (intro r hr; cases hr; done) | (simp; done) | exact fun _ h => List.mem_append_left _ h | (intro r hr; simp [hr]; done)))
  rintro st' ⟨p3, ao3, c3, rfl, hw3⟩
  have z3 : (t2 ++ tPic ⟨nr, st, pt, pic, wd, lv, ly, sy, ky⟩).size ≤ 4 := by
    rw [ByteArray.size_append, tPic_size, z2]; split
    · split <;> omega
    · omega
  generalize t2 ++ tPic ⟨nr, st, pt, pic, wd, lv, ly, sy, ky⟩ = t3 at hw3 z3 ⊢
  clear wb hw2 e127
  have wb := fun c2 bl p2 ao2 hw2 x => wU8 g c2 bl 1 p2 ao2 t3 (b1 x) hw2 (by rw [b1_size]; omega) (by rw [b1_size]; omega)
  simp only [b1_size] at wb
  (repeat (first | ((first | (apply wo_v; rfl) ); (· first | (apply pv_ev; rfl) | (apply pv_fld; rfl) | (apply g_load; first | (apply pv_ld; rfl; (· (repeat (first | apply sel_here | apply sel_there))); rfl) ) )) | apply wo_nil | apply wc_seq | apply wc_region | (apply wc_true; rfl) | (apply wc_false; rfl) | (apply a_dec_t; rfl; (· first | assumption | omega)) | (apply a_dec_f; rfl; (· first | assumption | omega)) | (apply a_dec_t; rfl; (· first | (simp; done) | (simp; omega))) | (apply a_dec_f; rfl; (· first | (simp; done) | (simp; omega))) ))
  refine wc_join0 (fun st' => ∃ (p ao : Option Addr) (c : Nat), st' = ⟨[(1, .pointer (some ⟨bx, 0, none⟩)), (3, .pointer (some ⟨g, 0, none⟩))], wrH g p ao c (t3 ++ tLv ⟨nr, st, pt, pic, wd, lv, ly, sy, ky⟩) ++ [dO bx nr st pt pic wd lv ly sy ky], []⟩ ∧ WOk g p ao c (t3 ++ tLv ⟨nr, st, pt, pic, wd, lv, ly, sy, ky⟩)) ?_ ?_
  · unfold tLv
    simp only
    by_cases hp : 0 ≤ lv
    · rw [if_pos hp]
      (repeat (first | ((first | (apply wo_v; rfl) ); (· first | (apply pv_ev; rfl) | (apply pv_fld; rfl) | (apply g_load; first | (apply pv_ld; rfl; (· (repeat (first | apply sel_here | apply sel_there))); rfl) ) | (apply g_conv; first | (apply a_conv; rfl; infer_instance; infer_instance; infer_instance; omega) ) )) | apply wc_region | (apply wc_true; rfl) | (apply wc_false; rfl) | (apply a_dec_t; rfl; (· first | assumption | omega)) | (apply wo_bsl; (· (repeat (first | apply Rws'.nil | (apply Rws'.one; rfl; rfl; rfl) ))); rfl; rfl; rfl; rfl; intro bx) ))
      rw [brows_one (by omega)]
      (refine wo_call (wb c3 _ p3 ao3 hw3 lv) rfl (by (repeat (first | apply sub_nil | (apply sub_cons; (· (repeat (first | apply sel_here | apply sel_there)))))); done) (by first | exact fun _ h => h | (intro r hr; cases hr; done) | (simp; done) | exact fun _ h => List.mem_append_left _ h | (intro r hr; simp [hr]; done)) rfl ?_; rintro v L' R' ⟨p4, ao4, c4, rfl, rfl, rfl, hw4⟩ H' hH RR hR; simp only [List.cons_append, List.nil_append] at hH hR; subst hH; have hR := hR.symm; subst hR)
      (repeat (first | apply wo_nil ))
      exact cut_end ⟨p4, ao4, c4, rfl, hw4⟩ (wk_mk (by (repeat (first | apply wkf_nil | (apply wkf_cons; rfl))); done) (by (repeat (first | apply sub_nil )); done) (by first | exact fun _ h => h | (intro r hr; cases hr; done) | (simp; done) | exact fun _ h => List.mem_append_left _ h | (intro r hr; simp [hr]; done)))
    · rw [if_neg hp, append_E0]
      (repeat (first | apply wc_skip | (apply wc_true; rfl) | (apply wc_false; rfl) | (apply a_dec_t; rfl; (· first | assumption | omega)) | (apply a_dec_f; rfl; (· first | assumption | omega)) ))
      exact cut_end ⟨p3, ao3, c3, rfl, hw3⟩ (wk_mk (by (repeat (first | apply wkf_nil | (apply wkf_cons; rfl))); done) (by (repeat (first | apply sub_nil )); done) (by first | exact fun _ h => h | (intro r hr; cases hr; done) | (simp; done) | exact fun _ h => List.mem_append_left _ h | (intro r hr; simp [hr]; done)))
  rintro st' ⟨p4, ao4, c4, rfl, hw4⟩
  have z4 : (t3 ++ tLv ⟨nr, st, pt, pic, wd, lv, ly, sy, ky⟩).size ≤ 5 := by
    have : (tLv ⟨nr, st, pt, pic, wd, lv, ly, sy, ky⟩).size ≤ 1 := by
      unfold tLv; split
      · exact Nat.le_refl _
      · exact Nat.zero_le _
    rw [ByteArray.size_append]; omega
  generalize t3 ++ tLv ⟨nr, st, pt, pic, wd, lv, ly, sy, ky⟩ = t4 at hw4 z4 ⊢
  clear wb hw3
  unfold tLast
  simp only
  obtain ⟨x9, hx9⟩ : ∃ x, bt sy 32 = x := ⟨_, rfl⟩
  have o9 := bt_or sy 32
  rw [hx9] at o9 ⊢
  obtain ⟨y5, hy5⟩ : ∃ y5, max ly 0 * 64 + x9 + max ky 0 = y5 := ⟨_, rfl⟩
  have hyb : 0 ≤ y5 ∧ y5 ≤ 255 := by omega
  have w5 := fun bl => wU8 g c4 bl 1 p4 ao4 t4 (b1 y5) hw4 (by rw [b1_size]; omega) (by rw [b1_size]; omega)
  rw [hy5]
  have hcase : 0 ≤ ly ∨ (¬ 0 ≤ ly ∧ 0 ≤ ky) ∨ (¬ 0 ≤ ly ∧ ¬ 0 ≤ ky) := by omega
  rcases hcase with hp | ⟨hp, hp2⟩ | ⟨hp, hp2⟩
  · rw [if_pos (by omega)]
    (repeat (first | ((first | (apply wo_v; rfl) ); (· first | (apply pv_ev; rfl) | (apply pv_fld; rfl) | (apply g_load; first | (apply pv_ld; rfl; (· (repeat (first | apply sel_here | apply sel_there))); rfl) ) | (apply g_pick; first | (apply pv_pick_t; rfl; rfl) ) )) | apply wo_nil | apply wc_seq | apply wc_region | (apply wc_true; rfl) | (apply wo_run; rfl; rfl) | (apply wo_skip; rfl; rfl; rfl; rfl) | (apply wo_skip_u; rfl; rfl; rfl) | (apply a_gt; rfl; rfl; (· first | assumption | omega)) ))
    (refine wc_regM [0, 1, 2] (aslL [(7, [2]), (14, [1]), (15, [0, 1])]) (tblT g (t4 ++ b1 y5) y5 14 15 [(7, .int .u8 x9)]) ([dO bx nr st pt pic wd lv ly sy ky]) (fm [(0, wrH g p4 ao4 c4 t4), (1, []), (2, [])]) mixed (by kernel_rfl) (by kernel_rfl) (by decide) (aslL_ok (by decide)) (by (repeat (first | (apply prm_cons; (· (repeat (first | apply sel_here | apply sel_there)))) | apply List.Perm.nil )); done) ?_; (repeat (first | (apply HdM.val; rfl; rfl; (· first | apply gok_none ); (· first | (apply pv_ev; rfl) | (apply pv_fld; rfl) | (apply g_load; first | (apply pv_ld; rfl; (· (repeat (first | apply sel_here ))); rfl) ) | (apply g_bin; first | (apply a_shl; rfl; rfl; rfl; omega; rfl; infer_instance; omega) ) | (apply g_bi; first | (apply pv_max; rfl; rfl)) | (apply g_conv; first | (apply a_conv; rfl; infer_instance; infer_instance; infer_instance; omega) ) )) )))
    (refine hm_eff (cs := [2]) rfl (by decide) rfl rfl (by first | exact gok_none | exact gok_run rfl rfl) (fun a ha => outc_mono (outc_call (F1 := _) (T := fun v M => v = .int .u8 x9 ∧ M = []) (vBit sy 32 x9 hx9) rfl (by (repeat (first | apply sub_nil )); done) (by first | exact fun _ h => h | (intro r hr; cases hr; done) | (simp; done) | exact fun _ h => List.mem_append_left _ h | (intro r hr; simp [hr]; done)) (by rintro v L' R' ⟨rfl, rfl, _⟩; exact ⟨_, ⟨rfl, rfl⟩, (by (repeat (first | (apply prm_cons; (· (repeat (first | apply sel_here )))) | apply List.Perm.nil )); done)⟩) a ha) (fun v M h => ⟨[[]], And.intro h.1 rfl, rfl, h.2⟩)) ⟨_, _, And.intro rfl rfl, rfl⟩ ?_; rintro v Ms ⟨rfl, rfl⟩ _; simp only [setls, setl, reduceIte, Nat.reduceEqDiff]; (repeat (first | (apply HdM.val; rfl; rfl; (· first | apply gok_none ); (· first | (apply pv_ev; rfl) | (apply pv_fld; rfl) | (apply g_load; first | (apply pv_ld; rfl; (· (repeat (first | apply sel_here ))); rfl) ) | (apply g_bin; first | (apply (a_or 4); rfl; rfl; infer_instance; rfl; omega) | (apply (a_or 5); rfl; rfl; infer_instance; rfl; omega) | (apply (a_or 6); rfl; rfl; infer_instance; rfl; omega) ) | (apply g_bi; first | (apply pv_max; rfl; rfl)) | (apply g_conv; first | (apply a_conv; rfl; infer_instance; infer_instance; infer_instance; omega) ) )) )))
    (refine hm_eff (cs := [1]) rfl (by decide) rfl rfl (by first | exact gok_none | exact gok_run rfl rfl) (fun a ha => outc_mono (outc_bsl (by (repeat (first | apply Rws'.nil | (apply Rws'.one; rfl; rfl; rfl) )); done) rfl rfl rfl a ha) (fun v M h => by obtain ⟨b, h1, h2⟩ := imp_b1 hy5 hyb h; exact ⟨[M], Exists.intro b (And.intro h1 (congrArg (fun x => [x]) h2)), rfl, by simp⟩)) (⟨_, _, Exists.intro 0 (And.intro rfl rfl), rfl⟩) ?_; rintro v Ms ⟨b14, rfl, rfl⟩ _; simp only [setls, setl, reduceIte, Nat.reduceEqDiff]; (repeat (first | (apply HdM.val; rfl; rfl; (· first | fail ); (· first | fail )) )))
    (refine hm_eff (cs := [0, 1]) rfl (by decide) rfl rfl (by first | exact gok_none | exact gok_run rfl rfl) (fun a ha => outc_mono (outc_call (F1 := _) (T := fun v M => ∃ (p ao : Option Addr) (c : Nat), v = .pointer (some ⟨g, 0, none⟩) ∧ M = wrH g p ao c (t4 ++ b1 y5) ∧ WOk g p ao c (t4 ++ b1 y5)) (w5 b14) rfl (by (repeat (first | apply sub_nil )); done) (by first | exact fun _ h => h | (intro r hr; cases hr; done) | (simp; done) | exact fun _ h => List.mem_append_left _ h | (intro r hr; simp [hr]; done)) (by rintro v L' R' ⟨p', ao', c', rfl, rfl, _, hw'⟩; exact ⟨_, ⟨p', ao', c', rfl, rfl, hw'⟩, (by (repeat (first | (apply prm_cons; (· (repeat (first | apply sel_here )))) | apply List.Perm.nil )); done)⟩) a ha) (fun v M h => Exists.elim h fun p h => Exists.elim h fun ao h => Exists.elim h fun c h => ⟨[M, []], Exists.intro p (Exists.intro ao (Exists.intro c (And.intro h.1 (And.intro (congrArg (fun x => [x, []]) h.2.1) h.2.2)))), rfl, by simp⟩)) ((by obtain ⟨p, ao, c, h⟩ := WOk.ex g (t4 ++ b1 y5); exact ⟨_, _, Exists.intro p (Exists.intro ao (Exists.intro c (And.intro rfl (And.intro rfl h)))), rfl⟩)) ?_; rintro v Ms ⟨p5, ao5, c5, rfl, rfl, hw5⟩ _; simp only [setls, setl, reduceIte, Nat.reduceEqDiff]; (repeat (first | fail )))
    (refine HdM.nil ?_; intro H hH; simp only [Hp, fm, look, setl, List.flatMap_cons, List.flatMap_nil, reduceIte, Nat.reduceEqDiff, Option.getD_some, List.append_nil, List.cons_append, List.nil_append] at hH; subst hH)
    (repeat (first | ((first | (apply wo_v; rfl) ); (· first | (apply pv_ev; rfl) )) | apply wc_seq | apply wc_region ))
    (refine wo_call (wText g c5 p5 ao5 _ hw5) rfl (by (repeat (first | apply sub_nil | (apply sub_cons; (· (repeat (first | apply sel_here | apply sel_there)))))); done) (by first | exact fun _ h => h | (intro r hr; cases hr; done) | (simp; done) | exact fun _ h => List.mem_append_left _ h | (intro r hr; simp [hr]; done)) rfl ?_; rintro v L' R' ⟨rfl, rfl, rfl⟩ H' hH RR hR; simp only [List.cons_append, List.nil_append] at hH hR; subst hH; have hR := hR.symm; subst hR)
    (repeat (first | ((first | (apply wo_v; rfl) ); (· first | (apply pv_ev; rfl) )) | apply wo_nil | apply wc_ret ))
    exact ret1 rfl rfl ⟨rfl, rfl, rfl⟩ ((by (repeat (first | apply sub_nil )); done) : List.Perm _ ([] ++ _)) (by first | exact fun _ h => h | (intro r hr; cases hr; done) | (simp; done) | exact fun _ h => List.mem_append_left _ h | (intro r hr; simp [hr]; done))
  · rw [if_pos (by omega)]
    (repeat (first | ((first | (apply wo_v; rfl) ); (· first | (apply pv_ev; rfl) | (apply pv_fld; rfl) | (apply g_load; first | (apply pv_ld; rfl; (· (repeat (first | apply sel_here | apply sel_there))); rfl) ) | (apply g_pick; first | (apply pv_pick_t; rfl; rfl) | (apply pv_pick_f; rfl; rfl)) )) | apply wo_nil | apply wc_seq | apply wc_region | (apply wc_true; rfl) | (apply wc_false; rfl) | (apply a_dec_t; rfl; (· first | assumption | omega)) | (apply wo_run; rfl; rfl) | (apply wo_skip; rfl; rfl; rfl; rfl) | (apply wo_skip_u; rfl; rfl; rfl) | (apply a_gt; rfl; rfl; (· first | assumption | omega)) | (apply a_gf; rfl; rfl; (· first | assumption | omega)) ))
    (refine wc_regM [0, 1, 2] (aslL [(7, [2]), (14, [1]), (15, [0, 1])]) (tblT g (t4 ++ b1 y5) y5 14 15 [(7, .int .u8 x9)]) ([dO bx nr st pt pic wd lv ly sy ky]) (fm [(0, wrH g p4 ao4 c4 t4), (1, []), (2, [])]) mixed (by kernel_rfl) (by kernel_rfl) (by decide) (aslL_ok (by decide)) (by (repeat (first | (apply prm_cons; (· (repeat (first | apply sel_here | apply sel_there)))) | apply List.Perm.nil )); done) ?_; (repeat (first | (apply HdM.val; rfl; rfl; (· first | apply gok_none ); (· first | (apply pv_ev; rfl) | (apply pv_fld; rfl) | (apply g_load; first | (apply pv_ld; rfl; (· (repeat (first | apply sel_here ))); rfl) ) | (apply g_bin; first | (apply a_shl; rfl; rfl; rfl; omega; rfl; infer_instance; omega) ) | (apply g_bi; first | (apply pv_max; rfl; rfl)) | (apply g_conv; first | (apply a_conv; rfl; infer_instance; infer_instance; infer_instance; omega) ) )) )))
    (refine hm_eff (cs := [2]) rfl (by decide) rfl rfl (by first | exact gok_none | exact gok_run rfl rfl) (fun a ha => outc_mono (outc_call (F1 := _) (T := fun v M => v = .int .u8 x9 ∧ M = []) (vBit sy 32 x9 hx9) rfl (by (repeat (first | apply sub_nil )); done) (by first | exact fun _ h => h | (intro r hr; cases hr; done) | (simp; done) | exact fun _ h => List.mem_append_left _ h | (intro r hr; simp [hr]; done)) (by rintro v L' R' ⟨rfl, rfl, _⟩; exact ⟨_, ⟨rfl, rfl⟩, (by (repeat (first | (apply prm_cons; (· (repeat (first | apply sel_here )))) | apply List.Perm.nil )); done)⟩) a ha) (fun v M h => ⟨[[]], And.intro h.1 rfl, rfl, h.2⟩)) ⟨_, _, And.intro rfl rfl, rfl⟩ ?_; rintro v Ms ⟨rfl, rfl⟩ _; simp only [setls, setl, reduceIte, Nat.reduceEqDiff]; (repeat (first | (apply HdM.val; rfl; rfl; (· first | apply gok_none ); (· first | (apply pv_ev; rfl) | (apply pv_fld; rfl) | (apply g_load; first | (apply pv_ld; rfl; (· (repeat (first | apply sel_here ))); rfl) ) | (apply g_bin; first | (apply (a_or 4); rfl; rfl; infer_instance; rfl; omega) | (apply (a_or 5); rfl; rfl; infer_instance; rfl; omega) | (apply (a_or 6); rfl; rfl; infer_instance; rfl; omega) ) | (apply g_bi; first | (apply pv_max; rfl; rfl)) | (apply g_conv; first | (apply a_conv; rfl; infer_instance; infer_instance; infer_instance; omega) ) )) )))
    (refine hm_eff (cs := [1]) rfl (by decide) rfl rfl (by first | exact gok_none | exact gok_run rfl rfl) (fun a ha => outc_mono (outc_bsl (by (repeat (first | apply Rws'.nil | (apply Rws'.one; rfl; rfl; rfl) )); done) rfl rfl rfl a ha) (fun v M h => by obtain ⟨b, h1, h2⟩ := imp_b1 hy5 hyb h; exact ⟨[M], Exists.intro b (And.intro h1 (congrArg (fun x => [x]) h2)), rfl, by simp⟩)) (⟨_, _, Exists.intro 0 (And.intro rfl rfl), rfl⟩) ?_; rintro v Ms ⟨b14, rfl, rfl⟩ _; simp only [setls, setl, reduceIte, Nat.reduceEqDiff]; (repeat (first | (apply HdM.val; rfl; rfl; (· first | fail ); (· first | fail )) )))
    (refine hm_eff (cs := [0, 1]) rfl (by decide) rfl rfl (by first | exact gok_none | exact gok_run rfl rfl) (fun a ha => outc_mono (outc_call (F1 := _) (T := fun v M => ∃ (p ao : Option Addr) (c : Nat), v = .pointer (some ⟨g, 0, none⟩) ∧ M = wrH g p ao c (t4 ++ b1 y5) ∧ WOk g p ao c (t4 ++ b1 y5)) (w5 b14) rfl (by (repeat (first | apply sub_nil )); done) (by first | exact fun _ h => h | (intro r hr; cases hr; done) | (simp; done) | exact fun _ h => List.mem_append_left _ h | (intro r hr; simp [hr]; done)) (by rintro v L' R' ⟨p', ao', c', rfl, rfl, _, hw'⟩; exact ⟨_, ⟨p', ao', c', rfl, rfl, hw'⟩, (by (repeat (first | (apply prm_cons; (· (repeat (first | apply sel_here )))) | apply List.Perm.nil )); done)⟩) a ha) (fun v M h => Exists.elim h fun p h => Exists.elim h fun ao h => Exists.elim h fun c h => ⟨[M, []], Exists.intro p (Exists.intro ao (Exists.intro c (And.intro h.1 (And.intro (congrArg (fun x => [x, []]) h.2.1) h.2.2)))), rfl, by simp⟩)) ((by obtain ⟨p, ao, c, h⟩ := WOk.ex g (t4 ++ b1 y5); exact ⟨_, _, Exists.intro p (Exists.intro ao (Exists.intro c (And.intro rfl (And.intro rfl h)))), rfl⟩)) ?_; rintro v Ms ⟨p5, ao5, c5, rfl, rfl, hw5⟩ _; simp only [setls, setl, reduceIte, Nat.reduceEqDiff]; (repeat (first | fail )))
    (refine HdM.nil ?_; intro H hH; simp only [Hp, fm, look, setl, List.flatMap_cons, List.flatMap_nil, reduceIte, Nat.reduceEqDiff, Option.getD_some, List.append_nil, List.cons_append, List.nil_append] at hH; subst hH)
    (repeat (first | ((first | (apply wo_v; rfl) ); (· first | (apply pv_ev; rfl) )) | apply wc_seq | apply wc_region ))
    (refine wo_call (wText g c5 p5 ao5 _ hw5) rfl (by (repeat (first | apply sub_nil | (apply sub_cons; (· (repeat (first | apply sel_here | apply sel_there)))))); done) (by first | exact fun _ h => h | (intro r hr; cases hr; done) | (simp; done) | exact fun _ h => List.mem_append_left _ h | (intro r hr; simp [hr]; done)) rfl ?_; rintro v L' R' ⟨rfl, rfl, rfl⟩ H' hH RR hR; simp only [List.cons_append, List.nil_append] at hH hR; subst hH; have hR := hR.symm; subst hR)
    (repeat (first | ((first | (apply wo_v; rfl) ); (· first | (apply pv_ev; rfl) )) | apply wo_nil | apply wc_ret ))
    exact ret1 rfl rfl ⟨rfl, rfl, rfl⟩ ((by (repeat (first | apply sub_nil )); done) : List.Perm _ ([] ++ _)) (by first | exact fun _ h => h | (intro r hr; cases hr; done) | (simp; done) | exact fun _ h => List.mem_append_left _ h | (intro r hr; simp [hr]; done))
  · rw [if_neg (by omega), append_E0]
    (repeat (first | ((first | (apply wo_v; rfl) ); (· first | (apply pv_ev; rfl) | (apply pv_fld; rfl) | (apply g_load; first | (apply pv_ld; rfl; (· (repeat (first | apply sel_here | apply sel_there))); rfl) ) | (apply g_pick; first | (apply pv_pick_t; rfl; rfl) | (apply pv_pick_f; rfl; rfl)) )) | apply wo_nil | apply wc_seq | apply wc_region | apply wc_skip | (apply wc_true; rfl) | (apply wc_false; rfl) | (apply a_dec_t; rfl; (· first | assumption | omega)) | (apply a_dec_f; rfl; (· first | assumption | omega)) | (apply wo_run; rfl; rfl) | (apply wo_skip; rfl; rfl; rfl; rfl) | (apply wo_skip_u; rfl; rfl; rfl) | (apply a_gt; rfl; rfl; (· first | assumption | omega)) | (apply a_gf; rfl; rfl; (· first | assumption | omega)) ))
    (refine wo_call (wText g c4 p4 ao4 _ hw4) rfl (by (repeat (first | apply sub_nil )); done) (by first | exact fun _ h => h | (intro r hr; cases hr; done) | (simp; done) | exact fun _ h => List.mem_append_left _ h | (intro r hr; simp [hr]; done)) rfl ?_; rintro v L' R' ⟨rfl, rfl, rfl⟩ H' hH RR hR; simp only [List.cons_append, List.nil_append] at hH hR; subst hH; have hR := hR.symm; subst hR)
    (repeat (first | ((first | (apply wo_v; rfl) ); (· first | (apply pv_ev; rfl) )) | apply wo_nil | apply wc_ret ))
    exact ret1 rfl rfl ⟨rfl, rfl, rfl⟩ ((by (repeat (first | apply sub_nil )); done) : List.Perm _ ([] ++ _)) (by first | exact fun _ h => h | (intro r hr; cases hr; done) | (simp; done) | exact fun _ h => List.mem_append_left _ h | (intro r hr; simp [hr]; done))
end Go.Proofs.Ytlhlidmhlhodiaa

/-
  Layer 4: Check, With, Keyframe; awake.
-/
namespace Go.Proofs.Ytlhlidmhlhodiaa
set_option linter.unusedSimpArgs false
set_option linter.unusedVariables false
set_option linter.unusedSimpArgs false
set_option linter.unusedVariables false
open Go.RowKit
attribute [local irreducible] Pv WO WC Fn
set_option maxRecDepth 100000

def keyB (st : Bool) (pt : Int) (s : ByteArray) : Bool := st && decide (pt = 0) && decide (s ≠ E0) && decide (bits .and .u8 (sb s 0) 1 = 0)
theorem aw_prs : prs ⟨#[144, 128, 5, 114, 101, 115, 116]⟩ = (⟨false, true, 0, 5, false, -1, -1, false, -1⟩, ⟨#[114, 101, 115, 116]⟩, 0) := by decide
theorem aw_txt : txt ⟨false, true, 0, 5, false, -1, -1, false, -1⟩ = ⟨#[144, 128, 5]⟩ := by decide
theorem aw_k1 : keyB true 0 ⟨#[16]⟩ = true := by decide
theorem aw_k2 : keyB true 0 ⟨#[17]⟩ = false := by decide
attribute [local irreducible] ByteArray.extract
set_option maxHeartbeats 16000000 in
theorem vKey (nr st : Bool) (pt pic : Int) (wd : Bool) (lv ly : Int) (sy : Bool) (ky : Int) (s : ByteArray) (b : Bool) (hb : keyB st pt s = b) :
    Fn Try.prog 158 #[.agg (dL nr st pt pic wd lv ly sy ky).toArray, .string s] [] [] (fun v L' R' => v = .bool b ∧ L' = [] ∧ R' = []) := by
  subst hb
  unfold keyB
  cases st with
  | false =>
    refine fn_intro Try.func158 rfl Try.ntmps158 rfl (fun E => ?_)
    (repeat (first | ((first | (apply wo_v; rfl) ); (· first | (apply pv_ev; rfl) | (apply pv_fld; rfl) | (apply g_load; first | (apply pv_ld; rfl; (· (repeat (first | apply sel_here ))); rfl) ) | (apply g_pick; first | (apply pv_pick_t; rfl; rfl) | (apply pv_pick_f; rfl; rfl)) )) | apply wo_nil | apply wc_seq | apply wc_region | apply wc_ret | (apply wo_run; rfl; rfl) | (apply wo_skip; rfl; rfl; rfl; rfl) | (apply wo_box1; rfl; rfl; rfl; intro bx) | (apply wo_boxa; rfl; rfl; intro bx) ))
    exact ret1 rfl rfl ⟨rfl, rfl, rfl⟩ ((by (repeat (first | apply sub_nil )); done) : List.Perm _ ([] ++ _)) (by first | exact fun _ h => h | (intro r hr; cases hr; done) | (simp; done) | exact fun _ h => List.mem_append_left _ h | (intro r hr; simp [hr]; done))
  | true =>
    by_cases hp : pt = 0
    · by_cases he : s = E0
      · refine fn_intro Try.func158 rfl Try.ntmps158 rfl (fun E => ?_)
        (repeat (first | ((first | (apply wo_v; rfl) ); (· first | (apply pv_ev; rfl) | (apply pv_fld; rfl) | (apply g_load; first | (apply pv_ld; rfl; (· (repeat (first | apply sel_here ))); rfl) ) | (apply g_pick; first | (apply pv_pick_t; rfl; rfl) | (apply pv_pick_f; rfl; rfl)) | (apply g_bin; first | (apply pv_neq_s; rfl; rfl) ) )) | apply wo_nil | apply wc_seq | apply wc_region | apply wc_ret | (apply wo_run; rfl; rfl) | (apply wo_skip; rfl; rfl; rfl; rfl) | (apply wo_skip_u; rfl; rfl; rfl) | (apply a_gt; rfl; rfl; (· first | assumption | omega)) | (apply a_gf; rfl; rfl; (· first | assumption | omega)) | (apply a_gt; rfl; rfl; (· first | (simp; done) | (simp; omega))) | (apply a_gf; rfl; rfl; (· first | (simp; done) | (simp; omega))) | (apply wo_box1; rfl; rfl; rfl; intro bx) | (apply wo_boxa; rfl; rfl; intro bx) ))
        exact ret1 rfl rfl ⟨by simp [he], rfl, rfl⟩ ((by (repeat (first | apply sub_nil )); done) : List.Perm _ ([] ++ _)) (by first | exact fun _ h => h | (intro r hr; cases hr; done) | (simp; done) | exact fun _ h => List.mem_append_left _ h | (intro r hr; simp [hr]; done))
      · have hsz : 0 < s.size := by
          rcases Nat.eq_zero_or_pos s.size with h | h
          · exact absurd (size_zero h) he
          · exact h
        refine fn_intro Try.func158 rfl Try.ntmps158 rfl (fun E => ?_)
        (repeat (first | ((first | (apply wo_v; rfl) ); (· first | (apply pv_ev; rfl) | (apply pv_fld; rfl) | (apply g_load; first | (apply pv_ld; rfl; (· (repeat (first | apply sel_here ))); rfl) ) | (apply g_pick; first | (apply pv_pick_t; rfl; rfl) ) | (apply g_bin; first | (apply pv_and; rfl; rfl) | (apply pv_neq_s; rfl; rfl) ) | (apply pv_index_sn; rfl; rfl; omega) )) | apply wo_nil | apply wc_seq | apply wc_region | apply wc_ret | (apply wo_run; rfl; rfl) | (apply wo_skip; rfl; rfl; rfl; rfl) | (apply wo_skip_u; rfl; rfl; rfl) | (apply a_gt; rfl; rfl; (· first | assumption | omega)) | (apply wo_box1; rfl; rfl; rfl; intro bx) | (apply wo_boxa; rfl; rfl; intro bx) ))
        exact ret1 rfl rfl ⟨by simp [hp, he], rfl, rfl⟩ ((by (repeat (first | apply sub_nil )); done) : List.Perm _ ([] ++ _)) (by first | exact fun _ h => h | (intro r hr; cases hr; done) | (simp; done) | exact fun _ h => List.mem_append_left _ h | (intro r hr; simp [hr]; done))
    · refine fn_intro Try.func158 rfl Try.ntmps158 rfl (fun E => ?_)
      (repeat (first | ((first | (apply wo_v; rfl) ); (· first | (apply pv_ev; rfl) | (apply pv_fld; rfl) | (apply g_load; first | (apply pv_ld; rfl; (· (repeat (first | apply sel_here ))); rfl) ) | (apply g_pick; first | (apply pv_pick_t; rfl; rfl) | (apply pv_pick_f; rfl; rfl)) )) | apply wo_nil | apply wc_seq | apply wc_region | apply wc_ret | (apply wo_run; rfl; rfl) | (apply wo_skip; rfl; rfl; rfl; rfl) | (apply wo_skip_u; rfl; rfl; rfl) | (apply a_gt; rfl; rfl; (· first | assumption | omega)) | (apply a_gf; rfl; rfl; (· first | assumption | omega)) | (apply wo_box1; rfl; rfl; rfl; intro bx) | (apply wo_boxa; rfl; rfl; intro bx) ))
      exact ret1 rfl rfl ⟨by simp [hp], rfl, rfl⟩ ((by (repeat (first | apply sub_nil )); done) : List.Perm _ ([] ++ _)) (by first | exact fun _ h => h | (intro r hr; cases hr; done) | (simp; done) | exact fun _ h => List.mem_append_left _ h | (intro r hr; simp [hr]; done))
theorem and_32767 (x : Int) : bits .and .i64 x 32767 = x % 32768 := and_ones x 15 (by omega)
theorem and_255v (x : Int) : bits .and .i64 x 255 = x % 256 := and_ones x 8 (by omega)
theorem vWith (nr st : Bool) (pt pic : Int) (wd : Bool) (lv ly : Int) (sy : Bool) (ky : Int) (p l : Int) :
    Fn Try.prog 18 #[.agg (dL nr st pt pic wd lv ly sy ky).toArray, .int .i64 p, .int .i64 l] [] []
      (fun v L' R' => v = .agg (dL nr st pt (if 0 ≤ pic then p % 32768 else pic) (if 0 ≤ pic then true else wd) (if 0 ≤ lv then l % 256 else lv) ly sy ky).toArray ∧ L' = [] ∧ R' = []) := by
  have e1 := and_32767 p
  have e2 := and_255v l
  by_cases h1 : 0 ≤ pic <;> by_cases h2 : 0 ≤ lv
  · rw [if_pos h1, if_pos h1, if_pos h2, ← e1, ← e2]
    refine fn_intro Try.func18 rfl Try.ntmps18 rfl (fun E => ?_)
    (repeat (first | ((first | (apply wo_v; rfl) ); (· first | (apply pv_ev; rfl) | (apply pv_fld; rfl) | (apply g_load; first | (apply pv_ld; rfl; (· (repeat (first | apply sel_here | apply sel_there))); rfl) | (apply pv_lda; rfl; (· (repeat (first | apply sel_here ))); (· (repeat (first | apply Cut.here0 | apply Cut.here )))) ) | (apply g_bin; first | (apply pv_and; rfl; rfl) ) )) | apply wo_nil | apply wc_seq | apply wc_region | apply wc_ret | (apply wc_true; rfl) | (apply wc_false; rfl) | (apply a_dec_t; rfl; (· first | assumption | omega)) | (apply wo_st; rfl; rfl; rfl; (· (repeat (first | apply sel_here | apply sel_there))); (· (repeat (first | apply SetAt.here | apply SetAt.there))); rfl) | (apply wo_box1; rfl; rfl; rfl; intro bx) | (apply wo_boxa; rfl; rfl; intro bx) | (apply wo_alloc; rfl; intro bx) | (apply wo_sta; rfl; rfl; rfl; rfl; (· (repeat (first | apply sel_here | apply sel_there))); (· (repeat (first | apply LayAt.nil | apply LayAt.here ))); rfl) ))
    exact retv rfl (by (repeat (first | apply RV.nil | (apply RV.agg; rfl; (· (repeat (first | apply sel_here ))); infer_instance; (· (repeat (first | apply Cut.here0 | apply Cut.here )))) )); done) (⟨rfl, rfl, rfl⟩) (by (repeat (first | apply sub_nil )); done) (by first | exact fun _ h => h | (intro r hr; cases hr; done) | (simp; done) | exact fun _ h => List.mem_append_left _ h | (intro r hr; simp [hr]; done))
  · rw [if_pos h1, if_pos h1, if_neg h2, ← e1]
    refine fn_intro Try.func18 rfl Try.ntmps18 rfl (fun E => ?_)
    (repeat (first | ((first | (apply wo_v; rfl) ); (· first | (apply pv_ev; rfl) | (apply pv_fld; rfl) | (apply g_load; first | (apply pv_ld; rfl; (· (repeat (first | apply sel_here | apply sel_there))); rfl) | (apply pv_lda; rfl; (· (repeat (first | apply sel_here ))); (· (repeat (first | apply Cut.here0 | apply Cut.here )))) ) | (apply g_bin; first | (apply pv_and; rfl; rfl) ) )) | apply wo_nil | apply wc_seq | apply wc_region | apply wc_skip | apply wc_ret | (apply wc_true; rfl) | (apply wc_false; rfl) | (apply a_dec_t; rfl; (· first | assumption | omega)) | (apply a_dec_f; rfl; (· first | assumption | omega)) | (apply wo_st; rfl; rfl; rfl; (· (repeat (first | apply sel_here | apply sel_there))); (· (repeat (first | apply SetAt.here | apply SetAt.there))); rfl) | (apply wo_box1; rfl; rfl; rfl; intro bx) | (apply wo_boxa; rfl; rfl; intro bx) | (apply wo_alloc; rfl; intro bx) | (apply wo_sta; rfl; rfl; rfl; rfl; (· (repeat (first | apply sel_here | apply sel_there))); (· (repeat (first | apply LayAt.nil | apply LayAt.here ))); rfl) ))
    exact retv rfl (by (repeat (first | apply RV.nil | (apply RV.agg; rfl; (· (repeat (first | apply sel_here ))); infer_instance; (· (repeat (first | apply Cut.here0 | apply Cut.here )))) )); done) (⟨rfl, rfl, rfl⟩) (by (repeat (first | apply sub_nil )); done) (by first | exact fun _ h => h | (intro r hr; cases hr; done) | (simp; done) | exact fun _ h => List.mem_append_left _ h | (intro r hr; simp [hr]; done))
  · rw [if_neg h1, if_neg h1, if_pos h2, ← e2]
    refine fn_intro Try.func18 rfl Try.ntmps18 rfl (fun E => ?_)
    (repeat (first | ((first | (apply wo_v; rfl) ); (· first | (apply pv_ev; rfl) | (apply pv_fld; rfl) | (apply g_load; first | (apply pv_ld; rfl; (· (repeat (first | apply sel_here | apply sel_there))); rfl) | (apply pv_lda; rfl; (· (repeat (first | apply sel_here ))); (· (repeat (first | apply Cut.here0 | apply Cut.here )))) ) | (apply g_bin; first | (apply pv_and; rfl; rfl) ) )) | apply wo_nil | apply wc_seq | apply wc_region | apply wc_skip | apply wc_ret | (apply wc_true; rfl) | (apply wc_false; rfl) | (apply a_dec_t; rfl; (· first | assumption | omega)) | (apply a_dec_f; rfl; (· first | assumption | omega)) | (apply wo_st; rfl; rfl; rfl; (· (repeat (first | apply sel_here | apply sel_there))); (· (repeat (first | apply SetAt.here | apply SetAt.there))); rfl) | (apply wo_box1; rfl; rfl; rfl; intro bx) | (apply wo_boxa; rfl; rfl; intro bx) | (apply wo_alloc; rfl; intro bx) | (apply wo_sta; rfl; rfl; rfl; rfl; (· (repeat (first | apply sel_here | apply sel_there))); (· (repeat (first | apply LayAt.nil | apply LayAt.here ))); rfl) ))
    exact retv rfl (by (repeat (first | apply RV.nil | (apply RV.agg; rfl; (· (repeat (first | apply sel_here ))); infer_instance; (· (repeat (first | apply Cut.here0 | apply Cut.here )))) )); done) (⟨rfl, rfl, rfl⟩) (by (repeat (first | apply sub_nil )); done) (by first | exact fun _ h => h | (intro r hr; cases hr; done) | (simp; done) | exact fun _ h => List.mem_append_left _ h | (intro r hr; simp [hr]; done))
  · rw [if_neg h1, if_neg h1, if_neg h2]
    refine fn_intro Try.func18 rfl Try.ntmps18 rfl (fun E => ?_)
    (repeat (first | ((first | (apply wo_v; rfl) ); (· first | (apply pv_ev; rfl) | (apply pv_fld; rfl) | (apply g_load; first | (apply pv_ld; rfl; (· (repeat (first | apply sel_here | apply sel_there))); rfl) | (apply pv_lda; rfl; (· (repeat (first | apply sel_here | apply sel_there))); (· (repeat (first | apply Cut.here0 | apply Cut.here )))) ) )) | apply wo_nil | apply wc_seq | apply wc_region | apply wc_skip | apply wc_ret | (apply wc_true; rfl) | (apply wc_false; rfl) | (apply a_dec_t; rfl; (· first | assumption | omega)) | (apply a_dec_f; rfl; (· first | assumption | omega)) | (apply wo_box1; rfl; rfl; rfl; intro bx) | (apply wo_boxa; rfl; rfl; intro bx) | (apply wo_alloc; rfl; intro bx) | (apply wo_sta; rfl; rfl; rfl; rfl; (· (repeat (first | apply sel_here ))); (· (repeat (first | apply LayAt.nil | apply LayAt.here ))); rfl) ))
    exact retv rfl (by (repeat (first | apply RV.nil | (apply RV.agg; rfl; (· (repeat (first | apply sel_here ))); infer_instance; (· (repeat (first | apply Cut.here0 | apply Cut.here )))) )); done) (⟨rfl, rfl, rfl⟩) (by (repeat (first | apply sub_nil )); done) (by first | exact fun _ h => h | (intro r hr; cases hr; done) | (simp; done) | exact fun _ h => List.mem_append_left _ h | (intro r hr; simp [hr]; done))
set_option maxHeartbeats 64000000 in
theorem vCheck (nr st : Bool) (pt pic : Int) (wd : Bool) (lv ly : Int) (sy : Bool) (ky : Int) (r : Int) (hr : chk ⟨nr, st, pt, pic, wd, lv, ly, sy, ky⟩ = r) :
    Fn Try.prog 13 #[.agg (dL nr st pt pic wd lv ly sy ky).toArray] [] [] (fun v L' R' => v = .int .i64 r ∧ L' = [] ∧ R' = []) := by
  have i3 := vIn pic 32767
  have i4 := vIn lv 255
  have i5 := vIn ly 3
  have i6 := vIn ky 31
  by_cases b1 : pt < 0
  · obtain rfl : 5 = r := by rw [← hr]; unfold chk okA; rw [if_pos (by simp only; omega)]
    refine fn_intro Try.func13 rfl Try.ntmps13 rfl (fun E => ?_)
    (repeat (first | ((first | (apply wo_v; rfl) ); (· first | (apply pv_ev; rfl) | (apply pv_fld; rfl) | (apply g_load; first | (apply pv_ld; rfl; (· (repeat (first | apply sel_here ))); rfl) ) | (apply g_pick; first | (apply pv_pick_t; rfl; rfl) ) )) | apply wo_nil | apply wc_seq | apply wc_region | apply wc_block | apply wc_ret | (apply wc_true; rfl) | (apply wo_run; rfl; rfl) | (apply wo_skip; rfl; rfl; rfl; rfl) | (apply wo_skip_u; rfl; rfl; rfl) | (apply a_gt; rfl; rfl; (· first | assumption | omega)) | (apply wo_box1; rfl; rfl; rfl; intro bx) | (apply wo_boxa; rfl; rfl; intro bx) ))
    exact ret1 rfl rfl ⟨rfl, rfl, rfl⟩ ((by (repeat (first | apply sub_nil )); done) : List.Perm _ ([] ++ _)) (by first | exact fun _ h => h | (intro r hr; cases hr; done) | (simp; done) | exact fun _ h => List.mem_append_left _ h | (intro r hr; simp [hr]; done))
  by_cases b2 : 7 < pt
  · obtain rfl : 5 = r := by rw [← hr]; unfold chk okA; rw [if_pos (by simp only; omega)]
    refine fn_intro Try.func13 rfl Try.ntmps13 rfl (fun E => ?_)
    (repeat (first | ((first | (apply wo_v; rfl) ); (· first | (apply pv_ev; rfl) | (apply pv_fld; rfl) | (apply g_load; first | (apply pv_ld; rfl; (· (repeat (first | apply sel_here ))); rfl) ) | (apply g_pick; first | (apply pv_pick_t; rfl; rfl) | (apply pv_pick_f; rfl; rfl)) )) | apply wo_nil | apply wc_seq | apply wc_region | apply wc_block | apply wc_ret | (apply wc_true; rfl) | (apply wo_run; rfl; rfl) | (apply wo_skip; rfl; rfl; rfl; rfl) | (apply wo_skip_u; rfl; rfl; rfl) | (apply a_gt; rfl; rfl; (· first | assumption | omega)) | (apply a_gf; rfl; rfl; (· first | assumption | omega)) | (apply wo_box1; rfl; rfl; rfl; intro bx) | (apply wo_boxa; rfl; rfl; intro bx) ))
    exact ret1 rfl rfl ⟨rfl, rfl, rfl⟩ ((by (repeat (first | apply sub_nil )); done) : List.Perm _ ([] ++ _)) (by first | exact fun _ h => h | (intro r hr; cases hr; done) | (simp; done) | exact fun _ h => List.mem_append_left _ h | (intro r hr; simp [hr]; done))
  by_cases b3 : -1 ≤ pic ∧ pic ≤ 32767
  case neg =>
    obtain rfl : 5 = r := by rw [← hr]; unfold chk okA; rw [if_pos (by simp only; omega)]
    rw [decide_eq_false b3] at i3
    refine fn_intro Try.func13 rfl Try.ntmps13 rfl (fun E => ?_)
    (repeat (first | ((first | (apply wo_v; rfl) ); (· first | (apply pv_ev; rfl) | (apply pv_fld; rfl) | (apply g_load; first | (apply pv_ld; rfl; (· (repeat (first | apply sel_here ))); rfl) ) | (apply g_pick; first | (apply pv_pick_t; rfl; rfl) | (apply pv_pick_f; rfl; rfl)) )) | apply wo_nil | apply wc_seq | apply wc_region | apply wc_block | (apply wo_run; rfl; rfl) | (apply wo_skip; rfl; rfl; rfl; rfl) | (apply wo_skip_u; rfl; rfl; rfl) | (apply a_gt; rfl; rfl; (· first | assumption | omega)) | (apply a_gf; rfl; rfl; (· first | assumption | omega)) | (apply wo_box1; rfl; rfl; rfl; intro bx) | (apply wo_boxa; rfl; rfl; intro bx) ))
    (refine wo_call (i3) rfl (by (repeat (first | apply sub_nil )); done) (by first | exact fun _ h => h | (intro r hr; cases hr; done) | (simp; done) | exact fun _ h => List.mem_append_left _ h | (intro r hr; simp [hr]; done)) rfl ?_; rintro v L' R' ⟨rfl, rfl, rfl⟩ H' hH RR hR; simp only [List.cons_append, List.nil_append] at hH hR; subst hH; have hR := hR.symm; subst hR)
    (repeat (first | ((first | (apply wo_v; rfl) ); (· first | (apply pv_ev; rfl) | (apply g_pick; first | (apply pv_pick_t; rfl; rfl) | (apply pv_pick_f; rfl; rfl)) | (apply g_un; first | (apply pv_not_t; rfl) | (apply pv_not_f; rfl) ) )) | apply wo_nil | apply wc_seq | apply wc_region | apply wc_ret | (apply wc_true; rfl) | (apply wo_run; rfl; rfl) | (apply wo_skip; rfl; rfl; rfl; rfl) ))
    exact ret1 rfl rfl ⟨rfl, rfl, rfl⟩ ((by (repeat (first | apply sub_nil )); done) : List.Perm _ ([] ++ _)) (by first | exact fun _ h => h | (intro r hr; cases hr; done) | (simp; done) | exact fun _ h => List.mem_append_left _ h | (intro r hr; simp [hr]; done))
  rw [decide_eq_true b3] at i3
  by_cases b4 : -1 ≤ lv ∧ lv ≤ 255
  case neg =>
    obtain rfl : 5 = r := by rw [← hr]; unfold chk okA; rw [if_pos (by simp only; omega)]
    rw [decide_eq_false b4] at i4
    refine fn_intro Try.func13 rfl Try.ntmps13 rfl (fun E => ?_)
    (repeat (first | ((first | (apply wo_v; rfl) ); (· first | (apply pv_ev; rfl) | (apply pv_fld; rfl) | (apply g_load; first | (apply pv_ld; rfl; (· (repeat (first | apply sel_here ))); rfl) ) | (apply g_pick; first | (apply pv_pick_t; rfl; rfl) | (apply pv_pick_f; rfl; rfl)) )) | apply wo_nil | apply wc_seq | apply wc_region | apply wc_block | (apply wo_run; rfl; rfl) | (apply wo_skip; rfl; rfl; rfl; rfl) | (apply wo_skip_u; rfl; rfl; rfl) | (apply a_gt; rfl; rfl; (· first | assumption | omega)) | (apply a_gf; rfl; rfl; (· first | assumption | omega)) | (apply wo_box1; rfl; rfl; rfl; intro bx) | (apply wo_boxa; rfl; rfl; intro bx) ))
    (refine wo_call (i3) rfl (by (repeat (first | apply sub_nil )); done) (by first | exact fun _ h => h | (intro r hr; cases hr; done) | (simp; done) | exact fun _ h => List.mem_append_left _ h | (intro r hr; simp [hr]; done)) rfl ?_; rintro v L' R' ⟨rfl, rfl, rfl⟩ H' hH RR hR; simp only [List.cons_append, List.nil_append] at hH hR; subst hH; have hR := hR.symm; subst hR)
    (repeat (first | ((first | (apply wo_v; rfl) ); (· first | (apply pv_ev; rfl) | (apply pv_fld; rfl) | (apply g_load; first | (apply pv_ld; rfl; (· (repeat (first | apply sel_here ))); rfl) ) | (apply g_pick; first | (apply pv_pick_t; rfl; rfl) | (apply pv_pick_f; rfl; rfl)) | (apply g_un; first | (apply pv_not_t; rfl) ) )) | (apply wo_run; rfl; rfl) ))
    (refine wo_call (i4) rfl (by (repeat (first | apply sub_nil )); done) (by first | exact fun _ h => h | (intro r hr; cases hr; done) | (simp; done) | exact fun _ h => List.mem_append_left _ h | (intro r hr; simp [hr]; done)) rfl ?_; rintro v L' R' ⟨rfl, rfl, rfl⟩ H' hH RR hR; simp only [List.cons_append, List.nil_append] at hH hR; subst hH; have hR := hR.symm; subst hR)
    (repeat (first | ((first | (apply wo_v; rfl) ); (· first | (apply pv_ev; rfl) | (apply g_pick; first | (apply pv_pick_t; rfl; rfl) | (apply pv_pick_f; rfl; rfl)) | (apply g_un; first | (apply pv_not_t; rfl) | (apply pv_not_f; rfl) ) )) | apply wo_nil | apply wc_seq | apply wc_region | apply wc_ret | (apply wc_true; rfl) | (apply wo_run; rfl; rfl) | (apply wo_skip; rfl; rfl; rfl; rfl) ))
    exact ret1 rfl rfl ⟨rfl, rfl, rfl⟩ ((by (repeat (first | apply sub_nil )); done) : List.Perm _ ([] ++ _)) (by first | exact fun _ h => h | (intro r hr; cases hr; done) | (simp; done) | exact fun _ h => List.mem_append_left _ h | (intro r hr; simp [hr]; done))
  rw [decide_eq_true b4] at i4
  by_cases b5 : -1 ≤ ly ∧ ly ≤ 3
  case neg =>
    obtain rfl : 5 = r := by rw [← hr]; unfold chk okA; rw [if_pos (by simp only; omega)]
    rw [decide_eq_false b5] at i5
    refine fn_intro Try.func13 rfl Try.ntmps13 rfl (fun E => ?_)
    (repeat (first | ((first | (apply wo_v; rfl) ); (· first | (apply pv_ev; rfl) | (apply pv_fld; rfl) | (apply g_load; first | (apply pv_ld; rfl; (· (repeat (first | apply sel_here ))); rfl) ) | (apply g_pick; first | (apply pv_pick_t; rfl; rfl) | (apply pv_pick_f; rfl; rfl)) )) | apply wo_nil | apply wc_seq | apply wc_region | apply wc_block | (apply wo_run; rfl; rfl) | (apply wo_skip; rfl; rfl; rfl; rfl) | (apply wo_skip_u; rfl; rfl; rfl) | (apply a_gt; rfl; rfl; (· first | assumption | omega)) | (apply a_gf; rfl; rfl; (· first | assumption | omega)) | (apply wo_box1; rfl; rfl; rfl; intro bx) | (apply wo_boxa; rfl; rfl; intro bx) ))
    (refine wo_call (i3) rfl (by (repeat (first | apply sub_nil )); done) (by first | exact fun _ h => h | (intro r hr; cases hr; done) | (simp; done) | exact fun _ h => List.mem_append_left _ h | (intro r hr; simp [hr]; done)) rfl ?_; rintro v L' R' ⟨rfl, rfl, rfl⟩ H' hH RR hR; simp only [List.cons_append, List.nil_append] at hH hR; subst hH; have hR := hR.symm; subst hR)
    (repeat (first | ((first | (apply wo_v; rfl) ); (· first | (apply pv_ev; rfl) | (apply pv_fld; rfl) | (apply g_load; first | (apply pv_ld; rfl; (· (repeat (first | apply sel_here ))); rfl) ) | (apply g_pick; first | (apply pv_pick_t; rfl; rfl) | (apply pv_pick_f; rfl; rfl)) | (apply g_un; first | (apply pv_not_t; rfl) ) )) | (apply wo_run; rfl; rfl) ))
    (refine wo_call (i4) rfl (by (repeat (first | apply sub_nil )); done) (by first | exact fun _ h => h | (intro r hr; cases hr; done) | (simp; done) | exact fun _ h => List.mem_append_left _ h | (intro r hr; simp [hr]; done)) rfl ?_; rintro v L' R' ⟨rfl, rfl, rfl⟩ H' hH RR hR; simp only [List.cons_append, List.nil_append] at hH hR; subst hH; have hR := hR.symm; subst hR)
    (repeat (first | ((first | (apply wo_v; rfl) ); (· first | (apply pv_ev; rfl) | (apply pv_fld; rfl) | (apply g_load; first | (apply pv_ld; rfl; (· (repeat (first | apply sel_here ))); rfl) ) | (apply g_pick; first | (apply pv_pick_t; rfl; rfl) | (apply pv_pick_f; rfl; rfl)) | (apply g_un; first | (apply pv_not_t; rfl) ) )) | (apply wo_run; rfl; rfl) ))
    (refine wo_call (i5) rfl (by (repeat (first | apply sub_nil )); done) (by first | exact fun _ h => h | (intro r hr; cases hr; done) | (simp; done) | exact fun _ h => List.mem_append_left _ h | (intro r hr; simp [hr]; done)) rfl ?_; rintro v L' R' ⟨rfl, rfl, rfl⟩ H' hH RR hR; simp only [List.cons_append, List.nil_append] at hH hR; subst hH; have hR := hR.symm; subst hR)
    (repeat (first | ((first | (apply wo_v; rfl) ); (· first | (apply pv_ev; rfl) | (apply g_pick; first | (apply pv_pick_t; rfl; rfl) | (apply pv_pick_f; rfl; rfl)) | (apply g_un; first | (apply pv_not_t; rfl) | (apply pv_not_f; rfl) ) )) | apply wo_nil | apply wc_seq | apply wc_region | apply wc_ret | (apply wc_true; rfl) | (apply wo_run; rfl; rfl) | (apply wo_skip; rfl; rfl; rfl; rfl) ))
    exact ret1 rfl rfl ⟨rfl, rfl, rfl⟩ ((by (repeat (first | apply sub_nil )); done) : List.Perm _ ([] ++ _)) (by first | exact fun _ h => h | (intro r hr; cases hr; done) | (simp; done) | exact fun _ h => List.mem_append_left _ h | (intro r hr; simp [hr]; done))
  rw [decide_eq_true b5] at i5
  by_cases b6 : -1 ≤ ky ∧ ky ≤ 31
  case neg =>
    obtain rfl : 5 = r := by rw [← hr]; unfold chk okA; rw [if_pos (by simp only; omega)]
    rw [decide_eq_false b6] at i6
    refine fn_intro Try.func13 rfl Try.ntmps13 rfl (fun E => ?_)
    (repeat (first | ((first | (apply wo_v; rfl) ); (· first | (apply pv_ev; rfl) | (apply pv_fld; rfl) | (apply g_load; first | (apply pv_ld; rfl; (· (repeat (first | apply sel_here ))); rfl) ) | (apply g_pick; first | (apply pv_pick_t; rfl; rfl) | (apply pv_pick_f; rfl; rfl)) )) | apply wo_nil | apply wc_seq | apply wc_region | apply wc_block | (apply wo_run; rfl; rfl) | (apply wo_skip; rfl; rfl; rfl; rfl) | (apply wo_skip_u; rfl; rfl; rfl) | (apply a_gt; rfl; rfl; (· first | assumption | omega)) | (apply a_gf; rfl; rfl; (· first | assumption | omega)) | (apply wo_box1; rfl; rfl; rfl; intro bx) | (apply wo_boxa; rfl; rfl; intro bx) ))
    (refine wo_call (i3) rfl (by (repeat (first | apply sub_nil )); done) (by first | exact fun _ h => h | (intro r hr; cases hr; done) | (simp; done) | exact fun _ h => List.mem_append_left _ h | (intro r hr; simp [hr]; done)) rfl ?_; rintro v L' R' ⟨rfl, rfl, rfl⟩ H' hH RR hR; simp only [List.cons_append, List.nil_append] at hH hR; subst hH; have hR := hR.symm; subst hR)
    (repeat (first | ((first | (apply wo_v; rfl) ); (· first | (apply pv_ev; rfl) | (apply pv_fld; rfl) | (apply g_load; first | (apply pv_ld; rfl; (· (repeat (first | apply sel_here ))); rfl) ) | (apply g_pick; first | (apply pv_pick_t; rfl; rfl) | (apply pv_pick_f; rfl; rfl)) | (apply g_un; first | (apply pv_not_t; rfl) ) )) | (apply wo_run; rfl; rfl) ))
    (refine wo_call (i4) rfl (by (repeat (first | apply sub_nil )); done) (by first | exact fun _ h => h | (intro r hr; cases hr; done) | (simp; done) | exact fun _ h => List.mem_append_left _ h | (intro r hr; simp [hr]; done)) rfl ?_; rintro v L' R' ⟨rfl, rfl, rfl⟩ H' hH RR hR; simp only [List.cons_append, List.nil_append] at hH hR; subst hH; have hR := hR.symm; subst hR)
    (repeat (first | ((first | (apply wo_v; rfl) ); (· first | (apply pv_ev; rfl) | (apply pv_fld; rfl) | (apply g_load; first | (apply pv_ld; rfl; (· (repeat (first | apply sel_here ))); rfl) ) | (apply g_pick; first | (apply pv_pick_t; rfl; rfl) | (apply pv_pick_f; rfl; rfl)) | (apply g_un; first | (apply pv_not_t; rfl) ) )) | (apply wo_run; rfl; rfl) ))
    (refine wo_call (i5) rfl (by (repeat (first | apply sub_nil )); done) (by first | exact fun _ h => h | (intro r hr; cases hr; done) | (simp; done) | exact fun _ h => List.mem_append_left _ h | (intro r hr; simp [hr]; done)) rfl ?_; rintro v L' R' ⟨rfl, rfl, rfl⟩ H' hH RR hR; simp only [List.cons_append, List.nil_append] at hH hR; subst hH; have hR := hR.symm; subst hR)
    (repeat (first | ((first | (apply wo_v; rfl) ); (· first | (apply pv_ev; rfl) | (apply pv_fld; rfl) | (apply g_load; first | (apply pv_ld; rfl; (· (repeat (first | apply sel_here ))); rfl) ) | (apply g_pick; first | (apply pv_pick_t; rfl; rfl) | (apply pv_pick_f; rfl; rfl)) | (apply g_un; first | (apply pv_not_t; rfl) ) )) | (apply wo_run; rfl; rfl) ))
    (refine wo_call (i6) rfl (by (repeat (first | apply sub_nil )); done) (by first | exact fun _ h => h | (intro r hr; cases hr; done) | (simp; done) | exact fun _ h => List.mem_append_left _ h | (intro r hr; simp [hr]; done)) rfl ?_; rintro v L' R' ⟨rfl, rfl, rfl⟩ H' hH RR hR; simp only [List.cons_append, List.nil_append] at hH hR; subst hH; have hR := hR.symm; subst hR)
    (repeat (first | ((first | (apply wo_v; rfl) ); (· first | (apply pv_ev; rfl) | (apply g_pick; first | (apply pv_pick_t; rfl; rfl) | (apply pv_pick_f; rfl; rfl)) | (apply g_un; first | (apply pv_not_t; rfl) | (apply pv_not_f; rfl) ) )) | apply wo_nil | apply wc_seq | apply wc_region | apply wc_ret | (apply wc_true; rfl) | (apply wo_run; rfl; rfl) ))
    exact ret1 rfl rfl ⟨rfl, rfl, rfl⟩ ((by (repeat (first | apply sub_nil )); done) : List.Perm _ ([] ++ _)) (by first | exact fun _ h => h | (intro r hr; cases hr; done) | (simp; done) | exact fun _ h => List.mem_append_left _ h | (intro r hr; simp [hr]; done))
  rw [decide_eq_true b6] at i6
  by_cases c1 : pic < 0 <;> by_cases c2 : 127 < pic <;> by_cases c3 : ly < 0 <;> cases wd <;> cases sy
  all_goals first | (exfalso; omega) | skip
  all_goals
    unfold chk at hr
    rw [if_neg (by unfold okA; simp only; omega)] at hr
    simp [okF, c1, c2, c3] at hr
    subst hr
    refine fn_intro Try.func13 rfl Try.ntmps13 rfl (fun E => ?_)
    (repeat (first | ((first | (apply wo_v; rfl) ); (· first | (apply pv_ev; rfl) | (apply pv_fld; rfl) | (apply g_load; first | (apply pv_ld; rfl; (· (repeat (first | apply sel_here ))); rfl) ) | (apply g_pick; first | (apply pv_pick_t; rfl; rfl) | (apply pv_pick_f; rfl; rfl)) )) | apply wo_nil | apply wc_seq | apply wc_region | apply wc_block | (apply wo_run; rfl; rfl) | (apply wo_skip; rfl; rfl; rfl; rfl) | (apply wo_skip_u; rfl; rfl; rfl) | (apply a_gt; rfl; rfl; (· first | assumption | omega)) | (apply a_gf; rfl; rfl; (· first | assumption | omega)) | (apply wo_box1; rfl; rfl; rfl; intro bx) | (apply wo_boxa; rfl; rfl; intro bx) ))
    (refine wo_call (i3) rfl (by (repeat (first | apply sub_nil )); done) (by first | exact fun _ h => h | (intro r hr; cases hr; done) | (simp; done) | exact fun _ h => List.mem_append_left _ h | (intro r hr; simp [hr]; done)) rfl ?_; rintro v L' R' ⟨rfl, rfl, rfl⟩ H' hH RR hR; simp only [List.cons_append, List.nil_append] at hH hR; subst hH; have hR := hR.symm; subst hR)
    (repeat (first | ((first | (apply wo_v; rfl) ); (· first | (apply pv_ev; rfl) | (apply pv_fld; rfl) | (apply g_load; first | (apply pv_ld; rfl; (· (repeat (first | apply sel_here ))); rfl) ) | (apply g_pick; first | (apply pv_pick_t; rfl; rfl) | (apply pv_pick_f; rfl; rfl)) | (apply g_un; first | (apply pv_not_t; rfl) ) )) | (apply wo_run; rfl; rfl) ))
    (refine wo_call (i4) rfl (by (repeat (first | apply sub_nil )); done) (by first | exact fun _ h => h | (intro r hr; cases hr; done) | (simp; done) | exact fun _ h => List.mem_append_left _ h | (intro r hr; simp [hr]; done)) rfl ?_; rintro v L' R' ⟨rfl, rfl, rfl⟩ H' hH RR hR; simp only [List.cons_append, List.nil_append] at hH hR; subst hH; have hR := hR.symm; subst hR)
    (repeat (first | ((first | (apply wo_v; rfl) ); (· first | (apply pv_ev; rfl) | (apply pv_fld; rfl) | (apply g_load; first | (apply pv_ld; rfl; (· (repeat (first | apply sel_here ))); rfl) ) | (apply g_pick; first | (apply pv_pick_t; rfl; rfl) | (apply pv_pick_f; rfl; rfl)) | (apply g_un; first | (apply pv_not_t; rfl) ) )) | (apply wo_run; rfl; rfl) ))
    (refine wo_call (i5) rfl (by (repeat (first | apply sub_nil )); done) (by first | exact fun _ h => h | (intro r hr; cases hr; done) | (simp; done) | exact fun _ h => List.mem_append_left _ h | (intro r hr; simp [hr]; done)) rfl ?_; rintro v L' R' ⟨rfl, rfl, rfl⟩ H' hH RR hR; simp only [List.cons_append, List.nil_append] at hH hR; subst hH; have hR := hR.symm; subst hR)
    (repeat (first | ((first | (apply wo_v; rfl) ); (· first | (apply pv_ev; rfl) | (apply pv_fld; rfl) | (apply g_load; first | (apply pv_ld; rfl; (· (repeat (first | apply sel_here ))); rfl) ) | (apply g_pick; first | (apply pv_pick_t; rfl; rfl) | (apply pv_pick_f; rfl; rfl)) | (apply g_un; first | (apply pv_not_t; rfl) ) )) | (apply wo_run; rfl; rfl) ))
    (refine wo_call (i6) rfl (by (repeat (first | apply sub_nil )); done) (by first | exact fun _ h => h | (intro r hr; cases hr; done) | (simp; done) | exact fun _ h => List.mem_append_left _ h | (intro r hr; simp [hr]; done)) rfl ?_; rintro v L' R' ⟨rfl, rfl, rfl⟩ H' hH RR hR; simp only [List.cons_append, List.nil_append] at hH hR; subst hH; have hR := hR.symm; subst hR)
    (repeat (first | ((first | (apply wo_v; rfl) ); (· first | (apply pv_ev; rfl) | (apply pv_fld; rfl) | (apply g_load; first | (apply pv_ld; rfl; (· (repeat (first | apply sel_here ))); rfl) ) | (apply g_pick; first | (apply pv_pick_t; rfl; rfl) | (apply pv_pick_f; rfl; rfl)) | (apply g_un; first | (apply pv_not_t; rfl) | (apply pv_not_f; rfl) ) )) | apply wo_nil | apply wc_seq | apply wc_region | apply wc_skip | apply wc_ret | (apply wc_true; rfl) | (apply wc_false; rfl) | (apply wo_run; rfl; rfl) | (apply wo_skip; rfl; rfl; rfl; rfl) | (apply wo_skip_u; rfl; rfl; rfl) | (apply a_gt; rfl; rfl; (· first | assumption | omega)) | (apply a_gf; rfl; rfl; (· first | assumption | omega)) ))
    exact ret1 rfl rfl ⟨rfl, rfl, rfl⟩ ((by (repeat (first | apply sub_nil )); done) : List.Perm _ ([] ++ _)) (by first | exact fun _ h => h | (intro r hr; cases hr; done) | (simp; done) | exact fun _ h => List.mem_append_left _ h | (intro r hr; simp [hr]; done))
theorem eqD (d : Dc) : EqRow (dv d) (dv d) := eqRow_refl [.b, .b, .i .i64, .i .i64, .b, .i .i64, .i .i64, .b, .i .i64] _ rfl
end Go.Proofs.Ytlhlidmhlhodiaa

/-
  Packets of rtcp as values.
-/
namespace Go.Proofs.Ytlhlidmhlhodiaa
set_option linter.unusedSimpArgs false
set_option linter.unusedVariables false
open Go.RowKit

structure Bk where
  ss : Int
  lo : Int
  tt : Int
  la : Int
  ji : Int
  ls : Int
  dl : Int
def Bk.ok (b : Bk) : Prop := (0 ≤ b.ss ∧ b.ss ≤ 4294967295) ∧ (0 ≤ b.lo ∧ b.lo ≤ 255) ∧ (0 ≤ b.tt ∧ b.tt ≤ 4294967295) ∧ (0 ≤ b.la ∧ b.la ≤ 4294967295) ∧ (0 ≤ b.ji ∧ b.ji ≤ 4294967295) ∧ (0 ≤ b.ls ∧ b.ls ≤ 4294967295) ∧ (0 ≤ b.dl ∧ b.dl ≤ 4294967295)
def c16 (l : List Int) : List (List Value) := l.map fun z => [.int .u16 z]
def c32 (l : List Int) : List (List Value) := l.map fun z => [.int .u32 z]
def pairV (l : List (Int × Int)) : List (List Value) := l.map fun x => [.int .u16 x.1, .int .u16 x.2]
def ordV (l : List (Int × Int)) : List (List Value) := l.map fun x => [.int .u32 x.1, .int .u8 x.2]
def itmV (l : List (Int × ByteArray)) : List (List Value) := l.map fun x => [.int .u8 x.1, .string x.2]
def blkV (l : List Bk) : List (List Value) := l.map fun b => [.int .u32 b.ss, .int .u8 b.lo, .int .u32 b.tt, .int .u32 b.la, .int .u32 b.ji, .int .u32 b.ls, .int .u32 b.dl]
theorem c16_at {l : List Int} {i : Nat} {z : Int} (h : l[i]? = some z) : (c16 l)[i]? = some [.int .u16 z] := by simp [c16, h]
theorem c32_at {l : List Int} {i : Nat} {z : Int} (h : l[i]? = some z) : (c32 l)[i]? = some [.int .u32 z] := by simp [c32, h]
theorem pairV_at {l : List (Int × Int)} {i : Nat} {x : Int × Int} (h : l[i]? = some x) : (pairV l)[i]? = some [.int .u16 x.1, .int .u16 x.2] := by simp [pairV, h]
theorem ordV_at {l : List (Int × Int)} {i : Nat} {x : Int × Int} (h : l[i]? = some x) : (ordV l)[i]? = some [.int .u32 x.1, .int .u8 x.2] := by simp [ordV, h]
theorem itmV_at {l : List (Int × ByteArray)} {i : Nat} {x : Int × ByteArray} (h : l[i]? = some x) : (itmV l)[i]? = some [.int .u8 x.1, .string x.2] := by simp [itmV, h]
theorem blkV_at {l : List Bk} {i : Nat} {b : Bk} (h : l[i]? = some b) : (blkV l)[i]? = some [.int .u32 b.ss, .int .u8 b.lo, .int .u32 b.tt, .int .u32 b.la, .int .u32 b.ji, .int .u32 b.ls, .int .u32 b.dl] := by simp [blkV, h]
theorem c16_app (a b : List Int) : c16 (a ++ b) = c16 a ++ c16 b := by simp [c16]
theorem c16_len (a : List Int) : (c16 a).length = a.length := by simp [c16]
theorem c32_len (a : List Int) : (c32 a).length = a.length := by simp [c32]
theorem pairV_len (a : List (Int × Int)) : (pairV a).length = a.length := by simp [pairV]
theorem ordV_len (a : List (Int × Int)) : (ordV a).length = a.length := by simp [ordV]
theorem itmV_len (a : List (Int × ByteArray)) : (itmV a).length = a.length := by simp [itmV]
theorem blkV_len (a : List Bk) : (blkV a).length = a.length := by simp [blkV]
inductive Pkt where
  | sender (ss ntp t pk oc : Int) (bl : List Bk)
  | receiver (ss : Int) (bl : List Bk)
  | sdes (ch : List (Int × List (Int × ByteArray)))
  | bye (ss : List Int) (rs : ByteArray)
  | nack (fm to : Int) (ps : List (Int × Int))
  | pli (fm to : Int)
  | fir (fm : Int) (os : List (Int × Int))
  | remb (fm rt : Int) (ss : List Int)
  | other (kd ct : Int) (bd : ByteArray)
def ChV (R : List Ro) (c : Int × List (Int × ByteArray)) (row : List Value) : Prop := ∃ A n k, row = [.int .u32 c.1, .slice A n k] ∧ SQ R 2 A n k (itmV c.2)
def ChsV (R : List Ro) (l : List (Int × List (Int × ByteArray))) (rows : List (List Value)) : Prop := rows.length = l.length ∧ ∀ (i : Nat) c, l[i]? = some c → ∃ row, rows[i]? = some row ∧ ChV R c row
theorem ChV.mono {R R' : List Ro} (hR : ∀ r ∈ R, r ∈ R') {c : Int × List (Int × ByteArray)} {row : List Value} (h : ChV R c row) : ChV R' c row := by
  obtain ⟨A, n, k, h1, h2⟩ := h; exact ⟨A, n, k, h1, h2.mono hR⟩
theorem ChsV.mono {R R' : List Ro} (hR : ∀ r ∈ R, r ∈ R') {l : List (Int × List (Int × ByteArray))} {rows : List (List Value)} (h : ChsV R l rows) : ChsV R' l rows :=
  ⟨h.1, fun i c hc => by obtain ⟨row, h1, h2⟩ := h.2 i c hc; exact ⟨row, h1, h2.mono hR⟩⟩
/-- a packet's value -/
def PkV (R : List Ro) : Pkt → Value → Prop
  | .sender ss ntp t pk oc bl, v => ∃ A n c, v = .iface 267 (.agg #[.int .u32 ss, .int .u64 ntp, .int .u32 t, .int .u32 pk, .int .u32 oc, .slice A n c]) ∧ SQ R 7 A n c (blkV bl)
  | .receiver ss bl, v => ∃ A n c, v = .iface 269 (.agg #[.int .u32 ss, .slice A n c]) ∧ SQ R 7 A n c (blkV bl)
  | .sdes ch, v => ∃ A n c rows, v = .iface 312 (.agg #[.slice A n c]) ∧ SQ R 2 A n c rows ∧ ChsV R ch rows
  | .bye ss rs, v => ∃ A n c, v = .iface 197 (.agg #[.slice A n c, .string rs]) ∧ SQ R 1 A n c (c32 ss)
  | .nack fm to ps, v => ∃ A n c, v = .iface 75 (.agg #[.int .u32 fm, .int .u32 to, .slice A n c]) ∧ SQ R 2 A n c (pairV ps)
  | .pli fm to, v => v = .iface 77 (.agg #[.int .u32 fm, .int .u32 to])
  | .fir fm os, v => ∃ A n c, v = .iface 190 (.agg #[.int .u32 fm, .slice A n c]) ∧ SQ R 2 A n c (ordV os)
  | .remb fm rt ss, v => ∃ A n c, v = .iface 194 (.agg #[.int .u32 fm, .int .u64 rt, .slice A n c]) ∧ SQ R 1 A n c (c32 ss)
  | .other kd ct bd, v => v = .iface 273 (.agg #[.int .u8 kd, .int .u8 ct, .string bd])
theorem PkV.mono {R R' : List Ro} (hR : ∀ r ∈ R, r ∈ R') : ∀ {p : Pkt} {v : Value}, PkV R p v → PkV R' p v
  | .sender .., _, h => by obtain ⟨A, n, c, h1, h2⟩ := h; exact ⟨A, n, c, h1, h2.mono hR⟩
  | .receiver .., _, h => by obtain ⟨A, n, c, h1, h2⟩ := h; exact ⟨A, n, c, h1, h2.mono hR⟩
  | .sdes .., _, h => by obtain ⟨A, n, c, rows, h1, h2, h3⟩ := h; exact ⟨A, n, c, rows, h1, h2.mono hR, h3.mono hR⟩
  | .bye .., _, h => by obtain ⟨A, n, c, h1, h2⟩ := h; exact ⟨A, n, c, h1, h2.mono hR⟩
  | .nack .., _, h => by obtain ⟨A, n, c, h1, h2⟩ := h; exact ⟨A, n, c, h1, h2.mono hR⟩
  | .pli .., _, h => h
  | .fir .., _, h => by obtain ⟨A, n, c, h1, h2⟩ := h; exact ⟨A, n, c, h1, h2.mono hR⟩
  | .remb .., _, h => by obtain ⟨A, n, c, h1, h2⟩ := h; exact ⟨A, n, c, h1, h2.mono hR⟩
  | .other .., _, h => h
theorem PkV.one {R : List Ro} : ∀ {p : Pkt} {v : Value}, PkV R p v → v.oneCell' = true
  | .sender .., _, h => by obtain ⟨A, n, c, rfl, h2⟩ := h; rfl
  | .receiver .., _, h => by obtain ⟨A, n, c, rfl, h2⟩ := h; rfl
  | .sdes .., _, h => by obtain ⟨A, n, c, rows, rfl, h2, h3⟩ := h; rfl
  | .bye .., _, h => by obtain ⟨A, n, c, rfl, h2⟩ := h; rfl
  | .nack .., _, h => by obtain ⟨A, n, c, rfl, h2⟩ := h; rfl
  | .pli .., _, h => by obtain rfl := h; rfl
  | .fir .., _, h => by obtain ⟨A, n, c, rfl, h2⟩ := h; rfl
  | .remb .., _, h => by obtain ⟨A, n, c, rfl, h2⟩ := h; rfl
  | .other .., _, h => by obtain rfl := h; rfl
/-- a packet's numbers lie in their ranges, its lists are not too long -/
def in8 (x : Int) : Prop := 0 ≤ x ∧ x ≤ 255
def in16 (x : Int) : Prop := 0 ≤ x ∧ x ≤ 65535
def in32 (x : Int) : Prop := 0 ≤ x ∧ x ≤ 4294967295
def in64 (x : Int) : Prop := 0 ≤ x ∧ x ≤ 18446744073709551615
def Pkt.ok (m : Nat) : Pkt → Prop
  | .sender ss ntp t pk oc bl => in32 ss ∧ in64 ntp ∧ in32 t ∧ in32 pk ∧ in32 oc ∧ (∀ b ∈ bl, b.ok) ∧ bl.length ≤ m
  | .receiver ss bl => in32 ss ∧ (∀ b ∈ bl, b.ok) ∧ bl.length ≤ m
  | .sdes ch => (∀ c ∈ ch, in32 c.1 ∧ c.2.length ≤ m ∧ ∀ x ∈ c.2, in8 x.1 ∧ x.2.size ≤ m) ∧ ch.length ≤ m
  | .bye ss rs => (∀ x ∈ ss, in32 x) ∧ ss.length ≤ m ∧ rs.size ≤ m
  | .nack fm to ps => in32 fm ∧ in32 to ∧ (∀ x ∈ ps, in16 x.1 ∧ in16 x.2) ∧ ps.length ≤ m
  | .pli fm to => in32 fm ∧ in32 to
  | .fir fm os => in32 fm ∧ (∀ x ∈ os, in32 x.1 ∧ in8 x.2) ∧ os.length ≤ m
  | .remb fm rt ss => in32 fm ∧ in64 rt ∧ (∀ x ∈ ss, in32 x) ∧ ss.length ≤ m
  | .other kd ct bd => in8 kd ∧ in8 ct ∧ bd.size ≤ m
/-- packets in a slice: interface values -/
def PksV (R : List Ro) (l : List Pkt) (vs : List Value) : Prop := vs.length = l.length ∧ ∀ (i : Nat) p, l[i]? = some p → ∃ v, vs[i]? = some v ∧ PkV R p v
def one1 (vs : List Value) : List (List Value) := vs.map fun v => [v]
theorem one1_at {vs : List Value} {i : Nat} {v : Value} (h : vs[i]? = some v) : (one1 vs)[i]? = some [v] := by simp [one1, h]
theorem one1_len (vs : List Value) : (one1 vs).length = vs.length := by simp [one1]
theorem one1_app (a b : List Value) : one1 (a ++ b) = one1 a ++ one1 b := by simp [one1]
theorem PksV.mono {R R' : List Ro} (hR : ∀ r ∈ R, r ∈ R') {l : List Pkt} {vs : List Value} (h : PksV R l vs) : PksV R' l vs :=
  ⟨h.1, fun i p hp => by obtain ⟨v, h1, h2⟩ := h.2 i p hp; exact ⟨v, h1, h2.mono hR⟩⟩
theorem PksV.nil (R : List Ro) : PksV R [] [] := ⟨rfl, fun i p h => by simp at h⟩
theorem PksV.snoc {R : List Ro} {l : List Pkt} {vs : List Value} {p : Pkt} {v : Value} (h : PksV R l vs) (hp : PkV R p v) : PksV R (l ++ [p]) (vs ++ [v]) := by
  refine ⟨by simp [h.1], fun i q hq => ?_⟩
  by_cases hi : i < l.length
  · rw [List.getElem?_append_left hi] at hq
    obtain ⟨u, h1, h2⟩ := h.2 i q hq
    exact ⟨u, by rw [List.getElem?_append_left (by rw [h.1]; exact hi)]; exact h1, h2⟩
  · rw [List.getElem?_append_right (by omega)] at hq
    have : i - l.length = 0 := by
      rcases Nat.eq_zero_or_pos (i - l.length) with h0 | h0
      · exact h0
      · rw [List.getElem?_eq_none (by simp; omega)] at hq; cases hq
    rw [this] at hq
    simp only [List.getElem?_cons_zero, Option.some.injEq] at hq
    subst hq
    exact ⟨v, by rw [List.getElem?_append_right (by rw [h.1]; omega), h.1, this]; rfl, hp⟩
end Go.Proofs.Ytlhlidmhlhodiaa

/-
  Package rtcp: Text, by what each packet writes; Pli and Nack.
-/
namespace Go.Proofs.Ytlhlidmhlhodiaa
set_option linter.unusedSimpArgs false
set_option linter.unusedVariables false
open Go.RowKit
attribute [local irreducible] Pv WO WC Fn
set_option maxRecDepth 100000
attribute [local irreducible] ByteArray.extract

def HdC (v : Value) (kd ct : Int) : Prop := ∃ T w f, v = .iface T w ∧ TInv Try.prog T "Head" f ∧ HasBody Try.prog f ∧ Fn Try.prog f #[w] [] [] (fun u L' R' => u = .tuple #[.int .u8 kd, .int .u8 ct] ∧ L' = [] ∧ R' = [])
def PtC (R : List Ro) (v : Value) (tx : ByteArray) : Prop := ∀ g, Fn Try.prog 88 #[.pointer (some ⟨g, 0, none⟩), v] (wrH g none none 0 E0) R (fun u L' R' => ∃ p ao c, u = .tuple #[] ∧ L' = wrH g p ao c tx ∧ R' = [] ∧ WOk g p ao c tx)
theorem wo_head {N : Nat} {E : Env} {fr : List (Nat × Value)} {hp : List It} {ro : List Ro} {x : Operand} {v : Value} {kd ct : Int} {Kn : St → Prop} {ops : Array Oper} {rest : List Oper} {dst : Option Tmp} {ty : TypeId} {pos : String} {af : Array Edge} {ats : Array TypeId}
    (hx : opd fr x = some v) (hH : HdC v kd ct) (hd : dstOk dst N = true) (h : WO Try.prog N E ops rest ⟨putF dst (.tuple #[.int .u8 kd, .int .u8 ct]) fr, hp, ro⟩ Kn) :
    WO Try.prog N E ops (⟨dst, .call ⟨.invoke x "Head", #[], ats⟩, ty, pos, af, none⟩ :: rest) ⟨fr, hp, ro⟩ Kn := by
  obtain ⟨T, w, f, rfl, hT, hB, hF⟩ := hH
  haveI := hB
  refine wo_inv (l := []) (vs := []) (F := hp) hx hT hF rfl (.refl _) (fun r hr => by cases hr) hd ?_
  rintro v L' R' ⟨rfl, rfl, rfl⟩ H hH RR hR
  subst hH
  subst hR
  exact h
theorem zb_pad (s : ByteArray) : (s ++ zb (padJ s.size 4)).size % 4 = 0 := by
  rw [ByteArray.size_append, zb_size]; exact padJ_eq _ (by omega)
/-- a text, filled up to words of four bytes -/
def pad4 (s : ByteArray) : ByteArray := s ++ zb (padJ s.size 4)
theorem pad4_size (s : ByteArray) : (pad4 s).size ≤ s.size + 3 := by
  unfold pad4
  rw [ByteArray.size_append, zb_size]
  have := padJ_lt s.size (T := 4) (by omega)
  omega
theorem pad4_mod (s : ByteArray) : (pad4 s).size % 4 = 0 := zb_pad s
theorem pad4_id {s : ByteArray} (h : s.size % 4 = 0) : pad4 s = s := by
  unfold pad4 padJ
  rw [h]
  show s ++ E0 = s
  exact append_E0 s
def hd4 (kd ct : Int) (n : Nat) : ByteArray := b1 (128 + ct % 32) ++ b1 kd ++ numS 2 ((n / 4 : Nat) : Int)
/-- a packet's bytes -/
def one4 (x : Int × Int × ByteArray) : ByteArray := hd4 x.1 x.2.1 (pad4 x.2.2).size ++ pad4 x.2.2
def all4 : List (Int × Int × ByteArray) → ByteArray
  | [] => E0
  | x :: l => one4 x ++ all4 l
theorem all4_app : ∀ a b, all4 (a ++ b) = all4 a ++ all4 b
  | [], b => (E0_append _).symm
  | x :: a, b => by
    show one4 x ++ all4 (a ++ b) = (one4 x ++ all4 a) ++ all4 b
    rw [all4_app a b, ByteArray.append_assoc]
theorem all4_take {l : List (Int × Int × ByteArray)} {j : Nat} {x : Int × Int × ByteArray} (h : l[j]? = some x) : all4 (l.take (j + 1)) = all4 (l.take j) ++ one4 x := by
  rw [List.take_add_one, h, all4_app]
  show all4 (l.take j) ++ (one4 x ++ E0) = _
  rw [append_E0]
theorem one4_size (x : Int × Int × ByteArray) : (one4 x).size = 4 + (pad4 x.2.2).size := by
  unfold one4 hd4
  simp only [ByteArray.size_append, b1_size, numS_size]
theorem all4_size : ∀ {l : List (Int × Int × ByteArray)} {m : Nat}, (∀ x ∈ l, x.2.2.size ≤ m) → (all4 l).size ≤ (m + 7) * l.length
  | [], m, _ => Nat.le_refl _
  | x :: l, m, h => by
    have h1 := h x (.head _)
    have h2 := all4_size (fun y hy => h y (.tail _ hy))
    have h3 := one4_size x
    have h4 := pad4_size x.2.2
    show (one4 x ++ all4 l).size ≤ _
    rw [ByteArray.size_append, List.length_cons, Nat.mul_add]; omega
theorem or_128 {a : Int} : 0 ≤ a ∧ a ≤ 255 → bits .or .u8 128 (bits .and .u8 a 31) = 128 + a % 32 := u8_all (p := fun a => bits .or .u8 128 (bits .and .u8 a 31) = 128 + a % 32) (by decide +kernel)
theorem brows_two' {x y : Int} (hx : 0 ≤ x ∧ x ≤ 255) (hy : 0 ≤ y ∧ y ≤ 255) : [[Value.int .u8 x], [.int .u8 y]] = brows (b1 x ++ b1 y) := by
  have e1 := b1_rows hx
  have e2 := b1_rows hy
  have : brows (b1 x ++ b1 y) = brows (b1 x) ++ brows (b1 y) := by simp [brows]
  rw [this, e1, e2]; rfl
set_option maxHeartbeats 16000000 in
theorem tText (l : List (Int × Int × ByteArray)) (vs : List Value) (A : Option Addr) (n c : Nat) (R : List Ro) (hS : SQ R 1 A n c (one1 vs)) (hn : vs.length = l.length) (hl : l.length ≤ 1000) (hz : ∀ x ∈ l, x.2.2.size ≤ 200000) (hr : ∀ x ∈ l, in8 x.1 ∧ in8 x.2.1)
    (hH : ∀ (i : Nat) x v, l[i]? = some x → vs[i]? = some v → HdC v x.1 x.2.1 ∧ PtC R v x.2.2) :
    Fn Try.prog 36 #[.slice A n c] [] R (fun v L' R' => v = .string (all4 l) ∧ L' = [] ∧ R' = []) := by
  have hnl : n = l.length := by rw [← hS.len, one1_len, hn]
  subst hnl
  refine fn_intro Try.func36 rfl Try.ntmps36 rfl (fun E => ?_)
  (repeat (first | ((first | (apply wo_v; rfl) ); (· first | (apply pv_ev; rfl) | (apply g_bi; first | (apply pv_len_sl; rfl) ) )) | apply wo_nil | apply wc_seq | apply wc_region | (apply wo_alloc; rfl; intro bx) ))
  obtain ⟨go, hgo⟩ : ∃ g, g = bx := ⟨_, rfl⟩
  subst hgo
  refine wc_own0 5 1 ?_
  refine wc_join0 (fun st => ∃ p ao c', st = ⟨[(3, .pointer (some ⟨go, 0, none⟩))], wrH go p ao c' (all4 l), R⟩ ∧ WOk go p ao c' (all4 l)) ?_ ?_
  · refine wc_block ?_
    refine wc_loop' (fun q st => ∃ (i : Nat) (p ao : Option Addr) (c' : Nat) (s : ByteArray), q = l.length - i ∧ i ≤ l.length ∧ s = all4 (l.take i) ∧ WOk go p ao c' s ∧ st = ⟨[(3, .pointer (some ⟨go, 0, none⟩)), (9, .slice A l.length c), (10, .int .i64 l.length), (11, .int .i64 i)], wrH go p ao c' s, R⟩) ⟨0, none, none, 0, E0, rfl, Nat.zero_le _, rfl, ⟨.inl rfl, .inl ⟨rfl, rfl, rfl⟩⟩, rfl⟩ (wk_mk (by (repeat (first | apply wkf_nil | (apply wkf_cons; rfl))); done) (by (repeat (first | apply sub_nil | (apply sub_cons; (· (repeat (first | apply sel_here | apply sel_there)))))); done) (by first | exact fun _ h => h | (intro r hr; cases hr; done) | (simp; done) | exact fun _ h => List.mem_append_left _ h | (intro r hr; simp [hr]; done))) ?_
    rintro q st ⟨i, p, ao, c', s, rfl, hi, hs, hw, rfl⟩
    by_cases hlt : i < l.length
    · obtain ⟨x, hx⟩ : ∃ x, l[i]? = some x := ⟨_, List.getElem?_eq_getElem hlt⟩
      obtain ⟨v, hv⟩ : ∃ v, vs[i]? = some v := ⟨_, List.getElem?_eq_getElem (by omega)⟩
      obtain ⟨hHd, hPt⟩ := hH i x v hx hv
      have hrow := one1_at hv
      have hxm := List.mem_of_getElem? hx
      have hxz := hz x hxm
      obtain ⟨hk, hc⟩ := hr x hxm
      have hnx := all4_take hx
      rw [← hs] at hnx
      have hsz : s.size ≤ 200007 * i := by
        have := all4_size (l := l.take i) (m := 200000) (fun y hy => hz y (List.mem_of_mem_take hy))
        rw [← hs, List.length_take] at this
        have h2 : (200000 + 7) * min i l.length ≤ 200007 * i := Nat.mul_le_mul_left _ (by omega)
        omega
      obtain ⟨kd, ct, tx⟩ := x
      dsimp only at hHd hPt hxz hk hc hnx
      obtain ⟨a0, o0, rfl, hmem⟩ := hS.pos (by omega)
      (repeat (first | ((first | (apply wo_v; rfl) ); (· first | (apply pv_ev; rfl) )) | apply wo_nil | apply wc_seq | apply wc_region | apply wc_skip | (apply wc_true; rfl) | (apply wc_false; rfl) | (apply a_dec_t; rfl; (· first | assumption | omega)) ))
      refine wc_block ?_
      (repeat (first | ((first | (apply wo_v; rfl) ); (· first | (apply pv_ev; rfl) | (apply g_load; first | (apply pv_ld; rfl; (· (repeat (first | apply sel_there))); rfl) | (apply pv_ld_ownf; rfl; (· (repeat (first | fail ))); (· assumption); rfl) | (apply pv_ld_own1; rfl; (· (repeat (first | apply sel_there))); (· assumption)) | (apply pv_ld_rof; rfl; (· (first | assumption )); (· assumption); rfl) | (apply pv_ld_ro1; rfl; (· (first | assumption )); (· assumption)) ) | (apply g_idx; first | (apply pv_idx; rfl; rfl; omega) ) )) | apply wo_nil | apply wc_seq | apply wc_region ))
      refine wo_head rfl hHd rfl ?_
      (repeat (first | ((first | (apply wo_v; rfl) ); (· first | (apply pv_ev; rfl) )) | apply wo_nil | apply wc_seq | apply wc_region | (apply wo_alloc; rfl; intro bx) ))
      obtain ⟨gw, hgw⟩ : ∃ g, g = bx := ⟨_, rfl⟩
      subst hgw
      refine wo_own0 5 1 ?_
      (refine wo_call (hPt gw) rfl (by (repeat (first | apply sub_nil | (apply sub_cons; (· (repeat (first | apply sel_here | apply sel_there)))))); done) (by first | exact fun _ h => h | (intro r hr; cases hr; done) | (simp; done) | exact fun _ h => List.mem_append_left _ h | (intro r hr; simp [hr]; done)) rfl ?_; rintro v L' R' ⟨p1, ao1, c1, rfl, rfl, rfl, hw1⟩ H' hH RR hR; simp only [List.cons_append, List.nil_append] at hH hR; subst hH; have hR := hR.symm; subst hR)
      (repeat (first | ((first | (apply wo_v; rfl) ); (· first | (apply pv_ev; rfl) )) | apply wo_nil | apply wc_seq | apply wc_region ))
      have hpad := wPad gw c1 p1 ao1 tx 4 4 rfl (by omega) hw1 (by omega)
      rw [show tx ++ zb (padJ tx.size 4) = pad4 tx from rfl] at hpad
      have hpz := pad4_size tx
      rw [show one4 (kd, ct, tx) = hd4 kd ct (pad4 tx).size ++ pad4 tx from rfl] at hnx
      generalize pad4 tx = px at hpad hpz hnx
      (refine wo_call (hpad) rfl (by (repeat (first | apply sub_nil )); done) (by first | exact fun _ h => h | (intro r hr; cases hr; done) | (simp; done) | exact fun _ h => List.mem_append_left _ h | (intro r hr; simp [hr]; done)) rfl ?_; rintro v L' R' ⟨p2, ao2, c2, rfl, rfl, rfl, hw2⟩ H' hH RR hR; simp only [List.cons_append, List.nil_append] at hH hR; subst hH; have hR := hR.symm; subst hR)
      (repeat (first | ((first | (apply wo_v; rfl) ); (· first | (apply pv_ev; rfl) | (apply g_bin; first | (apply pv_and; rfl; rfl) | (apply (a_or 4); rfl; rfl; infer_instance; rfl; omega) | (apply (a_or 5); rfl; rfl; infer_instance; rfl; omega) | (apply (a_or 6); rfl; rfl; infer_instance; rfl; omega) | (apply (a_or 7); rfl; rfl; infer_instance; rfl; omega) | (apply (a_or 8); rfl; rfl; infer_instance; rfl; omega) | (apply (a_or 16); rfl; rfl; infer_instance; rfl; omega) | (apply (a_or 24); rfl; rfl; infer_instance; rfl; omega) | (apply (a_or 32); rfl; rfl; infer_instance; rfl; omega) | (apply pv_or; rfl; rfl) ) )) | apply wo_nil | apply wc_region | (apply wo_bsl; (· (repeat (first | apply Rws'.nil | (apply Rws'.one; rfl; rfl; rfl) ))); rfl; rfl; rfl; rfl; intro bx) ))
      have hct := or_128 hc
      have hk0 : 0 ≤ 128 + ct % 32 ∧ 128 + ct % 32 ≤ 255 := by omega
      have z1 : (b1 (128 + ct % 32) ++ b1 kd).size = 2 := by rw [ByteArray.size_append, b1_size, b1_size]
      rw [hct, brows_two' hk0 hk]
      have hW1 := fun bl => wU8 go c' bl 2 p ao s (b1 (128 + ct % 32) ++ b1 kd) hw (by rw [z1]; omega) (by rw [z1]; omega)
      simp only [z1] at hW1
      obtain ⟨s1, hs1⟩ : ∃ s1, s ++ (b1 (128 + ct % 32) ++ b1 kd) = s1 := ⟨_, rfl⟩
      have zs1 : s1.size = s.size + 2 := by rw [← hs1, ByteArray.size_append, z1]
      rw [hs1] at hW1
      (refine wo_call (hW1 _) rfl (by (repeat (first | apply sub_nil | (apply sub_cons; (· (repeat (first | apply sel_here | apply sel_there)))))); done) (by first | exact fun _ h => h | (intro r hr; cases hr; done) | (simp; done) | exact fun _ h => List.mem_append_left _ h | (intro r hr; simp [hr]; done)) rfl ?_; rintro v L' R' ⟨p3, ao3, c3, rfl, rfl, rfl, hw3⟩ H' hH RR hR; simp only [List.cons_append, List.nil_append] at hH hR; subst hH; have hR := hR.symm; subst hR)
      (repeat (first | ((first | (apply wo_v; rfl) ); (· first | (apply pv_ev; rfl) )) ))
      (refine wo_call (wLen gw c2 p2 ao2 px.size) rfl (by (repeat (first | apply sub_nil | (apply sub_cons; (· (repeat (first | apply sel_here | apply sel_there)))))); done) (by first | exact fun _ h => h | (intro r hr; cases hr; done) | (simp; done) | exact fun _ h => List.mem_append_left _ h | (intro r hr; simp [hr]; done)) rfl ?_; rintro v L' R' ⟨rfl, rfl, rfl⟩ H' hH RR hR; simp only [List.cons_append, List.nil_append] at hH hR; subst hH; have hR := hR.symm; subst hR)
      have ed : ((px.size / 4 : Nat) : Int) = (px.size : Int) / 4 := by omega
      have hW2 := fun bl => wU16 go c3 bl 1 p3 ao3 s1 [(px.size : Int) / 4] (by intro y hy; rcases List.mem_singleton.1 hy with rfl; omega) (by simp) hw3 (by omega)
      rw [numsS_one, ← ed] at hW2
      obtain ⟨s2, hs2⟩ : ∃ s2, s1 ++ numS 2 ((px.size / 4 : Nat) : Int) = s2 := ⟨_, rfl⟩
      have zs2 : s2.size = s.size + 4 := by rw [← hs2, ByteArray.size_append, numS_size, zs1]
      rw [hs2] at hW2
      (repeat (first | ((first | (apply wo_v; rfl) ); (· first | (apply pv_ev; rfl) | (apply g_bin; first | (apply a_quo; rfl; rfl; infer_instance; omega) ) | (apply g_conv; first | (apply a_conv; rfl; infer_instance; infer_instance; infer_instance; omega) ) )) | (apply wo_bsl; (· (repeat (first | apply Rws'.nil | (apply Rws'.one; rfl; rfl; rfl) ))); rfl; rfl; rfl; rfl; intro bx) ))
      rw [← ed]
      (refine wo_call (hW2 _) rfl (by (repeat (first | apply sub_nil | (apply sub_cons; (· (repeat (first | apply sel_here | apply sel_there)))))); done) (by first | exact fun _ h => h | (intro r hr; cases hr; done) | (simp; done) | exact fun _ h => List.mem_append_left _ h | (intro r hr; simp [hr]; done)) rfl ?_; rintro v L' R' ⟨p4, ao4, c4, rfl, rfl, rfl, hw4⟩ H' hH RR hR; simp only [List.cons_append, List.nil_append] at hH hR; subst hH; have hR := hR.symm; subst hR)
      (repeat (first | ((first | (apply wo_v; rfl) ); (· first | (apply pv_ev; rfl) )) ))
      (refine wo_call (wText gw c2 p2 ao2 px hw2) rfl (by (repeat (first | apply sub_nil | (apply sub_cons; (· (repeat (first | apply sel_here | apply sel_there)))))); done) (by first | exact fun _ h => h | (intro r hr; cases hr; done) | (simp; done) | exact fun _ h => List.mem_append_left _ h | (intro r hr; simp [hr]; done)) rfl ?_; rintro v L' R' ⟨rfl, rfl, rfl⟩ H' hH RR hR; simp only [List.cons_append, List.nil_append] at hH hR; subst hH; have hR := hR.symm; subst hR)
      (repeat (first | ((first | (apply wo_v; rfl) ); (· first | (apply pv_ev; rfl) )) | (apply wo_bsl; (· (repeat (first | apply Rws'.nil | (apply Rws'.one; rfl; rfl; rfl) ))); rfl; rfl; rfl; rfl; intro bx) ))
      have hW3 := fun bl => wPut go c4 bl 1 p4 ao4 s2 [px] (by intro y hy; rcases List.mem_singleton.1 hy with rfl; omega) (by simp) hw4 (by omega)
      rw [show catS [px] = px from append_E0 px] at hW3
      have hfin : s2 ++ px = all4 (l.take (i + 1)) := by
        rw [hnx, ← hs2, ← hs1]
        unfold hd4
        simp only [ByteArray.append_assoc]
      rw [hfin] at hW3
      (refine wo_call (hW3 _) rfl (by (repeat (first | apply sub_nil | (apply sub_cons; (· (repeat (first | apply sel_here | apply sel_there)))))); done) (by first | exact fun _ h => h | (intro r hr; cases hr; done) | (simp; done) | exact fun _ h => List.mem_append_left _ h | (intro r hr; simp [hr]; done)) rfl ?_; rintro v L' R' ⟨p5, ao5, c5, rfl, rfl, rfl, hw5⟩ H' hH RR hR; simp only [List.cons_append, List.nil_append] at hH hR; subst hH; have hR := hR.symm; subst hR)
      (repeat (first | ((first | (apply wo_v; rfl) ); (· first | (apply pv_ev; rfl) | (apply g_bin; first | (apply a_add; rfl; rfl; infer_instance; omega) ) )) | apply wo_nil | apply wc_region ))
      exact loop_end ⟨i + 1, p5, ao5, c5, _, rfl, by omega, rfl, hw5, rfl⟩ (by omega) (wk_mk (by (repeat (first | apply wkf_nil | (apply wkf_cons; rfl))); done) (by (repeat (first | apply sub_nil )); done) (by first | exact fun _ h => h | (intro r hr; cases hr; done) | (simp; done) | exact fun _ h => List.mem_append_left _ h | (intro r hr; simp [hr]; done)))
    · have e : i = l.length := by omega
      subst e
      rw [List.take_length] at hs
      subst hs
      (repeat (first | ((first | (apply wo_v; rfl) ); (· first | (apply pv_ev; rfl) )) | apply wo_nil | apply wc_seq | apply wc_region | (apply wc_exit; rfl) | (apply wc_true; rfl) | (apply wc_false; rfl) | (apply a_dec_t; rfl; (· first | assumption | omega)) | (apply a_dec_f; rfl; (· first | assumption | omega)) ))
      exact cut_end ⟨p, ao, c', rfl, hw⟩ (wk_mk (by (repeat (first | apply wkf_nil | (apply wkf_cons; rfl))); done) (by (repeat (first | apply sub_nil )); done) (by first | exact fun _ h => h | (intro r hr; cases hr; done) | (simp; done) | exact fun _ h => List.mem_append_left _ h | (intro r hr; simp [hr]; done)))
  rintro st ⟨p, ao, c', rfl, hw⟩
  (repeat (first | ((first | (apply wo_v; rfl) ); (· first | (apply pv_ev; rfl) )) | apply wc_seq | apply wc_region ))
  (refine wo_call (wText go c' p ao _ hw) rfl (by (repeat (first | apply sub_nil )); done) (by first | exact fun _ h => h | (intro r hr; cases hr; done) | (simp; done) | exact fun _ h => List.mem_append_left _ h | (intro r hr; simp [hr]; done)) rfl ?_; rintro v L' R' ⟨rfl, rfl, rfl⟩ H' hH RR hR; simp only [List.cons_append, List.nil_append] at hH hR; subst hH; have hR := hR.symm; subst hR)
  (repeat (first | ((first | (apply wo_v; rfl) ); (· first | (apply pv_ev; rfl) )) | apply wo_nil | apply wc_ret ))
  exact ret1 rfl rfl ⟨rfl, rfl, rfl⟩ ((by (repeat (first | apply sub_nil )); done) : List.Perm _ ([] ++ _)) (by first | exact fun _ h => h | (intro r hr; cases hr; done) | (simp; done) | exact fun _ h => List.mem_append_left _ h | (intro r hr; simp [hr]; done))
/-! ## Pli and Nack -/
theorem hPli (f0 to : Int) : Fn Try.prog 221 #[.agg #[.int .u32 f0, .int .u32 to]] [] [] (fun u L' R' => u = .tuple #[.int .u8 206, .int .u8 1] ∧ L' = [] ∧ R' = []) := by
  refine fn_intro Try.func221 rfl Try.ntmps221 rfl (fun E => ?_)
  (repeat (first | ((first | (apply wo_v; rfl) ); (· first | (apply pv_ev; rfl) )) | apply wo_nil | apply wc_seq | apply wc_region | apply wc_ret | (apply wo_box1; rfl; rfl; rfl; intro bx) | (apply wo_boxa; rfl; rfl; intro bx) ))
  exact retv rfl (by (repeat (first | apply RV.nil | (apply RV.tmp; rfl) )); done) (⟨rfl, rfl, rfl⟩) (by (repeat (first | apply sub_nil )); done) (by first | exact fun _ h => h | (intro r hr; cases hr; done) | (simp; done) | exact fun _ h => List.mem_append_left _ h | (intro r hr; simp [hr]; done))
theorem hNack (f0 to : Int) (w : Value) (hw : w.oneCell' = true) : Fn Try.prog 219 #[.agg #[.int .u32 f0, .int .u32 to, w]] [] [] (fun u L' R' => u = .tuple #[.int .u8 205, .int .u8 1] ∧ L' = [] ∧ R' = []) := by
  refine fn_intro Try.func219 rfl Try.ntmps219 rfl (fun E => ?_)
  (repeat (first | ((first | (apply wo_v; rfl) ); (· first | (apply pv_ev; rfl) )) | apply wo_nil | apply wc_seq | apply wc_region | apply wc_ret | (apply wo_box1; rfl; rfl; rfl; intro bx) | (apply wo_boxa; rfl; rfl; intro bx) ))
  exact retv rfl (by (repeat (first | apply RV.nil | (apply RV.tmp; rfl) )); done) (⟨rfl, rfl, rfl⟩) (by (repeat (first | apply sub_nil )); done) (by first | exact fun _ h => h | (intro r hr; cases hr; done) | (simp; done) | exact fun _ h => List.mem_append_left _ h | (intro r hr; simp [hr]; done))
abbrev PtF (f : FuncId) (R : List Ro) (g : Nat) (w : Value) (tx : ByteArray) : Prop := Fn Try.prog f #[w, .pointer (some ⟨g, 0, none⟩)] (wrH g none none 0 E0) R (fun u L' R' => ∃ p ao c, u = .tuple #[] ∧ L' = wrH g p ao c tx ∧ R' = [] ∧ WOk g p ao c tx)
theorem w0 (g : Nat) : WOk g none none 0 E0 := ⟨.inl rfl, .inl ⟨rfl, rfl, rfl⟩⟩
theorem pPli (R : List Ro) (g : Nat) (f0 to : Int) (h1 : in32 f0) (h2 : in32 to) : PtF 222 R g (.agg #[.int .u32 f0, .int .u32 to]) (numsS 4 [f0, to]) := by
  have hW := fun bl => wU32 g 0 bl 2 none none E0 [f0, to] (by intro y hy; simp only [List.mem_cons, List.not_mem_nil, or_false] at hy; rcases hy with rfl | rfl; exact h1; exact h2) (by simp) (w0 g) (by decide)
  rw [E0_append] at hW
  refine fn_intro Try.func222 rfl Try.ntmps222 rfl (fun E => ?_)
  (repeat (first | ((first | (apply wo_v; rfl) ); (· first | (apply pv_ev; rfl) | (apply pv_fld; rfl) | (apply g_load; first | (apply pv_ld; rfl; (· (repeat (first | apply sel_here ))); rfl) ) )) | apply wo_nil | apply wc_seq | apply wc_region | (apply wo_box1; rfl; rfl; rfl; intro bx) | (apply wo_boxa; rfl; rfl; intro bx) | (apply wo_bsl; (· (repeat (first | apply Rws'.nil | (apply Rws'.one; rfl; rfl; rfl) ))); rfl; rfl; rfl; rfl; intro bx) ))
  (refine wo_call (hW _) rfl (by (repeat (first | apply sub_nil | (apply sub_cons; (· (repeat (first | apply sel_here | apply sel_there)))))); done) (by first | exact fun _ h => h | (intro r hr; cases hr; done) | (simp; done) | exact fun _ h => List.mem_append_left _ h | (intro r hr; simp [hr]; done)) rfl ?_; rintro v L' R' ⟨p5, ao5, c5, rfl, rfl, rfl, hw5⟩ H' hH RR hR; simp only [List.cons_append, List.nil_append] at hH hR; subst hH; have hR := hR.symm; subst hR)
  (repeat (first | apply wo_nil ))
  exact ret0 rfl ⟨p5, ao5, c5, rfl, rfl, rfl, hw5⟩ (by (repeat (first | apply sub_nil )); done) (by first | exact fun _ h => h | (intro r hr; cases hr; done) | (simp; done) | exact fun _ h => List.mem_append_left _ h | (intro r hr; simp [hr]; done))
def prsT : List (Int × Int) → ByteArray
  | [] => E0
  | x :: l => numsS 2 [x.1, x.2] ++ prsT l
theorem prsT_app : ∀ a b, prsT (a ++ b) = prsT a ++ prsT b
  | [], b => (E0_append _).symm
  | x :: a, b => by
    show numsS 2 [x.1, x.2] ++ prsT (a ++ b) = (numsS 2 [x.1, x.2] ++ prsT a) ++ prsT b
    rw [prsT_app a b, ByteArray.append_assoc]
theorem prsT_take {l : List (Int × Int)} {j : Nat} {x : Int × Int} (h : l[j]? = some x) : prsT (l.take (j + 1)) = prsT (l.take j) ++ numsS 2 [x.1, x.2] := by
  rw [List.take_add_one, h, prsT_app]
  show prsT (l.take j) ++ (numsS 2 [x.1, x.2] ++ E0) = _
  rw [append_E0]
theorem prsT_size : ∀ l : List (Int × Int), (prsT l).size = 4 * l.length
  | [] => rfl
  | x :: l => by
    show (numsS 2 [x.1, x.2] ++ prsT l).size = _
    simp only [ByteArray.size_append, prsT_size l, numsS_size, List.length_cons, List.length_nil]; omega
set_option maxHeartbeats 8000000 in
theorem pNack (R : List Ro) (g : Nat) (f0 to : Int) (l : List (Int × Int)) (A : Option Addr) (n c : Nat) (hS : SQ R 2 A n c (pairV l)) (hl : l.length ≤ 10000) (h1 : in32 f0) (h2 : in32 to) (hb : ∀ x ∈ l, in16 x.1 ∧ in16 x.2) :
    PtF 220 R g (.agg #[.int .u32 f0, .int .u32 to, .slice A n c]) (numsS 4 [f0, to] ++ prsT l) := by
  have hn : n = l.length := by rw [← hS.len, pairV_len]
  subst hn
  have hW := fun bl => wU32 g 0 bl 2 none none E0 [f0, to] (by intro y hy; simp only [List.mem_cons, List.not_mem_nil, or_false] at hy; rcases hy with rfl | rfl; exact h1; exact h2) (by simp) (w0 g) (by decide)
  rw [E0_append] at hW
  have zh : (numsS 4 [f0, to]).size = 8 := by rw [numsS_size]; rfl
  generalize numsS 4 [f0, to] = th at hW zh
  refine fn_intro Try.func220 rfl Try.ntmps220 rfl (fun E => ?_)
  (repeat (first | ((first | (apply wo_v; rfl) ); (· first | (apply pv_ev; rfl) | (apply pv_fld; rfl) | (apply g_load; first | (apply pv_ld; rfl; (· (repeat (first | apply sel_here ))); rfl) ) )) | apply wo_nil | apply wc_seq | apply wc_region | (apply wo_box1; rfl; rfl; rfl; intro bx) | (apply wo_boxa; rfl; rfl; intro bx) | (apply wo_bsl; (· (repeat (first | apply Rws'.nil | (apply Rws'.one; rfl; rfl; rfl) ))); rfl; rfl; rfl; rfl; intro bx) ))
  (refine wo_call (hW _) rfl (by (repeat (first | apply sub_nil | (apply sub_cons; (· (repeat (first | apply sel_here | apply sel_there)))))); done) (by first | exact fun _ h => h | (intro r hr; cases hr; done) | (simp; done) | exact fun _ h => List.mem_append_left _ h | (intro r hr; simp [hr]; done)) rfl ?_; rintro v L' R' ⟨p5, ao5, c5, rfl, rfl, rfl, hw5⟩ H' hH RR hR; simp only [List.cons_append, List.nil_append] at hH hR; subst hH; have hR := hR.symm; subst hR)
  (repeat (first | ((first | (apply wo_v; rfl) ); (· first | (apply pv_ev; rfl) | (apply pv_fld; rfl) | (apply g_load; first | (apply pv_ld; rfl; (· (repeat (first | apply sel_here | apply sel_there))); rfl) ) | (apply g_bi; first | (apply pv_len_sl; rfl) ) )) | apply wo_nil | apply wc_seq | apply wc_region ))
  refine wc_block ?_
  refine wc_loop' (fun q st => ∃ (i : Nat) (p ao : Option Addr) (c' : Nat) (s : ByteArray), q = l.length - i ∧ i ≤ l.length ∧ s = th ++ prsT (l.take i) ∧ WOk g p ao c' s ∧ st = ⟨[(1, .pointer (some ⟨g, 0, none⟩)), (14, .slice A l.length c), (15, .int .i64 l.length), (16, .int .i64 i)], wrH g p ao c' s, R⟩) ⟨0, p5, ao5, c5, th, rfl, Nat.zero_le _, (append_E0 _).symm, hw5, rfl⟩ (wk_mk (by (repeat (first | apply wkf_nil | (apply wkf_cons; rfl))); done) (by (repeat (first | apply sub_nil )); done) (by first | exact fun _ h => h | (intro r hr; cases hr; done) | (simp; done) | exact fun _ h => List.mem_append_left _ h | (intro r hr; simp [hr]; done))) ?_
  clear hw5 hW p5 ao5 c5
  rintro q st ⟨i, p, ao, c', s, rfl, hi, hs, hw, rfl⟩
  by_cases hlt : i < l.length
  · obtain ⟨x, hx⟩ : ∃ x, l[i]? = some x := ⟨_, List.getElem?_eq_getElem hlt⟩
    have hr := pairV_at hx
    obtain ⟨⟨x1, x2⟩, x3, x4⟩ := hb _ (List.mem_of_getElem? hx)
    have hnx := prsT_take hx
    have hsz := prsT_size (l.take i)
    obtain ⟨a, b⟩ := x
    dsimp only at hr x1 x2 x3 x4 hnx
    have hsz2 : s.size ≤ 8 + 4 * i := by rw [hs, ByteArray.size_append, zh, hsz, List.length_take]; omega
    have hnx2 : s ++ numsS 2 [a, b] = th ++ prsT (l.take (i + 1)) := by rw [hnx, hs, ByteArray.append_assoc]
    obtain ⟨a0, o0, rfl, hmem⟩ := hS.pos (by omega)
    have hW2 := fun bl => wU16 g c' bl 2 p ao s [a, b] (by intro y hy; simp only [List.mem_cons, List.not_mem_nil, or_false] at hy; rcases hy with rfl | rfl; exact ⟨x1, x2⟩; exact ⟨x3, x4⟩) (by simp) hw (by omega)
    rw [hnx2] at hW2
    (repeat (first | ((first | (apply wo_v; rfl) ); (· first | (apply pv_ev; rfl) )) | apply wo_nil | apply wc_seq | apply wc_region | apply wc_skip | (apply wc_true; rfl) | (apply wc_false; rfl) | (apply a_dec_t; rfl; (· first | assumption | omega)) ))
    refine wc_block ?_
    (repeat (first | ((first | (apply wo_v; rfl) ); (· first | (apply pv_ev; rfl) | (apply pv_fld; rfl) | (apply g_load; first | (apply pv_ld; rfl; (· (repeat (first | apply sel_here ))); rfl) | (apply pv_lda; rfl; (· (repeat (first | apply sel_there))); (· (repeat (first | fail )))) | (apply pv_ld_owna; rfl; (· (repeat (first | apply sel_there))); (· assumption)) | (apply pv_ld_roa; rfl; (· (first | assumption )); (· assumption))) | (apply g_idx; first | (apply pv_idx; rfl; rfl; omega) ) )) | apply wo_nil | apply wc_seq | apply wc_region | (apply wo_alloc; rfl; intro bx) | (apply wo_bsl; (· (repeat (first | apply Rws'.nil | (apply Rws'.one; rfl; rfl; rfl) ))); rfl; rfl; rfl; rfl; intro bx) | (apply wo_sta; rfl; rfl; rfl; rfl; (· (repeat (first | apply sel_here ))); (· (repeat (first | apply LayAt.nil | apply LayAt.here ))); rfl) ))
    (refine wo_call (hW2 _) rfl (by (repeat (first | apply sub_nil | (apply sub_cons; (· (repeat (first | apply sel_here | apply sel_there)))))); done) (by first | exact fun _ h => h | (intro r hr; cases hr; done) | (simp; done) | exact fun _ h => List.mem_append_left _ h | (intro r hr; simp [hr]; done)) rfl ?_; rintro v L' R' ⟨p6, ao6, c6, rfl, rfl, rfl, hw6⟩ H' hH RR hR; simp only [List.cons_append, List.nil_append] at hH hR; subst hH; have hR := hR.symm; subst hR)
    (repeat (first | ((first | (apply wo_v; rfl) ); (· first | (apply pv_ev; rfl) | (apply g_bin; first | (apply a_add; rfl; rfl; infer_instance; omega) ) )) | apply wo_nil | apply wc_region ))
    exact loop_end ⟨i + 1, p6, ao6, c6, _, rfl, by omega, rfl, hw6, rfl⟩ (by omega) (wk_mk (by (repeat (first | apply wkf_nil | (apply wkf_cons; rfl))); done) (by (repeat (first | apply sub_nil )); done) (by first | exact fun _ h => h | (intro r hr; cases hr; done) | (simp; done) | exact fun _ h => List.mem_append_left _ h | (intro r hr; simp [hr]; done)))
  · have e : i = l.length := by omega
    subst e
    rw [List.take_length] at hs
    subst hs
    (repeat (first | ((first | (apply wo_v; rfl) ); (· first | (apply pv_ev; rfl) )) | apply wo_nil | apply wc_seq | apply wc_region | (apply wc_exit; rfl) | (apply wc_true; rfl) | (apply wc_false; rfl) | (apply a_dec_t; rfl; (· first | assumption | omega)) | (apply a_dec_f; rfl; (· first | assumption | omega)) ))
    exact ret0 rfl ⟨p, ao, c', rfl, rfl, rfl, hw⟩ (by (repeat (first | apply sub_nil )); done) (by first | exact fun _ h => h | (intro r hr; cases hr; done) | (simp; done) | exact fun _ h => List.mem_append_left _ h | (intro r hr; simp [hr]; done))
/-- through the interface -/
theorem tPli (R : List Ro) (f0 to : Int) (h1 : in32 f0) (h2 : in32 to) : PtC R (.iface 77 (.agg #[.int .u32 f0, .int .u32 to])) (numsS 4 [f0, to]) := fun g => by
  refine fn_intro Try.func88 rfl Try.ntmps88 rfl (fun E => ?_)
  (repeat (first | ((first | (apply wo_v; rfl) ); (· first | (apply pv_ev; rfl) | (apply pv_tas; rfl; infer_instance) )) | apply wo_nil | apply wc_seq | apply wc_region | (apply wc_true; rfl) ))
  (refine wo_inv rfl inferInstance (pPli R g f0 to h1 h2) rfl (by (repeat (first | apply sub_nil )); done) (by first | exact fun _ h => h | (intro r hr; cases hr; done) | (simp; done) | exact fun _ h => List.mem_append_left _ h | (intro r hr; simp [hr]; done)) rfl ?_; rintro v L' R' ⟨p5, ao5, c5, rfl, rfl, rfl, hw5⟩ H' hH RR hR; simp only [List.cons_append, List.nil_append] at hH hR; subst hH; have hR := hR.symm; subst hR)
  (repeat (first | apply wo_nil ))
  exact ret0 rfl ⟨p5, ao5, c5, rfl, rfl, rfl, hw5⟩ (by (repeat (first | apply sub_nil )); done) (by first | exact fun _ h => h | (intro r hr; cases hr; done) | (simp; done) | exact fun _ h => List.mem_append_left _ h | (intro r hr; simp [hr]; done))
theorem tNack (R : List Ro) (f0 to : Int) (l : List (Int × Int)) (A : Option Addr) (n c : Nat) (hS : SQ R 2 A n c (pairV l)) (hl : l.length ≤ 10000) (h1 : in32 f0) (h2 : in32 to) (hb : ∀ x ∈ l, in16 x.1 ∧ in16 x.2) :
    PtC R (.iface 75 (.agg #[.int .u32 f0, .int .u32 to, .slice A n c])) (numsS 4 [f0, to] ++ prsT l) := fun g => by
  refine fn_intro Try.func88 rfl Try.ntmps88 rfl (fun E => ?_)
  (repeat (first | ((first | (apply wo_v; rfl) ); (· first | (apply pv_ev; rfl) | (apply pv_tas; rfl; infer_instance) )) | apply wo_nil | apply wc_seq | apply wc_region | (apply wc_true; rfl) ))
  (refine wo_inv rfl inferInstance (pNack R g f0 to l A n c hS hl h1 h2 hb) rfl (by (repeat (first | apply sub_nil )); done) (by first | exact fun _ h => h | (intro r hr; cases hr; done) | (simp; done) | exact fun _ h => List.mem_append_left _ h | (intro r hr; simp [hr]; done)) rfl ?_; rintro v L' R' ⟨p5, ao5, c5, rfl, rfl, rfl, hw5⟩ H' hH RR hR; simp only [List.cons_append, List.nil_append] at hH hR; subst hH; have hR := hR.symm; subst hR)
  (repeat (first | apply wo_nil ))
  exact ret0 rfl ⟨p5, ao5, c5, rfl, rfl, rfl, hw5⟩ (by (repeat (first | apply sub_nil )); done) (by first | exact fun _ h => h | (intro r hr; cases hr; done) | (simp; done) | exact fun _ h => List.mem_append_left _ h | (intro r hr; simp [hr]; done))
theorem dPli (f0 to : Int) : HdC (.iface 77 (.agg #[.int .u32 f0, .int .u32 to])) 206 1 := ⟨_, _, _, rfl, inferInstance, inferInstance, hPli f0 to⟩
theorem dNack (f0 to : Int) (A : Option Addr) (n c : Nat) : HdC (.iface 75 (.agg #[.int .u32 f0, .int .u32 to, .slice A n c])) 205 1 := ⟨_, _, _, rfl, inferInstance, inferInstance, hNack f0 to _ rfl⟩
end Go.Proofs.Ytlhlidmhlhodiaa

/-
  The laws through the layers: live.
-/
namespace Go.Proofs.Ytlhlidmhlhodiaa
set_option linter.unusedSimpArgs false
set_option linter.unusedVariables false
open Go.RowKit
attribute [local irreducible] Pv WO WC Fn
set_option maxRecDepth 100000
attribute [local irreducible] ByteArray.extract

theorem live1 : txt ⟨false, false, 0, -1, false, -1, -1, false, -1⟩ = ⟨#[0]⟩ := by decide
theorem live2 : all4 [(206, 1, numsS 4 [1, 2])] = ⟨#[129, 206, 0, 2, 0, 0, 0, 1, 0, 0, 0, 2]⟩ := by decide
theorem alive : Fn Try.prog 12 #[] [] [] (fun v L' R' => v = .bool true ∧ L' = [] ∧ R' = []) := by
  have hck : Ck ⟨false, 96, 1, 0, 0, [], false, 0, E0, ⟨#[120]⟩, 0⟩ := ⟨by decide, by decide, by decide, by decide, (fun _ => ⟨rfl, rfl⟩), by decide⟩
  have hokr : okR ⟨false, 96, 1, 0, 0, [], false, 0, E0, ⟨#[120]⟩, 0⟩ := ⟨by decide, by decide, by decide, by decide, by decide, (fun z hz => by cases hz)⟩
  have hx := prR_txP hokr hck
  have hz := txP_size hck
  have wT := gText false 96 1 0 0 [] false 0 E0 ⟨#[120]⟩ 0 none 0 0 [] (SQ.nil _ _ _ _) (by decide) (by decide) (by decide) (by decide) (by decide) (by decide) (by decide) (by decide) (by decide) (fun z hz => by cases hz)
  unfold txP at hx hz
  dsimp only at hx hz
  rw [show lenM ([] : List Int).length false E0 ⟨#[120]⟩ 0 = 13 by decide] at hz
  generalize txR false 96 1 0 0 [] false 0 E0 ⟨#[120]⟩ 0 = x at hx hz wT
  have wP := pParse x (by omega)
  rw [hx] at wP
  dsimp only [List.length_nil] at wP
  have wV := vText false false 0 (-1) false (-1) (-1) false (-1) (by decide) (by decide)
  rw [live1] at wV
  have wR := fun A c R hS => tText [(206, 1, numsS 4 [1, 2])] [.iface 77 (.agg #[.int .u32 1, .int .u32 2])] A 1 c R hS rfl (by decide) (by decide) (by intro x hx; rcases List.mem_singleton.1 hx with rfl; exact ⟨by unfold in8; dsimp only; omega, by unfold in8; dsimp only; omega⟩)
    (fun i x v h1 h2 => by
      match i, h1, h2 with
      | 0, h1, h2 =>
        simp only [List.getElem?_cons_zero, Option.some.injEq] at h1 h2
        subst h1 h2
        exact ⟨dPli 1 2, tPli R 1 2 (by unfold in32; omega) (by unfold in32; omega)⟩)
  rw [live2] at wR
  refine fn_intro Try.func12 rfl Try.ntmps12 rfl (fun E => ?_)
  (repeat (first | ((first | (apply wo_v; rfl) ); (· first | (apply pv_ev; rfl) | (apply g_load; first | (apply pv_lda; rfl; (· (repeat (first | apply sel_here ))); (· (repeat (first | apply Cut.here0 | apply Cut.here )))) ) | (apply g_build; apply pv_build; (· (repeat (first | apply Bld.nil | (apply Bld.one; rfl; rfl; (· (repeat (first | apply SetAt.here | apply SetAt.there)))) )))) )) | apply wo_nil | apply wc_seq | apply wc_region | (apply wo_alloc; rfl; intro bx) | (apply wo_sta; rfl; rfl; rfl; rfl; (· (repeat (first | apply sel_here ))); (· (repeat (first | apply LayAt.nil | apply LayAt.here ))); rfl) ))
  (refine wo_call (wT) rfl (by (repeat (first | apply sub_nil )); done) (by first | exact fun _ h => h | (intro r hr; cases hr; done) | (simp; done) | exact fun _ h => List.mem_append_left _ h | (intro r hr; simp [hr]; done)) rfl ?_; rintro v L' R' ⟨rfl, rfl, rfl⟩ H' hH RR hR; simp only [List.cons_append, List.nil_append] at hH hR; subst hH; have hR := hR.symm; subst hR)
  (repeat (first | ((first | (apply wo_v; rfl) ); (· first | (apply pv_ev; rfl) )) ))
  (refine wo_call (wP) rfl (by (repeat (first | apply sub_nil )); done) (by first | exact fun _ h => h | (intro r hr; cases hr; done) | (simp; done) | exact fun _ h => List.mem_append_left _ h | (intro r hr; simp [hr]; done)) rfl ?_; rintro v L' R' ⟨ao, c, rfl, rfl, rfl⟩ H' hH RR hR; simp only [List.cons_append, List.nil_append] at hH hR; subst hH; have hR := hR.symm; subst hR)
  (repeat (first | ((first | (apply wo_v; rfl) ); (· first | (apply pv_ev; rfl) )) | apply wo_nil | apply wc_seq | apply wc_region | (apply wo_alloc; rfl; intro bx) | (apply wo_sta; rfl; rfl; rfl; rfl; (· (repeat (first | apply sel_here ))); (· (repeat (first | apply LayAt.nil | apply LayAt.here ))); rfl) ))
  (refine wo_call (vPlain) rfl (by (repeat (first | apply sub_nil )); done) (by first | exact fun _ h => h | (intro r hr; cases hr; done) | (simp; done) | exact fun _ h => List.mem_append_left _ h | (intro r hr; simp [hr]; done)) rfl ?_; rintro v L' R' ⟨rfl, rfl, rfl⟩ H' hH RR hR; simp only [List.cons_append, List.nil_append] at hH hR; subst hH; have hR := hR.symm; subst hR)
  (repeat (first | ((first | (apply wo_v; rfl) ); (· first | (apply pv_ev; rfl) | (apply pv_fld; rfl) | (apply g_load; first | (apply pv_ld; rfl; (· (repeat (first | apply sel_here | apply sel_there))); rfl) | (apply pv_lda; rfl; (· (repeat (first | apply sel_here ))); (· (repeat (first | apply Cut.here0 | apply Cut.here )))) ) | (apply g_pick; first | (apply pv_pick_t; rfl; rfl) ) | (apply g_bin; first | (apply pv_eql_s; rfl; rfl) ) )) | apply wo_nil | apply wc_seq | apply wc_region | (apply wo_run; rfl; rfl) | (apply wo_alloc; rfl; intro bx) | (apply wo_sta; rfl; rfl; rfl; rfl; (· (repeat (first | apply sel_here ))); (· (repeat (first | apply LayAt.nil | apply LayAt.here ))); rfl) ))
  (refine wo_call (wV) rfl (by (repeat (first | apply sub_nil )); done) (by first | exact fun _ h => h | (intro r hr; cases hr; done) | (simp; done) | exact fun _ h => List.mem_append_left _ h | (intro r hr; simp [hr]; done)) rfl ?_; rintro v L' R' ⟨rfl, rfl, rfl⟩ H' hH RR hR; simp only [List.cons_append, List.nil_append] at hH hR; subst hH; have hR := hR.symm; subst hR)
  (repeat (first | ((first | (apply wo_v; rfl) ); (· first | (apply pv_ev; rfl) | (apply g_pick; first | (apply pv_pick_t; rfl; rfl) ) | (apply g_bi; first | (apply pv_len_str; rfl) ) | (apply g_build; apply pv_build; (· (repeat (first | apply Bld.nil | (apply Bld.one; rfl; rfl; (· (repeat (first | apply SetAt.here | apply SetAt.there)))) )))) | (apply pv_mki; rfl; infer_instance) )) | (apply wo_run; rfl; rfl) | (apply wo_bsl; (· (repeat (first | apply Rws'.nil | (apply Rws'.one; rfl; rfl; rfl) ))); rfl; rfl; rfl; rfl; intro bx) ))
  refine wo_still (ao := some ⟨bx, 0, none⟩) (n := 1) (c := 1) (by (repeat (first | apply sel_here )); done) (fun R1 hS1 => ?_)
  have wR2 := wR _ _ _ hS1.sq
  have hy1 : sb ⟨#[129, 206, 0, 2, 0, 0, 0, 1, 0, 0, 0, 2]⟩ (Int.toNat 1) = 206 := by decide
  have hy2 : (⟨#[129, 206, 0, 2, 0, 0, 0, 1, 0, 0, 0, 2]⟩ : ByteArray).size = 12 := rfl
  generalize (⟨#[129, 206, 0, 2, 0, 0, 0, 1, 0, 0, 0, 2]⟩ : ByteArray) = y at wR2 hy1 hy2
  (refine wo_call (wR2) rfl (by (repeat (first | apply sub_nil )); done) (by first | exact fun _ h => h | (intro r hr; cases hr; done) | (simp; done) | exact fun _ h => List.mem_append_left _ h | (intro r hr; simp [hr]; done)) rfl ?_; rintro v L' R' ⟨rfl, rfl, rfl⟩ H' hH RR hR; simp only [List.cons_append, List.nil_append] at hH hR; subst hH; have hR := hR.symm; subst hR)
  (repeat (first | ((first | (apply wo_v; rfl) ); (· first | (apply pv_ev; rfl) | (apply g_pick; first | (apply pv_pick_t; rfl; rfl) ) | (apply pv_index_sn; rfl; rfl; omega) | (apply pv_index_s; rfl; rfl; omega) )) | apply wo_nil | apply wc_ret | (apply wo_run; rfl; rfl) ))
  exact ret1 rfl rfl ⟨by rw [hy1]; simp, rfl, rfl⟩ ((by (repeat (first | apply sub_nil )); done) : List.Perm _ ([] ++ _)) (by first | exact fun _ h => h | (intro r hr; cases hr; done) | (simp; done) | exact fun _ h => List.mem_append_left _ h | (intro r hr; simp [hr]; done))
end Go.Proofs.Ytlhlidmhlhodiaa
