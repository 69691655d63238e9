/-
  What a call leaves is as it should be.
-/
import Derived.Test.YtbhegdlpmeeekaaQueueLaws
namespace Go.Proofs.Ytbhegdlpmeeekaa
set_option linter.unusedSimpArgs false
set_option linter.unusedVariables false
open Go.RowKit
attribute [local irreducible] Pv WO WC Fn
set_option maxRecDepth 100000

theorem allS_of {l : List It4} {mo : Int} (h1 : Pos l) (h2 : sumS l ≤ mo) (hmo : mo ≤ 16777216) (h3 : (l.length : Int) ≤ 1024) : allS l := ⟨h1, by omega, by omega⟩
theorem Pos.sub {a b : List It4} (h : Pos (a ++ b)) : Pos b := fun x hx => h x (List.mem_append_right _ hx)
theorem sumS_le {a b : List It4} (h : Pos (a ++ b)) : sumS b ≤ sumS (a ++ b) := by
  rw [sumS_app]
  have := sumS_pos (l := a) fun x hx => h x (List.mem_append_left _ hx)
  omega
theorem QOk.suffix {fr mo age : Int} {a b : List It4} {bk bk' : Bool} {now N : Int} (h : QOk fr mo age ⟨a ++ b, bk, now, N⟩) : QOk fr mo age ⟨b, bk', now, N⟩ := by
  obtain ⟨h1, h2, h3, h4, h5, h6, h7, h8, h9⟩ := h
  simp only [List.length_append] at h3 h4 h5 h6 h7
  have hs := sumS_le h3.1
  have hb : (b.length : Int) ≤ 1024 := by have := h1.2; omega
  exact ⟨h1, h2, allS_of h3.1.sub (Int.le_trans hs h5) h2.2 hb, by show (b.length : Int) ≤ fr; omega, Int.le_trans hs h5, fun x hx => h6 x (List.mem_append_right _ hx), fun x hx => h7 x (List.mem_append_right _ hx), h8, h9⟩
theorem QOk.later {fr mo age : Int} {l : List It4} {bk : Bool} {now N now' N' : Int} (h : QOk fr mo age ⟨l, bk, now, N⟩) (h1 : now ≤ now' ∧ now' ≤ 100000) (h2 : N ≤ N' ∧ N' ≤ 100000) : QOk fr mo age ⟨l, bk, now', N'⟩ := by
  obtain ⟨g1, g2, g3, g4, g5, g6, g7, g8, g9⟩ := h
  exact ⟨g1, g2, g3, g4, g5, fun x hx => by have := g6 x hx; simp only at *; omega, fun x hx => by have := g7 x hx; simp only at *; omega, by simp only at *; omega, by simp only at *; omega⟩
theorem QOk.bk' {fr mo age : Int} {l : List It4} {bk bk' : Bool} {now N : Int} (h : QOk fr mo age ⟨l, bk, now, N⟩) : QOk fr mo age ⟨l, bk', now, N⟩ := QOk.suffix (a := []) h
theorem QOk.nil {fr mo age : Int} {bk bk' : Bool} {l : List It4} {now N : Int} (h : QOk fr mo age ⟨l, bk, now, N⟩) : QOk fr mo age ⟨[], bk', now, N⟩ := QOk.suffix (a := l) (b := []) (bk := bk) (by rw [List.append_nil]; exact h)
/-- what a call leaves is as it should be -/
theorem doesM_ok {fr mo age : Int} {s : QS} (h : QOk fr mo age s) (hnow : s.now + 15 ≤ 100000) (hN : s.N + 1 ≤ 100000) (k z : Int) (key : Bool) :
    QOk fr mo age (doesM fr mo age s k z key).1 ∧ s.now ≤ (doesM fr mo age s k z key).1.now ∧ (doesM fr mo age s k z key).1.now ≤ s.now + 15 ∧ s.N ≤ (doesM fr mo age s k z key).1.N ∧ (doesM fr mo age s k z key).1.N ≤ s.N + 1 := by
  obtain ⟨l, bk, now, N⟩ := s
  simp only at hnow hN
  have h15 := and_15 z
  have hh := h
  obtain ⟨g1, g2, g3, g4, g5, g6, g7, g8, g9⟩ := hh
  simp only at g3 g4 g5 g6 g7 g8 g9
  unfold doesM
  by_cases h1 : k = 1
  · rw [if_pos h1]
    refine ⟨?_, by dsimp only; omega, by dsimp only; omega, by dsimp only; omega, by dsimp only; omega⟩
    rcases putM_spec fr mo l bk (N + 1, z, now, key) with ⟨_, e⟩ | ⟨_, hz0, hz1, l1, e, e2, e3⟩
    · have h2 : QOk fr mo age ⟨(putM fr mo l bk (N + 1, z, now, key)).1 ++ (putM fr mo l bk (N + 1, z, now, key)).2.2.1, bk, now, N⟩ := by rw [e]; exact h
      exact h2.suffix.later (by dsimp only; omega) (by dsimp only; omega)
    · have h2 : QOk fr mo age ⟨(putM fr mo l bk (N + 1, z, now, key)).1 ++ l1, bk, now, N⟩ := by rw [e]; exact h
      have h3 := h2.suffix (bk' := bk)
      obtain ⟨f1, f2, f3, f4, f5, f6, f7, f8, f9⟩ := h3
      simp only at f3 f4 f5 f6 f7 hz0 hz1 e3
      have hlen : ((l1 ++ [(N + 1, z, now, key)]).length : Int) ≤ fr := by
        rw [List.length_append, List.length_singleton]
        rcases e3 with rfl | e3
        · simp; omega
        · omega
      have hsum : sumS (l1 ++ [(N + 1, z, now, key)]) ≤ mo := by
        rw [sumS_app]
        simp only [sumS]
        rcases e3 with rfl | e3
        · simp only [sumS]; omega
        · omega
      have hpos : Pos (l1 ++ [(N + 1, z, now, key)]) := fun x hx => by
        rcases List.mem_append.1 hx with hx | hx
        · exact f3.1 x hx
        · rw [List.mem_singleton.1 hx]; exact hz0
      rw [e2]
      have hb : ((l1 ++ [(N + 1, z, now, key)]).length : Int) ≤ 1024 := by omega
      refine ⟨f1, f2, allS_of hpos hsum f2.2 hb, hlen, hsum, fun x hx => ?_, fun x hx => ?_, by dsimp only; omega, by dsimp only; omega⟩
      · rcases List.mem_append.1 hx with hx | hx
        · have := f6 x hx; simp only; omega
        · rw [List.mem_singleton.1 hx]; simp only; omega
      · rcases List.mem_append.1 hx with hx | hx
        · have := f7 x hx; simp only; omega
        · rw [List.mem_singleton.1 hx]; simp only; omega
  rw [if_neg h1]
  by_cases h2 : k = 2
  · rw [if_pos h2]
    refine ⟨?_, by dsimp only; omega, by dsimp only; omega, by dsimp only; omega, by dsimp only; omega⟩
    cases l with
    | nil => exact h.bk'
    | cons x t => exact QOk.suffix (a := [x]) h
  rw [if_neg h2]
  by_cases h3 : k = 3
  · rw [if_pos h3]
    refine ⟨?_, by dsimp only; omega, by dsimp only; omega, by dsimp only; omega, by dsimp only; omega⟩
    have e := (expG_spec (now + bits .and .i64 z 15) age l.length l bk (Nat.le_refl _)).1
    have h4 : QOk fr mo age ⟨(expG (now + bits .and .i64 z 15) age l bk).1 ++ (expG (now + bits .and .i64 z 15) age l bk).2.1, bk, now, N⟩ := by rw [e]; exact h
    exact h4.suffix.later (by dsimp only; omega) (by dsimp only; omega)
  rw [if_neg h3]
  by_cases h4 : k = 4
  · rw [if_pos h4]
    exact ⟨h.nil, by dsimp only; omega, by dsimp only; omega, by dsimp only; omega, by dsimp only; omega⟩
  rw [if_neg h4]
  exact ⟨h, by dsimp only; omega, by dsimp only; omega, by dsimp only; omega, by dsimp only; omega⟩
def qseg (kd sz : Nat → Int) (ky : Nat → Bool) (n : Nat) : List (List Value) := (List.range n).map fun i => [.int .i64 (kd i), .int .i64 (sz i), .bool (ky i)]
theorem qseg_at {kd sz : Nat → Int} {ky : Nat → Bool} {n i : Nat} (h : i < n) : (qseg kd sz ky n)[i]? = some [.int .i64 (kd i), .int .i64 (sz i), .bool (ky i)] := by simp [qseg, h]
theorem rws_act {w : World} {A : Option Addr} {n c : Nat} {V : Nat → Nat → Value} (h : Rws [.int .i64, .int .i64, .bool] w A n c V) :
    ∃ (kd sz : Nat → Int) (ky : Nat → Bool) (R : List Ro), (∀ r ∈ R, r.sat w) ∧ (0 < n → ∃ b o, A = some ⟨b, o, none⟩ ∧ ⟨b, o, 3, qseg kd sz ky n⟩ ∈ R) := by
  obtain ⟨R, hR, h0⟩ := rws_ro h (by simp)
  obtain ⟨_, _, _, h4⟩ := h
  let f (j i : Nat) : Int := match V i j with | .int _ z => z | _ => 0
  let g (i : Nat) : Bool := match V i 2 with | .bool z => z | _ => false
  refine ⟨f 0, f 1, g, R, hR, fun hn => ?_⟩
  obtain ⟨b, o, hA, hm⟩ := h0 hn
  refine ⟨b, o, hA, ?_⟩
  have e : rowsOf [.int .i64, .int .i64, .bool] V n = qseg (f 0) (f 1) g n := by
    unfold rowsOf qseg
    refine List.map_congr_left fun i hi => ?_
    obtain ⟨z0, hz0, _⟩ := h4 i 0 _ (List.mem_range.1 hi) rfl
    obtain ⟨z1, hz1, _⟩ := h4 i 1 _ (List.mem_range.1 hi) rfl
    obtain ⟨z2, hz2⟩ := h4 i 2 _ (List.mem_range.1 hi) rfl
    simp [f, g, hz0, hz1, hz2, List.range_succ]
  rw [← e]; exact hm
end Go.Proofs.Ytbhegdlpmeeekaa
