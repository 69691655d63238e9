/-
  The laws' own helpers over gates: awake, does.
-/
import Derived.Test.YtdjbdlfdknfcaaaGate2
import Derived.Test.YtdjbdlfdknfcaaaMem2
namespace Go.Proofs.Ytdjbdlfdknfcaaa
set_option linter.unusedSimpArgs false
set_option linter.unusedVariables false
open Go.RowKit

theorem gNew (vid : Bool) (n : Int) (w : World) :
    Calls Try.prog 16 #[.bool vid, .int .i64 n] w fun e w' => ∃ g, e = .returned (.pointer (some ⟨g, 0, none⟩)) ∧ GB w' g ⟨vid, false, -1, max n 0, 0, 0⟩ ∧ w.heap.size ≤ g ∧ Below w.heap.size w w' := by
  by_cases h0 : 0 ≤ n
  · rw [Int.max_eq_left h0]
    go_enter Try.func16, Try.ntmps16
    go_wp2
    go_ret
    exact ⟨_, rfl, ⟨0, Blk.new _ _ _, fun h => absurd h (by show ¬ (0 : Int) ≤ -1; omega)⟩, Nat.le_refl _, (Below.refl _ _).alloc (Nat.le_refl _) _⟩
  · rw [Int.max_eq_right (by omega)]
    go_enter Try.func16, Try.ntmps16
    go_wp2
    go_ret
    exact ⟨_, rfl, ⟨0, Blk.new _ _ _, fun h => absurd h (by show ¬ (0 : Int) ≤ -1; omega)⟩, Nat.le_refl _, (Below.refl _ _).alloc (Nat.le_refl _) _⟩

theorem gPassV (x y : RG) (lay : Int) (key r : Bool) (h0 : x.pass lay key = (y, r)) (g : Nat) (w : World) (h : GB w g x) (ho : x.ok) (hl : 0 ≤ lay) :
    Calls Try.prog 19 #[.pointer (some ⟨g, 0, none⟩), .int .i64 lay, .bool key] w fun e w' => e = .returned (.bool r) ∧ GB w' g y ∧ w.grownBy w' (some g) := by
  have := gPass x lay key g w h ho hl
  rwa [h0] at this

set_option maxHeartbeats 1000000 in
theorem awake14 (w : World) : Calls Try.prog 15 #[] w fun e w' => e = .returned (.bool true) ∧ Below w.heap.size w w' := by
  go_enter Try.func15, Try.ntmps15
  go_wp2_with (go_at_call 16; refine (gNew _ _ _).mono ?_; rintro e w1 ⟨g, rfl, hG, hg, hb⟩; have HG := hide hG; have HB := hide hb; clear hG hb)
  refine (gPassV _ ⟨true, false, -1, 1, 0, 0⟩ 1 false false (by decide) g _ HG.out (by decide) (by decide)).mono ?_
  rintro e w2 ⟨rfl, hG2, hg2⟩
  go_wp2_with fail
  refine (gPassV _ ⟨true, false, -1, 1, 0, 0⟩ 0 true false (by decide) g _ hG2 (by decide) (by decide)).mono ?_
  rintro e w3 ⟨rfl, hG3, hg3⟩
  go_wp2_with fail
  refine (gPassV _ ⟨true, false, 1, 1, 0, 0⟩ 1 true true (by decide) g _ hG3 (by decide) (by decide)).mono ?_
  rintro e w4 ⟨rfl, hG4, hg4⟩
  go_wp2_with fail
  refine (gPassV _ ⟨true, false, 1, 1, 0, 0⟩ 1 false true (by decide) g _ hG4 (by decide) (by decide)).mono ?_
  rintro e w5 ⟨rfl, hG5, hg5⟩
  go_wp2_with fail
  go_ret
  have b1 := HB.out
  have b2 := b_grown b1 hg2 b1.size hg
  have b3 := b_grown b2 hg3 b2.size hg
  have b4 := b_grown b3 hg4 b3.size hg
  exact ⟨rfl, b_grown b4 hg5 b4.size hg⟩

/-- what 'does' does -/
def RG.does (x : RG) (kd ly : Int) (key on : Bool) : RG × Bool :=
  if kd = 1 then x.pass (ly % 4) key
  else if kd = 2 then ({ x with aim := max ly 0 }, false)
  else if kd = 3 then (x.close, false)
  else if kd = 4 then (if on then ({ x.close with pau := true }, false) else ({ x with pau := false }, false))
  else (x, false)

theorem and_3 (x : Int) : bits .and .i64 x 3 = x % 4 := and_ones x 2 (by omega)

set_option maxRecDepth 100000 in
set_option maxHeartbeats 1000000 in
theorem does1 (x : RG) (ly : Int) (key on : Bool) (g : Nat) (w : World) (h : GB w g x) (ho : x.ok) :
    Calls Try.prog 17 #[.pointer (some ⟨g, 0, none⟩), .agg x.vals, .agg #[.int .i64 1, .int .i64 ly, .bool key, .bool on]] w fun e w' =>
      e = .returned (.tuple #[.agg (x.pass (ly % 4) key).1.vals, .bool (x.pass (ly % 4) key).2, .bool true]) ∧ GB w' g (x.pass (ly % 4) key).1 ∧ w.grownBy w' (some g) := by
  have hlt := h.lt
  have H := hide h
  have HO := hide ho
  clear h ho
  obtain ⟨y, r, hp⟩ : ∃ y r, x.pass (ly % 4) key = (y, r) := ⟨_, _, rfl⟩
  rw [hp]
  have HP := hide hp
  clear hp
  have b3 := and_3 ly
  have H1 : Hid (∀ W, GB W g x → Calls Try.prog 19 #[.pointer (some ⟨g, 0, none⟩), .int .i64 (ly % 4), .bool key] W fun e w' => e = .returned (.bool r) ∧ GB w' g y ∧ W.grownBy w' (some g)) :=
    fun W hW => gPassV x y _ key r HP.out g W hW HO.out (by omega)
  have H2 : Hid (∀ W, Calls Try.prog 49 #[.agg x.vals, .int .i64 (ly % 4), .bool key] W fun e w' => e = .returned (.tuple #[.agg y.vals, .bool r]) ∧ Below W.heap.size W w') := by
    intro W
    have := rPass x (ly % 4) key W HO.out
    rwa [HP.out] at this
  obtain ⟨xv, xp, xa, xm, xs, xt⟩ := x
  obtain ⟨yv, yp, ya, ym, ys, yt⟩ := y
  simp only [RG.vals] at H2 ⊢
  go_enter Try.func17, Try.ntmps17
  go_wp2_with (first
    | (go_at_call 19; refine (H1.out _ (((H.out.alloc _).alloc _).alloc _)).mono ?_; rintro e w1 ⟨rfl, hG, hg⟩; obtain ⟨q0a, q0b, q0c⟩ := gnew (b := w.heap.size) hg (n := w.heap.size) hlt (by omega) (by simp <;> omega); obtain ⟨q1a, q1b, q1c⟩ := gnew (b := w.heap.size + 1) hg (n := w.heap.size) hlt (by omega) (by simp <;> omega); obtain ⟨q2a, q2b, q2c⟩ := gnew (b := w.heap.size + 1 + 1) hg (n := w.heap.size) hlt (by omega) (by simp <;> omega); have HG := hide hG; have HB := hide hg; clear hG hg)
    | (go_at_call 49; refine (H2.out _).mono ?_; rintro e w2 ⟨rfl, hb⟩; obtain ⟨r0a, r0b, r0c⟩ := bnew (b := w.heap.size) hb (by omega); obtain ⟨r1a, r1b, r1c⟩ := bnew (b := w.heap.size + 1) hb (by omega); obtain ⟨r2a, r2b, r2c⟩ := bnew (b := w.heap.size + 1 + 1) hb (by omega); have HB2 := hide hb; clear hb))
  have G2 := HG.out.below HB2.out HG.out.lt
  have B2 : w.grownBy w2 (some g) := g_trans (g_trans (by repeat (first | with_reducible exact g_refl _ _ | with_reducible assumption | with_reducible refine g_new ?_ (by simp <;> omega) _ | with_reducible refine g_alloc ?_ _ | with_reducible refine g_drewN ?_ _ | with_reducible refine g_drew ?_)) HB.out) (g_below HB2.out _)
  exact bodyPost_ret (v := .tuple #[.agg #[.bool yv, .bool yp, .int .i64 ya, .int .i64 ym, .int .i64 ys, .int .i64 yt], .bool r, .bool true]) (by simp [results, Try.results17, go_sem, r2a, r2c, q2a, q2c]) rfl ⟨rfl, (by repeat (first | with_reducible assumption | with_reducible refine GB.far ?_ (by simp <;> omega) _ | with_reducible refine GB.alloc ?_ _ | with_reducible refine GB.drewN ?_ _)), (by repeat (first | with_reducible exact g_refl _ _ | with_reducible assumption | with_reducible refine g_new ?_ (by simp <;> omega) _ | with_reducible refine g_alloc ?_ _ | with_reducible refine g_drewN ?_ _ | with_reducible refine g_drew ?_))⟩

end Go.Proofs.Ytdjbdlfdknfcaaa
