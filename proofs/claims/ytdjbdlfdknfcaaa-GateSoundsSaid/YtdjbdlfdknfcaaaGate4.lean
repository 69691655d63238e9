/-
  The laws' helper 'does', its other kinds. (Written by wip/gen/gate3.py.)
-/
import Derived.Test.YtdjbdlfdknfcaaaGate3
import Derived.Deep.DeepCutAuto
namespace Go.Proofs.Ytdjbdlfdknfcaaa
set_option linter.unusedSimpArgs false
set_option linter.unusedVariables false
open Go.RowKit

set_option maxRecDepth 100000 in
set_option maxHeartbeats 1000000 in
theorem does2a (x : RG) (ly : Int) (key on : Bool) (g : Nat) (w : World) (h : GB w g x) (ho : x.ok) (h0 : 0 ≤ ly) :
    Calls Try.prog 17 #[.pointer (some ⟨g, 0, none⟩), .agg x.vals, .agg #[.int .i64 2, .int .i64 ly, .bool key, .bool on]] w fun e w' =>
      e = .returned (.tuple #[.agg (RG.vals { x with aim := max ly 0 }), .bool false, .bool true]) ∧ GB w' g { x with aim := max ly 0 } ∧ w.grownBy w' (some g) := by
  have hlt := h.lt
  have H := hide h
  have HO := hide ho
  clear h ho
  have b3 := and_3 ly
  obtain ⟨y, hy⟩ : ∃ y, { x with aim := max ly 0 } = y := ⟨_, rfl⟩
  rw [hy]
  have H1 : Hid (∀ W, GB W g x → Calls Try.prog 20 #[.pointer (some ⟨g, 0, none⟩), .int .i64 ly] W fun e w' => e = .returned (.tuple #[]) ∧ GB w' g y ∧ W.grownBy w' (some g)) := by
    intro W hW
    rw [← hy]
    exact gWant x ly g W hW
  have HY := hide hy
  clear hy
  obtain ⟨xv, xp, xa, xm, xs, xt⟩ := x
  obtain ⟨yv, yp, ya, ym, ys, yt⟩ := y
  simp only [RG.vals]
  have HY' := HY.out
  rw [Int.max_eq_left h0] at HY'
  simp only [RG.mk.injEq] at HY'
  obtain ⟨rfl, rfl, rfl, rfl, rfl, rfl⟩ := HY'
  clear HY
  go_enter Try.func17, Try.ntmps17
  go_wp2_with (go_at_call 20; refine (H1.out _ (((H.out.alloc _).alloc _).alloc _)).mono ?_; rintro e w1 ⟨rfl, hG, hg⟩; have K0 := Blk.grown (row := some g) (((Blk.new w _ _).alloc _).alloc _) hg (neg_ hlt (by omega)); have K1 := Blk.grown (row := some g) ((Blk.newAt (w.alloc _) _ _ (w.heap.size + 1) (by simp)).alloc _) hg (neg_ hlt (by omega)); have K2 := Blk.grown (row := some g) (Blk.newAt ((w.alloc _).alloc _) _ _ (w.heap.size + 1 + 1) (by simp)) hg (neg_ hlt (by omega)); obtain ⟨f0a, l0a, p0a, p1a, p2a, p3a, p4a, p5a⟩ := Blk.f6 K0; obtain ⟨f1a, l1a, m0a, m1a, m2a, m3a⟩ := Blk.f4 K1; obtain ⟨f2a, l2a, o0a, o1a, o2a, o3a, o4a, o5a⟩ := Blk.f6 K2; have K0 := hide K0; have K1 := hide K1; have K2 := hide K2; have HG := hide hG; have HB := hide hg; clear hG hg)
  have G2 := HG.out
  have B2 : w.grownBy w1 (some g) := g_trans (by repeat (first | with_reducible exact g_refl _ _ | with_reducible assumption | with_reducible refine g_new ?_ (by simp <;> omega) _ | with_reducible refine g_alloc ?_ _ | with_reducible refine g_drewN ?_ _ | with_reducible refine g_drew ?_)) HB.out
  exact bodyPost_ret (v := .tuple #[.agg #[.bool xv, .bool xp, .int .i64 xa, .int .i64 ly, .int .i64 xs, .int .i64 xt], .bool false, .bool true]) (by simp [results, Try.results17, go_sem, l2a, o0a, o1a, o2a, o3a, o4a, o5a]) rfl ⟨rfl, (by repeat (first | with_reducible assumption | with_reducible refine GB.far ?_ (by simp <;> omega) _ | with_reducible refine GB.alloc ?_ _ | with_reducible refine GB.drewN ?_ _)), (by repeat (first | with_reducible exact g_refl _ _ | with_reducible assumption | with_reducible refine g_new ?_ (by simp <;> omega) _ | with_reducible refine g_alloc ?_ _ | with_reducible refine g_drewN ?_ _ | with_reducible refine g_drew ?_))⟩

set_option maxRecDepth 100000 in
set_option maxHeartbeats 1000000 in
theorem does2b (x : RG) (ly : Int) (key on : Bool) (g : Nat) (w : World) (h : GB w g x) (ho : x.ok) (h0 : ly < 0) :
    Calls Try.prog 17 #[.pointer (some ⟨g, 0, none⟩), .agg x.vals, .agg #[.int .i64 2, .int .i64 ly, .bool key, .bool on]] w fun e w' =>
      e = .returned (.tuple #[.agg (RG.vals { x with aim := max ly 0 }), .bool false, .bool true]) ∧ GB w' g { x with aim := max ly 0 } ∧ w.grownBy w' (some g) := by
  have hlt := h.lt
  have H := hide h
  have HO := hide ho
  clear h ho
  have b3 := and_3 ly
  obtain ⟨y, hy⟩ : ∃ y, { x with aim := max ly 0 } = y := ⟨_, rfl⟩
  rw [hy]
  have H1 : Hid (∀ W, GB W g x → Calls Try.prog 20 #[.pointer (some ⟨g, 0, none⟩), .int .i64 ly] W fun e w' => e = .returned (.tuple #[]) ∧ GB w' g y ∧ W.grownBy w' (some g)) := by
    intro W hW
    rw [← hy]
    exact gWant x ly g W hW
  have HY := hide hy
  clear hy
  obtain ⟨xv, xp, xa, xm, xs, xt⟩ := x
  obtain ⟨yv, yp, ya, ym, ys, yt⟩ := y
  simp only [RG.vals]
  have HY' := HY.out
  rw [Int.max_eq_right (by omega)] at HY'
  simp only [RG.mk.injEq] at HY'
  obtain ⟨rfl, rfl, rfl, rfl, rfl, rfl⟩ := HY'
  clear HY
  go_enter Try.func17, Try.ntmps17
  go_wp2_with (go_at_call 20; refine (H1.out _ (((H.out.alloc _).alloc _).alloc _)).mono ?_; rintro e w1 ⟨rfl, hG, hg⟩; have K0 := Blk.grown (row := some g) (((Blk.new w _ _).alloc _).alloc _) hg (neg_ hlt (by omega)); have K1 := Blk.grown (row := some g) ((Blk.newAt (w.alloc _) _ _ (w.heap.size + 1) (by simp)).alloc _) hg (neg_ hlt (by omega)); have K2 := Blk.grown (row := some g) (Blk.newAt ((w.alloc _).alloc _) _ _ (w.heap.size + 1 + 1) (by simp)) hg (neg_ hlt (by omega)); obtain ⟨f0a, l0a, p0a, p1a, p2a, p3a, p4a, p5a⟩ := Blk.f6 K0; obtain ⟨f1a, l1a, m0a, m1a, m2a, m3a⟩ := Blk.f4 K1; obtain ⟨f2a, l2a, o0a, o1a, o2a, o3a, o4a, o5a⟩ := Blk.f6 K2; have K0 := hide K0; have K1 := hide K1; have K2 := hide K2; have HG := hide hG; have HB := hide hg; clear hG hg)
  have G2 := HG.out
  have B2 : w.grownBy w1 (some g) := g_trans (by repeat (first | with_reducible exact g_refl _ _ | with_reducible assumption | with_reducible refine g_new ?_ (by simp <;> omega) _ | with_reducible refine g_alloc ?_ _ | with_reducible refine g_drewN ?_ _ | with_reducible refine g_drew ?_)) HB.out
  exact bodyPost_ret (v := .tuple #[.agg #[.bool xv, .bool xp, .int .i64 xa, .int .i64 0, .int .i64 xs, .int .i64 xt], .bool false, .bool true]) (by simp [results, Try.results17, go_sem, l2a, o0a, o1a, o2a, o3a, o4a, o5a]) rfl ⟨rfl, (by repeat (first | with_reducible assumption | with_reducible refine GB.far ?_ (by simp <;> omega) _ | with_reducible refine GB.alloc ?_ _ | with_reducible refine GB.drewN ?_ _)), (by repeat (first | with_reducible exact g_refl _ _ | with_reducible assumption | with_reducible refine g_new ?_ (by simp <;> omega) _ | with_reducible refine g_alloc ?_ _ | with_reducible refine g_drewN ?_ _ | with_reducible refine g_drew ?_))⟩

set_option maxRecDepth 100000 in
set_option maxHeartbeats 1000000 in
theorem does3 (x : RG) (ly : Int) (key on : Bool) (g : Nat) (w : World) (h : GB w g x) (ho : x.ok)  :
    Calls Try.prog 17 #[.pointer (some ⟨g, 0, none⟩), .agg x.vals, .agg #[.int .i64 3, .int .i64 ly, .bool key, .bool on]] w fun e w' =>
      e = .returned (.tuple #[.agg (RG.vals x.close), .bool false, .bool true]) ∧ GB w' g x.close ∧ w.grownBy w' (some g) := by
  have hlt := h.lt
  have H := hide h
  have HO := hide ho
  clear h ho
  have b3 := and_3 ly
  obtain ⟨y, hy⟩ : ∃ y, x.close = y := ⟨_, rfl⟩
  rw [hy]
  have H1 : Hid (∀ W, GB W g x → Calls Try.prog 50 #[.pointer (some ⟨g, 0, none⟩)] W fun e w' => e = .returned (.tuple #[]) ∧ GB w' g y ∧ W.grownBy w' (some g)) := by
    intro W hW
    rw [← hy]
    exact gClose x g W hW HO.out
  obtain ⟨z, hz⟩ : ∃ z, x.close = z := ⟨_, rfl⟩
  have H2 : Hid (∀ W, Calls Try.prog 51 #[.agg x.vals] W fun e w' => e = .returned (.agg z.vals) ∧ Below W.heap.size W w') := by
    intro W
    rw [← hz]
    exact rClose x W HO.out
  have HY := hide hy
  clear hy
  have HZ := hide hz
  clear hz
  obtain ⟨zv, zp, za, zm, zs, zt⟩ := z
  obtain ⟨xv, xp, xa, xm, xs, xt⟩ := x
  obtain ⟨yv, yp, ya, ym, ys, yt⟩ := y
  simp only [RG.vals] at H2 ⊢
  have HY' := HY.out
  rw [HZ.out] at HY'
  simp only [RG.mk.injEq] at HY'
  obtain ⟨rfl, rfl, rfl, rfl, rfl, rfl⟩ := HY'
  clear HY
  go_enter Try.func17, Try.ntmps17
  go_wp2_with (first | (go_at_call 50; refine (H1.out _ (((H.out.alloc _).alloc _).alloc _)).mono ?_; rintro e w1 ⟨rfl, hG, hg⟩; have K0 := Blk.grown (row := some g) (((Blk.new w _ _).alloc _).alloc _) hg (neg_ hlt (by omega)); have K1 := Blk.grown (row := some g) ((Blk.newAt (w.alloc _) _ _ (w.heap.size + 1) (by simp)).alloc _) hg (neg_ hlt (by omega)); have K2 := Blk.grown (row := some g) (Blk.newAt ((w.alloc _).alloc _) _ _ (w.heap.size + 1 + 1) (by simp)) hg (neg_ hlt (by omega)); obtain ⟨f0a, l0a, p0a, p1a, p2a, p3a, p4a, p5a⟩ := Blk.f6 K0; obtain ⟨f1a, l1a, m0a, m1a, m2a, m3a⟩ := Blk.f4 K1; obtain ⟨f2a, l2a, o0a, o1a, o2a, o3a, o4a, o5a⟩ := Blk.f6 K2; have K0 := hide K0; have K1 := hide K1; have K2 := hide K2; have HG := hide hG; have HB := hide hg; clear hG hg) | (go_at_call 51; refine (H2.out _).mono ?_; rintro e w2 ⟨rfl, hb⟩; have K0 := K0.out.below hb K0.out.lt; have K1 := K1.out.below hb K1.out.lt; have K2 := K2.out.below hb K2.out.lt; obtain ⟨f0b, l0b, p0b, p1b, p2b, p3b, p4b, p5b⟩ := Blk.f6 K0; obtain ⟨f1b, l1b, m0b, m1b, m2b, m3b⟩ := Blk.f4 K1; obtain ⟨f2b, l2b, o0b, o1b, o2b, o3b, o4b, o5b⟩ := Blk.f6 K2; have K0 := hide K0; have K1 := hide K1; have K2 := hide K2; have HB2 := hide hb; clear hb))
  have G2 := HG.out.below HB2.out HG.out.lt
  have B2 : w.grownBy w2 (some g) := g_trans (g_trans (by repeat (first | with_reducible exact g_refl _ _ | with_reducible assumption | with_reducible refine g_new ?_ (by simp <;> omega) _ | with_reducible refine g_alloc ?_ _ | with_reducible refine g_drewN ?_ _ | with_reducible refine g_drew ?_)) HB.out) (g_below HB2.out _)
  exact bodyPost_ret (v := .tuple #[.agg #[.bool zv, .bool zp, .int .i64 za, .int .i64 zm, .int .i64 zs, .int .i64 zt], .bool false, .bool true]) (by simp [results, Try.results17, go_sem, l2b, o0b, o1b, o2b, o3b, o4b, o5b]) rfl ⟨rfl, (by repeat (first | with_reducible assumption | with_reducible refine GB.far ?_ (by simp <;> omega) _ | with_reducible refine GB.alloc ?_ _ | with_reducible refine GB.drewN ?_ _)), (by repeat (first | with_reducible exact g_refl _ _ | with_reducible assumption | with_reducible refine g_new ?_ (by simp <;> omega) _ | with_reducible refine g_alloc ?_ _ | with_reducible refine g_drewN ?_ _ | with_reducible refine g_drew ?_))⟩

set_option maxRecDepth 100000 in
set_option maxHeartbeats 1000000 in
theorem does4a (x : RG) (ly : Int) (key : Bool) (g : Nat) (w : World) (h : GB w g x) (ho : x.ok)  :
    Calls Try.prog 17 #[.pointer (some ⟨g, 0, none⟩), .agg x.vals, .agg #[.int .i64 4, .int .i64 ly, .bool key, .bool true]] w fun e w' =>
      e = .returned (.tuple #[.agg (RG.vals { x.close with pau := true }), .bool false, .bool true]) ∧ GB w' g { x.close with pau := true } ∧ w.grownBy w' (some g) := by
  have hlt := h.lt
  have H := hide h
  have HO := hide ho
  clear h ho
  have b3 := and_3 ly
  obtain ⟨y, hy⟩ : ∃ y, { x.close with pau := true } = y := ⟨_, rfl⟩
  rw [hy]
  have H1 : Hid (∀ W, GB W g x → Calls Try.prog 30 #[.pointer (some ⟨g, 0, none⟩), .bool true] W fun e w' => e = .returned (.tuple #[]) ∧ GB w' g y ∧ W.grownBy w' (some g)) := by
    intro W hW
    rw [← hy]
    exact gPauseOn x g W hW HO.out
  obtain ⟨z, hz⟩ : ∃ z, x.close = z := ⟨_, rfl⟩
  have H2 : Hid (∀ W, Calls Try.prog 51 #[.agg x.vals] W fun e w' => e = .returned (.agg z.vals) ∧ Below W.heap.size W w') := by
    intro W
    rw [← hz]
    exact rClose x W HO.out
  have HY := hide hy
  clear hy
  have HZ := hide hz
  clear hz
  obtain ⟨zv, zp, za, zm, zs, zt⟩ := z
  obtain ⟨xv, xp, xa, xm, xs, xt⟩ := x
  obtain ⟨yv, yp, ya, ym, ys, yt⟩ := y
  simp only [RG.vals] at H2 ⊢
  have HY' := HY.out
  rw [HZ.out] at HY'
  simp only [RG.mk.injEq] at HY'
  obtain ⟨rfl, rfl, rfl, rfl, rfl, rfl⟩ := HY'
  clear HY
  go_enter Try.func17, Try.ntmps17
  go_upto_region 17 with (first | (go_at_call 30; refine (H1.out _ (((H.out.alloc _).alloc _).alloc _)).mono ?_; rintro e w1 ⟨rfl, hG, hg⟩; have K0 := Blk.grown (row := some g) (((Blk.new w _ _).alloc _).alloc _) hg (neg_ hlt (by omega)); have K1 := Blk.grown (row := some g) ((Blk.newAt (w.alloc _) _ _ (w.heap.size + 1) (by simp)).alloc _) hg (neg_ hlt (by omega)); have K2 := Blk.grown (row := some g) (Blk.newAt ((w.alloc _).alloc _) _ _ (w.heap.size + 1 + 1) (by simp)) hg (neg_ hlt (by omega)); obtain ⟨f0a, l0a, p0a, p1a, p2a, p3a, p4a, p5a⟩ := Blk.f6 K0; obtain ⟨f1a, l1a, m0a, m1a, m2a, m3a⟩ := Blk.f4 K1; obtain ⟨f2a, l2a, o0a, o1a, o2a, o3a, o4a, o5a⟩ := Blk.f6 K2; have K0 := hide K0; have K1 := hide K1; have K2 := hide K2; have HG := hide hG; have HB := hide hg; clear hG hg) | (go_at_call 51; refine (H2.out _).mono ?_; rintro e w2 ⟨rfl, hb⟩; have K0 := K0.out.below hb K0.out.lt; have K1 := K1.out.below hb K1.out.lt; have K2 := K2.out.below hb K2.out.lt; obtain ⟨f0b, l0b, p0b, p1b, p2b, p3b, p4b, p5b⟩ := Blk.f6 K0; obtain ⟨f1b, l1b, m0b, m1b, m2b, m3b⟩ := Blk.f4 K1; obtain ⟨f2b, l2b, o0b, o1b, o2b, o3b, o4b, o5b⟩ := Blk.f6 K2; have K0 := hide K0; have K1 := hide K1; have K2 := hide K2; have HB2 := hide hb; clear hb))
  have G2 := HG.out.below HB2.out HG.out.lt
  have B2 : w.grownBy w2 (some g) := g_trans (g_trans (by repeat (first | with_reducible exact g_refl _ _ | with_reducible assumption | with_reducible refine g_new ?_ (by simp <;> omega) _ | with_reducible refine g_alloc ?_ _ | with_reducible refine g_drewN ?_ _ | with_reducible refine g_drew ?_)) HB.out) (g_below HB2.out _)
  have G3 : GB ((((((w2.setCell ⟨w.heap.size, 0, none⟩ (.bool zv)).setCell ⟨w.heap.size, 1, none⟩ (.bool zp)).setCell ⟨w.heap.size, 2, none⟩ (.int .i64 za)).setCell ⟨w.heap.size, 3, none⟩ (.int .i64 zm)).setCell ⟨w.heap.size, 4, none⟩ (.int .i64 zs)).setCell ⟨w.heap.size, 5, none⟩ (.int .i64 zt)) g ⟨zv, true, za, zm, zs, zt⟩ := (by repeat (first | with_reducible assumption | with_reducible refine GB.far ?_ (by simp <;> omega) _ | with_reducible refine GB.alloc ?_ _ | with_reducible refine GB.drewN ?_ _))
  have B3 : w.grownBy ((((((w2.setCell ⟨w.heap.size, 0, none⟩ (.bool zv)).setCell ⟨w.heap.size, 1, none⟩ (.bool zp)).setCell ⟨w.heap.size, 2, none⟩ (.int .i64 za)).setCell ⟨w.heap.size, 3, none⟩ (.int .i64 zm)).setCell ⟨w.heap.size, 4, none⟩ (.int .i64 zs)).setCell ⟨w.heap.size, 5, none⟩ (.int .i64 zt)) (some g) := (by repeat (first | with_reducible exact g_refl _ _ | with_reducible assumption | with_reducible refine g_new ?_ (by simp <;> omega) _ | with_reducible refine g_alloc ?_ _ | with_reducible refine g_drewN ?_ _ | with_reducible refine g_drew ?_))
  have L0 : Blk ((((((w2.setCell ⟨w.heap.size, 0, none⟩ (.bool zv)).setCell ⟨w.heap.size, 1, none⟩ (.bool zp)).setCell ⟨w.heap.size, 2, none⟩ (.int .i64 za)).setCell ⟨w.heap.size, 3, none⟩ (.int .i64 zm)).setCell ⟨w.heap.size, 4, none⟩ (.int .i64 zs)).setCell ⟨w.heap.size, 5, none⟩ (.int .i64 zt)) w.heap.size 27 #[.bool zv, .bool zp, .int .i64 za, .int .i64 zm, .int .i64 zs, .int .i64 zt] :=
    blk_close ((((((K0.out.set 0 _).set 1 _).set 2 _).set 3 _).set 4 _).set 5 _) (by simp)
  have L1 := (((((K1.out.far (p := ⟨w.heap.size, 0, none⟩) (by simp) (.bool zv)).far (p := ⟨w.heap.size, 1, none⟩) (by simp) (.bool zp)).far (p := ⟨w.heap.size, 2, none⟩) (by simp) (.int .i64 za)).far (p := ⟨w.heap.size, 3, none⟩) (by simp) (.int .i64 zm)).far (p := ⟨w.heap.size, 4, none⟩) (by simp) (.int .i64 zs)).far (p := ⟨w.heap.size, 5, none⟩) (by simp) (.int .i64 zt)
  have L2 := (((((K2.out.far (p := ⟨w.heap.size, 0, none⟩) (by simp <;> omega) (.bool zv)).far (p := ⟨w.heap.size, 1, none⟩) (by simp <;> omega) (.bool zp)).far (p := ⟨w.heap.size, 2, none⟩) (by simp <;> omega) (.int .i64 za)).far (p := ⟨w.heap.size, 3, none⟩) (by simp <;> omega) (.int .i64 zm)).far (p := ⟨w.heap.size, 4, none⟩) (by simp <;> omega) (.int .i64 zs)).far (p := ⟨w.heap.size, 5, none⟩) (by simp <;> omega) (.int .i64 zt)
  generalize ((((((w2.setCell ⟨w.heap.size, 0, none⟩ (.bool zv)).setCell ⟨w.heap.size, 1, none⟩ (.bool zp)).setCell ⟨w.heap.size, 2, none⟩ (.int .i64 za)).setCell ⟨w.heap.size, 3, none⟩ (.int .i64 zm)).setCell ⟨w.heap.size, 4, none⟩ (.int .i64 zs)).setCell ⟨w.heap.size, 5, none⟩ (.int .i64 zt)) = w3 at G3 B3 L0 L1 L2 ⊢
  clear G2 B2 K0 K1 K2 HG HB HB2 f0a l0a p0a p1a p2a p3a p4a p5a f1a l1a m0a m1a m2a m3a f2a l2a o0a o1a o2a o3a o4a o5a f0b l0b p0b p1b p2b p3b p4b p5b f1b l1b m0b m1b m2b m3b f2b l2b o0b o1b o2b o3b o4b o5b
  obtain ⟨f0c, l0c, p0c, p1c, p2c, p3c, p4c, p5c⟩ := Blk.f6 L0
  obtain ⟨f1c, l1c, m0c, m1c, m2c, m3c⟩ := Blk.f4 L1
  obtain ⟨f2c, l2c, o0c, o1c, o2c, o3c, o4c, o5c⟩ := Blk.f6 L2
  have L0 := hide L0
  have G3 := hide G3
  have B3 := hide B3
  go_wp2
  have G3 := G3.out
  have B3 := B3.out
  exact bodyPost_ret (v := .tuple #[.agg #[.bool zv, .bool true, .int .i64 za, .int .i64 zm, .int .i64 zs, .int .i64 zt], .bool false, .bool true]) (by simp [results, Try.results17, go_sem, l2c, o0c, o1c, o2c, o3c, o4c, o5c]) rfl ⟨rfl, (by repeat (first | with_reducible assumption | with_reducible refine GB.far ?_ (by simp <;> omega) _ | with_reducible refine GB.alloc ?_ _ | with_reducible refine GB.drewN ?_ _)), (by repeat (first | with_reducible exact g_refl _ _ | with_reducible assumption | with_reducible refine g_new ?_ (by simp <;> omega) _ | with_reducible refine g_alloc ?_ _ | with_reducible refine g_drewN ?_ _ | with_reducible refine g_drew ?_))⟩

set_option maxRecDepth 100000 in
set_option maxHeartbeats 1000000 in
theorem does4b (x : RG) (ly : Int) (key : Bool) (g : Nat) (w : World) (h : GB w g x) (ho : x.ok)  :
    Calls Try.prog 17 #[.pointer (some ⟨g, 0, none⟩), .agg x.vals, .agg #[.int .i64 4, .int .i64 ly, .bool key, .bool false]] w fun e w' =>
      e = .returned (.tuple #[.agg (RG.vals { x with pau := false }), .bool false, .bool true]) ∧ GB w' g { x with pau := false } ∧ w.grownBy w' (some g) := by
  have hlt := h.lt
  have H := hide h
  have HO := hide ho
  clear h ho
  have b3 := and_3 ly
  obtain ⟨y, hy⟩ : ∃ y, { x with pau := false } = y := ⟨_, rfl⟩
  rw [hy]
  have H1 : Hid (∀ W, GB W g x → Calls Try.prog 30 #[.pointer (some ⟨g, 0, none⟩), .bool false] W fun e w' => e = .returned (.tuple #[]) ∧ GB w' g y ∧ W.grownBy w' (some g)) := by
    intro W hW
    rw [← hy]
    exact gPauseOff x g W hW
  have HY := hide hy
  clear hy
  obtain ⟨xv, xp, xa, xm, xs, xt⟩ := x
  obtain ⟨yv, yp, ya, ym, ys, yt⟩ := y
  simp only [RG.vals]
  have HY' := HY.out
  simp only [RG.mk.injEq] at HY'
  obtain ⟨rfl, rfl, rfl, rfl, rfl, rfl⟩ := HY'
  clear HY
  go_enter Try.func17, Try.ntmps17
  go_wp2_with (go_at_call 30; refine (H1.out _ (((H.out.alloc _).alloc _).alloc _)).mono ?_; rintro e w1 ⟨rfl, hG, hg⟩; have K0 := Blk.grown (row := some g) (((Blk.new w _ _).alloc _).alloc _) hg (neg_ hlt (by omega)); have K1 := Blk.grown (row := some g) ((Blk.newAt (w.alloc _) _ _ (w.heap.size + 1) (by simp)).alloc _) hg (neg_ hlt (by omega)); have K2 := Blk.grown (row := some g) (Blk.newAt ((w.alloc _).alloc _) _ _ (w.heap.size + 1 + 1) (by simp)) hg (neg_ hlt (by omega)); obtain ⟨f0a, l0a, p0a, p1a, p2a, p3a, p4a, p5a⟩ := Blk.f6 K0; obtain ⟨f1a, l1a, m0a, m1a, m2a, m3a⟩ := Blk.f4 K1; obtain ⟨f2a, l2a, o0a, o1a, o2a, o3a, o4a, o5a⟩ := Blk.f6 K2; have K0 := hide K0; have K1 := hide K1; have K2 := hide K2; have HG := hide hG; have HB := hide hg; clear hG hg)
  have G2 := HG.out
  have B2 : w.grownBy w1 (some g) := g_trans (by repeat (first | with_reducible exact g_refl _ _ | with_reducible assumption | with_reducible refine g_new ?_ (by simp <;> omega) _ | with_reducible refine g_alloc ?_ _ | with_reducible refine g_drewN ?_ _ | with_reducible refine g_drew ?_)) HB.out
  exact bodyPost_ret (v := .tuple #[.agg #[.bool xv, .bool false, .int .i64 xa, .int .i64 xm, .int .i64 xs, .int .i64 xt], .bool false, .bool true]) (by simp [results, Try.results17, go_sem, l2a, o0a, o1a, o2a, o3a, o4a, o5a]) rfl ⟨rfl, (by repeat (first | with_reducible assumption | with_reducible refine GB.far ?_ (by simp <;> omega) _ | with_reducible refine GB.alloc ?_ _ | with_reducible refine GB.drewN ?_ _)), (by repeat (first | with_reducible exact g_refl _ _ | with_reducible assumption | with_reducible refine g_new ?_ (by simp <;> omega) _ | with_reducible refine g_alloc ?_ _ | with_reducible refine g_drewN ?_ _ | with_reducible refine g_drew ?_))⟩

set_option maxRecDepth 100000 in
set_option maxHeartbeats 1000000 in
theorem does0 (x : RG) (ly : Int) (kd : Int) (key on : Bool) (g : Nat) (w : World) (h : GB w g x) (ho : x.ok) (h1 : (kd == 1) = false) (h2 : (kd == 2) = false) (h3 : (kd == 3) = false) (h4 : (kd == 4) = false) :
    Calls Try.prog 17 #[.pointer (some ⟨g, 0, none⟩), .agg x.vals, .agg #[.int .i64 kd, .int .i64 ly, .bool key, .bool on]] w fun e w' =>
      e = .returned (.tuple #[.agg (RG.vals x), .bool false, .bool true]) ∧ GB w' g x ∧ w.grownBy w' (some g) := by
  have hlt := h.lt
  have H := hide h
  have HO := hide ho
  clear h ho
  have b3 := and_3 ly
  obtain ⟨xv, xp, xa, xm, xs, xt⟩ := x
  simp only [RG.vals]
  go_enter Try.func17, Try.ntmps17
  go_wp2
  have G2 := H.out
  exact bodyPost_ret (v := .tuple #[.agg #[.bool xv, .bool xp, .int .i64 xa, .int .i64 xm, .int .i64 xs, .int .i64 xt], .bool false, .bool true]) (by simp [results, Try.results17, go_sem]) rfl ⟨rfl, (by repeat (first | with_reducible assumption | with_reducible refine GB.far ?_ (by simp <;> omega) _ | with_reducible refine GB.alloc ?_ _ | with_reducible refine GB.drewN ?_ _)), (by repeat (first | with_reducible exact g_refl _ _ | with_reducible assumption | with_reducible refine g_new ?_ (by simp <;> omega) _ | with_reducible refine g_alloc ?_ _ | with_reducible refine g_drewN ?_ _ | with_reducible refine g_drew ?_))⟩

theorem doesAll (x : RG) (kd ly : Int) (key on : Bool) (g : Nat) (w : World) (h : GB w g x) (ho : x.ok) :
    Calls Try.prog 17 #[.pointer (some ⟨g, 0, none⟩), .agg x.vals, .agg #[.int .i64 kd, .int .i64 ly, .bool key, .bool on]] w fun e w' =>
      e = .returned (.tuple #[.agg (x.does kd ly key on).1.vals, .bool (x.does kd ly key on).2, .bool true]) ∧ GB w' g (x.does kd ly key on).1 ∧ w.grownBy w' (some g) := by
  unfold RG.does
  by_cases k1 : kd = 1
  · subst k1; simpa using does1 x ly key on g w h ho
  by_cases k2 : kd = 2
  · subst k2
    by_cases h0 : 0 ≤ ly
    · simpa using does2a x ly key on g w h ho h0
    · simpa using does2b x ly key on g w h ho (by omega)
  by_cases k3 : kd = 3
  · subst k3; simpa using does3 x ly key on g w h ho
  by_cases k4 : kd = 4
  · subst k4
    cases on
    · simpa using does4b x ly key g w h ho
    · simpa using does4a x ly key g w h ho
  · simpa [k1, k2, k3, k4] using does0 x ly kd key on g w h ho (by simp [k1]) (by simp [k2]) (by simp [k3]) (by simp [k4])
end Go.Proofs.Ytdjbdlfdknfcaaa
