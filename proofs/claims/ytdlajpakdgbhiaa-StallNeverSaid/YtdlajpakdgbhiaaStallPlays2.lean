/-
  StallPlays: the walk.
-/
import Derived.Test.YtdlajpakdgbhiaaStallPlays
namespace Go.Proofs.Ytdlajpakdgbhiaa
open Go.RowKit

theorem quiet_l {P : Program} {f : FuncId} {args : Array Value} {w : World} {n : Nat} {v : Value}
    (h : Calls P f args (w.drewN n) fun e w' => e = .returned v ∧ w.drewN n = w') : Calls P f args (w.drewN n) fun e w'' => e = .returned v ∧ ∃ m, w'' = w.drewN m :=
  h.mono fun _ _ ⟨he, hm⟩ => ⟨he, n, hm.symm⟩

theorem dogSuspV (d : Dog) (b : Bool) (h : d.susp = b) (g : Nat) (w : World) (hB : Blk w g 91 d.cells) :
    Calls Try.prog 34 #[.pointer (some ⟨g, 0, none⟩)] w fun e w' => e = .returned (.bool b) ∧ w = w' := by
  rw [← h]; exact dogSusp d g w hB
theorem dogTimesV (d : Dog) (n : Int) (h : d.times = n) (g : Nat) (w : World) (hB : Blk w g 91 d.cells) :
    Calls Try.prog 35 #[.pointer (some ⟨g, 0, none⟩)] w fun e w' => e = .returned (.int .i64 n) ∧ w = w' := by
  rw [← h]; exact dogTimes d g w hB
set_option maxRecDepth 100000 in
set_option maxHeartbeats 2000000 in
theorem stallPlays_walk (a0 : Int) (ha : -9223372036854775808 ≤ a0 ∧ a0 ≤ 9223372036854775807) (r0 : Int) (hr : -9223372036854775808 ≤ r0 ∧ r0 ≤ 9223372036854775807)
    (A : Option Addr) (n c : Nat) (V : Nat → Nat → Value) {w : World} (hV : Rws [.int .i64, .bool, .bool] w A n c V) :
    Calls Try.prog 10 #[.int .i64 a0, .int .i64 r0, .slice A n c] w fun e w' => e = .returned (.bool true) ∧ Below w.heap.size w w' := by
  have HV := hide hV
  obtain ⟨hnc, hcm, _, _⟩ := hV
  unfold maxLen at hcm
  have b1 := and_15 a0
  have b2 := and_31 r0
  obtain ⟨a, hA⟩ : ∃ a, 1 + a0 % 16 = a := ⟨_, rfl⟩
  obtain ⟨r, hR⟩ : ∃ r, 1 + r0 % 32 = r := ⟨_, rfl⟩
  have a1 : 1 ≤ a := by omega
  have a2 : a ≤ 16 := by omega
  have r1 : 1 ≤ r := by omega
  have r2 : r ≤ 32 := by omega
  go_enter Try.func10, Try.ntmps10
  go_wp2_with (first | (go_at_call 30; refine (stallNew_ok a r _ (by omega)).mono ?_; rintro e w1 ⟨g, rfl, hb, hg, hB⟩; have HB := hide hB; clear hB) | (go_at_call 31; refine (awake22 _).mono ?_; rintro e w2 ⟨rfl, hb2⟩; obtain ⟨hc2, hf2, hz2⟩ := bcell hb2))
  have hlt := HB.out.lt
  have HB2 : Hid (Blk w2 g 91 (Dog.cells ⟨a, r, 0, false, false, 0, 0⟩)) := HB.out.below hb2 hlt
  have HW : Below w.heap.size w w2 := b_below hb hb2 hb.size
  have hS : Sim ⟨a, r, 0, false, false, 0, 0⟩ ⟨a, r, -1, -1, 0⟩ 0 0 := by
    constructor <;> intros <;> first | rfl | (simp only; omega) | omega | assumption | contradiction
  have HS := hide hS
  have hlt2 := HB2.out.lt
  have hX : Blk w2 g 91 (Dog.cells ⟨a, r, 0, false, false, 0, 0⟩) := HB2.out
  have hws := HW.size
  clear HB b1 b2 hA hR hb2 hc2 hf2 hb hX
  have hgx : Hid (Blk (w2.alloc (.cells #[.int .i64 a, .int .i64 r, .int .i64 (-1), .int .i64 (-1), .int .i64 0] 59)) w2.heap.size 59 (RDog.vals ⟨a, r, -1, -1, 0⟩)) := Blk.new _ _ _
  have hgB := hide (HB2.out.alloc (.cells #[.int .i64 a, .int .i64 r, .int .i64 (-1), .int .i64 (-1), .int .i64 0] 59))
  have hW2 := HW.alloc HW.size (.cells #[.int .i64 a, .int .i64 r, .int .i64 (-1), .int .i64 (-1), .int .i64 0] 59)
  generalize hGX : w2.heap.size = gx at hgx hws ⊢
  have HGX := hide hGX
  have hgw : w.heap.size ≤ gx := hws
  have hne : Hid (some gx ≠ some g) := by
    intro e
    exact Blk.diff hgx.out hgB.out (by decide) (by injection e)
  clear hS hws hlt hlt2 HB2 HW hGX
  go_loopw [10, 11] (fun nw i wr => ∃ (k : Nat) (d : Dog) (x : RDog) (now : Int), k ≤ n ∧ k ≤ 200 ∧ nw = .int .i64 now ∧ i = .int .i64 k ∧ Hid (Sim d x now k) ∧ Hid (Blk wr g 91 d.cells) ∧ Hid (Blk wr gx 59 x.vals) ∧ Below w.heap.size w wr) (fun _ i _ => 200 - (intOf i).toNat)
  case atStart => exact ⟨0, _, _, 0, by omega, by omega, rfl, rfl, HS, hgB, hgx, hW2⟩
  case round =>
    obtain ⟨k, d, x, now, hk, hk2, rfl, rfl, hS, hB, hX, hb'⟩ := hrel
    by_cases hlt : k < n
    · by_cases hlt2 : k < 200
      · obtain ⟨bl, o, rfl, hbl, ⟨nn, f0, _⟩, ⟨wt, f1⟩, ⟨st, f2⟩, c0, c1, c2⟩ := (HV.out.below hb').at3 hlt
        rw [f0] at c0
        rw [f1] at c1
        rw [f2] at c2
        clear f0 f1 f2
        have b7 := and_7 nn
        obtain ⟨d2, x2, rr, E1, E2, hS2⟩ := sim_step hS.out (nn % 8) (by omega) wt st
        have H1 : Hid (∀ w', Blk w' g 91 d.cells → Calls Try.prog 32 #[.pointer (some ⟨g, 0, none⟩), .int .i64 (now + nn % 8), .bool wt, .bool st] w' fun e w'' => e = .returned (.int .i64 rr) ∧ Blk w'' g 91 d2.cells ∧ w'.grownBy w'' (some g)) := by
          intro w' h
          have := dogTick d g (now + nn % 8) wt st w' h (hS.out.ok (by omega)) (by have := hS.out.b1; omega)
          rwa [E1] at this
        have H2 : Hid (∀ w', Calls Try.prog 33 #[.agg x.vals, .int .i64 (now + nn % 8), .bool wt, .bool st] w' fun e w'' => e = .returned (.tuple #[.agg x2.vals, .int .i64 rr]) ∧ Below w'.heap.size w' w'') := by
          intro w'
          have h1 := hS.out.b1; have h2 := hS.out.b4; have h3 := hS.out.times; have h4 := hS.out.rest; have h5 := hS.out.after; have h6 := hS.out.a1; have h7 := hS.out.r1; have h8 := hS.out.r2; have h9 := hS.out.b5
          have := rdogTick x (now + nn % 8) wt st w' (by omega) (by omega) (by omega)
          rwa [E2] at this
        have HS2 := hide hS2
        have bn := hS.out.b1
        clear E1 E2 hS2
        obtain ⟨xa, xr, xs, xt, xm⟩ := x
        obtain ⟨ya, yr, ys, yt, ym⟩ := x2
        simp only [RDog.vals] at H2 hX
        go_wp2_with (first
          | (go_at_call 32; refine (H1.out _ (hB.out.alloc _)).mono ?_; rintro e w3 ⟨rfl, hB3, hg3⟩; have hX3 := (hX.out.alloc (.cells #[.int .i64 nn, .bool wt, .bool st] 61)).grown hg3 hne.out; have hA3 := (Blk.new wr 61 #[.int .i64 nn, .bool wt, .bool st]).grown hg3 (fun e => absurd hB.out.lt (by injection e with e; omega)); obtain ⟨f3, l3, x0, x1, x2, x3, x4⟩ := Blk.f5 hX3; obtain ⟨f3', l3', y0, y1, y2⟩ := Blk.f3 hA3; have HB3 := hide hB3; have HX3 := hide hX3; have HG3 := hide hg3; clear hB3 hX3 hA3 hg3)
          | (go_at_call 33; refine (H2.out _).mono ?_; rintro e w4 ⟨rfl, hb4⟩; have hX4 := HX3.out.below hb4 HX3.out.lt; obtain ⟨f4, l4, z0, z1, z2, z3, z4⟩ := Blk.f5 hX4; have HB4 := hide (HB3.out.below hb4 HB3.out.lt); have HX4 := hide hX4; have HB4' := hide hb4; clear hX4 hb4; simp only [RDog.vals]))
        have hne2 : Hid (g ≠ gx) := fun e => hne.out (by rw [e])
        go_quiet ((first | (go_at_call 34; exact quiet_l (dogSuspV d2 _ HS2.out.susp g _ (Blk.drewN (((((HB4.out.far (by exact hne2.out) _).far (by exact hne2.out) _).far (by exact hne2.out) _).far (by exact hne2.out) _).far (by exact hne2.out) _ |>.alloc _) _))) | (go_at_call 35; exact quiet_l (dogTimesV d2 _ HS2.out.times g _ (Blk.drewN (((((HB4.out.far (by exact hne2.out) _).far (by exact hne2.out) _).far (by exact hne2.out) _).far (by exact hne2.out) _).far (by exact hne2.out) _ |>.alloc _) _)))))

        go_wp2
        have q1 := hb'.alloc hb'.size (.cells #[.int .i64 nn, .bool wt, .bool st] 61)
        have q2 := b_grown q1 HG3.out q1.size hg
        have q3 := b_below q2 HB4'.out q2.size
        have q4 := ((((q3.setCell (p := ⟨gx, 0, none⟩) hgw (.int .i64 ya)).setCell (p := ⟨gx, 1, none⟩) hgw (.int .i64 yr)).setCell (p := ⟨gx, 2, none⟩) hgw (.int .i64 ys)).setCell (p := ⟨gx, 3, none⟩) hgw (.int .i64 yt)).setCell (p := ⟨gx, 4, none⟩) hgw (.int .i64 ym)
        go_roundw
        case rel =>
          refine ⟨k + 1, d2, ⟨ya, yr, ys, yt, ym⟩, now + nn % 8, by omega, by omega, rfl, by go_num, HS2, hide (Blk.drewN (((((HB4.out.far (by exact hne2.out) _).far (by exact hne2.out) _).far (by exact hne2.out) _).far (by exact hne2.out) _).far (by exact hne2.out) _ |>.alloc _) _), hide (Blk.drewN (Blk.alloc (blk_close (((((HX4.out.set 0 _).set 1 _).set 2 _).set 3 _).set 4 _) (by simp [RDog.vals])) _) _), b_drewN (q4.alloc q4.size _) _⟩
        case measure => simp [intOf]; omega
      · obtain rfl : k = 200 := by omega
        go_wp2
        go_ret
        exact ⟨rfl, hb'⟩
    · obtain rfl : k = n := by omega
      go_wp2
      go_ret
      exact ⟨rfl, hb'⟩
end Go.Proofs.Ytdlajpakdgbhiaa
