/-
  GateKeys: the walk. (Written by wip/gen/gatekeys.py.)
-/
import Derived.Test.YtdjbdlfdknfcaaaGateKeysA
namespace Go.Proofs.Ytdjbdlfdknfcaaa
set_option linter.unusedSimpArgs false
set_option linter.unusedVariables false
open Go.RowKit

theorem gAimV (x : RG) (n : Int) (h : x.aim = n) (g : Nat) (w : World) (hG : GB w g x) :
    Calls Try.prog 18 #[.pointer (some ⟨g, 0, none⟩)] w fun e w' => e = .returned (.int .i64 n) ∧ w = w' := by
  subst h; exact gAims x g w hG

/-- one round of GateKeys, in plain words: what 'does' makes of the state -/
theorem kround {x : RG} {last : Int} {fresh : Bool} {k : Nat} (h : KInv x last fresh k) (kd ly : Int) (key on : Bool) :
    ∃ yv yp ya ym ys yt r, x.does kd ly key on = (⟨yv, yp, ya, ym, ys, yt⟩, r) ∧
      ((kd = 3 ∨ (kd = 4 ∧ on = true)) → r = false ∧ KInv ⟨yv, yp, ya, ym, ys, yt⟩ last true (k + 1)) ∧
      (¬ (kd = 3 ∨ (kd = 4 ∧ on = true)) → r = false → KInv ⟨yv, yp, ya, ym, ys, yt⟩ last fresh (k + 1)) ∧
      (r = true → KInv ⟨yv, yp, ya, ym, ys, yt⟩ (ly % 4) false (k + 1) ∧ ym = x.aim ∧ kd = 1 ∧ ((key = true ∧ ly % 4 = x.aim) ∨ (fresh = false ∧ ly % 4 = last))) := by
  have step : ∀ {y : RG}, KInv y last fresh k → KInv y last fresh (k + 1) := fun h => ⟨h.vid, h.fr, h.la, h.aim, by have := h.shu; omega, by have := h.tur; omega⟩
  unfold RG.does
  by_cases k1 : kd = 1
  · obtain ⟨⟨yv, yp, ya, ym, ys, yt⟩, r, e, ea, e1, e2⟩ := h.pass (ly % 4) key (by omega)
    refine ⟨yv, yp, ya, ym, ys, yt, r, by rw [if_pos k1, e], fun hc => (by omega), fun _ hr => e2 hr, fun hr => ⟨(e1 hr).1, ea, k1, (e1 hr).2⟩⟩
  by_cases k2 : kd = 2
  · refine ⟨x.vid, x.pau, x.at_, max ly 0, x.shu, x.tur, false, by rw [if_neg k1, if_pos k2], fun hc => (by omega), fun _ _ => ?_, fun hr => (by cases hr)⟩
    have h' := step h
    exact ⟨h'.vid, h'.fr, h'.la, by simp only; omega, h'.shu, h'.tur⟩
  by_cases k3 : kd = 3
  · refine ⟨x.close.vid, x.close.pau, x.close.at_, x.close.aim, x.close.shu, x.close.tur, false, by rw [if_neg k1, if_neg k2, if_pos k3], fun _ => ⟨rfl, ?_⟩, fun hc => absurd (.inl k3) hc, fun hr => (by cases hr)⟩
    exact h.close _
  by_cases k4 : kd = 4
  · cases on
    · refine ⟨x.vid, false, x.at_, x.aim, x.shu, x.tur, false, by rw [if_neg k1, if_neg k2, if_neg k3, if_pos k4]; rfl, fun hc => ?_, fun _ _ => ?_, fun hr => (by cases hr)⟩
      · rcases hc with hc | ⟨_, hc⟩
        · exact absurd hc k3
        · cases hc
      · have h' := step h
        exact ⟨h'.vid, h'.fr, h'.la, h'.aim, h'.shu, h'.tur⟩
    · refine ⟨x.close.vid, true, x.close.at_, x.close.aim, x.close.shu, x.close.tur, false, by rw [if_neg k1, if_neg k2, if_neg k3, if_pos k4]; rfl, fun _ => ⟨rfl, h.close true⟩, fun hc => absurd (.inr ⟨k4, rfl⟩) hc, fun hr => (by cases hr)⟩
  · exact ⟨x.vid, x.pau, x.at_, x.aim, x.shu, x.tur, false, by rw [if_neg k1, if_neg k2, if_neg k3, if_neg k4], fun hc => (by omega), fun _ _ => step h, fun hr => (by cases hr)⟩

set_option maxRecDepth 100000 in
set_option maxHeartbeats 8000000 in
theorem gateKeys_walk (a0 : Int) (ha0 : -9223372036854775808 ≤ a0 ∧ a0 ≤ 9223372036854775807) (A : Option Addr) (n c : Nat) (V : Nat → Nat → Value) {w : World} (hV : Rws [.int .i64, .int .i64, .bool, .bool] w A n c V) :
    Calls Try.prog 3 #[.int .i64 a0, .slice A n c] w fun e w' => e = .returned (.bool true) ∧ Below w.heap.size w w' := by
  have HV := hide hV
  obtain ⟨hnc, hcm, _, _⟩ := hV
  unfold maxLen at hcm
  by_cases h0 : 0 ≤ a0
  · have ha : (0 : Int) ≤ a0 := by omega
    have HM : Hid (∀ w, Calls Try.prog 16 #[.bool true, .int .i64 a0] w fun e w' => ∃ g, e = .returned (.pointer (some ⟨g, 0, none⟩)) ∧ GB w' g ⟨true, false, -1, a0, 0, 0⟩ ∧ w.heap.size ≤ g ∧ Below w.heap.size w w') := hide (fun w => by have := gNew true a0 w; rwa [show max a0 0 = a0 by omega] at this)
    go_enter Try.func3, Try.ntmps3
    go_wp2_with (first
      | (go_at_call 15; refine (awake14 _).mono ?_; rintro e w1 ⟨rfl, hb1⟩; have HB1 := hide hb1; clear hb1)
      | (go_at_call 16; refine (HM.out _).mono ?_; rintro e w2 ⟨g, rfl, hG, hg, hb⟩; have HG := hide hG; have HB := hide hb; clear hG hb))
    have hgx : Blk (w2.alloc (.cells #[.bool true, .bool false, .int .i64 (-1), .int .i64 a0, .int .i64 0, .int .i64 0] 27)) w2.heap.size 27 (RG.vals ⟨true, false, -1, a0, 0, 0⟩) := Blk.new _ _ _
    have HGB := hide (HG.out.alloc (.cells #[.bool true, .bool false, .int .i64 (-1), .int .i64 a0, .int .i64 0, .int .i64 0] 27))
    have hW0 := b_below HB1.out HB.out HB1.out.size
    have hW2 := hW0.alloc hW0.size (.cells #[.bool true, .bool false, .int .i64 (-1), .int .i64 a0, .int .i64 0, .int .i64 0] 27)
    have hgw : w.heap.size ≤ g := Nat.le_trans HB1.out.size hg
    have hws : w.heap.size ≤ w2.heap.size := hW0.size
    have hglt := HG.out.lt
    have hne : Hid (some w2.heap.size ≠ some g) := hide (by intro e; injection e with e; omega)
    have hne2 : Hid (g ≠ w2.heap.size) := hide (by omega)
    generalize hGX : w2.heap.size = gx at hgx hws hne hne2 ⊢
    have HGX := hide hGX
    have hgxw : w.heap.size ≤ gx := hws
    have HGX2 := hide hgx
    have HS : Hid (KInv ⟨true, false, -1, a0, 0, 0⟩ (-1) true 0) := hide ⟨rfl, rfl, fun h => (by cases h), ha, by simp, by simp⟩
    clear hGX hgx hW0 HB HB1 HG hws hglt HM
    go_loopw [7, 8, 9] (fun lv fv i wr => ∃ (k : Nat) (x : RG) (last : Int) (fresh : Bool), k ≤ n ∧ k ≤ 150 ∧ lv = .int .i64 last ∧ fv = .bool fresh ∧ i = .int .i64 k ∧ Hid (KInv x last fresh k) ∧ Hid (GB wr g x) ∧ Hid (Blk wr gx 27 x.vals) ∧ Below w.heap.size w wr) (fun _ _ i _ => 150 - (intOf i).toNat)
    case atStart => exact ⟨0, _, -1, true, by omega, by omega, rfl, rfl, rfl, HS, HGB, HGX2, hW2⟩
    case round =>
      obtain ⟨k, x, last, fresh, hk, hk2, rfl, rfl, rfl, hK, hG, hX, hb'⟩ := hrel
      by_cases hlt : k < n ∧ k < 150
      · obtain ⟨hlt, hlt2⟩ := hlt
        obtain ⟨bl, o, rfl, hbl, ⟨kd, f0, _⟩, ⟨ly, f1, _⟩, ⟨key, f2⟩, ⟨on, f3⟩, c0, c1, c2, c3⟩ := (HV.out.below hb').at4 hlt
        rw [f0] at c0
        rw [f1] at c1
        rw [f2] at c2
        rw [f3] at c3
        clear f0 f1 f2 f3
        have b3 := and_3 ly
        obtain ⟨yv, yp, ya, ym, ys, yt, r, hd, r1, r2, r3⟩ := kround hK.out kd ly key on
        have R1 := hide r1
        have R2 := hide r2
        have R3 := hide r3
        have HD := hide hd
        clear r1 r2 r3 hd
        obtain ⟨x0, hx⟩ : ∃ x0, x = x0 := ⟨_, rfl⟩
        obtain ⟨xv, xp, xa, xm, xs, xt⟩ := x0
        by_cases k3 : kd = 3
        · obtain ⟨rfl, hK2⟩ := R1.out (.inl k3)
          have HK2 := hide hK2
          subst k3
          clear hK2 R1 R2 R3

          have H1 : Hid (∀ W, GB W g x → Calls Try.prog 17 #[.pointer (some ⟨g, 0, none⟩), .agg #[.bool xv, .bool xp, .int .i64 xa, .int .i64 xm, .int .i64 xs, .int .i64 xt], .agg #[.int .i64 3, .int .i64 ly, .bool key, .bool on]] W fun e w' =>
            e = .returned (.tuple #[.agg #[.bool yv, .bool yp, .int .i64 ya, .int .i64 ym, .int .i64 ys, .int .i64 yt], .bool false, .bool true]) ∧ GB w' g ⟨yv, yp, ya, ym, ys, yt⟩ ∧ W.grownBy w' (some g)) :=
            hide (fun W hW => by subst hx; exact doesV _ ⟨yv, yp, ya, ym, ys, yt⟩ 3 ly key on false HD.out g W hW (hK.out.ok (by omega)))
          have hX2 : Hid (Blk wr gx 27 #[.bool xv, .bool xp, .int .i64 xa, .int .i64 xm, .int .i64 xs, .int .i64 xt]) := by subst hx; exact hX
          have HXE := hide hx
          clear hx hX
          have hX := hX2
          clear hX2
          obtain ⟨fx, lx, x0, x1, x2, x3, x4, x5⟩ := Blk.f6 hX.out
          go_wp2_with (go_at_call 17; refine (H1.out _ (hG.out.alloc _)).mono ?_; rintro e w3 ⟨rfl, hG3, hg3⟩; have hX3 := Blk.grown (row := some g) (hX.out.alloc (.cells #[.int .i64 3, .int .i64 ly, .bool key, .bool on] 29)) hg3 hne.out; have hA3 := Blk.grown (row := some g) (Blk.new wr 29 #[.int .i64 3, .int .i64 ly, .bool key, .bool on]) hg3 (neg_ hG.out.lt (Nat.le_refl _)); obtain ⟨f3, l3, p0, p1, p2, p3, p4, p5⟩ := Blk.f6 hX3; obtain ⟨f3', l3', y0, y1, y2, y3⟩ := Blk.f4 hA3; have HG3 := hide hG3; have HX3 := hide hX3; have HB3 := hide hg3; clear hG3 hX3 hA3 hg3)
          have q1 := hb'.alloc hb'.size (.cells #[.int .i64 3, .int .i64 ly, .bool key, .bool on] 29)
          have q2 := b_grown q1 HB3.out q1.size hgw
          have q4 := (((((q2.setCell (p := ⟨gx, 0, none⟩) hgxw (.bool yv)).setCell (p := ⟨gx, 1, none⟩) hgxw (.bool yp)).setCell (p := ⟨gx, 2, none⟩) hgxw (.int .i64 ya)).setCell (p := ⟨gx, 3, none⟩) hgxw (.int .i64 ym)).setCell (p := ⟨gx, 4, none⟩) hgxw (.int .i64 ys)).setCell (p := ⟨gx, 5, none⟩) hgxw (.int .i64 yt)
          all_goals
            go_roundw
            case rel =>
              exact ⟨k + 1, ⟨yv, yp, ya, ym, ys, yt⟩, last, true, by omega, by omega, rfl, rfl, by go_num, hide (HK2.out), hide ((((((((HG3.out.far (by exact hne2.out) _).far (by exact hne2.out) _).far (by exact hne2.out) _).far (by exact hne2.out) _).far (by exact hne2.out) _).far (by exact hne2.out) _).alloc _)), hide (Blk.alloc (blk_close ((((((HX3.out.set 0 _).set 1 _).set 2 _).set 3 _).set 4 _).set 5 _) (by simp [RG.vals])) _), q4.alloc q4.size _⟩
            case measure => simp [intOf]; omega
        · have q3 : (kd == 3) = false := by simp [k3]
          by_cases k4 : kd = 4 ∧ on = true
          · obtain ⟨rfl, rfl⟩ := k4
            obtain ⟨rfl, hK2⟩ := R1.out (.inr ⟨rfl, rfl⟩)
            have HK2 := hide hK2
            clear hK2 R1 R2 R3 k3

            have H1 : Hid (∀ W, GB W g x → Calls Try.prog 17 #[.pointer (some ⟨g, 0, none⟩), .agg #[.bool xv, .bool xp, .int .i64 xa, .int .i64 xm, .int .i64 xs, .int .i64 xt], .agg #[.int .i64 4, .int .i64 ly, .bool key, .bool true]] W fun e w' =>
              e = .returned (.tuple #[.agg #[.bool yv, .bool yp, .int .i64 ya, .int .i64 ym, .int .i64 ys, .int .i64 yt], .bool false, .bool true]) ∧ GB w' g ⟨yv, yp, ya, ym, ys, yt⟩ ∧ W.grownBy w' (some g)) :=
              hide (fun W hW => by subst hx; exact doesV _ ⟨yv, yp, ya, ym, ys, yt⟩ 4 ly key true false HD.out g W hW (hK.out.ok (by omega)))
            have hX2 : Hid (Blk wr gx 27 #[.bool xv, .bool xp, .int .i64 xa, .int .i64 xm, .int .i64 xs, .int .i64 xt]) := by subst hx; exact hX
            have HXE := hide hx
            clear hx hX
            have hX := hX2
            clear hX2
            obtain ⟨fx, lx, x0, x1, x2, x3, x4, x5⟩ := Blk.f6 hX.out
            go_wp2_with (go_at_call 17; refine (H1.out _ (hG.out.alloc _)).mono ?_; rintro e w3 ⟨rfl, hG3, hg3⟩; have hX3 := Blk.grown (row := some g) (hX.out.alloc (.cells #[.int .i64 4, .int .i64 ly, .bool key, .bool true] 29)) hg3 hne.out; have hA3 := Blk.grown (row := some g) (Blk.new wr 29 #[.int .i64 4, .int .i64 ly, .bool key, .bool true]) hg3 (neg_ hG.out.lt (Nat.le_refl _)); obtain ⟨f3, l3, p0, p1, p2, p3, p4, p5⟩ := Blk.f6 hX3; obtain ⟨f3', l3', y0, y1, y2, y3⟩ := Blk.f4 hA3; have HG3 := hide hG3; have HX3 := hide hX3; have HB3 := hide hg3; clear hG3 hX3 hA3 hg3)
            have q1 := hb'.alloc hb'.size (.cells #[.int .i64 4, .int .i64 ly, .bool key, .bool true] 29)
            have q2 := b_grown q1 HB3.out q1.size hgw
            have q4 := (((((q2.setCell (p := ⟨gx, 0, none⟩) hgxw (.bool yv)).setCell (p := ⟨gx, 1, none⟩) hgxw (.bool yp)).setCell (p := ⟨gx, 2, none⟩) hgxw (.int .i64 ya)).setCell (p := ⟨gx, 3, none⟩) hgxw (.int .i64 ym)).setCell (p := ⟨gx, 4, none⟩) hgxw (.int .i64 ys)).setCell (p := ⟨gx, 5, none⟩) hgxw (.int .i64 yt)
            all_goals
              go_roundw
              case rel =>
                exact ⟨k + 1, ⟨yv, yp, ya, ym, ys, yt⟩, last, true, by omega, by omega, rfl, rfl, by go_num, hide (HK2.out), hide ((((((((HG3.out.far (by exact hne2.out) _).far (by exact hne2.out) _).far (by exact hne2.out) _).far (by exact hne2.out) _).far (by exact hne2.out) _).far (by exact hne2.out) _).alloc _)), hide (Blk.alloc (blk_close ((((((HX3.out.set 0 _).set 1 _).set 2 _).set 3 _).set 4 _).set 5 _) (by simp [RG.vals])) _), q4.alloc q4.size _⟩
              case measure => simp [intOf]; omega
          · have hn34 : ¬ (kd = 3 ∨ kd = 4 ∧ on = true) := by rintro (h | h); exact k3 h; exact k4 h
            cases r
            · have HK2 := hide (R2.out hn34 rfl)
              by_cases k5 : kd = 4
              · subst k5
                obtain rfl : on = false := by cases on; rfl; exact absurd ⟨rfl, rfl⟩ k4
                clear R1 R2 R3 k3 k4 hn34

                have H1 : Hid (∀ W, GB W g x → Calls Try.prog 17 #[.pointer (some ⟨g, 0, none⟩), .agg #[.bool xv, .bool xp, .int .i64 xa, .int .i64 xm, .int .i64 xs, .int .i64 xt], .agg #[.int .i64 4, .int .i64 ly, .bool key, .bool false]] W fun e w' =>
                  e = .returned (.tuple #[.agg #[.bool yv, .bool yp, .int .i64 ya, .int .i64 ym, .int .i64 ys, .int .i64 yt], .bool false, .bool true]) ∧ GB w' g ⟨yv, yp, ya, ym, ys, yt⟩ ∧ W.grownBy w' (some g)) :=
                  hide (fun W hW => by subst hx; exact doesV _ ⟨yv, yp, ya, ym, ys, yt⟩ 4 ly key false false HD.out g W hW (hK.out.ok (by omega)))
                have hX2 : Hid (Blk wr gx 27 #[.bool xv, .bool xp, .int .i64 xa, .int .i64 xm, .int .i64 xs, .int .i64 xt]) := by subst hx; exact hX
                have HXE := hide hx
                clear hx hX
                have hX := hX2
                clear hX2
                obtain ⟨fx, lx, x0, x1, x2, x3, x4, x5⟩ := Blk.f6 hX.out
                go_wp2_with (go_at_call 17; refine (H1.out _ (hG.out.alloc _)).mono ?_; rintro e w3 ⟨rfl, hG3, hg3⟩; have hX3 := Blk.grown (row := some g) (hX.out.alloc (.cells #[.int .i64 4, .int .i64 ly, .bool key, .bool false] 29)) hg3 hne.out; have hA3 := Blk.grown (row := some g) (Blk.new wr 29 #[.int .i64 4, .int .i64 ly, .bool key, .bool false]) hg3 (neg_ hG.out.lt (Nat.le_refl _)); obtain ⟨f3, l3, p0, p1, p2, p3, p4, p5⟩ := Blk.f6 hX3; obtain ⟨f3', l3', y0, y1, y2, y3⟩ := Blk.f4 hA3; have HG3 := hide hG3; have HX3 := hide hX3; have HB3 := hide hg3; clear hG3 hX3 hA3 hg3)
                have q1 := hb'.alloc hb'.size (.cells #[.int .i64 4, .int .i64 ly, .bool key, .bool false] 29)
                have q2 := b_grown q1 HB3.out q1.size hgw
                have q4 := (((((q2.setCell (p := ⟨gx, 0, none⟩) hgxw (.bool yv)).setCell (p := ⟨gx, 1, none⟩) hgxw (.bool yp)).setCell (p := ⟨gx, 2, none⟩) hgxw (.int .i64 ya)).setCell (p := ⟨gx, 3, none⟩) hgxw (.int .i64 ym)).setCell (p := ⟨gx, 4, none⟩) hgxw (.int .i64 ys)).setCell (p := ⟨gx, 5, none⟩) hgxw (.int .i64 yt)
                all_goals
                  go_roundw
                  case rel =>
                    exact ⟨k + 1, ⟨yv, yp, ya, ym, ys, yt⟩, last, fresh, by omega, by omega, rfl, rfl, by go_num, hide (HK2.out), hide ((((((((HG3.out.far (by exact hne2.out) _).far (by exact hne2.out) _).far (by exact hne2.out) _).far (by exact hne2.out) _).far (by exact hne2.out) _).far (by exact hne2.out) _).alloc _)), hide (Blk.alloc (blk_close ((((((HX3.out.set 0 _).set 1 _).set 2 _).set 3 _).set 4 _).set 5 _) (by simp [RG.vals])) _), q4.alloc q4.size _⟩
                  case measure => simp [intOf]; omega
              · have q4 : (kd == 4) = false := by simp [k5]
                clear R1 R2 R3 k3 k4 k5 hn34

                have H1 : Hid (∀ W, GB W g x → Calls Try.prog 17 #[.pointer (some ⟨g, 0, none⟩), .agg #[.bool xv, .bool xp, .int .i64 xa, .int .i64 xm, .int .i64 xs, .int .i64 xt], .agg #[.int .i64 kd, .int .i64 ly, .bool key, .bool on]] W fun e w' =>
                  e = .returned (.tuple #[.agg #[.bool yv, .bool yp, .int .i64 ya, .int .i64 ym, .int .i64 ys, .int .i64 yt], .bool false, .bool true]) ∧ GB w' g ⟨yv, yp, ya, ym, ys, yt⟩ ∧ W.grownBy w' (some g)) :=
                  hide (fun W hW => by subst hx; exact doesV _ ⟨yv, yp, ya, ym, ys, yt⟩ kd ly key on false HD.out g W hW (hK.out.ok (by omega)))
                have hX2 : Hid (Blk wr gx 27 #[.bool xv, .bool xp, .int .i64 xa, .int .i64 xm, .int .i64 xs, .int .i64 xt]) := by subst hx; exact hX
                have HXE := hide hx
                clear hx hX
                have hX := hX2
                clear hX2
                obtain ⟨fx, lx, x0, x1, x2, x3, x4, x5⟩ := Blk.f6 hX.out
                go_wp2_with (go_at_call 17; refine (H1.out _ (hG.out.alloc _)).mono ?_; rintro e w3 ⟨rfl, hG3, hg3⟩; have hX3 := Blk.grown (row := some g) (hX.out.alloc (.cells #[.int .i64 kd, .int .i64 ly, .bool key, .bool on] 29)) hg3 hne.out; have hA3 := Blk.grown (row := some g) (Blk.new wr 29 #[.int .i64 kd, .int .i64 ly, .bool key, .bool on]) hg3 (neg_ hG.out.lt (Nat.le_refl _)); obtain ⟨f3, l3, p0, p1, p2, p3, p4, p5⟩ := Blk.f6 hX3; obtain ⟨f3', l3', y0, y1, y2, y3⟩ := Blk.f4 hA3; have HG3 := hide hG3; have HX3 := hide hX3; have HB3 := hide hg3; clear hG3 hX3 hA3 hg3)
                have q1 := hb'.alloc hb'.size (.cells #[.int .i64 kd, .int .i64 ly, .bool key, .bool on] 29)
                have q2 := b_grown q1 HB3.out q1.size hgw
                have q4 := (((((q2.setCell (p := ⟨gx, 0, none⟩) hgxw (.bool yv)).setCell (p := ⟨gx, 1, none⟩) hgxw (.bool yp)).setCell (p := ⟨gx, 2, none⟩) hgxw (.int .i64 ya)).setCell (p := ⟨gx, 3, none⟩) hgxw (.int .i64 ym)).setCell (p := ⟨gx, 4, none⟩) hgxw (.int .i64 ys)).setCell (p := ⟨gx, 5, none⟩) hgxw (.int .i64 yt)
                all_goals
                  go_roundw
                  case rel =>
                    exact ⟨k + 1, ⟨yv, yp, ya, ym, ys, yt⟩, last, fresh, by omega, by omega, rfl, rfl, by go_num, hide (HK2.out), hide ((((((((HG3.out.far (by exact hne2.out) _).far (by exact hne2.out) _).far (by exact hne2.out) _).far (by exact hne2.out) _).far (by exact hne2.out) _).far (by exact hne2.out) _).alloc _)), hide (Blk.alloc (blk_close ((((((HX3.out.set 0 _).set 1 _).set 2 _).set 3 _).set 4 _).set 5 _) (by simp [RG.vals])) _), q4.alloc q4.size _⟩
                  case measure => simp [intOf]; omega
            · obtain ⟨hK2, hym, k1, hor⟩ := R3.out rfl
              have HK2 := hide hK2
              have HYM : Hid (ym = xm) := hide (by rw [hym, hx])
              have HXM : Hid (x.aim = xm) := hide (by rw [hx])
              clear hK2 hym R1 R2 R3 k3 k4 hn34 q3
              subst k1
              rcases hor with ⟨rfl, hl⟩ | ⟨rfl, hl⟩
              · have q5 : (ly % 4 != ym) = false := by rw [HYM.out, ← HXM.out]; simp [hl]
                clear hl
                cases fresh
                · by_cases q6 : (ly % 4 != last) = true
                  · skip

                    have H1 : Hid (∀ W, GB W g x → Calls Try.prog 17 #[.pointer (some ⟨g, 0, none⟩), .agg #[.bool xv, .bool xp, .int .i64 xa, .int .i64 xm, .int .i64 xs, .int .i64 xt], .agg #[.int .i64 1, .int .i64 ly, .bool true, .bool on]] W fun e w' =>
                      e = .returned (.tuple #[.agg #[.bool yv, .bool yp, .int .i64 ya, .int .i64 ym, .int .i64 ys, .int .i64 yt], .bool true, .bool true]) ∧ GB w' g ⟨yv, yp, ya, ym, ys, yt⟩ ∧ W.grownBy w' (some g)) :=
                      hide (fun W hW => by subst hx; exact doesV _ ⟨yv, yp, ya, ym, ys, yt⟩ 1 ly true on true HD.out g W hW (hK.out.ok (by omega)))
                    have hX2 : Hid (Blk wr gx 27 #[.bool xv, .bool xp, .int .i64 xa, .int .i64 xm, .int .i64 xs, .int .i64 xt]) := by subst hx; exact hX
                    have HXE := hide hx
                    clear hx hX
                    have hX := hX2
                    clear hX2
                    obtain ⟨fx, lx, x0, x1, x2, x3, x4, x5⟩ := Blk.f6 hX.out
                    go_wp2_with (first
                      | (go_at_call 17; refine (H1.out _ (hG.out.alloc _)).mono ?_; rintro e w3 ⟨rfl, hG3, hg3⟩; have hX3 := Blk.grown (row := some g) (hX.out.alloc (.cells #[.int .i64 1, .int .i64 ly, .bool true, .bool on] 29)) hg3 hne.out; have hA3 := Blk.grown (row := some g) (Blk.new wr 29 #[.int .i64 1, .int .i64 ly, .bool true, .bool on]) hg3 (neg_ hG.out.lt (Nat.le_refl _)); obtain ⟨f3, l3, p0, p1, p2, p3, p4, p5⟩ := Blk.f6 hX3; obtain ⟨f3', l3', y0, y1, y2, y3⟩ := Blk.f4 hA3; have HG3 := hide hG3; have HX3 := hide hX3; have HB3 := hide hg3; clear hG3 hX3 hA3 hg3)
                      | (go_at_call 18; refine (gAimV _ _ rfl g _ (((((((HG3.out.far (by exact hne2.out) _).far (by exact hne2.out) _).far (by exact hne2.out) _).far (by exact hne2.out) _).far (by exact hne2.out) _).far (by exact hne2.out) _).alloc _)).mono ?_; rintro e w4 ⟨rfl, rfl⟩))
                    have q1 := hb'.alloc hb'.size (.cells #[.int .i64 1, .int .i64 ly, .bool true, .bool on] 29)
                    have q2 := b_grown q1 HB3.out q1.size hgw
                    have q4 := (((((q2.setCell (p := ⟨gx, 0, none⟩) hgxw (.bool yv)).setCell (p := ⟨gx, 1, none⟩) hgxw (.bool yp)).setCell (p := ⟨gx, 2, none⟩) hgxw (.int .i64 ya)).setCell (p := ⟨gx, 3, none⟩) hgxw (.int .i64 ym)).setCell (p := ⟨gx, 4, none⟩) hgxw (.int .i64 ys)).setCell (p := ⟨gx, 5, none⟩) hgxw (.int .i64 yt)
                    all_goals
                      go_roundw
                      case rel =>
                        exact ⟨k + 1, ⟨yv, yp, ya, ym, ys, yt⟩, ly % 4, false, by omega, by omega, rfl, rfl, by go_num, hide (HK2.out), hide ((((((((HG3.out.far (by exact hne2.out) _).far (by exact hne2.out) _).far (by exact hne2.out) _).far (by exact hne2.out) _).far (by exact hne2.out) _).far (by exact hne2.out) _).alloc _)), hide (Blk.alloc (blk_close ((((((HX3.out.set 0 _).set 1 _).set 2 _).set 3 _).set 4 _).set 5 _) (by simp [RG.vals])) _), q4.alloc q4.size _⟩
                      case measure => simp [intOf]; omega
                  · have q6 : (ly % 4 != last) = false := by simpa using q6

                    have H1 : Hid (∀ W, GB W g x → Calls Try.prog 17 #[.pointer (some ⟨g, 0, none⟩), .agg #[.bool xv, .bool xp, .int .i64 xa, .int .i64 xm, .int .i64 xs, .int .i64 xt], .agg #[.int .i64 1, .int .i64 ly, .bool true, .bool on]] W fun e w' =>
                      e = .returned (.tuple #[.agg #[.bool yv, .bool yp, .int .i64 ya, .int .i64 ym, .int .i64 ys, .int .i64 yt], .bool true, .bool true]) ∧ GB w' g ⟨yv, yp, ya, ym, ys, yt⟩ ∧ W.grownBy w' (some g)) :=
                      hide (fun W hW => by subst hx; exact doesV _ ⟨yv, yp, ya, ym, ys, yt⟩ 1 ly true on true HD.out g W hW (hK.out.ok (by omega)))
                    have hX2 : Hid (Blk wr gx 27 #[.bool xv, .bool xp, .int .i64 xa, .int .i64 xm, .int .i64 xs, .int .i64 xt]) := by subst hx; exact hX
                    have HXE := hide hx
                    clear hx hX
                    have hX := hX2
                    clear hX2
                    obtain ⟨fx, lx, x0, x1, x2, x3, x4, x5⟩ := Blk.f6 hX.out
                    go_wp2_with (first
                      | (go_at_call 17; refine (H1.out _ (hG.out.alloc _)).mono ?_; rintro e w3 ⟨rfl, hG3, hg3⟩; have hX3 := Blk.grown (row := some g) (hX.out.alloc (.cells #[.int .i64 1, .int .i64 ly, .bool true, .bool on] 29)) hg3 hne.out; have hA3 := Blk.grown (row := some g) (Blk.new wr 29 #[.int .i64 1, .int .i64 ly, .bool true, .bool on]) hg3 (neg_ hG.out.lt (Nat.le_refl _)); obtain ⟨f3, l3, p0, p1, p2, p3, p4, p5⟩ := Blk.f6 hX3; obtain ⟨f3', l3', y0, y1, y2, y3⟩ := Blk.f4 hA3; have HG3 := hide hG3; have HX3 := hide hX3; have HB3 := hide hg3; clear hG3 hX3 hA3 hg3)
                      | (go_at_call 18; refine (gAimV _ _ rfl g _ (((((((HG3.out.far (by exact hne2.out) _).far (by exact hne2.out) _).far (by exact hne2.out) _).far (by exact hne2.out) _).far (by exact hne2.out) _).far (by exact hne2.out) _).alloc _)).mono ?_; rintro e w4 ⟨rfl, rfl⟩))
                    have q1 := hb'.alloc hb'.size (.cells #[.int .i64 1, .int .i64 ly, .bool true, .bool on] 29)
                    have q2 := b_grown q1 HB3.out q1.size hgw
                    have q4 := (((((q2.setCell (p := ⟨gx, 0, none⟩) hgxw (.bool yv)).setCell (p := ⟨gx, 1, none⟩) hgxw (.bool yp)).setCell (p := ⟨gx, 2, none⟩) hgxw (.int .i64 ya)).setCell (p := ⟨gx, 3, none⟩) hgxw (.int .i64 ym)).setCell (p := ⟨gx, 4, none⟩) hgxw (.int .i64 ys)).setCell (p := ⟨gx, 5, none⟩) hgxw (.int .i64 yt)
                    all_goals
                      go_roundw
                      case rel =>
                        exact ⟨k + 1, ⟨yv, yp, ya, ym, ys, yt⟩, ly % 4, false, by omega, by omega, rfl, rfl, by go_num, hide (HK2.out), hide ((((((((HG3.out.far (by exact hne2.out) _).far (by exact hne2.out) _).far (by exact hne2.out) _).far (by exact hne2.out) _).far (by exact hne2.out) _).far (by exact hne2.out) _).alloc _)), hide (Blk.alloc (blk_close ((((((HX3.out.set 0 _).set 1 _).set 2 _).set 3 _).set 4 _).set 5 _) (by simp [RG.vals])) _), q4.alloc q4.size _⟩
                      case measure => simp [intOf]; omega
                · skip

                  have H1 : Hid (∀ W, GB W g x → Calls Try.prog 17 #[.pointer (some ⟨g, 0, none⟩), .agg #[.bool xv, .bool xp, .int .i64 xa, .int .i64 xm, .int .i64 xs, .int .i64 xt], .agg #[.int .i64 1, .int .i64 ly, .bool true, .bool on]] W fun e w' =>
                    e = .returned (.tuple #[.agg #[.bool yv, .bool yp, .int .i64 ya, .int .i64 ym, .int .i64 ys, .int .i64 yt], .bool true, .bool true]) ∧ GB w' g ⟨yv, yp, ya, ym, ys, yt⟩ ∧ W.grownBy w' (some g)) :=
                    hide (fun W hW => by subst hx; exact doesV _ ⟨yv, yp, ya, ym, ys, yt⟩ 1 ly true on true HD.out g W hW (hK.out.ok (by omega)))
                  have hX2 : Hid (Blk wr gx 27 #[.bool xv, .bool xp, .int .i64 xa, .int .i64 xm, .int .i64 xs, .int .i64 xt]) := by subst hx; exact hX
                  have HXE := hide hx
                  clear hx hX
                  have hX := hX2
                  clear hX2
                  obtain ⟨fx, lx, x0, x1, x2, x3, x4, x5⟩ := Blk.f6 hX.out
                  go_wp2_with (first
                    | (go_at_call 17; refine (H1.out _ (hG.out.alloc _)).mono ?_; rintro e w3 ⟨rfl, hG3, hg3⟩; have hX3 := Blk.grown (row := some g) (hX.out.alloc (.cells #[.int .i64 1, .int .i64 ly, .bool true, .bool on] 29)) hg3 hne.out; have hA3 := Blk.grown (row := some g) (Blk.new wr 29 #[.int .i64 1, .int .i64 ly, .bool true, .bool on]) hg3 (neg_ hG.out.lt (Nat.le_refl _)); obtain ⟨f3, l3, p0, p1, p2, p3, p4, p5⟩ := Blk.f6 hX3; obtain ⟨f3', l3', y0, y1, y2, y3⟩ := Blk.f4 hA3; have HG3 := hide hG3; have HX3 := hide hX3; have HB3 := hide hg3; clear hG3 hX3 hA3 hg3)
                    | (go_at_call 18; refine (gAimV _ _ rfl g _ (((((((HG3.out.far (by exact hne2.out) _).far (by exact hne2.out) _).far (by exact hne2.out) _).far (by exact hne2.out) _).far (by exact hne2.out) _).far (by exact hne2.out) _).alloc _)).mono ?_; rintro e w4 ⟨rfl, rfl⟩))
                  have q1 := hb'.alloc hb'.size (.cells #[.int .i64 1, .int .i64 ly, .bool true, .bool on] 29)
                  have q2 := b_grown q1 HB3.out q1.size hgw
                  have q4 := (((((q2.setCell (p := ⟨gx, 0, none⟩) hgxw (.bool yv)).setCell (p := ⟨gx, 1, none⟩) hgxw (.bool yp)).setCell (p := ⟨gx, 2, none⟩) hgxw (.int .i64 ya)).setCell (p := ⟨gx, 3, none⟩) hgxw (.int .i64 ym)).setCell (p := ⟨gx, 4, none⟩) hgxw (.int .i64 ys)).setCell (p := ⟨gx, 5, none⟩) hgxw (.int .i64 yt)
                  all_goals
                    go_roundw
                    case rel =>
                      exact ⟨k + 1, ⟨yv, yp, ya, ym, ys, yt⟩, ly % 4, false, by omega, by omega, rfl, rfl, by go_num, hide (HK2.out), hide ((((((((HG3.out.far (by exact hne2.out) _).far (by exact hne2.out) _).far (by exact hne2.out) _).far (by exact hne2.out) _).far (by exact hne2.out) _).far (by exact hne2.out) _).alloc _)), hide (Blk.alloc (blk_close ((((((HX3.out.set 0 _).set 1 _).set 2 _).set 3 _).set 4 _).set 5 _) (by simp [RG.vals])) _), q4.alloc q4.size _⟩
                    case measure => simp [intOf]; omega
              · have q6 : (ly % 4 != last) = false := by simp [hl]
                clear hl

                have H1 : Hid (∀ W, GB W g x → Calls Try.prog 17 #[.pointer (some ⟨g, 0, none⟩), .agg #[.bool xv, .bool xp, .int .i64 xa, .int .i64 xm, .int .i64 xs, .int .i64 xt], .agg #[.int .i64 1, .int .i64 ly, .bool key, .bool on]] W fun e w' =>
                  e = .returned (.tuple #[.agg #[.bool yv, .bool yp, .int .i64 ya, .int .i64 ym, .int .i64 ys, .int .i64 yt], .bool true, .bool true]) ∧ GB w' g ⟨yv, yp, ya, ym, ys, yt⟩ ∧ W.grownBy w' (some g)) :=
                  hide (fun W hW => by subst hx; exact doesV _ ⟨yv, yp, ya, ym, ys, yt⟩ 1 ly key on true HD.out g W hW (hK.out.ok (by omega)))
                have hX2 : Hid (Blk wr gx 27 #[.bool xv, .bool xp, .int .i64 xa, .int .i64 xm, .int .i64 xs, .int .i64 xt]) := by subst hx; exact hX
                have HXE := hide hx
                clear hx hX
                have hX := hX2
                clear hX2
                obtain ⟨fx, lx, x0, x1, x2, x3, x4, x5⟩ := Blk.f6 hX.out
                go_wp2_with (first
                  | (go_at_call 17; refine (H1.out _ (hG.out.alloc _)).mono ?_; rintro e w3 ⟨rfl, hG3, hg3⟩; have hX3 := Blk.grown (row := some g) (hX.out.alloc (.cells #[.int .i64 1, .int .i64 ly, .bool key, .bool on] 29)) hg3 hne.out; have hA3 := Blk.grown (row := some g) (Blk.new wr 29 #[.int .i64 1, .int .i64 ly, .bool key, .bool on]) hg3 (neg_ hG.out.lt (Nat.le_refl _)); obtain ⟨f3, l3, p0, p1, p2, p3, p4, p5⟩ := Blk.f6 hX3; obtain ⟨f3', l3', y0, y1, y2, y3⟩ := Blk.f4 hA3; have HG3 := hide hG3; have HX3 := hide hX3; have HB3 := hide hg3; clear hG3 hX3 hA3 hg3)
                  | (go_at_call 18; refine (gAimV _ _ rfl g _ (((((((HG3.out.far (by exact hne2.out) _).far (by exact hne2.out) _).far (by exact hne2.out) _).far (by exact hne2.out) _).far (by exact hne2.out) _).far (by exact hne2.out) _).alloc _)).mono ?_; rintro e w4 ⟨rfl, rfl⟩))
                have q1 := hb'.alloc hb'.size (.cells #[.int .i64 1, .int .i64 ly, .bool key, .bool on] 29)
                have q2 := b_grown q1 HB3.out q1.size hgw
                have q4 := (((((q2.setCell (p := ⟨gx, 0, none⟩) hgxw (.bool yv)).setCell (p := ⟨gx, 1, none⟩) hgxw (.bool yp)).setCell (p := ⟨gx, 2, none⟩) hgxw (.int .i64 ya)).setCell (p := ⟨gx, 3, none⟩) hgxw (.int .i64 ym)).setCell (p := ⟨gx, 4, none⟩) hgxw (.int .i64 ys)).setCell (p := ⟨gx, 5, none⟩) hgxw (.int .i64 yt)
                all_goals
                  go_roundw
                  case rel =>
                    exact ⟨k + 1, ⟨yv, yp, ya, ym, ys, yt⟩, ly % 4, false, by omega, by omega, rfl, rfl, by go_num, hide (HK2.out), hide ((((((((HG3.out.far (by exact hne2.out) _).far (by exact hne2.out) _).far (by exact hne2.out) _).far (by exact hne2.out) _).far (by exact hne2.out) _).far (by exact hne2.out) _).alloc _)), hide (Blk.alloc (blk_close ((((((HX3.out.set 0 _).set 1 _).set 2 _).set 3 _).set 4 _).set 5 _) (by simp [RG.vals])) _), q4.alloc q4.size _⟩
                  case measure => simp [intOf]; omega
      · have hend : (k = n) ∨ (k = 150 ∧ k < n) := by omega
        rcases hend with rfl | ⟨rfl, hkn⟩
        all_goals
          go_wp2
          go_ret
          exact ⟨rfl, hb'⟩
  · have ha : (0 : Int) ≤ 0 := by omega
    have HM : Hid (∀ w, Calls Try.prog 16 #[.bool true, .int .i64 a0] w fun e w' => ∃ g, e = .returned (.pointer (some ⟨g, 0, none⟩)) ∧ GB w' g ⟨true, false, -1, 0, 0, 0⟩ ∧ w.heap.size ≤ g ∧ Below w.heap.size w w') := hide (fun w => by have := gNew true a0 w; rwa [show max a0 0 = 0 by omega] at this)
    go_enter Try.func3, Try.ntmps3
    go_wp2_with (first
      | (go_at_call 15; refine (awake14 _).mono ?_; rintro e w1 ⟨rfl, hb1⟩; have HB1 := hide hb1; clear hb1)
      | (go_at_call 16; refine (HM.out _).mono ?_; rintro e w2 ⟨g, rfl, hG, hg, hb⟩; have HG := hide hG; have HB := hide hb; clear hG hb))
    have hgx : Blk (w2.alloc (.cells #[.bool true, .bool false, .int .i64 (-1), .int .i64 0, .int .i64 0, .int .i64 0] 27)) w2.heap.size 27 (RG.vals ⟨true, false, -1, 0, 0, 0⟩) := Blk.new _ _ _
    have HGB := hide (HG.out.alloc (.cells #[.bool true, .bool false, .int .i64 (-1), .int .i64 0, .int .i64 0, .int .i64 0] 27))
    have hW0 := b_below HB1.out HB.out HB1.out.size
    have hW2 := hW0.alloc hW0.size (.cells #[.bool true, .bool false, .int .i64 (-1), .int .i64 0, .int .i64 0, .int .i64 0] 27)
    have hgw : w.heap.size ≤ g := Nat.le_trans HB1.out.size hg
    have hws : w.heap.size ≤ w2.heap.size := hW0.size
    have hglt := HG.out.lt
    have hne : Hid (some w2.heap.size ≠ some g) := hide (by intro e; injection e with e; omega)
    have hne2 : Hid (g ≠ w2.heap.size) := hide (by omega)
    generalize hGX : w2.heap.size = gx at hgx hws hne hne2 ⊢
    have HGX := hide hGX
    have hgxw : w.heap.size ≤ gx := hws
    have HGX2 := hide hgx
    have HS : Hid (KInv ⟨true, false, -1, 0, 0, 0⟩ (-1) true 0) := hide ⟨rfl, rfl, fun h => (by cases h), ha, by simp, by simp⟩
    clear hGX hgx hW0 HB HB1 HG hws hglt HM
    go_loopw [7, 8, 9] (fun lv fv i wr => ∃ (k : Nat) (x : RG) (last : Int) (fresh : Bool), k ≤ n ∧ k ≤ 150 ∧ lv = .int .i64 last ∧ fv = .bool fresh ∧ i = .int .i64 k ∧ Hid (KInv x last fresh k) ∧ Hid (GB wr g x) ∧ Hid (Blk wr gx 27 x.vals) ∧ Below w.heap.size w wr) (fun _ _ i _ => 150 - (intOf i).toNat)
    case atStart => exact ⟨0, _, -1, true, by omega, by omega, rfl, rfl, rfl, HS, HGB, HGX2, hW2⟩
    case round =>
      obtain ⟨k, x, last, fresh, hk, hk2, rfl, rfl, rfl, hK, hG, hX, hb'⟩ := hrel
      by_cases hlt : k < n ∧ k < 150
      · obtain ⟨hlt, hlt2⟩ := hlt
        obtain ⟨bl, o, rfl, hbl, ⟨kd, f0, _⟩, ⟨ly, f1, _⟩, ⟨key, f2⟩, ⟨on, f3⟩, c0, c1, c2, c3⟩ := (HV.out.below hb').at4 hlt
        rw [f0] at c0
        rw [f1] at c1
        rw [f2] at c2
        rw [f3] at c3
        clear f0 f1 f2 f3
        have b3 := and_3 ly
        obtain ⟨yv, yp, ya, ym, ys, yt, r, hd, r1, r2, r3⟩ := kround hK.out kd ly key on
        have R1 := hide r1
        have R2 := hide r2
        have R3 := hide r3
        have HD := hide hd
        clear r1 r2 r3 hd
        obtain ⟨x0, hx⟩ : ∃ x0, x = x0 := ⟨_, rfl⟩
        obtain ⟨xv, xp, xa, xm, xs, xt⟩ := x0
        by_cases k3 : kd = 3
        · obtain ⟨rfl, hK2⟩ := R1.out (.inl k3)
          have HK2 := hide hK2
          subst k3
          clear hK2 R1 R2 R3

          have H1 : Hid (∀ W, GB W g x → Calls Try.prog 17 #[.pointer (some ⟨g, 0, none⟩), .agg #[.bool xv, .bool xp, .int .i64 xa, .int .i64 xm, .int .i64 xs, .int .i64 xt], .agg #[.int .i64 3, .int .i64 ly, .bool key, .bool on]] W fun e w' =>
            e = .returned (.tuple #[.agg #[.bool yv, .bool yp, .int .i64 ya, .int .i64 ym, .int .i64 ys, .int .i64 yt], .bool false, .bool true]) ∧ GB w' g ⟨yv, yp, ya, ym, ys, yt⟩ ∧ W.grownBy w' (some g)) :=
            hide (fun W hW => by subst hx; exact doesV _ ⟨yv, yp, ya, ym, ys, yt⟩ 3 ly key on false HD.out g W hW (hK.out.ok (by omega)))
          have hX2 : Hid (Blk wr gx 27 #[.bool xv, .bool xp, .int .i64 xa, .int .i64 xm, .int .i64 xs, .int .i64 xt]) := by subst hx; exact hX
          have HXE := hide hx
          clear hx hX
          have hX := hX2
          clear hX2
          obtain ⟨fx, lx, x0, x1, x2, x3, x4, x5⟩ := Blk.f6 hX.out
          go_wp2_with (go_at_call 17; refine (H1.out _ (hG.out.alloc _)).mono ?_; rintro e w3 ⟨rfl, hG3, hg3⟩; have hX3 := Blk.grown (row := some g) (hX.out.alloc (.cells #[.int .i64 3, .int .i64 ly, .bool key, .bool on] 29)) hg3 hne.out; have hA3 := Blk.grown (row := some g) (Blk.new wr 29 #[.int .i64 3, .int .i64 ly, .bool key, .bool on]) hg3 (neg_ hG.out.lt (Nat.le_refl _)); obtain ⟨f3, l3, p0, p1, p2, p3, p4, p5⟩ := Blk.f6 hX3; obtain ⟨f3', l3', y0, y1, y2, y3⟩ := Blk.f4 hA3; have HG3 := hide hG3; have HX3 := hide hX3; have HB3 := hide hg3; clear hG3 hX3 hA3 hg3)
          have q1 := hb'.alloc hb'.size (.cells #[.int .i64 3, .int .i64 ly, .bool key, .bool on] 29)
          have q2 := b_grown q1 HB3.out q1.size hgw
          have q4 := (((((q2.setCell (p := ⟨gx, 0, none⟩) hgxw (.bool yv)).setCell (p := ⟨gx, 1, none⟩) hgxw (.bool yp)).setCell (p := ⟨gx, 2, none⟩) hgxw (.int .i64 ya)).setCell (p := ⟨gx, 3, none⟩) hgxw (.int .i64 ym)).setCell (p := ⟨gx, 4, none⟩) hgxw (.int .i64 ys)).setCell (p := ⟨gx, 5, none⟩) hgxw (.int .i64 yt)
          all_goals
            go_roundw
            case rel =>
              exact ⟨k + 1, ⟨yv, yp, ya, ym, ys, yt⟩, last, true, by omega, by omega, rfl, rfl, by go_num, hide (HK2.out), hide ((((((((HG3.out.far (by exact hne2.out) _).far (by exact hne2.out) _).far (by exact hne2.out) _).far (by exact hne2.out) _).far (by exact hne2.out) _).far (by exact hne2.out) _).alloc _)), hide (Blk.alloc (blk_close ((((((HX3.out.set 0 _).set 1 _).set 2 _).set 3 _).set 4 _).set 5 _) (by simp [RG.vals])) _), q4.alloc q4.size _⟩
            case measure => simp [intOf]; omega
        · have q3 : (kd == 3) = false := by simp [k3]
          by_cases k4 : kd = 4 ∧ on = true
          · obtain ⟨rfl, rfl⟩ := k4
            obtain ⟨rfl, hK2⟩ := R1.out (.inr ⟨rfl, rfl⟩)
            have HK2 := hide hK2
            clear hK2 R1 R2 R3 k3

            have H1 : Hid (∀ W, GB W g x → Calls Try.prog 17 #[.pointer (some ⟨g, 0, none⟩), .agg #[.bool xv, .bool xp, .int .i64 xa, .int .i64 xm, .int .i64 xs, .int .i64 xt], .agg #[.int .i64 4, .int .i64 ly, .bool key, .bool true]] W fun e w' =>
              e = .returned (.tuple #[.agg #[.bool yv, .bool yp, .int .i64 ya, .int .i64 ym, .int .i64 ys, .int .i64 yt], .bool false, .bool true]) ∧ GB w' g ⟨yv, yp, ya, ym, ys, yt⟩ ∧ W.grownBy w' (some g)) :=
              hide (fun W hW => by subst hx; exact doesV _ ⟨yv, yp, ya, ym, ys, yt⟩ 4 ly key true false HD.out g W hW (hK.out.ok (by omega)))
            have hX2 : Hid (Blk wr gx 27 #[.bool xv, .bool xp, .int .i64 xa, .int .i64 xm, .int .i64 xs, .int .i64 xt]) := by subst hx; exact hX
            have HXE := hide hx
            clear hx hX
            have hX := hX2
            clear hX2
            obtain ⟨fx, lx, x0, x1, x2, x3, x4, x5⟩ := Blk.f6 hX.out
            go_wp2_with (go_at_call 17; refine (H1.out _ (hG.out.alloc _)).mono ?_; rintro e w3 ⟨rfl, hG3, hg3⟩; have hX3 := Blk.grown (row := some g) (hX.out.alloc (.cells #[.int .i64 4, .int .i64 ly, .bool key, .bool true] 29)) hg3 hne.out; have hA3 := Blk.grown (row := some g) (Blk.new wr 29 #[.int .i64 4, .int .i64 ly, .bool key, .bool true]) hg3 (neg_ hG.out.lt (Nat.le_refl _)); obtain ⟨f3, l3, p0, p1, p2, p3, p4, p5⟩ := Blk.f6 hX3; obtain ⟨f3', l3', y0, y1, y2, y3⟩ := Blk.f4 hA3; have HG3 := hide hG3; have HX3 := hide hX3; have HB3 := hide hg3; clear hG3 hX3 hA3 hg3)
            have q1 := hb'.alloc hb'.size (.cells #[.int .i64 4, .int .i64 ly, .bool key, .bool true] 29)
            have q2 := b_grown q1 HB3.out q1.size hgw
            have q4 := (((((q2.setCell (p := ⟨gx, 0, none⟩) hgxw (.bool yv)).setCell (p := ⟨gx, 1, none⟩) hgxw (.bool yp)).setCell (p := ⟨gx, 2, none⟩) hgxw (.int .i64 ya)).setCell (p := ⟨gx, 3, none⟩) hgxw (.int .i64 ym)).setCell (p := ⟨gx, 4, none⟩) hgxw (.int .i64 ys)).setCell (p := ⟨gx, 5, none⟩) hgxw (.int .i64 yt)
            all_goals
              go_roundw
              case rel =>
                exact ⟨k + 1, ⟨yv, yp, ya, ym, ys, yt⟩, last, true, by omega, by omega, rfl, rfl, by go_num, hide (HK2.out), hide ((((((((HG3.out.far (by exact hne2.out) _).far (by exact hne2.out) _).far (by exact hne2.out) _).far (by exact hne2.out) _).far (by exact hne2.out) _).far (by exact hne2.out) _).alloc _)), hide (Blk.alloc (blk_close ((((((HX3.out.set 0 _).set 1 _).set 2 _).set 3 _).set 4 _).set 5 _) (by simp [RG.vals])) _), q4.alloc q4.size _⟩
              case measure => simp [intOf]; omega
          · have hn34 : ¬ (kd = 3 ∨ kd = 4 ∧ on = true) := by rintro (h | h); exact k3 h; exact k4 h
            cases r
            · have HK2 := hide (R2.out hn34 rfl)
              by_cases k5 : kd = 4
              · subst k5
                obtain rfl : on = false := by cases on; rfl; exact absurd ⟨rfl, rfl⟩ k4
                clear R1 R2 R3 k3 k4 hn34

                have H1 : Hid (∀ W, GB W g x → Calls Try.prog 17 #[.pointer (some ⟨g, 0, none⟩), .agg #[.bool xv, .bool xp, .int .i64 xa, .int .i64 xm, .int .i64 xs, .int .i64 xt], .agg #[.int .i64 4, .int .i64 ly, .bool key, .bool false]] W fun e w' =>
                  e = .returned (.tuple #[.agg #[.bool yv, .bool yp, .int .i64 ya, .int .i64 ym, .int .i64 ys, .int .i64 yt], .bool false, .bool true]) ∧ GB w' g ⟨yv, yp, ya, ym, ys, yt⟩ ∧ W.grownBy w' (some g)) :=
                  hide (fun W hW => by subst hx; exact doesV _ ⟨yv, yp, ya, ym, ys, yt⟩ 4 ly key false false HD.out g W hW (hK.out.ok (by omega)))
                have hX2 : Hid (Blk wr gx 27 #[.bool xv, .bool xp, .int .i64 xa, .int .i64 xm, .int .i64 xs, .int .i64 xt]) := by subst hx; exact hX
                have HXE := hide hx
                clear hx hX
                have hX := hX2
                clear hX2
                obtain ⟨fx, lx, x0, x1, x2, x3, x4, x5⟩ := Blk.f6 hX.out
                go_wp2_with (go_at_call 17; refine (H1.out _ (hG.out.alloc _)).mono ?_; rintro e w3 ⟨rfl, hG3, hg3⟩; have hX3 := Blk.grown (row := some g) (hX.out.alloc (.cells #[.int .i64 4, .int .i64 ly, .bool key, .bool false] 29)) hg3 hne.out; have hA3 := Blk.grown (row := some g) (Blk.new wr 29 #[.int .i64 4, .int .i64 ly, .bool key, .bool false]) hg3 (neg_ hG.out.lt (Nat.le_refl _)); obtain ⟨f3, l3, p0, p1, p2, p3, p4, p5⟩ := Blk.f6 hX3; obtain ⟨f3', l3', y0, y1, y2, y3⟩ := Blk.f4 hA3; have HG3 := hide hG3; have HX3 := hide hX3; have HB3 := hide hg3; clear hG3 hX3 hA3 hg3)
                have q1 := hb'.alloc hb'.size (.cells #[.int .i64 4, .int .i64 ly, .bool key, .bool false] 29)
                have q2 := b_grown q1 HB3.out q1.size hgw
                have q4 := (((((q2.setCell (p := ⟨gx, 0, none⟩) hgxw (.bool yv)).setCell (p := ⟨gx, 1, none⟩) hgxw (.bool yp)).setCell (p := ⟨gx, 2, none⟩) hgxw (.int .i64 ya)).setCell (p := ⟨gx, 3, none⟩) hgxw (.int .i64 ym)).setCell (p := ⟨gx, 4, none⟩) hgxw (.int .i64 ys)).setCell (p := ⟨gx, 5, none⟩) hgxw (.int .i64 yt)
                all_goals
                  go_roundw
                  case rel =>
                    exact ⟨k + 1, ⟨yv, yp, ya, ym, ys, yt⟩, last, fresh, by omega, by omega, rfl, rfl, by go_num, hide (HK2.out), hide ((((((((HG3.out.far (by exact hne2.out) _).far (by exact hne2.out) _).far (by exact hne2.out) _).far (by exact hne2.out) _).far (by exact hne2.out) _).far (by exact hne2.out) _).alloc _)), hide (Blk.alloc (blk_close ((((((HX3.out.set 0 _).set 1 _).set 2 _).set 3 _).set 4 _).set 5 _) (by simp [RG.vals])) _), q4.alloc q4.size _⟩
                  case measure => simp [intOf]; omega
              · have q4 : (kd == 4) = false := by simp [k5]
                clear R1 R2 R3 k3 k4 k5 hn34

                have H1 : Hid (∀ W, GB W g x → Calls Try.prog 17 #[.pointer (some ⟨g, 0, none⟩), .agg #[.bool xv, .bool xp, .int .i64 xa, .int .i64 xm, .int .i64 xs, .int .i64 xt], .agg #[.int .i64 kd, .int .i64 ly, .bool key, .bool on]] W fun e w' =>
                  e = .returned (.tuple #[.agg #[.bool yv, .bool yp, .int .i64 ya, .int .i64 ym, .int .i64 ys, .int .i64 yt], .bool false, .bool true]) ∧ GB w' g ⟨yv, yp, ya, ym, ys, yt⟩ ∧ W.grownBy w' (some g)) :=
                  hide (fun W hW => by subst hx; exact doesV _ ⟨yv, yp, ya, ym, ys, yt⟩ kd ly key on false HD.out g W hW (hK.out.ok (by omega)))
                have hX2 : Hid (Blk wr gx 27 #[.bool xv, .bool xp, .int .i64 xa, .int .i64 xm, .int .i64 xs, .int .i64 xt]) := by subst hx; exact hX
                have HXE := hide hx
                clear hx hX
                have hX := hX2
                clear hX2
                obtain ⟨fx, lx, x0, x1, x2, x3, x4, x5⟩ := Blk.f6 hX.out
                go_wp2_with (go_at_call 17; refine (H1.out _ (hG.out.alloc _)).mono ?_; rintro e w3 ⟨rfl, hG3, hg3⟩; have hX3 := Blk.grown (row := some g) (hX.out.alloc (.cells #[.int .i64 kd, .int .i64 ly, .bool key, .bool on] 29)) hg3 hne.out; have hA3 := Blk.grown (row := some g) (Blk.new wr 29 #[.int .i64 kd, .int .i64 ly, .bool key, .bool on]) hg3 (neg_ hG.out.lt (Nat.le_refl _)); obtain ⟨f3, l3, p0, p1, p2, p3, p4, p5⟩ := Blk.f6 hX3; obtain ⟨f3', l3', y0, y1, y2, y3⟩ := Blk.f4 hA3; have HG3 := hide hG3; have HX3 := hide hX3; have HB3 := hide hg3; clear hG3 hX3 hA3 hg3)
                have q1 := hb'.alloc hb'.size (.cells #[.int .i64 kd, .int .i64 ly, .bool key, .bool on] 29)
                have q2 := b_grown q1 HB3.out q1.size hgw
                have q4 := (((((q2.setCell (p := ⟨gx, 0, none⟩) hgxw (.bool yv)).setCell (p := ⟨gx, 1, none⟩) hgxw (.bool yp)).setCell (p := ⟨gx, 2, none⟩) hgxw (.int .i64 ya)).setCell (p := ⟨gx, 3, none⟩) hgxw (.int .i64 ym)).setCell (p := ⟨gx, 4, none⟩) hgxw (.int .i64 ys)).setCell (p := ⟨gx, 5, none⟩) hgxw (.int .i64 yt)
                all_goals
                  go_roundw
                  case rel =>
                    exact ⟨k + 1, ⟨yv, yp, ya, ym, ys, yt⟩, last, fresh, by omega, by omega, rfl, rfl, by go_num, hide (HK2.out), hide ((((((((HG3.out.far (by exact hne2.out) _).far (by exact hne2.out) _).far (by exact hne2.out) _).far (by exact hne2.out) _).far (by exact hne2.out) _).far (by exact hne2.out) _).alloc _)), hide (Blk.alloc (blk_close ((((((HX3.out.set 0 _).set 1 _).set 2 _).set 3 _).set 4 _).set 5 _) (by simp [RG.vals])) _), q4.alloc q4.size _⟩
                  case measure => simp [intOf]; omega
            · obtain ⟨hK2, hym, k1, hor⟩ := R3.out rfl
              have HK2 := hide hK2
              have HYM : Hid (ym = xm) := hide (by rw [hym, hx])
              have HXM : Hid (x.aim = xm) := hide (by rw [hx])
              clear hK2 hym R1 R2 R3 k3 k4 hn34 q3
              subst k1
              rcases hor with ⟨rfl, hl⟩ | ⟨rfl, hl⟩
              · have q5 : (ly % 4 != ym) = false := by rw [HYM.out, ← HXM.out]; simp [hl]
                clear hl
                cases fresh
                · by_cases q6 : (ly % 4 != last) = true
                  · skip

                    have H1 : Hid (∀ W, GB W g x → Calls Try.prog 17 #[.pointer (some ⟨g, 0, none⟩), .agg #[.bool xv, .bool xp, .int .i64 xa, .int .i64 xm, .int .i64 xs, .int .i64 xt], .agg #[.int .i64 1, .int .i64 ly, .bool true, .bool on]] W fun e w' =>
                      e = .returned (.tuple #[.agg #[.bool yv, .bool yp, .int .i64 ya, .int .i64 ym, .int .i64 ys, .int .i64 yt], .bool true, .bool true]) ∧ GB w' g ⟨yv, yp, ya, ym, ys, yt⟩ ∧ W.grownBy w' (some g)) :=
                      hide (fun W hW => by subst hx; exact doesV _ ⟨yv, yp, ya, ym, ys, yt⟩ 1 ly true on true HD.out g W hW (hK.out.ok (by omega)))
                    have hX2 : Hid (Blk wr gx 27 #[.bool xv, .bool xp, .int .i64 xa, .int .i64 xm, .int .i64 xs, .int .i64 xt]) := by subst hx; exact hX
                    have HXE := hide hx
                    clear hx hX
                    have hX := hX2
                    clear hX2
                    obtain ⟨fx, lx, x0, x1, x2, x3, x4, x5⟩ := Blk.f6 hX.out
                    go_wp2_with (first
                      | (go_at_call 17; refine (H1.out _ (hG.out.alloc _)).mono ?_; rintro e w3 ⟨rfl, hG3, hg3⟩; have hX3 := Blk.grown (row := some g) (hX.out.alloc (.cells #[.int .i64 1, .int .i64 ly, .bool true, .bool on] 29)) hg3 hne.out; have hA3 := Blk.grown (row := some g) (Blk.new wr 29 #[.int .i64 1, .int .i64 ly, .bool true, .bool on]) hg3 (neg_ hG.out.lt (Nat.le_refl _)); obtain ⟨f3, l3, p0, p1, p2, p3, p4, p5⟩ := Blk.f6 hX3; obtain ⟨f3', l3', y0, y1, y2, y3⟩ := Blk.f4 hA3; have HG3 := hide hG3; have HX3 := hide hX3; have HB3 := hide hg3; clear hG3 hX3 hA3 hg3)
                      | (go_at_call 18; refine (gAimV _ _ rfl g _ (((((((HG3.out.far (by exact hne2.out) _).far (by exact hne2.out) _).far (by exact hne2.out) _).far (by exact hne2.out) _).far (by exact hne2.out) _).far (by exact hne2.out) _).alloc _)).mono ?_; rintro e w4 ⟨rfl, rfl⟩))
                    have q1 := hb'.alloc hb'.size (.cells #[.int .i64 1, .int .i64 ly, .bool true, .bool on] 29)
                    have q2 := b_grown q1 HB3.out q1.size hgw
                    have q4 := (((((q2.setCell (p := ⟨gx, 0, none⟩) hgxw (.bool yv)).setCell (p := ⟨gx, 1, none⟩) hgxw (.bool yp)).setCell (p := ⟨gx, 2, none⟩) hgxw (.int .i64 ya)).setCell (p := ⟨gx, 3, none⟩) hgxw (.int .i64 ym)).setCell (p := ⟨gx, 4, none⟩) hgxw (.int .i64 ys)).setCell (p := ⟨gx, 5, none⟩) hgxw (.int .i64 yt)
                    all_goals
                      go_roundw
                      case rel =>
                        exact ⟨k + 1, ⟨yv, yp, ya, ym, ys, yt⟩, ly % 4, false, by omega, by omega, rfl, rfl, by go_num, hide (HK2.out), hide ((((((((HG3.out.far (by exact hne2.out) _).far (by exact hne2.out) _).far (by exact hne2.out) _).far (by exact hne2.out) _).far (by exact hne2.out) _).far (by exact hne2.out) _).alloc _)), hide (Blk.alloc (blk_close ((((((HX3.out.set 0 _).set 1 _).set 2 _).set 3 _).set 4 _).set 5 _) (by simp [RG.vals])) _), q4.alloc q4.size _⟩
                      case measure => simp [intOf]; omega
                  · have q6 : (ly % 4 != last) = false := by simpa using q6

                    have H1 : Hid (∀ W, GB W g x → Calls Try.prog 17 #[.pointer (some ⟨g, 0, none⟩), .agg #[.bool xv, .bool xp, .int .i64 xa, .int .i64 xm, .int .i64 xs, .int .i64 xt], .agg #[.int .i64 1, .int .i64 ly, .bool true, .bool on]] W fun e w' =>
                      e = .returned (.tuple #[.agg #[.bool yv, .bool yp, .int .i64 ya, .int .i64 ym, .int .i64 ys, .int .i64 yt], .bool true, .bool true]) ∧ GB w' g ⟨yv, yp, ya, ym, ys, yt⟩ ∧ W.grownBy w' (some g)) :=
                      hide (fun W hW => by subst hx; exact doesV _ ⟨yv, yp, ya, ym, ys, yt⟩ 1 ly true on true HD.out g W hW (hK.out.ok (by omega)))
                    have hX2 : Hid (Blk wr gx 27 #[.bool xv, .bool xp, .int .i64 xa, .int .i64 xm, .int .i64 xs, .int .i64 xt]) := by subst hx; exact hX
                    have HXE := hide hx
                    clear hx hX
                    have hX := hX2
                    clear hX2
                    obtain ⟨fx, lx, x0, x1, x2, x3, x4, x5⟩ := Blk.f6 hX.out
                    go_wp2_with (first
                      | (go_at_call 17; refine (H1.out _ (hG.out.alloc _)).mono ?_; rintro e w3 ⟨rfl, hG3, hg3⟩; have hX3 := Blk.grown (row := some g) (hX.out.alloc (.cells #[.int .i64 1, .int .i64 ly, .bool true, .bool on] 29)) hg3 hne.out; have hA3 := Blk.grown (row := some g) (Blk.new wr 29 #[.int .i64 1, .int .i64 ly, .bool true, .bool on]) hg3 (neg_ hG.out.lt (Nat.le_refl _)); obtain ⟨f3, l3, p0, p1, p2, p3, p4, p5⟩ := Blk.f6 hX3; obtain ⟨f3', l3', y0, y1, y2, y3⟩ := Blk.f4 hA3; have HG3 := hide hG3; have HX3 := hide hX3; have HB3 := hide hg3; clear hG3 hX3 hA3 hg3)
                      | (go_at_call 18; refine (gAimV _ _ rfl g _ (((((((HG3.out.far (by exact hne2.out) _).far (by exact hne2.out) _).far (by exact hne2.out) _).far (by exact hne2.out) _).far (by exact hne2.out) _).far (by exact hne2.out) _).alloc _)).mono ?_; rintro e w4 ⟨rfl, rfl⟩))
                    have q1 := hb'.alloc hb'.size (.cells #[.int .i64 1, .int .i64 ly, .bool true, .bool on] 29)
                    have q2 := b_grown q1 HB3.out q1.size hgw
                    have q4 := (((((q2.setCell (p := ⟨gx, 0, none⟩) hgxw (.bool yv)).setCell (p := ⟨gx, 1, none⟩) hgxw (.bool yp)).setCell (p := ⟨gx, 2, none⟩) hgxw (.int .i64 ya)).setCell (p := ⟨gx, 3, none⟩) hgxw (.int .i64 ym)).setCell (p := ⟨gx, 4, none⟩) hgxw (.int .i64 ys)).setCell (p := ⟨gx, 5, none⟩) hgxw (.int .i64 yt)
                    all_goals
                      go_roundw
                      case rel =>
                        exact ⟨k + 1, ⟨yv, yp, ya, ym, ys, yt⟩, ly % 4, false, by omega, by omega, rfl, rfl, by go_num, hide (HK2.out), hide ((((((((HG3.out.far (by exact hne2.out) _).far (by exact hne2.out) _).far (by exact hne2.out) _).far (by exact hne2.out) _).far (by exact hne2.out) _).far (by exact hne2.out) _).alloc _)), hide (Blk.alloc (blk_close ((((((HX3.out.set 0 _).set 1 _).set 2 _).set 3 _).set 4 _).set 5 _) (by simp [RG.vals])) _), q4.alloc q4.size _⟩
                      case measure => simp [intOf]; omega
                · skip

                  have H1 : Hid (∀ W, GB W g x → Calls Try.prog 17 #[.pointer (some ⟨g, 0, none⟩), .agg #[.bool xv, .bool xp, .int .i64 xa, .int .i64 xm, .int .i64 xs, .int .i64 xt], .agg #[.int .i64 1, .int .i64 ly, .bool true, .bool on]] W fun e w' =>
                    e = .returned (.tuple #[.agg #[.bool yv, .bool yp, .int .i64 ya, .int .i64 ym, .int .i64 ys, .int .i64 yt], .bool true, .bool true]) ∧ GB w' g ⟨yv, yp, ya, ym, ys, yt⟩ ∧ W.grownBy w' (some g)) :=
                    hide (fun W hW => by subst hx; exact doesV _ ⟨yv, yp, ya, ym, ys, yt⟩ 1 ly true on true HD.out g W hW (hK.out.ok (by omega)))
                  have hX2 : Hid (Blk wr gx 27 #[.bool xv, .bool xp, .int .i64 xa, .int .i64 xm, .int .i64 xs, .int .i64 xt]) := by subst hx; exact hX
                  have HXE := hide hx
                  clear hx hX
                  have hX := hX2
                  clear hX2
                  obtain ⟨fx, lx, x0, x1, x2, x3, x4, x5⟩ := Blk.f6 hX.out
                  go_wp2_with (first
                    | (go_at_call 17; refine (H1.out _ (hG.out.alloc _)).mono ?_; rintro e w3 ⟨rfl, hG3, hg3⟩; have hX3 := Blk.grown (row := some g) (hX.out.alloc (.cells #[.int .i64 1, .int .i64 ly, .bool true, .bool on] 29)) hg3 hne.out; have hA3 := Blk.grown (row := some g) (Blk.new wr 29 #[.int .i64 1, .int .i64 ly, .bool true, .bool on]) hg3 (neg_ hG.out.lt (Nat.le_refl _)); obtain ⟨f3, l3, p0, p1, p2, p3, p4, p5⟩ := Blk.f6 hX3; obtain ⟨f3', l3', y0, y1, y2, y3⟩ := Blk.f4 hA3; have HG3 := hide hG3; have HX3 := hide hX3; have HB3 := hide hg3; clear hG3 hX3 hA3 hg3)
                    | (go_at_call 18; refine (gAimV _ _ rfl g _ (((((((HG3.out.far (by exact hne2.out) _).far (by exact hne2.out) _).far (by exact hne2.out) _).far (by exact hne2.out) _).far (by exact hne2.out) _).far (by exact hne2.out) _).alloc _)).mono ?_; rintro e w4 ⟨rfl, rfl⟩))
                  have q1 := hb'.alloc hb'.size (.cells #[.int .i64 1, .int .i64 ly, .bool true, .bool on] 29)
                  have q2 := b_grown q1 HB3.out q1.size hgw
                  have q4 := (((((q2.setCell (p := ⟨gx, 0, none⟩) hgxw (.bool yv)).setCell (p := ⟨gx, 1, none⟩) hgxw (.bool yp)).setCell (p := ⟨gx, 2, none⟩) hgxw (.int .i64 ya)).setCell (p := ⟨gx, 3, none⟩) hgxw (.int .i64 ym)).setCell (p := ⟨gx, 4, none⟩) hgxw (.int .i64 ys)).setCell (p := ⟨gx, 5, none⟩) hgxw (.int .i64 yt)
                  all_goals
                    go_roundw
                    case rel =>
                      exact ⟨k + 1, ⟨yv, yp, ya, ym, ys, yt⟩, ly % 4, false, by omega, by omega, rfl, rfl, by go_num, hide (HK2.out), hide ((((((((HG3.out.far (by exact hne2.out) _).far (by exact hne2.out) _).far (by exact hne2.out) _).far (by exact hne2.out) _).far (by exact hne2.out) _).far (by exact hne2.out) _).alloc _)), hide (Blk.alloc (blk_close ((((((HX3.out.set 0 _).set 1 _).set 2 _).set 3 _).set 4 _).set 5 _) (by simp [RG.vals])) _), q4.alloc q4.size _⟩
                    case measure => simp [intOf]; omega
              · have q6 : (ly % 4 != last) = false := by simp [hl]
                clear hl

                have H1 : Hid (∀ W, GB W g x → Calls Try.prog 17 #[.pointer (some ⟨g, 0, none⟩), .agg #[.bool xv, .bool xp, .int .i64 xa, .int .i64 xm, .int .i64 xs, .int .i64 xt], .agg #[.int .i64 1, .int .i64 ly, .bool key, .bool on]] W fun e w' =>
                  e = .returned (.tuple #[.agg #[.bool yv, .bool yp, .int .i64 ya, .int .i64 ym, .int .i64 ys, .int .i64 yt], .bool true, .bool true]) ∧ GB w' g ⟨yv, yp, ya, ym, ys, yt⟩ ∧ W.grownBy w' (some g)) :=
                  hide (fun W hW => by subst hx; exact doesV _ ⟨yv, yp, ya, ym, ys, yt⟩ 1 ly key on true HD.out g W hW (hK.out.ok (by omega)))
                have hX2 : Hid (Blk wr gx 27 #[.bool xv, .bool xp, .int .i64 xa, .int .i64 xm, .int .i64 xs, .int .i64 xt]) := by subst hx; exact hX
                have HXE := hide hx
                clear hx hX
                have hX := hX2
                clear hX2
                obtain ⟨fx, lx, x0, x1, x2, x3, x4, x5⟩ := Blk.f6 hX.out
                go_wp2_with (first
                  | (go_at_call 17; refine (H1.out _ (hG.out.alloc _)).mono ?_; rintro e w3 ⟨rfl, hG3, hg3⟩; have hX3 := Blk.grown (row := some g) (hX.out.alloc (.cells #[.int .i64 1, .int .i64 ly, .bool key, .bool on] 29)) hg3 hne.out; have hA3 := Blk.grown (row := some g) (Blk.new wr 29 #[.int .i64 1, .int .i64 ly, .bool key, .bool on]) hg3 (neg_ hG.out.lt (Nat.le_refl _)); obtain ⟨f3, l3, p0, p1, p2, p3, p4, p5⟩ := Blk.f6 hX3; obtain ⟨f3', l3', y0, y1, y2, y3⟩ := Blk.f4 hA3; have HG3 := hide hG3; have HX3 := hide hX3; have HB3 := hide hg3; clear hG3 hX3 hA3 hg3)
                  | (go_at_call 18; refine (gAimV _ _ rfl g _ (((((((HG3.out.far (by exact hne2.out) _).far (by exact hne2.out) _).far (by exact hne2.out) _).far (by exact hne2.out) _).far (by exact hne2.out) _).far (by exact hne2.out) _).alloc _)).mono ?_; rintro e w4 ⟨rfl, rfl⟩))
                have q1 := hb'.alloc hb'.size (.cells #[.int .i64 1, .int .i64 ly, .bool key, .bool on] 29)
                have q2 := b_grown q1 HB3.out q1.size hgw
                have q4 := (((((q2.setCell (p := ⟨gx, 0, none⟩) hgxw (.bool yv)).setCell (p := ⟨gx, 1, none⟩) hgxw (.bool yp)).setCell (p := ⟨gx, 2, none⟩) hgxw (.int .i64 ya)).setCell (p := ⟨gx, 3, none⟩) hgxw (.int .i64 ym)).setCell (p := ⟨gx, 4, none⟩) hgxw (.int .i64 ys)).setCell (p := ⟨gx, 5, none⟩) hgxw (.int .i64 yt)
                all_goals
                  go_roundw
                  case rel =>
                    exact ⟨k + 1, ⟨yv, yp, ya, ym, ys, yt⟩, ly % 4, false, by omega, by omega, rfl, rfl, by go_num, hide (HK2.out), hide ((((((((HG3.out.far (by exact hne2.out) _).far (by exact hne2.out) _).far (by exact hne2.out) _).far (by exact hne2.out) _).far (by exact hne2.out) _).far (by exact hne2.out) _).alloc _)), hide (Blk.alloc (blk_close ((((((HX3.out.set 0 _).set 1 _).set 2 _).set 3 _).set 4 _).set 5 _) (by simp [RG.vals])) _), q4.alloc q4.size _⟩
                  case measure => simp [intOf]; omega
      · have hend : (k = n) ∨ (k = 150 ∧ k < n) := by omega
        rcases hend with rfl | ⟨rfl, hkn⟩
        all_goals
          go_wp2
          go_ret
          exact ⟨rfl, hb'⟩
end Go.Proofs.Ytdjbdlfdknfcaaa
