/-
  PliAgain: the walk. (Written by wip/gen/pliagain.py.)
-/
import Derived.Test.YtdlajpakdgbhiaaPliLaws
namespace Go.Proofs.Ytdlajpakdgbhiaa
set_option linter.unusedSimpArgs false
set_option linter.unusedVariables false
open Go.RowKit

structure AInv (a : Ask) (fi mo : Int) (k : Nat) : Prop where
  fi : a.fi = fi
  mo : a.mo = mo
  wan : a.wan = true
  wai : 0 ≤ a.wai ∧ a.wai ≤ 1000
  sen : 0 ≤ a.sen ∧ a.sen ≤ k
theorem AInv.ok {a : Ask} {fi mo : Int} {k : Nat} (h : AInv a fi mo k) (hf : 1 ≤ fi ∧ fi ≤ 1000) (hm : 1 ≤ mo ∧ mo ≤ 1000) (hk : k ≤ 1000) : a.ok := by
  have h1 := h.fi; have h2 := h.mo; have h3 := h.wai; have h4 := h.sen
  unfold Ask.ok; omega
theorem AInv.tick {a : Ask} {fi mo : Int} {k : Nat} (h : AInv a fi mo k) (hm : 1 ≤ mo ∧ mo ≤ 1000) (now : Int) : ∃ b r, a.tick now = (b, r) ∧ AInv b fi mo (k + 1) := by
  have h3 := h.wai; have h4 := h.sen; have h2 := h.mo
  unfold Ask.tick
  by_cases hd : now < a.due
  · exact ⟨a, false, by simp [h.wan, hd], ⟨h.fi, h.mo, h.wan, h.wai, by omega⟩⟩
  · exact ⟨{ a with wai := min (2 * a.wai) a.mo, due := now + min (2 * a.wai) a.mo, sen := a.sen + 1 }, true, by simp [h.wan, hd], ⟨h.fi, h.mo, h.wan, by simp only; omega, by simp only; omega⟩⟩
theorem and_127m (x : Int) : bits .and .i64 x 127 = x % 128 := and_ones x 7 (by omega)

set_option maxRecDepth 100000 in
set_option maxHeartbeats 4000000 in
theorem pliAgain_walk (f0 : Int) (hf0 : -9223372036854775808 ≤ f0 ∧ f0 ≤ 9223372036854775807) (m0 : Int) (hm0 : -9223372036854775808 ≤ m0 ∧ m0 ≤ 9223372036854775807) (t0 : Int) (ht0 : -9223372036854775808 ≤ t0 ∧ t0 ≤ 9223372036854775807) (w : World) :
    Calls Try.prog 8 #[.int .i64 f0, .int .i64 m0, .int .i64 t0] w fun e w' => e = .returned (.bool true) ∧ Below w.heap.size w w' := by
  have b1 := and_15 f0
  have b2 := and_127 m0
  obtain ⟨fi, hF⟩ : ∃ a, 1 + f0 % 16 = a := ⟨_, rfl⟩
  obtain ⟨mo, hM⟩ : ∃ a, fi + m0 % 128 = a := ⟨_, rfl⟩
  have a1 : 1 ≤ fi ∧ fi ≤ 16 := by omega
  have a2 : fi ≤ mo ∧ mo ≤ 200 := by omega
  by_cases c1 : t0 < 0
  · skip
    have W0 : Hid (Ask.want ⟨fi, mo, false, 0, 0, 0⟩ true 0 = (⟨fi, mo, true, fi, fi, 1⟩, true)) := hide (by simp [Ask.want])
    go_enter Try.func8, Try.ntmps8
    go_wp2_with (first
      | (go_at_call 20; refine (pliNew_ok fi mo _ (by omega)).mono ?_; rintro e w1 ⟨g, rfl, hb, hg, hB⟩; have HB1 := hide hB; have HW := hide hb; clear hB hb)
      | (go_at_call 21; refine (awake21 _).mono ?_; rintro e w2 ⟨rfl, hb2⟩; have HB2 := hide hb2; clear hb2)
      | (go_at_call 22; refine (askWantV _ _ _ _ _ W0.out g _ (HB1.out.below HB2.out HB1.out.lt) (by simp [Ask.ok]; omega) (by omega)).mono ?_; rintro e w3 ⟨rfl, hB3, hg3⟩; have HB3 := hide hB3; have HG3 := hide hg3; clear hB3 hg3))
    have q1 := b_below HW.out HB2.out HW.out.size
    have HW3 : Below w.heap.size w w3 := b_grown q1 HG3.out q1.size hg
    have HS : Hid (AInv ⟨fi, mo, true, fi, fi, 1⟩ fi mo 1) := hide ⟨rfl, rfl, rfl, by simp only; omega, by simp⟩
    clear q1 HB1 HB2 HW HG3 W0 b1 b2 hF hM
    go_loopw [9] (fun i wr => ∃ (k : Nat) (a : Ask), 1 ≤ k ∧ (k : Int) ≤ (0 : Int) + 1 ∧ i = .int .i64 k ∧ Hid (AInv a fi mo k) ∧ Hid (Blk wr g 89 a.cells) ∧ Below w.heap.size w wr) (fun i _ => 302 - (intOf i).toNat)
    case atStart => exact ⟨1, _, by omega, by omega, rfl, HS, HB3, HW3⟩
    case round =>
      obtain ⟨k, a, hk, hk2, rfl, hK, hB, hb'⟩ := hrel
      by_cases hlt : (k : Int) ≤ (0 : Int)
      · exfalso; omega
      · have ok := hK.out.ok (by omega) (by omega) (by omega)
        have e1 := hK.out.fi
        have e2 := hK.out.mo
        obtain ⟨fa, ma, wa, da, ia, sa⟩ := a
        simp only at e1 e2
        subst e1; subst e2
        have OK := hide ok
        have ok2 : Ask.ok ⟨fa, ma, false, 0, 0, sa⟩ := by simp only [Ask.ok] at ok ⊢; omega
        have OK2 := hide ok2
        have W1 : Hid (Ask.want ⟨fa, ma, wa, da, ia, sa⟩ false (0 : Int) = (⟨fa, ma, false, 0, 0, sa⟩, false)) := hide (by simp [Ask.want])
        have W2 : Hid (Ask.tick ⟨fa, ma, false, 0, 0, sa⟩ ((0 : Int) + 1000) = (⟨fa, ma, false, 0, 0, sa⟩, false)) := hide (by simp [Ask.tick])
        have W3 : Hid (Ask.want ⟨fa, ma, false, 0, 0, sa⟩ true ((0 : Int) + 1000) = (⟨fa, ma, true, (0 : Int) + 1000 + fa, fa, sa + 1⟩, true)) := hide (by simp [Ask.want])
        clear ok ok2
        go_wp2_with fail
        refine (askWantV _ _ _ _ _ W1.out g _ hB.out OK.out (by omega)).mono ?_
        rintro e w5 ⟨rfl, hB5, hg5⟩
        have HB5 := hide hB5
        have HG5 := hide hg5
        clear hB5 hg5
        go_wp2_with (first
          | (go_at_call 23; refine (askWantedV _ false rfl g _ HB5.out).mono ?_; rintro e w6 ⟨rfl, rfl⟩)
          | (go_at_call 24; refine (askTickV _ _ _ _ W2.out g _ HB5.out OK2.out (by omega)).mono ?_; rintro e w7 ⟨rfl, hB7, hg7⟩; have HB7 := hide hB7; have HG7 := hide hg7; clear hB7 hg7)
          | (go_at_call 22; refine (askWantV _ _ _ _ _ W3.out g _ HB7.out OK2.out (by omega)).mono ?_; rintro e w8 ⟨rfl, hB8, hg8⟩; have HB8 := hide hB8; have HG8 := hide hg8; clear hB8 hg8)
          | (go_at_call 27; refine (askDueV _ ((0 : Int) + 1000 + fa) true rfl rfl g _ HB8.out).mono ?_; rintro e w9 ⟨rfl, hB9, hg9⟩; have HG9 := hide hg9; clear hB9 hg9))
        go_ret
        have q1 := b_grown hb' HG5.out hb'.size hg
        have q2 := b_grown q1 HG7.out q1.size hg
        have q3 := b_grown q2 HG8.out q2.size hg
        exact ⟨rfl, b_grown q3 HG9.out q3.size hg⟩
  by_cases c2 : 300 < t0
  · skip
    have W0 : Hid (Ask.want ⟨fi, mo, false, 0, 0, 0⟩ true 0 = (⟨fi, mo, true, fi, fi, 1⟩, true)) := hide (by simp [Ask.want])
    go_enter Try.func8, Try.ntmps8
    go_wp2_with (first
      | (go_at_call 20; refine (pliNew_ok fi mo _ (by omega)).mono ?_; rintro e w1 ⟨g, rfl, hb, hg, hB⟩; have HB1 := hide hB; have HW := hide hb; clear hB hb)
      | (go_at_call 21; refine (awake21 _).mono ?_; rintro e w2 ⟨rfl, hb2⟩; have HB2 := hide hb2; clear hb2)
      | (go_at_call 22; refine (askWantV _ _ _ _ _ W0.out g _ (HB1.out.below HB2.out HB1.out.lt) (by simp [Ask.ok]; omega) (by omega)).mono ?_; rintro e w3 ⟨rfl, hB3, hg3⟩; have HB3 := hide hB3; have HG3 := hide hg3; clear hB3 hg3))
    have q1 := b_below HW.out HB2.out HW.out.size
    have HW3 : Below w.heap.size w w3 := b_grown q1 HG3.out q1.size hg
    have HS : Hid (AInv ⟨fi, mo, true, fi, fi, 1⟩ fi mo 1) := hide ⟨rfl, rfl, rfl, by simp only; omega, by simp⟩
    clear q1 HB1 HB2 HW HG3 W0 b1 b2 hF hM
    go_loopw [9] (fun i wr => ∃ (k : Nat) (a : Ask), 1 ≤ k ∧ (k : Int) ≤ (300 : Int) + 1 ∧ i = .int .i64 k ∧ Hid (AInv a fi mo k) ∧ Hid (Blk wr g 89 a.cells) ∧ Below w.heap.size w wr) (fun i _ => 302 - (intOf i).toNat)
    case atStart => exact ⟨1, _, by omega, by omega, rfl, HS, HB3, HW3⟩
    case round =>
      obtain ⟨k, a, hk, hk2, rfl, hK, hB, hb'⟩ := hrel
      by_cases hlt : (k : Int) ≤ (300 : Int)
      · obtain ⟨b, r, hd, hK2⟩ := hK.out.tick (by omega) k
        have HD := hide hd
        have HK2 := hide hK2
        clear hd hK2
        go_wp2_with (go_at_call 24; refine (askTickV _ _ _ _ HD.out g _ hB.out (hK.out.ok (by omega) (by omega) (by omega)) (by omega)).mono ?_; rintro e w4 ⟨rfl, hB4, hg4⟩; have HB4 := hide hB4; have HG4 := hide hg4; clear hB4 hg4)
        go_roundw
        case rel => exact ⟨k + 1, b, by omega, by omega, by go_num, HK2, HB4, b_grown hb' HG4.out hb'.size hg⟩
        case measure => simp [intOf]; omega
      · have ok := hK.out.ok (by omega) (by omega) (by omega)
        have e1 := hK.out.fi
        have e2 := hK.out.mo
        obtain ⟨fa, ma, wa, da, ia, sa⟩ := a
        simp only at e1 e2
        subst e1; subst e2
        have OK := hide ok
        have ok2 : Ask.ok ⟨fa, ma, false, 0, 0, sa⟩ := by simp only [Ask.ok] at ok ⊢; omega
        have OK2 := hide ok2
        have W1 : Hid (Ask.want ⟨fa, ma, wa, da, ia, sa⟩ false (300 : Int) = (⟨fa, ma, false, 0, 0, sa⟩, false)) := hide (by simp [Ask.want])
        have W2 : Hid (Ask.tick ⟨fa, ma, false, 0, 0, sa⟩ ((300 : Int) + 1000) = (⟨fa, ma, false, 0, 0, sa⟩, false)) := hide (by simp [Ask.tick])
        have W3 : Hid (Ask.want ⟨fa, ma, false, 0, 0, sa⟩ true ((300 : Int) + 1000) = (⟨fa, ma, true, (300 : Int) + 1000 + fa, fa, sa + 1⟩, true)) := hide (by simp [Ask.want])
        clear ok ok2
        go_wp2_with fail
        refine (askWantV _ _ _ _ _ W1.out g _ hB.out OK.out (by omega)).mono ?_
        rintro e w5 ⟨rfl, hB5, hg5⟩
        have HB5 := hide hB5
        have HG5 := hide hg5
        clear hB5 hg5
        go_wp2_with (first
          | (go_at_call 23; refine (askWantedV _ false rfl g _ HB5.out).mono ?_; rintro e w6 ⟨rfl, rfl⟩)
          | (go_at_call 24; refine (askTickV _ _ _ _ W2.out g _ HB5.out OK2.out (by omega)).mono ?_; rintro e w7 ⟨rfl, hB7, hg7⟩; have HB7 := hide hB7; have HG7 := hide hg7; clear hB7 hg7)
          | (go_at_call 22; refine (askWantV _ _ _ _ _ W3.out g _ HB7.out OK2.out (by omega)).mono ?_; rintro e w8 ⟨rfl, hB8, hg8⟩; have HB8 := hide hB8; have HG8 := hide hg8; clear hB8 hg8)
          | (go_at_call 27; refine (askDueV _ ((300 : Int) + 1000 + fa) true rfl rfl g _ HB8.out).mono ?_; rintro e w9 ⟨rfl, hB9, hg9⟩; have HG9 := hide hg9; clear hB9 hg9))
        go_ret
        have q1 := b_grown hb' HG5.out hb'.size hg
        have q2 := b_grown q1 HG7.out q1.size hg
        have q3 := b_grown q2 HG8.out q2.size hg
        exact ⟨rfl, b_grown q3 HG9.out q3.size hg⟩
  · skip
    have W0 : Hid (Ask.want ⟨fi, mo, false, 0, 0, 0⟩ true 0 = (⟨fi, mo, true, fi, fi, 1⟩, true)) := hide (by simp [Ask.want])
    go_enter Try.func8, Try.ntmps8
    go_wp2_with (first
      | (go_at_call 20; refine (pliNew_ok fi mo _ (by omega)).mono ?_; rintro e w1 ⟨g, rfl, hb, hg, hB⟩; have HB1 := hide hB; have HW := hide hb; clear hB hb)
      | (go_at_call 21; refine (awake21 _).mono ?_; rintro e w2 ⟨rfl, hb2⟩; have HB2 := hide hb2; clear hb2)
      | (go_at_call 22; refine (askWantV _ _ _ _ _ W0.out g _ (HB1.out.below HB2.out HB1.out.lt) (by simp [Ask.ok]; omega) (by omega)).mono ?_; rintro e w3 ⟨rfl, hB3, hg3⟩; have HB3 := hide hB3; have HG3 := hide hg3; clear hB3 hg3))
    have q1 := b_below HW.out HB2.out HW.out.size
    have HW3 : Below w.heap.size w w3 := b_grown q1 HG3.out q1.size hg
    have HS : Hid (AInv ⟨fi, mo, true, fi, fi, 1⟩ fi mo 1) := hide ⟨rfl, rfl, rfl, by simp only; omega, by simp⟩
    clear q1 HB1 HB2 HW HG3 W0 b1 b2 hF hM
    go_loopw [9] (fun i wr => ∃ (k : Nat) (a : Ask), 1 ≤ k ∧ (k : Int) ≤ t0 + 1 ∧ i = .int .i64 k ∧ Hid (AInv a fi mo k) ∧ Hid (Blk wr g 89 a.cells) ∧ Below w.heap.size w wr) (fun i _ => 302 - (intOf i).toNat)
    case atStart => exact ⟨1, _, by omega, by omega, rfl, HS, HB3, HW3⟩
    case round =>
      obtain ⟨k, a, hk, hk2, rfl, hK, hB, hb'⟩ := hrel
      by_cases hlt : (k : Int) ≤ t0
      · obtain ⟨b, r, hd, hK2⟩ := hK.out.tick (by omega) k
        have HD := hide hd
        have HK2 := hide hK2
        clear hd hK2
        go_wp2_with (go_at_call 24; refine (askTickV _ _ _ _ HD.out g _ hB.out (hK.out.ok (by omega) (by omega) (by omega)) (by omega)).mono ?_; rintro e w4 ⟨rfl, hB4, hg4⟩; have HB4 := hide hB4; have HG4 := hide hg4; clear hB4 hg4)
        go_roundw
        case rel => exact ⟨k + 1, b, by omega, by omega, by go_num, HK2, HB4, b_grown hb' HG4.out hb'.size hg⟩
        case measure => simp [intOf]; omega
      · have ok := hK.out.ok (by omega) (by omega) (by omega)
        have e1 := hK.out.fi
        have e2 := hK.out.mo
        obtain ⟨fa, ma, wa, da, ia, sa⟩ := a
        simp only at e1 e2
        subst e1; subst e2
        have OK := hide ok
        have ok2 : Ask.ok ⟨fa, ma, false, 0, 0, sa⟩ := by simp only [Ask.ok] at ok ⊢; omega
        have OK2 := hide ok2
        have W1 : Hid (Ask.want ⟨fa, ma, wa, da, ia, sa⟩ false t0 = (⟨fa, ma, false, 0, 0, sa⟩, false)) := hide (by simp [Ask.want])
        have W2 : Hid (Ask.tick ⟨fa, ma, false, 0, 0, sa⟩ (t0 + 1000) = (⟨fa, ma, false, 0, 0, sa⟩, false)) := hide (by simp [Ask.tick])
        have W3 : Hid (Ask.want ⟨fa, ma, false, 0, 0, sa⟩ true (t0 + 1000) = (⟨fa, ma, true, t0 + 1000 + fa, fa, sa + 1⟩, true)) := hide (by simp [Ask.want])
        clear ok ok2
        go_wp2_with fail
        refine (askWantV _ _ _ _ _ W1.out g _ hB.out OK.out (by omega)).mono ?_
        rintro e w5 ⟨rfl, hB5, hg5⟩
        have HB5 := hide hB5
        have HG5 := hide hg5
        clear hB5 hg5
        go_wp2_with (first
          | (go_at_call 23; refine (askWantedV _ false rfl g _ HB5.out).mono ?_; rintro e w6 ⟨rfl, rfl⟩)
          | (go_at_call 24; refine (askTickV _ _ _ _ W2.out g _ HB5.out OK2.out (by omega)).mono ?_; rintro e w7 ⟨rfl, hB7, hg7⟩; have HB7 := hide hB7; have HG7 := hide hg7; clear hB7 hg7)
          | (go_at_call 22; refine (askWantV _ _ _ _ _ W3.out g _ HB7.out OK2.out (by omega)).mono ?_; rintro e w8 ⟨rfl, hB8, hg8⟩; have HB8 := hide hB8; have HG8 := hide hg8; clear hB8 hg8)
          | (go_at_call 27; refine (askDueV _ (t0 + 1000 + fa) true rfl rfl g _ HB8.out).mono ?_; rintro e w9 ⟨rfl, hB9, hg9⟩; have HG9 := hide hg9; clear hB9 hg9))
        go_ret
        have q1 := b_grown hb' HG5.out hb'.size hg
        have q2 := b_grown q1 HG7.out q1.size hg
        have q3 := b_grown q2 HG8.out q2.size hg
        exact ⟨rfl, b_grown q3 HG9.out q3.size hg⟩
end Go.Proofs.Ytdlajpakdgbhiaa
