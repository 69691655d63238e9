/-
  PliBackoff: the walk. (Written by wip/gen/plibackoff.py.)
-/
import Derived.Test.YtdlajpakdgbhiaaPliLaws
namespace Go.Proofs.Ytdlajpakdgbhiaa
set_option linter.unusedSimpArgs false
set_option linter.unusedVariables false
open Go.RowKit

structure BInv (a : Ask) (fi mo last gap t : Int) : Prop where
  efi : a.fi = fi
  emo : a.mo = mo
  wan : a.wan = true
  due : a.due = last + a.wai
  w1 : fi ≤ a.wai
  w2 : a.wai ≤ mo
  g1 : 0 ≤ gap
  g2 : gap ≤ a.wai
  g3 : gap = 0 → a.wai = fi
  l1 : last < t
  l2 : t ≤ last + a.wai
  l0 : 100 ≤ last
  sen : 0 ≤ a.sen ∧ a.sen ≤ t
theorem BInv.ok {a : Ask} {fi mo last gap t : Int} (h : BInv a fi mo last gap t) (hf : 1 ≤ fi ∧ fi ≤ 1000) (hm : fi ≤ mo ∧ mo ≤ 1000) (ht : t ≤ 10000) : a.ok := by
  obtain ⟨h1, h2, h3, h4, h5, h6, h7, h8, h9, h10, h11, h12, h13⟩ := h
  unfold Ask.ok; omega
theorem BInv.quiet {a : Ask} {fi mo last gap t : Int} (h : BInv a fi mo last gap t) (hlt : t < last + a.wai) : a.want true t = (a, false) ∧ BInv a fi mo last gap (t + 1) := by
  obtain ⟨h1, h2, h3, h4, h5, h6, h7, h8, h9, h10, h11, h12, h13⟩ := h
  refine ⟨?_, ⟨h1, h2, h3, h4, h5, h6, h7, h8, h9, by omega, by omega, h12, by omega⟩⟩
  have hd : t < a.due := by omega
  simp [Ask.want, Ask.tick, h3, hd]
theorem BInv.fires {a : Ask} {fi mo last gap t : Int} (h : BInv a fi mo last gap t) (hf : 1 ≤ fi) (ht : t = last + a.wai) : ∃ b, a.want true t = (b, true) ∧ BInv b fi mo t (t - last) (t + 1) := by
  obtain ⟨h1, h2, h3, h4, h5, h6, h7, h8, h9, h10, h11, h12, h13⟩ := h
  have hd : ¬ t < a.due := by omega
  refine ⟨{ a with wai := min (2 * a.wai) a.mo, due := t + min (2 * a.wai) a.mo, sen := a.sen + 1 }, by simp [Ask.want, Ask.tick, h3, hd], ⟨h1, h2, h3, rfl, ?_, ?_, ?_, ?_, ?_, ?_, ?_, ?_, ?_⟩⟩ <;> (try simp only) <;> omega

set_option maxRecDepth 100000 in
set_option maxHeartbeats 4000000 in
theorem pliBackoff_walk (f0 : Int) (hf0 : -9223372036854775808 ≤ f0 ∧ f0 ≤ 9223372036854775807) (m0 : Int) (hm0 : -9223372036854775808 ≤ m0 ∧ m0 ≤ 9223372036854775807) (t0 : Int) (ht0 : -9223372036854775808 ≤ t0 ∧ t0 ≤ 9223372036854775807) (w : World) :
    Calls Try.prog 6 #[.int .i64 f0, .int .i64 m0, .int .i64 t0] w fun e w' => e = .returned (.bool true) ∧ Below w.heap.size w w' := by
  have b1 := and_15 f0
  have b2 := and_127 m0
  obtain ⟨fi, hF⟩ : ∃ a, 1 + f0 % 16 = a := ⟨_, rfl⟩
  obtain ⟨mo, hM⟩ : ∃ a, fi + m0 % 128 = a := ⟨_, rfl⟩
  have a1 : 1 ≤ fi ∧ fi ≤ 16 := by omega
  have a2 : fi ≤ mo ∧ mo ≤ 200 := by omega
  by_cases c1 : t0 < 0
  · skip
    have W0 : Hid (Ask.want ⟨fi, mo, false, 0, 0, 0⟩ true 100 = (⟨fi, mo, true, 100 + fi, fi, 1⟩, true)) := hide (by simp [Ask.want])
    go_enter Try.func6, Try.ntmps6
    go_wp2_with (first
      | (go_at_call 20; refine (pliNew_ok fi mo _ (by omega)).mono ?_; rintro e w1 ⟨g, rfl, hb, hg, hB⟩; have HB1 := hide hB; have HW := hide hb; clear hB hb)
      | (go_at_call 21; refine (awake21 _).mono ?_; rintro e w2 ⟨rfl, hb2⟩; have HB2 := hide hb2; clear hb2)
      | (go_at_call 22; refine (askWantV _ _ _ _ _ W0.out g _ (HB1.out.below HB2.out HB1.out.lt) (by simp [Ask.ok]; omega) (by omega)).mono ?_; rintro e w3 ⟨rfl, hB3, hg3⟩; have HB3 := hide hB3; have HG3 := hide hg3; clear hB3 hg3))
    have q1 := b_below HW.out HB2.out HW.out.size
    have HW3 : Below w.heap.size w w3 := b_grown q1 HG3.out q1.size hg
    have HS : Hid (BInv ⟨fi, mo, true, 100 + fi, fi, 1⟩ fi mo 100 0 101) := hide ⟨rfl, rfl, rfl, rfl, by simp, by simp; omega, by omega, by simp; omega, fun _ => rfl, by omega, by simp only; omega, by omega, by simp⟩
    clear q1 HB1 HB2 HW HG3 W0 b1 b2 hF hM
    go_loopw [9, 10, 12] (fun lv gv i wr => ∃ (k : Nat) (a : Ask) (last gap : Int), 101 ≤ k ∧ (k : Int) ≤ (101 : Int) ∧ lv = .int .i64 last ∧ gv = .int .i64 gap ∧ i = .int .i64 k ∧ Hid (BInv a fi mo last gap k) ∧ Hid (Blk wr g 89 a.cells) ∧ Below w.heap.size w wr) (fun _ _ i _ => 1000 - (intOf i).toNat)
    case atStart => exact ⟨101, _, 100, 0, by omega, by omega, rfl, rfl, rfl, HS, HB3, HW3⟩
    case round =>
      obtain ⟨k, a, last, gap, hk, hk2, rfl, rfl, rfl, hK, hB, hb'⟩ := hrel
      by_cases hlt : (k : Int) < (101 : Int)
      · exfalso; omega
      · have ok := hK.out.ok (by omega) (by omega) (by omega)
        have hke : (k : Int) = (101 : Int) := by omega
        have e0 := hK.out.wan
        have f2 : (101 : Int) - 1 - last < mo := by
          have h1 := hK.out.l2; have h2 := hK.out.w2
          omega
        have f1 : decide ((101 : Int) - 1 - last < mo) = true := by
          have h1 := hK.out.l2; have h2 := hK.out.w2
          simp; omega
        have hl1 := hK.out.l1; have hl0 := hK.out.l0
        obtain ⟨fa, ma, wa, da, ia, sa⟩ := a
        simp only at e0
        subst e0
        have OK := hide ok
        have ok2 : Ask.ok ⟨fa, ma, false, 0, 0, sa⟩ := by simp only [Ask.ok] at ok ⊢; omega
        have OK2 := hide ok2
        have W1 : Hid (Ask.want ⟨fa, ma, true, da, ia, sa⟩ false (101 : Int) = (⟨fa, ma, false, 0, 0, sa⟩, false)) := hide (by simp [Ask.want])
        have W2 : Hid (Ask.tick ⟨fa, ma, false, 0, 0, sa⟩ ((101 : Int) + 10000) = (⟨fa, ma, false, 0, 0, sa⟩, false)) := hide (by simp [Ask.tick])
        have HK := hide hke
        clear ok ok2 hke
        go_wp2_with (first
          | (go_at_call 23; refine (askWantedV _ true rfl g _ hB.out).mono ?_; rintro e w6 ⟨rfl, rfl⟩)
          | (go_at_call 22; refine (askWantV _ _ _ _ _ W1.out g _ hB.out OK.out (by omega)).mono ?_; rintro e w5 ⟨rfl, hB5, hg5⟩; have HB5 := hide hB5; have HG5 := hide hg5; clear hB5 hg5)
          | (go_at_call 24; refine (askTickV _ _ _ _ W2.out g _ HB5.out OK2.out (by omega)).mono ?_; rintro e w7 ⟨rfl, hB7, hg7⟩; have HB7 := hide hB7; have HG7 := hide hg7; clear hB7 hg7))
        go_ret
        have q1 := b_grown hb' HG5.out hb'.size hg
        exact ⟨rfl, b_grown q1 HG7.out q1.size hg⟩
  by_cases c2 : 600 < t0
  · skip
    have W0 : Hid (Ask.want ⟨fi, mo, false, 0, 0, 0⟩ true 100 = (⟨fi, mo, true, 100 + fi, fi, 1⟩, true)) := hide (by simp [Ask.want])
    go_enter Try.func6, Try.ntmps6
    go_wp2_with (first
      | (go_at_call 20; refine (pliNew_ok fi mo _ (by omega)).mono ?_; rintro e w1 ⟨g, rfl, hb, hg, hB⟩; have HB1 := hide hB; have HW := hide hb; clear hB hb)
      | (go_at_call 21; refine (awake21 _).mono ?_; rintro e w2 ⟨rfl, hb2⟩; have HB2 := hide hb2; clear hb2)
      | (go_at_call 22; refine (askWantV _ _ _ _ _ W0.out g _ (HB1.out.below HB2.out HB1.out.lt) (by simp [Ask.ok]; omega) (by omega)).mono ?_; rintro e w3 ⟨rfl, hB3, hg3⟩; have HB3 := hide hB3; have HG3 := hide hg3; clear hB3 hg3))
    have q1 := b_below HW.out HB2.out HW.out.size
    have HW3 : Below w.heap.size w w3 := b_grown q1 HG3.out q1.size hg
    have HS : Hid (BInv ⟨fi, mo, true, 100 + fi, fi, 1⟩ fi mo 100 0 101) := hide ⟨rfl, rfl, rfl, rfl, by simp, by simp; omega, by omega, by simp; omega, fun _ => rfl, by omega, by simp only; omega, by omega, by simp⟩
    clear q1 HB1 HB2 HW HG3 W0 b1 b2 hF hM
    go_loopw [9, 10, 12] (fun lv gv i wr => ∃ (k : Nat) (a : Ask) (last gap : Int), 101 ≤ k ∧ (k : Int) ≤ (701 : Int) ∧ lv = .int .i64 last ∧ gv = .int .i64 gap ∧ i = .int .i64 k ∧ Hid (BInv a fi mo last gap k) ∧ Hid (Blk wr g 89 a.cells) ∧ Below w.heap.size w wr) (fun _ _ i _ => 1000 - (intOf i).toNat)
    case atStart => exact ⟨101, _, 100, 0, by omega, by omega, rfl, rfl, rfl, HS, HB3, HW3⟩
    case round =>
      obtain ⟨k, a, last, gap, hk, hk2, rfl, rfl, rfl, hK, hB, hb'⟩ := hrel
      by_cases hlt : (k : Int) < (701 : Int)
      · have OK := hide (hK.out.ok (by omega) (by omega) (by omega))
        have hl1 := hK.out.l1; have hl2 := hK.out.l2; have hl0 := hK.out.l0; have hw1 := hK.out.w1; have hw2 := hK.out.w2; have hg2 := hK.out.g2; have hg1 := hK.out.g1
        by_cases hq : (k : Int) < last + a.wai
        · obtain ⟨hd, hK2⟩ := hK.out.quiet hq
          have HD := hide hd
          have HK2 := hide hK2
          clear hd hK2
          go_wp2_with (go_at_call 22; refine (askWantV _ _ _ _ _ HD.out g _ hB.out OK.out (by omega)).mono ?_; rintro e w4 ⟨rfl, hB4, hg4⟩; have HB4 := hide hB4; have HG4 := hide hg4; clear hB4 hg4)
          go_roundw
          case rel => exact ⟨k + 1, a, last, gap, by omega, by omega, rfl, rfl, by go_num, hide (by simpa using HK2.out), HB4, b_grown hb' HG4.out hb'.size hg⟩
          case measure => simp [intOf]; omega
        have hke : (k : Int) = last + a.wai := by omega
        obtain ⟨b, hd, hK2⟩ := hK.out.fires (by omega) hke
        have HD := hide hd
        have HK2 := hide hK2
        have d1 : decide ((k : Int) - last < fi) = false := by simp; omega
        have d2 : decide (mo < (k : Int) - last) = false := by simp; omega
        have d3 : decide ((k : Int) - last < gap) = false := by simp; omega
        by_cases hg0 : gap = 0
        · have h9 := hK.out.g3 hg0
          subst hg0
          have d4 : ((k : Int) - last != fi) = false := by simp; omega
          clear hd hK2 hke hq h9
          go_wp2_with (go_at_call 22; refine (askWantV _ _ _ _ _ HD.out g _ hB.out OK.out (by omega)).mono ?_; rintro e w4 ⟨rfl, hB4, hg4⟩; have HB4 := hide hB4; have HG4 := hide hg4; clear hB4 hg4)
          go_roundw
          case rel => exact ⟨k + 1, b, k, k - last, by omega, by omega, by go_num, by go_num, by go_num, hide (by simpa using HK2.out), HB4, b_grown hb' HG4.out hb'.size hg⟩
          case measure => simp [intOf]; omega
        · have d4 : (gap == 0) = false := by simp [hg0]
          clear hd hK2 hke hq
          go_wp2_with (go_at_call 22; refine (askWantV _ _ _ _ _ HD.out g _ hB.out OK.out (by omega)).mono ?_; rintro e w4 ⟨rfl, hB4, hg4⟩; have HB4 := hide hB4; have HG4 := hide hg4; clear hB4 hg4)
          go_roundw
          case rel => exact ⟨k + 1, b, k, k - last, by omega, by omega, by go_num, by go_num, by go_num, hide (by simpa using HK2.out), HB4, b_grown hb' HG4.out hb'.size hg⟩
          case measure => simp [intOf]; omega
      · have ok := hK.out.ok (by omega) (by omega) (by omega)
        have hke : (k : Int) = (701 : Int) := by omega
        have e0 := hK.out.wan
        have f2 : (701 : Int) - 1 - last < mo := by
          have h1 := hK.out.l2; have h2 := hK.out.w2
          omega
        have f1 : decide ((701 : Int) - 1 - last < mo) = true := by
          have h1 := hK.out.l2; have h2 := hK.out.w2
          simp; omega
        have hl1 := hK.out.l1; have hl0 := hK.out.l0
        obtain ⟨fa, ma, wa, da, ia, sa⟩ := a
        simp only at e0
        subst e0
        have OK := hide ok
        have ok2 : Ask.ok ⟨fa, ma, false, 0, 0, sa⟩ := by simp only [Ask.ok] at ok ⊢; omega
        have OK2 := hide ok2
        have W1 : Hid (Ask.want ⟨fa, ma, true, da, ia, sa⟩ false (701 : Int) = (⟨fa, ma, false, 0, 0, sa⟩, false)) := hide (by simp [Ask.want])
        have W2 : Hid (Ask.tick ⟨fa, ma, false, 0, 0, sa⟩ ((701 : Int) + 10000) = (⟨fa, ma, false, 0, 0, sa⟩, false)) := hide (by simp [Ask.tick])
        have HK := hide hke
        clear ok ok2 hke
        go_wp2_with (first
          | (go_at_call 23; refine (askWantedV _ true rfl g _ hB.out).mono ?_; rintro e w6 ⟨rfl, rfl⟩)
          | (go_at_call 22; refine (askWantV _ _ _ _ _ W1.out g _ hB.out OK.out (by omega)).mono ?_; rintro e w5 ⟨rfl, hB5, hg5⟩; have HB5 := hide hB5; have HG5 := hide hg5; clear hB5 hg5)
          | (go_at_call 24; refine (askTickV _ _ _ _ W2.out g _ HB5.out OK2.out (by omega)).mono ?_; rintro e w7 ⟨rfl, hB7, hg7⟩; have HB7 := hide hB7; have HG7 := hide hg7; clear hB7 hg7))
        go_ret
        have q1 := b_grown hb' HG5.out hb'.size hg
        exact ⟨rfl, b_grown q1 HG7.out q1.size hg⟩
  · skip
    have W0 : Hid (Ask.want ⟨fi, mo, false, 0, 0, 0⟩ true 100 = (⟨fi, mo, true, 100 + fi, fi, 1⟩, true)) := hide (by simp [Ask.want])
    go_enter Try.func6, Try.ntmps6
    go_wp2_with (first
      | (go_at_call 20; refine (pliNew_ok fi mo _ (by omega)).mono ?_; rintro e w1 ⟨g, rfl, hb, hg, hB⟩; have HB1 := hide hB; have HW := hide hb; clear hB hb)
      | (go_at_call 21; refine (awake21 _).mono ?_; rintro e w2 ⟨rfl, hb2⟩; have HB2 := hide hb2; clear hb2)
      | (go_at_call 22; refine (askWantV _ _ _ _ _ W0.out g _ (HB1.out.below HB2.out HB1.out.lt) (by simp [Ask.ok]; omega) (by omega)).mono ?_; rintro e w3 ⟨rfl, hB3, hg3⟩; have HB3 := hide hB3; have HG3 := hide hg3; clear hB3 hg3))
    have q1 := b_below HW.out HB2.out HW.out.size
    have HW3 : Below w.heap.size w w3 := b_grown q1 HG3.out q1.size hg
    have HS : Hid (BInv ⟨fi, mo, true, 100 + fi, fi, 1⟩ fi mo 100 0 101) := hide ⟨rfl, rfl, rfl, rfl, by simp, by simp; omega, by omega, by simp; omega, fun _ => rfl, by omega, by simp only; omega, by omega, by simp⟩
    clear q1 HB1 HB2 HW HG3 W0 b1 b2 hF hM
    go_loopw [9, 10, 12] (fun lv gv i wr => ∃ (k : Nat) (a : Ask) (last gap : Int), 101 ≤ k ∧ (k : Int) ≤ (101 + t0) ∧ lv = .int .i64 last ∧ gv = .int .i64 gap ∧ i = .int .i64 k ∧ Hid (BInv a fi mo last gap k) ∧ Hid (Blk wr g 89 a.cells) ∧ Below w.heap.size w wr) (fun _ _ i _ => 1000 - (intOf i).toNat)
    case atStart => exact ⟨101, _, 100, 0, by omega, by omega, rfl, rfl, rfl, HS, HB3, HW3⟩
    case round =>
      obtain ⟨k, a, last, gap, hk, hk2, rfl, rfl, rfl, hK, hB, hb'⟩ := hrel
      by_cases hlt : (k : Int) < (101 + t0)
      · have OK := hide (hK.out.ok (by omega) (by omega) (by omega))
        have hl1 := hK.out.l1; have hl2 := hK.out.l2; have hl0 := hK.out.l0; have hw1 := hK.out.w1; have hw2 := hK.out.w2; have hg2 := hK.out.g2; have hg1 := hK.out.g1
        by_cases hq : (k : Int) < last + a.wai
        · obtain ⟨hd, hK2⟩ := hK.out.quiet hq
          have HD := hide hd
          have HK2 := hide hK2
          clear hd hK2
          go_wp2_with (go_at_call 22; refine (askWantV _ _ _ _ _ HD.out g _ hB.out OK.out (by omega)).mono ?_; rintro e w4 ⟨rfl, hB4, hg4⟩; have HB4 := hide hB4; have HG4 := hide hg4; clear hB4 hg4)
          go_roundw
          case rel => exact ⟨k + 1, a, last, gap, by omega, by omega, rfl, rfl, by go_num, hide (by simpa using HK2.out), HB4, b_grown hb' HG4.out hb'.size hg⟩
          case measure => simp [intOf]; omega
        have hke : (k : Int) = last + a.wai := by omega
        obtain ⟨b, hd, hK2⟩ := hK.out.fires (by omega) hke
        have HD := hide hd
        have HK2 := hide hK2
        have d1 : decide ((k : Int) - last < fi) = false := by simp; omega
        have d2 : decide (mo < (k : Int) - last) = false := by simp; omega
        have d3 : decide ((k : Int) - last < gap) = false := by simp; omega
        by_cases hg0 : gap = 0
        · have h9 := hK.out.g3 hg0
          subst hg0
          have d4 : ((k : Int) - last != fi) = false := by simp; omega
          clear hd hK2 hke hq h9
          go_wp2_with (go_at_call 22; refine (askWantV _ _ _ _ _ HD.out g _ hB.out OK.out (by omega)).mono ?_; rintro e w4 ⟨rfl, hB4, hg4⟩; have HB4 := hide hB4; have HG4 := hide hg4; clear hB4 hg4)
          go_roundw
          case rel => exact ⟨k + 1, b, k, k - last, by omega, by omega, by go_num, by go_num, by go_num, hide (by simpa using HK2.out), HB4, b_grown hb' HG4.out hb'.size hg⟩
          case measure => simp [intOf]; omega
        · have d4 : (gap == 0) = false := by simp [hg0]
          clear hd hK2 hke hq
          go_wp2_with (go_at_call 22; refine (askWantV _ _ _ _ _ HD.out g _ hB.out OK.out (by omega)).mono ?_; rintro e w4 ⟨rfl, hB4, hg4⟩; have HB4 := hide hB4; have HG4 := hide hg4; clear hB4 hg4)
          go_roundw
          case rel => exact ⟨k + 1, b, k, k - last, by omega, by omega, by go_num, by go_num, by go_num, hide (by simpa using HK2.out), HB4, b_grown hb' HG4.out hb'.size hg⟩
          case measure => simp [intOf]; omega
      · have ok := hK.out.ok (by omega) (by omega) (by omega)
        have hke : (k : Int) = (101 + t0) := by omega
        have e0 := hK.out.wan
        have f2 : (101 + t0) - 1 - last < mo := by
          have h1 := hK.out.l2; have h2 := hK.out.w2
          omega
        have f1 : decide ((101 + t0) - 1 - last < mo) = true := by
          have h1 := hK.out.l2; have h2 := hK.out.w2
          simp; omega
        have hl1 := hK.out.l1; have hl0 := hK.out.l0
        obtain ⟨fa, ma, wa, da, ia, sa⟩ := a
        simp only at e0
        subst e0
        have OK := hide ok
        have ok2 : Ask.ok ⟨fa, ma, false, 0, 0, sa⟩ := by simp only [Ask.ok] at ok ⊢; omega
        have OK2 := hide ok2
        have W1 : Hid (Ask.want ⟨fa, ma, true, da, ia, sa⟩ false (101 + t0) = (⟨fa, ma, false, 0, 0, sa⟩, false)) := hide (by simp [Ask.want])
        have W2 : Hid (Ask.tick ⟨fa, ma, false, 0, 0, sa⟩ ((101 + t0) + 10000) = (⟨fa, ma, false, 0, 0, sa⟩, false)) := hide (by simp [Ask.tick])
        have HK := hide hke
        clear ok ok2 hke
        go_wp2_with (first
          | (go_at_call 23; refine (askWantedV _ true rfl g _ hB.out).mono ?_; rintro e w6 ⟨rfl, rfl⟩)
          | (go_at_call 22; refine (askWantV _ _ _ _ _ W1.out g _ hB.out OK.out (by omega)).mono ?_; rintro e w5 ⟨rfl, hB5, hg5⟩; have HB5 := hide hB5; have HG5 := hide hg5; clear hB5 hg5)
          | (go_at_call 24; refine (askTickV _ _ _ _ W2.out g _ HB5.out OK2.out (by omega)).mono ?_; rintro e w7 ⟨rfl, hB7, hg7⟩; have HB7 := hide hB7; have HG7 := hide hg7; clear hB7 hg7))
        go_ret
        have q1 := b_grown hb' HG5.out hb'.size hg
        exact ⟨rfl, b_grown q1 HG7.out q1.size hg⟩
end Go.Proofs.Ytdlajpakdgbhiaa
