/-
  The laws of package stall.
-/
import Derived.Test.YtdlajpakdgbhiaaStall
import Derived.LoopTactic
import Derived.Deep.LoopGhost
import Derived.OwnWalk
namespace Go.Proofs.Ytdlajpakdgbhiaa
open Go.RowKit

theorem awTick (k : Nat) (h : k < 9) (r : Int) (hr : (if k = 3 then 1 else if k = 8 then 2 else 0) = r) (g : Nat) (w : World) (hB : Blk w g 91 (aw k).cells) :
    Calls Try.prog 32 #[.pointer (some ⟨g, 0, none⟩), .int .i64 k, .bool true, .bool false] w fun e w' =>
      e = .returned (.int .i64 r) ∧ Blk w' g 91 (aw (k + 1)).cells ∧ w.grownBy w' (some g) := by
  obtain ⟨o, e⟩ := aw_step k h
  have := dogTick (aw k) g k true false w hB o (by omega)
  rw [e, hr] at this
  exact this

set_option maxHeartbeats 1000000 in
theorem awake22 (w : World) : Calls Try.prog 31 #[] w fun e w' => e = .returned (.bool true) ∧ Below w.heap.size w w' := by
  go_enter Try.func31, Try.ntmps31
  go_wp2_with (go_at_call 30; refine (stallNew_ok _ _ _ (by omega)).mono ?_; rintro e w1 ⟨g, rfl, hb, hg, hB⟩)
  have HB := hide hB
  clear hB
  go_loopw [16] (fun i wr => ∃ k : Nat, k ≤ 9 ∧ i = .int .i64 k ∧ Hid (Blk wr g 91 (aw k).cells) ∧ Below w.heap.size w wr) (fun i _ => 9 - (intOf i).toNat)
  case atStart => exact ⟨0, by omega, rfl, HB, hb⟩
  case round =>
    obtain ⟨k, hk, rfl, hB, hb'⟩ := hrel
    by_cases hlt : k < 9
    · by_cases h3 : k = 3
      · have b3 : ((k : Int) == 3) = true := by simp [h3]
        have H3 := hide h3
        clear h3
        go_wp2_with (go_at_call 32; refine (awTick k hlt 1 (by simp [H3.out]) g _ hB.out).mono ?_; rintro e w2 ⟨rfl, hB2, hg2⟩)
        all_goals
          go_roundw
          case rel => exact ⟨k + 1, by omega, by go_num, hB2, b_grown hb' hg2 hb'.size hg⟩
          case measure => simp [intOf]; omega
      · have b3 : ((k : Int) == 3) = false := by simp; omega
        by_cases h8 : k = 8
        · have b8 : ((k : Int) == 8) = true := by simp [h8]
          have H8 := hide h8
          clear h8
          go_wp2_with (go_at_call 32; refine (awTick k hlt 2 (by simp [H8.out]) g _ hB.out).mono ?_; rintro e w2 ⟨rfl, hB2, hg2⟩)
          all_goals
            go_roundw
            case rel => exact ⟨k + 1, by omega, by go_num, hB2, b_grown hb' hg2 hb'.size hg⟩
            case measure => simp [intOf]; omega
        · have b8 : ((k : Int) == 8) = false := by simp; omega
          go_wp2_with (go_at_call 32; refine (awTick k hlt 0 (by simp [h3, h8]) g _ hB.out).mono ?_; rintro e w2 ⟨rfl, hB2, hg2⟩)
          all_goals
            go_roundw
            case rel => exact ⟨k + 1, by omega, by go_num, hB2, b_grown hb' hg2 hb'.size hg⟩
            case measure => simp [intOf]; omega
    · obtain rfl : k = 9 := by omega
      go_wp2_with (go_at_call 35; refine (dogTimes (aw 9) g _ hB.out).mono ?_; rintro e w2 ⟨rfl, rfl⟩)
      go_ret
      exact ⟨rfl, hb'⟩

theorem stallMay_walk (a : Int) (ha : -9223372036854775808 ≤ a ∧ a ≤ 9223372036854775807) (r : Int) (hr : -9223372036854775808 ≤ r ∧ r ≤ 9223372036854775807) (w : World) :
    Calls Try.prog 9 #[.int .i64 a, .int .i64 r] w fun e w' => e = .returned (.bool true) ∧ Below w.heap.size w w' := by
  by_cases h : 1 ≤ a ∧ a ≤ 1099511627776 ∧ 1 ≤ r ∧ r ≤ 1099511627776
  · have H := hide h
    obtain ⟨h1, h2, h3, h4⟩ := h
    go_enter Try.func9, Try.ntmps9
    go_wp2_with (first | (go_at_call 30; refine (stallNew_ok _ _ _ H.out).mono ?_; rintro e w1 ⟨g, rfl, hb, hg, hB⟩; clear hB) | (go_at_call 31; refine (awake22 _).mono ?_; rintro e w2 ⟨rfl, hb2⟩; obtain ⟨hc2, hf2, hz2⟩ := bcell hb2))
    go_ret
    exact ⟨rfl, b_below hb hb2 hb.size⟩
  · have H := hide h
    clear h
    go_enter Try.func9, Try.ntmps9
    go_wp2_with (first | (go_at_call 30; refine (stallNew_no _ _ _ H.out).mono ?_; rintro e w1 ⟨rfl, hb⟩) | (go_at_call 31; refine (awake22 _).mono ?_; rintro e w2 ⟨rfl, hb2⟩; obtain ⟨hc2, hf2, hz2⟩ := bcell hb2))
    all_goals go_ret
    all_goals first | (exfalso; have := H.out; omega) | exact ⟨ret_bool (by simp <;> omega), b_below hb hb2 hb.size⟩

/-! StallEnds -/
def es (a r : Int) (k : Nat) : Dog := ⟨a, r, 0, decide (k ≠ 0), false, 0, 0⟩
def eS (a r : Int) : Dog := ⟨a, r, 0, false, true, a + r, 1⟩
def eR (a r : Int) : Dog := ⟨a, r, 0, false, false, a + r, 1⟩
theorem es_step (a r : Int) (k : Nat) (h : (k : Int) < a) : (es a r k).tick k true false = (es a r (k + 1), 0) := by
  rcases Nat.eq_zero_or_pos k with h0 | h0
  · subst h0; simp [es, Dog.tick]; omega
  · simp [es, Dog.tick, show k ≠ 0 by omega, h]
theorem es_last (a r : Int) (k : Nat) (h : (k : Int) = a) (h1 : 1 ≤ a) : (es a r k).tick k true false = (eS a r, 1) := by
  subst h
  simp [es, eS, Dog.tick, show k ≠ 0 by omega]
theorem eS_step (a r : Int) (k : Nat) (wt : Bool) (h : (k : Int) < r) : (eS a r).tick (a + k) wt true = (eS a r, 0) := by
  simp [eS, Dog.tick]; omega
theorem eS_last (a r : Int) (wt : Bool) : (eS a r).tick (a + r) wt false = (eR a r, 2) := by
  simp [eS, eR, Dog.tick]

theorem esTick0 (a r : Int) (k : Nat) (h : (k : Int) < a) (h1 : 1 ≤ a) (h2 : a ≤ 100) (h3 : 1 ≤ r) (h4 : r ≤ 100) (g : Nat) (w : World) (hB : Blk w g 91 (es a r k).cells) :
    Calls Try.prog 32 #[.pointer (some ⟨g, 0, none⟩), .int .i64 k, .bool true, .bool false] w fun e w' =>
      e = .returned (.int .i64 0) ∧ Blk w' g 91 (es a r (k + 1)).cells ∧ w.grownBy w' (some g) := by
  have := dogTick (es a r k) g k true false w hB (by simp [Dog.ok, es]; omega) (by omega)
  rwa [es_step a r k h] at this
theorem esTick1 (a r : Int) (k : Nat) (h : (k : Int) = a) (h1 : 1 ≤ a) (h2 : a ≤ 100) (h3 : 1 ≤ r) (h4 : r ≤ 100) (g : Nat) (w : World) (hB : Blk w g 91 (es a r k).cells) :
    Calls Try.prog 32 #[.pointer (some ⟨g, 0, none⟩), .int .i64 k, .bool true, .bool false] w fun e w' =>
      e = .returned (.int .i64 1) ∧ Blk w' g 91 (eS a r).cells ∧ w.grownBy w' (some g) := by
  have := dogTick (es a r k) g k true false w hB (by simp [Dog.ok, es]; omega) (by omega)
  rwa [es_last a r k h h1] at this
theorem esTick2 (a r n : Int) (k : Nat) (wt : Bool) (hn : n = a + k) (h : (k : Int) < r) (h1 : 1 ≤ a) (h2 : a ≤ 100) (h3 : 1 ≤ r) (h4 : r ≤ 100) (g : Nat) (w : World) (hB : Blk w g 91 (eS a r).cells) :
    Calls Try.prog 32 #[.pointer (some ⟨g, 0, none⟩), .int .i64 n, .bool wt, .bool true] w fun e w' =>
      e = .returned (.int .i64 0) ∧ Blk w' g 91 (eS a r).cells ∧ w.grownBy w' (some g) := by
  subst hn
  have := dogTick (eS a r) g (a + k) wt true w hB (by simp [Dog.ok, eS]; omega) (by omega)
  rwa [eS_step a r k wt h] at this
theorem esTick3 (a r n : Int) (wt : Bool) (hn : n = a + r) (h1 : 1 ≤ a) (h2 : a ≤ 100) (h3 : 1 ≤ r) (h4 : r ≤ 100) (g : Nat) (w : World) (hB : Blk w g 91 (eS a r).cells) :
    Calls Try.prog 32 #[.pointer (some ⟨g, 0, none⟩), .int .i64 n, .bool wt, .bool false] w fun e w' =>
      e = .returned (.int .i64 2) ∧ Blk w' g 91 (eR a r).cells ∧ w.grownBy w' (some g) := by
  subst hn
  have := dogTick (eS a r) g (a + r) wt false w hB (by simp [Dog.ok, eS]; omega) (by omega)
  rwa [eS_last a r wt] at this

theorem susp_true (d : Dog) (h : d.susp = true) (g : Nat) (w : World) (hB : Blk w g 91 d.cells) :
    Calls Try.prog 34 #[.pointer (some ⟨g, 0, none⟩)] w fun e w' => e = .returned (.bool true) ∧ w = w' := by
  rw [← h]; exact dogSusp d g w hB
theorem susp_false (d : Dog) (h : d.susp = false) (g : Nat) (w : World) (hB : Blk w g 91 d.cells) :
    Calls Try.prog 34 #[.pointer (some ⟨g, 0, none⟩)] w fun e w' => e = .returned (.bool false) ∧ w = w' := by
  rw [← h]; exact dogSusp d g w hB
set_option maxHeartbeats 2000000 in
theorem stallEnds_walk (a0 : Int) (ha : -9223372036854775808 ≤ a0 ∧ a0 ≤ 9223372036854775807) (r0 : Int) (hr : -9223372036854775808 ≤ r0 ∧ r0 ≤ 9223372036854775807) (wt : Bool) (w : World) :
    Calls Try.prog 12 #[.int .i64 a0, .int .i64 r0, .bool wt] w fun e w' => e = .returned (.bool true) ∧ Below w.heap.size w w' := by
  have b1 := and_15 a0
  have b2 := and_31 r0
  obtain ⟨a, hA⟩ : ∃ a, 1 + a0 % 16 = a := ⟨_, rfl⟩
  obtain ⟨r, hR⟩ : ∃ r, 1 + r0 % 32 = r := ⟨_, rfl⟩
  have a1 : 1 ≤ a := by omega
  have a2 : a ≤ 16 := by omega
  have r1 : 1 ≤ r := by omega
  have r2 : r ≤ 32 := by omega
  go_enter Try.func12, Try.ntmps12
  go_wp2_with (first | (go_at_call 30; refine (stallNew_ok a r _ (by omega)).mono ?_; rintro e w1 ⟨g, rfl, hb, hg, hB⟩; have HB := hide hB; clear hB) | (go_at_call 31; refine (awake22 _).mono ?_; rintro e w2 ⟨rfl, hb2⟩; obtain ⟨hc2, hf2, hz2⟩ := bcell hb2))
  have hlt := HB.out.lt
  have HB2 : Hid (Blk w2 g 91 (es a r 0).cells) := HB.out.below hb2 hlt
  have HW : Below w.heap.size w w2 := b_below hb hb2 hb.size
  clear HB b1 b2 hA hR
  go_loopw [9] (fun i wr => ∃ k : Nat, (k : Int) ≤ a ∧ i = .int .i64 k ∧ Hid (Blk wr g 91 (es a r k).cells) ∧ Below w.heap.size w wr) (fun i _ => 20 - (intOf i).toNat)
  case atStart => exact ⟨0, by omega, rfl, HB2, HW⟩
  case round =>
    obtain ⟨k, hk, rfl, hB, hb'⟩ := hrel
    by_cases hlt : (k : Int) < a
    · go_wp2_with (go_at_call 32; refine (esTick0 a r k hlt a1 (by omega) r1 (by omega) g _ hB.out).mono ?_; rintro e w3 ⟨rfl, hB2, hg2⟩)
      go_roundw
      case rel => exact ⟨k + 1, by omega, by go_num, hB2, b_grown hb' hg2 hb'.size hg⟩
      case measure => simp [intOf]; omega
    · have hka : (k : Int) = a := by omega
      have bka : ((k : Int) != a) = false := by simp; omega
      have HK := hide hka
      clear hka
      go_wp2_with (first | (go_at_call 32; refine (esTick1 a r k HK.out a1 (by omega) r1 (by omega) g _ hB.out).mono ?_; rintro e w3 ⟨rfl, hB2, hg2⟩) | (go_at_call 34; refine (susp_true (eS a r) rfl g _ hB2).mono ?_; rintro e w4 ⟨rfl, rfl⟩))
      have HB3 := hide hB2
      have hW3 : Below w.heap.size w w3 := b_grown hb' hg2 hb'.size hg
      clear hB2 hB hg2 hb' HB2 HW hc2 hf2 hz2 hb2 hb
      go_loopw [10] (fun i wr => ∃ j : Nat, 1 ≤ j ∧ (j : Int) ≤ r ∧ i = .int .i64 j ∧ Hid (Blk wr g 91 (eS a r).cells) ∧ Below w.heap.size w wr) (fun i _ => 40 - (intOf i).toNat)
      case atStart => exact ⟨1, by omega, by omega, rfl, HB3, hW3⟩
      case round =>
        obtain ⟨j, hj1, hj, rfl, hB, hb'⟩ := hrel
        by_cases hlt : (j : Int) < r
        · go_wp2_with (go_at_call 32; refine (esTick2 a r _ j wt (by have := HK.out; omega) hlt a1 (by omega) r1 (by omega) g _ hB.out).mono ?_; rintro e w5 ⟨rfl, hB5, hg5⟩)
          go_roundw
          case rel => exact ⟨j + 1, by omega, by omega, by go_num, hB5, b_grown hb' hg5 hb'.size hg⟩
          case measure => simp [intOf]; omega
        · go_wp2_with (first | (go_at_call 32; refine (esTick3 a r _ wt (by have := HK.out; omega) a1 (by omega) r1 (by omega) g _ hB.out).mono ?_; rintro e w5 ⟨rfl, hB5, hg5⟩) | (go_at_call 34; refine (susp_false (eR a r) rfl g _ hB5).mono ?_; rintro e w6 ⟨rfl, rfl⟩))
          go_ret
          exact ⟨rfl, b_grown hb' hg5 hb'.size hg⟩
end Go.Proofs.Ytdlajpakdgbhiaa
