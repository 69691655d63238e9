/-
  StallNever: who is sent something often enough is never suspended.
-/
import Derived.Test.YtdlajpakdgbhiaaStallPlays2
namespace Go.Proofs.Ytdlajpakdgbhiaa
open Go.RowKit

structure NInv (a : Int) (d : Dog) (now last : Int) (k : Nat) : Prop where
  after : d.after = a
  rest : d.rest = 5
  susp : d.susp = false
  times : d.times = 0
  til : d.til = 0
  b1 : 0 ≤ now ∧ now ≤ 7 * k
  b2 : 0 ≤ last ∧ last ≤ now
  b3 : 0 ≤ d.since ∧ d.since ≤ now
  w : d.waits = true → last ≤ d.since

theorem never_step {a : Int} {d : Dog} {now last : Int} {k : Nat} (h : NInv a d now last k) (ha : 1 ≤ a ∧ a ≤ 16) (n : Int) (hn : 0 ≤ n ∧ n ≤ 7) (wt s : Bool) (hs : s = true ∨ now + n - last < a) :
    ∃ d2, d.tick (now + n) wt s = (d2, 0) ∧ NInv a d2 (now + n) (if s || !wt then now + n else last) (k + 1) := by
  obtain ⟨af, rs, si, wa, su, ti, tm⟩ := d
  obtain ⟨h1, h2, h3, h4, h5, b1, b2, b3, hw⟩ := h
  simp only at *
  subst h1; subst h2; subst h3; subst h4; subst h5
  have a0 : 0 < af := by omega
  cases wt
  · refine ⟨⟨af, 5, si, false, false, 0, 0⟩, by simp [Dog.tick], ?_⟩
    simp only [Bool.not_false, Bool.or_true, if_true]
    constructor <;> intros <;> first | rfl | (simp only; omega) | omega | contradiction
  · cases s
    · have hs' : now + n - last < af := by simpa using hs
      simp only [Bool.not_true, Bool.or_false, Bool.false_eq_true, if_false]
      cases wa
      · refine ⟨⟨af, 5, now + n, true, false, 0, 0⟩, by simp [Dog.tick, a0], ?_⟩
        constructor <;> intros <;> first | rfl | (simp only; omega) | omega | contradiction
      · have hl := hw rfl
        have hlt : now + n - si < af := by omega
        refine ⟨⟨af, 5, si, true, false, 0, 0⟩, by simp [Dog.tick, hlt], ?_⟩
        constructor <;> intros <;> first | rfl | (simp only; omega) | omega | contradiction
    · simp only [Bool.not_true, Bool.or_false, if_true]
      refine ⟨⟨af, 5, now + n, true, false, 0, 0⟩, by simp [Dog.tick, a0], ?_⟩
      constructor <;> intros <;> first | rfl | (simp only; omega) | omega | contradiction

theorem neverTick {a : Int} {d : Dog} {now last : Int} {k : Nat} (h : NInv a d now last k) (ha : 1 ≤ a ∧ a ≤ 16) (hk : k ≤ 1000) (n : Int) (hn : 0 ≤ n ∧ n ≤ 7) (wt s : Bool) (hs : s = true ∨ now + n - last < a) (l : Int) (hl : (if s || !wt then now + n else last) = l) (g : Nat) (w : World) (hB : Blk w g 91 d.cells) :
    Calls Try.prog 32 #[.pointer (some ⟨g, 0, none⟩), .int .i64 (now + n), .bool wt, .bool s] w fun e w' =>
      e = .returned (.int .i64 0) ∧ (∃ d2, NInv a d2 (now + n) l (k + 1) ∧ Blk w' g 91 d2.cells) ∧ w.grownBy w' (some g) := by
  subst hl
  obtain ⟨d2, e, h2⟩ := never_step h ha n hn wt s hs
  have h3 := h.after; have h4 := h.rest; have h5 := h.til; have h6 := h.times; have h7 := h.b1; have h8 := h.b3
  have := dogTick d g (now + n) wt s w hB (by unfold Dog.ok; omega) (by omega)
  rw [e] at this
  exact this.mono fun e w' ⟨h1, h2', h3⟩ => ⟨h1, ⟨d2, h2, h2'⟩, h3⟩

set_option maxRecDepth 100000 in
set_option maxHeartbeats 4000000 in
theorem stallNever_walk (a0 : Int) (ha : -9223372036854775808 ≤ a0 ∧ a0 ≤ 9223372036854775807)
    (A : Option Addr) (n c : Nat) (V : Nat → Nat → Value) {w : World} (hV : Rws [.int .i64, .bool, .bool] w A n c V) :
    Calls Try.prog 11 #[.int .i64 a0, .slice A n c] w fun e w' => e = .returned (.bool true) ∧ Below w.heap.size w w' := by
  have HV := hide hV
  obtain ⟨hnc, hcm, _, _⟩ := hV
  unfold maxLen at hcm
  have b1 := and_15 a0
  obtain ⟨a, hA⟩ : ∃ a, 1 + a0 % 16 = a := ⟨_, rfl⟩
  have a1 : 1 ≤ a ∧ a ≤ 16 := by omega
  go_enter Try.func11, Try.ntmps11
  go_wp2_with (first | (go_at_call 30; refine (stallNew_ok a 5 _ (by omega)).mono ?_; rintro e w1 ⟨g, rfl, hb, hg, hB⟩; have HB := hide hB; clear hB) | (go_at_call 31; refine (awake22 _).mono ?_; rintro e w2 ⟨rfl, hb2⟩; obtain ⟨hc2, hf2, hz2⟩ := bcell hb2))
  have hlt := HB.out.lt
  have HB2 : Hid (Blk w2 g 91 (Dog.cells ⟨a, 5, 0, false, false, 0, 0⟩)) := HB.out.below hb2 hlt
  have HW : Below w.heap.size w w2 := b_below hb hb2 hb.size
  have hS : NInv a ⟨a, 5, 0, false, false, 0, 0⟩ 0 0 0 := by
    constructor <;> intros <;> first | rfl | (simp only; omega) | omega | contradiction
  have HS := hide hS
  clear HB b1 hA hb2 hc2 hf2 hb hS hlt
  go_loopw [7, 8, 9] (fun nw la i wr => ∃ (k : Nat) (d : Dog) (now last : Int), k ≤ n ∧ k ≤ 200 ∧ nw = .int .i64 now ∧ la = .int .i64 last ∧ i = .int .i64 k ∧ Hid (NInv a d now last k) ∧ Hid (Blk wr g 91 d.cells) ∧ Below w.heap.size w wr) (fun _ _ i _ => 200 - (intOf i).toNat)
  case atStart => exact ⟨0, _, 0, 0, by omega, by omega, rfl, rfl, rfl, HS, HB2, HW⟩
  case round =>
    obtain ⟨k, d, now, last, hk, hk2, rfl, rfl, rfl, hS, hB, hb'⟩ := hrel
    by_cases hlt : k < n
    · by_cases hlt2 : k < 200
      · obtain ⟨bl, o, rfl, hbl, ⟨nn, f0, _⟩, ⟨wt, f1⟩, ⟨st, f2⟩, c0, c1, c2⟩ := (HV.out.below hb').at3 hlt
        rw [f0] at c0
        rw [f1] at c1
        rw [f2] at c2
        clear f0 f1 f2
        have b7 := and_7 nn
        have bn := hS.out.b1
        have bl2 := hS.out.b2
        have hgl := hB.out.lt
        by_cases hc : a ≤ now + nn % 8 - last
        · cases wt <;> cases st
          all_goals
            go_wp2_with (first | (go_at_call 32; refine (neverTick hS.out a1 (by omega) (nn % 8) (by omega) _ _ (by first | exact Or.inl rfl | (right; omega)) _ rfl g _ (hB.out.alloc _)).mono ?_; rintro e w3 ⟨rfl, ⟨d2, hS2, hB3⟩, hg3⟩; have HS2 := hide hS2; have HB3 := hide hB3; have HG3 := hide hg3; clear hS2 hB3 hg3) | (go_at_call 34; refine (dogSuspV d2 false HS2.out.susp g _ HB3.out).mono ?_; rintro e w4 ⟨rfl, rfl⟩))
            go_roundw
            case rel =>
              first
                | exact ⟨k + 1, d2, now + nn % 8, now + nn % 8, by omega, by omega, rfl, rfl, by go_num, HS2, HB3, b_grown (hb'.alloc hb'.size _) HG3.out (hb'.alloc hb'.size _).size hg⟩
                | exact ⟨k + 1, d2, now + nn % 8, last, by omega, by omega, rfl, rfl, by go_num, HS2, HB3, b_grown (hb'.alloc hb'.size _) HG3.out (hb'.alloc hb'.size _).size hg⟩
            case measure => simp [intOf]; omega
        · cases wt <;> cases st
          all_goals
            go_wp2_with (first | (go_at_call 32; refine (neverTick hS.out a1 (by omega) (nn % 8) (by omega) _ _ (by first | exact Or.inl rfl | (right; omega)) _ rfl g _ (hB.out.alloc _)).mono ?_; rintro e w3 ⟨rfl, ⟨d2, hS2, hB3⟩, hg3⟩; have HS2 := hide hS2; have HB3 := hide hB3; have HG3 := hide hg3; clear hS2 hB3 hg3) | (go_at_call 34; refine (dogSuspV d2 false HS2.out.susp g _ HB3.out).mono ?_; rintro e w4 ⟨rfl, rfl⟩))
            go_roundw
            case rel =>
              first
                | exact ⟨k + 1, d2, now + nn % 8, now + nn % 8, by omega, by omega, rfl, rfl, by go_num, HS2, HB3, b_grown (hb'.alloc hb'.size _) HG3.out (hb'.alloc hb'.size _).size hg⟩
                | exact ⟨k + 1, d2, now + nn % 8, last, by omega, by omega, rfl, rfl, by go_num, HS2, HB3, b_grown (hb'.alloc hb'.size _) HG3.out (hb'.alloc hb'.size _).size hg⟩
            case measure => simp [intOf]; omega
      · obtain rfl : k = 200 := by omega
        go_wp2_with (go_at_call 35; refine (dogTimesV d 0 hS.out.times g _ hB.out).mono ?_; rintro e w3 ⟨rfl, rfl⟩)
        go_ret
        exact ⟨rfl, hb'⟩
    · obtain rfl : k = n := by omega
      go_wp2_with (go_at_call 35; refine (dogTimesV d 0 hS.out.times g _ hB.out).mono ?_; rintro e w3 ⟨rfl, rfl⟩)
      go_ret
      exact ⟨rfl, hb'⟩
end Go.Proofs.Ytdlajpakdgbhiaa
