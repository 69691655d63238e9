/-
  GatePaused: the walk.
-/
import Derived.Test.YtdjbdlfdknfcaaaGateTurns
namespace Go.Proofs.Ytdjbdlfdknfcaaa
set_option linter.unusedSimpArgs false
set_option linter.unusedVariables false
open Go.RowKit

set_option maxHeartbeats 400000 in
theorem gPass1s (vid : Bool) (opn : Bool) (at_ : Int) (aim : Int) (shu : Int) (tur : Int) (lay : Int) (key : Bool) (g : Nat) (w : World) (hB : w.heap[g]? = some (.cells #[.bool vid, .bool opn, .int .i64 (at_), .int .i64 (aim), .bool true, .int .i64 (shu), .int .i64 (tur)] 101 (0, 0)))  :
    Calls Try.prog 19 #[.pointer (some ⟨g, 0, none⟩), .int .i64 (lay), .bool key] w fun e w' => e = .returned (.bool false) ∧ w = w' := by
  obtain ⟨hf, hlt, c0, c1, c2, c3, c4, c5, c6⟩ := Blk.f7 hB
  have HB := hide hB
  clear hB
  go_enter Try.func19, Try.ntmps19
  go_wp2_with (go_quiet (fail))
  go_ret
  exact ⟨rfl, rfl⟩

theorem gPassP (x : RG) (hp : x.pau = true) (lay : Int) (key : Bool) (g : Nat) (w : World) (h : GB w g x) :
    Calls Try.prog 19 #[.pointer (some ⟨g, 0, none⟩), .int .i64 lay, .bool key] w fun e w' => e = .returned (.bool false) ∧ w = w' := by
  obtain ⟨a, hB, ea⟩ := h
  rw [hp] at hB
  exact gPass1s _ _ _ _ _ _ _ _ g w hB
theorem quiet_l {P : Program} {f : FuncId} {args : Array Value} {w : World} {n : Nat} {v : Value}
    (h : Calls P f args (w.drewN n) fun e w' => e = .returned v ∧ w.drewN n = w') : Calls P f args (w.drewN n) fun e w'' => e = .returned v ∧ ∃ m, w'' = w.drewN m :=
  h.mono fun _ _ ⟨he, hm⟩ => ⟨he, n, hm.symm⟩
theorem and_1 (x : Int) : bits .and .i64 x 1 = x % 2 := and_ones x 1 (by omega)

set_option maxRecDepth 100000 in
set_option maxHeartbeats 4000000 in
theorem gatePaused_walk (vid : Bool) (A : Option Addr) (n c : Nat) (V : Nat → Nat → Value) {w : World} (hV : Rws [.int .i64] w A n c V) :
    Calls Try.prog 7 #[.bool vid, .slice A n c] w fun e w' => e = .returned (.bool true) ∧ Below w.heap.size w w' := by
  have HV := hide hV
  obtain ⟨hnc, hcm, _, _⟩ := hV
  unfold maxLen at hcm
  have HP0 : Hid (RG.pass ⟨vid, false, -1, 0, 0, 0⟩ 0 true = (⟨vid, false, 0, 0, 0, 0⟩, true)) := hide (by cases vid <;> decide)
  have HP1 : Hid (({ RG.close ⟨vid, false, 0, 0, 0, 0⟩ with pau := true } : RG) = ⟨vid, true, -1, 0, 1, 0⟩) := hide (by cases vid <;> decide)
  go_enter Try.func7, Try.ntmps7
  go_wp2_with (first
    | (go_at_call 15; refine (awake14 _).mono ?_; rintro e w1 ⟨rfl, hb1⟩; have HB1 := hide hb1; clear hb1)
    | (go_at_call 16; refine (gNewV _ _ (by omega) _).mono ?_; rintro e w2 ⟨g, rfl, hG, hg, hb⟩; have HG := hide hG; have HB := hide hb; clear hG hb)
    | (go_at_call 19; refine (gPassV _ _ _ _ _ HP0.out g _ HG.out (by simp [RG.ok]) (by omega)).mono ?_; rintro e w3 ⟨rfl, hG3, hg3⟩; have HG3 := hide hG3; have HB3 := hide hg3; clear hG3 hg3)
    | (go_at_call 30; refine (gPauseOn _ g _ HG3.out (by simp [RG.ok])).mono ?_; rintro e w4 ⟨rfl, hG4, hg4⟩; have HG4 := hide hG4; have HB4 := hide hg4; clear hG4 hg4))
  have HW : Below w.heap.size w w4 := by
    have q1 := HB1.out
    have q2 := b_below q1 HB.out q1.size
    have hg' : w.heap.size ≤ g := Nat.le_trans q1.size hg
    have q3 := b_grown q2 HB3.out q2.size hg'
    exact b_grown q3 HB4.out q3.size hg'
  have hgw : w.heap.size ≤ g := Nat.le_trans HB1.out.size hg
  have HG5 : Hid (GB w4 g ⟨vid, true, -1, 0, 1, 0⟩) := hide (HP1.out ▸ HG4.out)
  clear HG HG3 HG4 HB HB1 HB3 HB4 HP0 hg HP1
  go_loopw [6] (fun i wr => ∃ k : Nat, k ≤ n ∧ k ≤ 40 ∧ i = .int .i64 k ∧ Hid (GB wr g ⟨vid, true, -1, 0, 1, 0⟩) ∧ Below w.heap.size w wr) (fun i _ => 40 - (intOf i).toNat)
  case atStart => exact ⟨0, by omega, by omega, rfl, HG5, HW⟩
  case round =>
    obtain ⟨k, hk, hk2, rfl, hG, hb'⟩ := hrel
    by_cases hlt : k < n ∧ k < 40
    · obtain ⟨hlt, hlt2⟩ := hlt
      obtain ⟨bl, o, rfl, hbl, ⟨nn, f0, _⟩, c0⟩ := (HV.out.below hb').at1 hlt
      rw [f0] at c0
      clear f0
      have b3 := and_1 nn
      obtain ⟨q, hq⟩ : ∃ q, bits .and .i64 nn 2 = q := ⟨_, rfl⟩
      go_wp2_with (first
        | go_quiet ((go_at_call 19; exact quiet_l (gPassP _ rfl _ _ g _ (hG.out.drewN _))))
        | (go_at_call 23; refine (gNeedsV _ 0 false (by simp [RG.need]) (by simp [RG.need]) (by simp) g _ (hG.out.drewN _)).mono ?_; rintro e w6 ⟨rfl, hG6, hg6⟩; have HG6 := hide hG6; have HB6 := hide hg6; clear hG6 hg6))
      go_roundw
      case rel => exact ⟨k + 1, by omega, by omega, by go_num, HG6, b_grown (b_drewN hb' _) HB6.out (b_drewN hb' _).size hgw⟩
      case measure => simp [intOf]; omega
    · have hend : (k = n) ∨ (k = 40 ∧ k < n) := by omega
      cases vid
      · have HP2 : Hid (RG.pass ⟨false, false, -1, 0, 1, 0⟩ 0 false = (⟨false, false, 0, 0, 1, 0⟩, true)) := hide (by decide)
        have HP3 : Hid (RG.pass ⟨false, false, 0, 0, 1, 0⟩ 0 true = (⟨false, false, 0, 0, 1, 0⟩, true)) := hide (by decide)
        rcases hend with rfl | ⟨rfl, hkn⟩
        all_goals
          go_wp2_with (first
            | (go_at_call 30; refine (gPauseOff _ g _ hG.out).mono ?_; rintro e w5 ⟨rfl, hG5, hg5⟩; have HG5 := hide hG5; have HB5 := hide hg5; clear hG5 hg5)
            | (go_at_call 23; refine (gNeedsV _ 0 false (by simp [RG.need]) (by simp [RG.need]) (by simp) g _ HG5.out).mono ?_; rintro e w6 ⟨rfl, hG6, hg6⟩; have HG6 := hide hG6; have HB6 := hide hg6; clear hG6 hg6)
            | fail)
          refine (gPassV _ _ _ _ _ HP2.out g _ HG6.out (by simp [RG.ok]) (by omega)).mono ?_
          rintro e w7 ⟨rfl, hG7, hg7⟩
          go_wp2_with fail
          refine (gPassV _ _ _ _ _ HP3.out g _ hG7 (by simp [RG.ok]) (by omega)).mono ?_
          rintro e w8 ⟨rfl, hG8, hg8⟩
          go_wp2_with fail
          go_ret
          have q1 := b_grown hb' HB5.out hb'.size hgw
          have q2 := b_grown q1 HB6.out q1.size hgw
          have q3 := b_grown q2 hg7 q2.size hgw
          exact ⟨rfl, b_grown q3 hg8 q3.size hgw⟩
      · have HP2 : Hid (RG.pass ⟨true, false, -1, 0, 1, 0⟩ 0 false = (⟨true, false, -1, 0, 1, 0⟩, false)) := hide (by decide)
        have HP3 : Hid (RG.pass ⟨true, false, -1, 0, 1, 0⟩ 0 true = (⟨true, false, 0, 0, 1, 0⟩, true)) := hide (by decide)
        rcases hend with rfl | ⟨rfl, hkn⟩
        all_goals
          go_wp2_with (first
            | (go_at_call 30; refine (gPauseOff _ g _ hG.out).mono ?_; rintro e w5 ⟨rfl, hG5, hg5⟩; have HG5 := hide hG5; have HB5 := hide hg5; clear hG5 hg5)
            | (go_at_call 23; refine (gNeedsV _ 0 true (by simp [RG.need]) (by simp [RG.need]) (by simp) g _ HG5.out).mono ?_; rintro e w6 ⟨rfl, hG6, hg6⟩; have HG6 := hide hG6; have HB6 := hide hg6; clear hG6 hg6)
            | fail)
          refine (gPassV _ _ _ _ _ HP2.out g _ HG6.out (by simp [RG.ok]) (by omega)).mono ?_
          rintro e w7 ⟨rfl, hG7, hg7⟩
          go_wp2_with fail
          refine (gPassV _ _ _ _ _ HP3.out g _ hG7 (by simp [RG.ok]) (by omega)).mono ?_
          rintro e w8 ⟨rfl, hG8, hg8⟩
          go_wp2_with fail
          go_ret
          have q1 := b_grown hb' HB5.out hb'.size hgw
          have q2 := b_grown q1 HB6.out q1.size hgw
          have q3 := b_grown q2 hg7 q2.size hgw
          exact ⟨rfl, b_grown q3 hg8 q3.size hgw⟩
end Go.Proofs.Ytdjbdlfdknfcaaa
