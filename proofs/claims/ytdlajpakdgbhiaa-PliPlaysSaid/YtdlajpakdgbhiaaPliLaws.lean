/-
  The laws of package pli: awake, PliMay.
-/
import Derived.Test.YtdlajpakdgbhiaaPli
import Derived.LoopTactic
import Derived.Deep.LoopGhost
import Derived.OwnWalk
namespace Go.Proofs.Ytdlajpakdgbhiaa
set_option linter.unusedSimpArgs false
set_option linter.unusedVariables false
open Go.RowKit

def awp (k : Nat) : Ask := if k ≤ 2 then ⟨2, 5, true, 2, 2, 1⟩ else if k ≤ 6 then ⟨2, 5, true, 6, 4, 2⟩ else if k ≤ 11 then ⟨2, 5, true, 11, 5, 3⟩ else if k ≤ 16 then ⟨2, 5, true, 16, 5, 4⟩ else ⟨2, 5, true, 21, 5, 5⟩
def aas (k : Nat) : Int := if k ≤ 2 then 0 else if k ≤ 6 then 2 else if k ≤ 11 then 206 else if k ≤ 16 then 20611 else 2061116
theorem awp_step (k : Nat) (h1 : 1 ≤ k) (h2 : k < 17) : (awp k).ok ∧
    (((awp k).tick k = (awp (k + 1), true) ∧ aas (k + 1) = aas k * 100 + k) ∨ ((awp k).tick k = (awp (k + 1), false) ∧ aas (k + 1) = aas k)) := by
  have h : k = 1 ∨ k = 2 ∨ k = 3 ∨ k = 4 ∨ k = 5 ∨ k = 6 ∨ k = 7 ∨ k = 8 ∨ k = 9 ∨ k = 10 ∨ k = 11 ∨ k = 12 ∨ k = 13 ∨ k = 14 ∨ k = 15 ∨ k = 16 := by omega
  rcases h with rfl | rfl | rfl | rfl | rfl | rfl | rfl | rfl | rfl | rfl | rfl | rfl | rfl | rfl | rfl | rfl <;> decide
theorem aas_bd (k : Nat) : 0 ≤ aas k ∧ aas k ≤ 2061116 := by
  unfold aas; split
  · omega
  · split
    · omega
    · split
      · omega
      · split <;> omega

set_option maxHeartbeats 1000000 in
theorem awake21 (w : World) : Calls Try.prog 21 #[] w fun e w' => e = .returned (.bool true) ∧ Below w.heap.size w w' := by
  have W0 : Hid (Ask.want ⟨2, 5, false, 0, 0, 0⟩ true 0 = (awp 1, true)) := hide (by decide)
  go_enter Try.func21, Try.ntmps21
  go_wp2_with (first
    | (go_at_call 20; refine (pliNew_ok _ _ _ (by omega)).mono ?_; rintro e w1 ⟨g, rfl, hb, hg, hB⟩; have HB := hide hB; have HW := hide hb; clear hB hb)
    | (go_at_call 22; refine (askWantV _ _ _ _ _ W0.out g _ HB.out (by decide) (by decide)).mono ?_; rintro e w2 ⟨rfl, hB2, hg2⟩; have HB2 := hide hB2; have HG2 := hide hg2; clear hB2 hg2))
  have HW2 : Below w.heap.size w w2 := b_grown HW.out HG2.out HW.out.size hg
  clear HB HG2 HW W0
  go_loopw [3, 4] (fun av i wr => ∃ k : Nat, 1 ≤ k ∧ k ≤ 17 ∧ av = .int .i64 (aas k) ∧ i = .int .i64 k ∧ Hid (Blk wr g 89 (awp k).cells) ∧ Below w.heap.size w wr) (fun _ i _ => 17 - (intOf i).toNat)
  case atStart => exact ⟨1, by omega, by omega, rfl, rfl, HB2, HW2⟩
  case round =>
    obtain ⟨k, hk, hk2, rfl, rfl, hB, hb'⟩ := hrel
    by_cases hlt : k < 17
    · obtain ⟨ok, hs⟩ := awp_step k hk hlt
      have bd := aas_bd k
      rcases hs with ⟨e1, e2⟩ | ⟨e1, e2⟩
      · have E1 := hide e1
        have E2 := hide e2
        clear e1 e2
        go_wp2_with (go_at_call 24; refine (askTickV _ _ _ _ E1.out g _ hB.out ok (by omega)).mono ?_; rintro e w3 ⟨rfl, hB3, hg3⟩; have HB3 := hide hB3; have HG3 := hide hg3; clear hB3 hg3)
        go_roundw
        case rel => exact ⟨k + 1, by omega, by omega, by rw [E2.out], by go_num, HB3, b_grown hb' HG3.out hb'.size hg⟩
        case measure => simp [intOf]; omega
      · have E1 := hide e1
        have E2 := hide e2
        clear e1 e2
        go_wp2_with (go_at_call 24; refine (askTickV _ _ _ _ E1.out g _ hB.out ok (by omega)).mono ?_; rintro e w3 ⟨rfl, hB3, hg3⟩; have HB3 := hide hB3; have HG3 := hide hg3; clear hB3 hg3)
        go_roundw
        case rel => exact ⟨k + 1, by omega, by omega, by rw [E2.out], by go_num, HB3, b_grown hb' HG3.out hb'.size hg⟩
        case measure => simp [intOf]; omega
    · obtain rfl : k = 17 := by omega
      have e17 : aas 17 = 2061116 := by decide
      go_wp2_with (go_at_call 28; refine (askSentV (awp 17) 5 (by decide) g _ hB.out).mono ?_; rintro e w3 ⟨rfl, rfl⟩)
      go_ret
      exact ⟨rfl, hb'⟩

theorem pliMay_walk (a : Int) (ha : -9223372036854775808 ≤ a ∧ a ≤ 9223372036854775807) (r : Int) (hr : -9223372036854775808 ≤ r ∧ r ≤ 9223372036854775807) (w : World) :
    Calls Try.prog 5 #[.int .i64 a, .int .i64 r] w fun e w' => e = .returned (.bool true) ∧ Below w.heap.size w w' := by
  by_cases h : 1 ≤ a ∧ a ≤ r ∧ r ≤ 1073741824
  · have H := hide h
    obtain ⟨h1, h2, h3⟩ := h
    go_enter Try.func5, Try.ntmps5
    go_wp2_with (first | (go_at_call 20; refine (pliNew_ok _ _ _ H.out).mono ?_; rintro e w1 ⟨g, rfl, hb, hg, hB⟩; have HB1 := hide hb; clear hB hb) | (go_at_call 21; refine (awake21 _).mono ?_; rintro e w2 ⟨rfl, hb2⟩; have HB2 := hide hb2; clear hb2))
    go_ret
    exact ⟨rfl, b_below HB1.out HB2.out HB1.out.size⟩
  · have H := hide h
    clear h
    go_enter Try.func5, Try.ntmps5
    go_wp2_with (first | (go_at_call 20; refine (pliNew_no _ _ _ H.out).mono ?_; rintro e w1 ⟨rfl, hb⟩; have HB1 := hide hb; clear hb) | (go_at_call 21; refine (awake21 _).mono ?_; rintro e w2 ⟨rfl, hb2⟩; have HB2 := hide hb2; clear hb2))
    all_goals go_ret
    all_goals first | (exfalso; have := H.out; omega) | exact ⟨ret_bool (by simp <;> omega), b_below HB1.out HB2.out HB1.out.size⟩
end Go.Proofs.Ytdlajpakdgbhiaa
