/-
  GateTurns and GatePaused: the walks.
-/
import Derived.Test.YtdjbdlfdknfcaaaGate4
import Derived.Test.YtdjbdlfdknfcaaaArgs
import Derived.LoopTactic
import Derived.Deep.LoopGhost
import Derived.OwnWalk
namespace Go.Proofs.Ytdjbdlfdknfcaaa
set_option linter.unusedSimpArgs false
set_option linter.unusedVariables false
open Go.RowKit

theorem gOpensV (x : RG) (n : Int) (b : Bool) (hn : (if 0 ≤ x.at_ then x.at_ else 0) = n) (hb : decide (0 ≤ x.at_) = b) (g : Nat) (w : World) (h : GB w g x) :
    Calls Try.prog 21 #[.pointer (some ⟨g, 0, none⟩)] w fun e w' => e = .returned (.tuple #[.int .i64 n, .bool b]) ∧ w = w' := by
  have := gOpens x g w h
  rwa [hn, hb] at this
theorem gNeedsV (x : RG) (n : Int) (b : Bool) (hn : (if x.need then x.aim else 0) = n) (hb : x.need = b) (ha : 0 ≤ x.aim) (g : Nat) (w : World) (h : GB w g x) :
    Calls Try.prog 23 #[.pointer (some ⟨g, 0, none⟩)] w fun e w' => e = .returned (.tuple #[.int .i64 n, .bool b]) ∧ GB w' g x ∧ w.grownBy w' (some g) := by
  have := gNeeds x ha g w h
  rwa [hn, hb] at this
theorem gCountsV (x : RG) (g : Nat) (w : World) (h : GB w g x) :
    Calls Try.prog 22 #[.pointer (some ⟨g, 0, none⟩)] w fun e w' => e = .returned (.tuple #[.int .i64 x.shu, .int .i64 x.tur]) ∧ GB w' g x ∧ w.grownBy w' (some g) := by
  obtain ⟨a, hB, ea⟩ := h
  exact (gCounts _ _ _ _ _ _ _ g w hB).mono fun e w' ⟨h1, h2, h3⟩ => ⟨h1, ⟨a, h2, ea⟩, h3⟩

theorem gNewV (vid : Bool) (n : Int) (hn : 0 ≤ n) (w : World) :
    Calls Try.prog 16 #[.bool vid, .int .i64 n] w fun e w' => ∃ g, e = .returned (.pointer (some ⟨g, 0, none⟩)) ∧ GB w' g ⟨vid, false, -1, n, 0, 0⟩ ∧ w.heap.size ≤ g ∧ Below w.heap.size w w' := by
  have := gNew vid n w
  rwa [Int.max_eq_left hn] at this
theorem gWantV (x : RG) (lay : Int) (hl : 0 ≤ lay) (g : Nat) (w : World) (h : GB w g x) :
    Calls Try.prog 20 #[.pointer (some ⟨g, 0, none⟩), .int .i64 lay] w fun e w' => e = .returned (.tuple #[]) ∧ GB w' g { x with aim := lay } ∧ w.grownBy w' (some g) := by
  have := gWant x lay g w h
  rwa [Int.max_eq_left hl] at this
theorem gCountsW (x : RG) (s u : Int) (hs : x.shu = s) (hu : x.tur = u) (g : Nat) (w : World) (h : GB w g x) :
    Calls Try.prog 22 #[.pointer (some ⟨g, 0, none⟩)] w fun e w' => e = .returned (.tuple #[.int .i64 s, .int .i64 u]) ∧ GB w' g x ∧ w.grownBy w' (some g) := by
  subst hs; subst hu; exact gCountsV x g w h
structure TInv (fr tq : Int) (x : RG) (at_ : Int) : Prop where
  eq : x = ⟨true, false, at_, tq, 0, x.tur⟩
  at2 : at_ = fr ∨ at_ = tq
  tur : x.tur = if at_ = tq ∧ fr ≠ tq then 1 else 0
theorem TInv.ok {fr tq at_ : Int} {x : RG} (h : TInv fr tq x at_) : x.ok := by
  have h1 := h.tur
  have h2 : x.shu = 0 := by rw [h.eq]
  unfold RG.ok
  split at h1 <;> omega
theorem tpassA {fr tq at_ : Int} {x : RG} (h : TInv fr tq x at_) (ht : 0 ≤ tq) (hf : 0 ≤ fr) (lay : Int) (hl : lay = tq) :
    ∃ y, x.pass lay true = (y, true) ∧ TInv fr tq y tq := by
  obtain ⟨h1, h2, h3⟩ := h
  subst hl
  rw [h1]
  simp only [RG.pass]
  refine ⟨⟨true, false, lay, lay, 0, if 0 ≤ at_ ∧ at_ ≠ lay then x.tur + 1 else x.tur⟩, by simp, rfl, .inr rfl, ?_⟩
  simp only [Bool.not_true, Bool.false_eq_true, if_false, BEq.rfl, Bool.and_true, if_true]
  rcases h2 with rfl | rfl
  · by_cases e : at_ = lay
    · simp [e] at h3 ⊢; exact h3
    · simp [e, hf] at h3 ⊢; omega
  · simp at h3 ⊢; omega
theorem tpassB {fr tq at_ : Int} {x : RG} (h : TInv fr tq x at_) (ht : 0 ≤ tq) (hf : 0 ≤ fr) (lay : Int) (key : Bool) (hl : ((lay == tq) && key) = false) :
    x.pass lay key = (x, lay == at_) := by
  obtain ⟨h1, h2, h3⟩ := h
  have h0 : 0 ≤ at_ := by rcases h2 with rfl | rfl <;> assumption
  rw [h1]
  simp only [RG.pass]
  simp only [Bool.not_true, Bool.false_eq_true, if_false, hl, h0, decide_true, Bool.true_and]
  rw [beqc]

set_option maxRecDepth 100000 in
set_option maxHeartbeats 4000000 in
theorem gateTurns_walk (f0 : Int) (hf0 : -9223372036854775808 ≤ f0 ∧ f0 ≤ 9223372036854775807) (t0 : Int) (ht0 : -9223372036854775808 ≤ t0 ∧ t0 ≤ 9223372036854775807)
    (A : Option Addr) (n c : Nat) (V : Nat → Nat → Value) {w : World} (hV : Rws [.int .i64] w A n c V) :
    Calls Try.prog 4 #[.int .i64 f0, .int .i64 t0, .slice A n c] w fun e w' => e = .returned (.bool true) ∧ Below w.heap.size w w' := by
  have HV := hide hV
  obtain ⟨hnc, hcm, _, _⟩ := hV
  unfold maxLen at hcm
  have b1 := and_3 f0
  have b2 := and_3 t0
  obtain ⟨fr, hA⟩ : ∃ a, f0 % 4 = a := ⟨_, rfl⟩
  obtain ⟨tq, hR⟩ : ∃ a, t0 % 4 = a := ⟨_, rfl⟩
  have a1 : 0 ≤ fr ∧ fr < 4 := by omega
  have a2 : 0 ≤ tq ∧ tq < 4 := by omega
  have P0 : RG.pass ⟨true, false, -1, fr, 0, 0⟩ fr true = (⟨true, false, fr, fr, 0, 0⟩, true) := by simp [RG.pass]
  have HP0 := hide P0
  clear P0
  go_enter Try.func4, Try.ntmps4
  go_wp2_with (first
    | (go_at_call 15; refine (awake14 _).mono ?_; rintro e w1 ⟨rfl, hb1⟩; have HB1 := hide hb1; clear hb1)
    | (go_at_call 16; refine (gNewV _ _ (by omega) _).mono ?_; rintro e w2 ⟨g, rfl, hG, hg, hb⟩; have HG := hide hG; have HB := hide hb; clear hG hb)
    | (go_at_call 19; refine (gPassV _ _ _ _ _ HP0.out g _ HG.out (by simp [RG.ok]) (by omega)).mono ?_; rintro e w3 ⟨rfl, hG3, hg3⟩; have HG3 := hide hG3; have HB3 := hide hg3; clear hG3 hg3)
    | (go_at_call 20; refine (gWantV _ _ (by omega) g _ HG3.out).mono ?_; rintro e w4 ⟨rfl, hG4, hg4⟩; have HG4 := hide hG4; have HB4 := hide hg4; clear hG4 hg4))
  have hlt := HG4.out.lt
  have HW : Below w.heap.size w w4 := by
    have q1 := HB1.out
    have q2 := b_below q1 HB.out q1.size
    have hg' : w.heap.size ≤ g := Nat.le_trans q1.size hg
    have q3 := b_grown q2 HB3.out q2.size hg'
    exact b_grown q3 HB4.out q3.size hg'
  have hgw : w.heap.size ≤ g := Nat.le_trans HB1.out.size hg
  have hT : TInv fr tq ⟨true, false, fr, tq, 0, 0⟩ fr := ⟨rfl, .inl rfl, by simp only; rw [if_neg (by omega)]⟩
  have HT := hide hT
  have HG5 : Hid (GB w4 g ⟨true, false, fr, tq, 0, 0⟩) := HG4.out
  clear hT HG HG3 HG4 HB HB1 HB3 HB4 HP0 b1 b2 hA hR hg
  go_loopw [8, 9] (fun av i wr => ∃ (k : Nat) (x : RG) (at_ : Int), k ≤ n ∧ k ≤ 60 ∧ av = .int .i64 at_ ∧ i = .int .i64 k ∧ Hid (TInv fr tq x at_) ∧ Hid (GB wr g x) ∧ Below w.heap.size w wr) (fun _ i _ => 60 - (intOf i).toNat)
  case atStart => exact ⟨0, _, fr, by omega, by omega, rfl, rfl, HT, HG5, HW⟩
  case round =>
    obtain ⟨k, x, at_, hk, hk2, rfl, rfl, hT, hG, hb'⟩ := hrel
    by_cases hlt : k < n ∧ k < 60
    · obtain ⟨hlt, hlt2⟩ := hlt
      obtain ⟨bl, o, rfl, hbl, ⟨nn, f0, _⟩, c0⟩ := (HV.out.below hb').at1 hlt
      rw [f0] at c0
      clear f0
      have b3 := and_3 nn
      obtain ⟨q, hq⟩ : ∃ q, bits .and .i64 nn 4 = q := ⟨_, rfl⟩
      by_cases hA : ((nn % 4 == tq) && decide (0 < q)) = true
      · have h1 : (nn % 4 == tq) = true := by simp only [Bool.and_eq_true] at hA; exact hA.1
        have h2 : 0 < q := by simp only [Bool.and_eq_true, decide_eq_true_eq] at hA; exact hA.2
        clear hA
        obtain ⟨y, hp, hT2⟩ := tpassA hT.out (by omega) (by omega) (nn % 4) (by simpa using h1)
        have HP := hide hp
        have HT2 := hide hT2
        clear hp hT2
        go_wp2_with (first
          | go_quiet (fail)
          | (go_at_call 19; refine (gPassV _ _ _ _ _ HP.out g _ (hG.out.drewN _) hT.out.ok (by omega)).mono ?_; rintro e w5 ⟨rfl, hG5, hg5⟩; have HG5 := hide hG5; have HB5 := hide hg5; clear hG5 hg5)
          | (go_at_call 21; refine (gOpensV y tq true (by rw [HT2.out.eq]; simp; omega) (by rw [HT2.out.eq]; simp; omega) g _ HG5.out).mono ?_; rintro e w6 ⟨rfl, rfl⟩))
        go_roundw
        case rel => exact ⟨k + 1, y, tq, by omega, by omega, rfl, by go_num, HT2, HG5, b_grown (b_drewN hb' _) HB5.out (b_drewN hb' _).size hgw⟩
        case measure => simp [intOf]; omega
      · have h0 : 0 ≤ at_ := by rcases hT.out.at2 with h | h <;> omega
        have HP : Hid (x.pass (nn % 4) (decide (0 < q)) = (x, nn % 4 == at_)) := tpassB hT.out (by omega) (by omega) (nn % 4) (decide (0 < q)) (by simpa using hA)
        by_cases h1 : (nn % 4 == tq) = true
        · have h2 : ¬ 0 < q := by rw [h1] at hA; simpa using hA
          have h3 : decide (0 < q) = false := by simp [h2]
          have HP : Hid (x.pass (nn % 4) false = (x, nn % 4 == at_)) := by have := HP.out; rwa [h3] at this
          clear hA h2
          go_wp2_with (first
            | go_quiet (fail)
            | (go_at_call 19; refine (gPassV _ _ _ _ _ HP.out g _ (hG.out.drewN _) hT.out.ok (by omega)).mono ?_; rintro e w5 ⟨rfl, hG5, hg5⟩; have HG5 := hide hG5; have HB5 := hide hg5; clear hG5 hg5)
            | (go_at_call 21; refine (gOpensV x at_ true (by rw [hT.out.eq]; simp; omega) (by rw [hT.out.eq]; simp; omega) g _ HG5.out).mono ?_; rintro e w6 ⟨rfl, rfl⟩))
          go_roundw
          case rel => exact ⟨k + 1, x, at_, by omega, by omega, rfl, by go_num, hT, HG5, b_grown (b_drewN hb' _) HB5.out (b_drewN hb' _).size hgw⟩
          case measure => simp [intOf]; omega
        · have h1 : (nn % 4 == tq) = false := by simpa using h1
          clear hA
          go_wp2_with (first
            | go_quiet (fail)
            | (go_at_call 19; refine (gPassV _ _ _ _ _ HP.out g _ (hG.out.drewN _) hT.out.ok (by omega)).mono ?_; rintro e w5 ⟨rfl, hG5, hg5⟩; have HG5 := hide hG5; have HB5 := hide hg5; clear hG5 hg5)
            | (go_at_call 21; refine (gOpensV x at_ true (by rw [hT.out.eq]; simp; omega) (by rw [hT.out.eq]; simp; omega) g _ HG5.out).mono ?_; rintro e w6 ⟨rfl, rfl⟩))
          go_roundw
          case rel => exact ⟨k + 1, x, at_, by omega, by omega, rfl, by go_num, hT, HG5, b_grown (b_drewN hb' _) HB5.out (b_drewN hb' _).size hgw⟩
          case measure => simp [intOf]; omega
    · have hend : (k = n) ∨ (k = 60 ∧ k < n) := by omega
      have hlt := hG.out.lt
      obtain ⟨e1, e2, e3⟩ := hT.out
      have HE := hide e1
      have HT3 := hide e3
      clear e1 e3
      have h0 : 0 ≤ at_ := by omega
      have hsh : Hid (x.shu = 0) := hide (by rw [HE.out])
      by_cases hat : at_ = tq
      · by_cases hfr : fr = tq
        · have htu : Hid (x.tur = 0) := hide (by rw [HT3.out]; simp [*])
          have hnd : Hid (x.need = false) := hide (by rw [HE.out]; simp [RG.need, *])
          have hna : Hid ((if x.need then x.aim else 0) = 0) := hide (by rw [hnd.out, HE.out]; simp)
          have ham : Hid (0 ≤ x.aim) := hide (by rw [HE.out]; show 0 ≤ tq; omega)
          have f1 : (at_ == tq) = true := by simp [hat]
          have f2 : (at_ != tq) = false := by simp [hat]
          have f3 : (fr != tq) = false := by simp [hfr]
          clear hat hfr e2
          rcases hend with rfl | ⟨rfl, hkn⟩
          all_goals
          go_wp2_with (first
            | (go_at_call 22; refine (gCountsW x 0 0 hsh.out htu.out g _ hG.out).mono ?_; rintro e w5 ⟨rfl, hG5, hg5⟩; have HG5 := hide hG5; have HB5 := hide hg5; clear hG5 hg5)
            | (go_at_call 23; refine (gNeedsV x 0 false hna.out hnd.out ham.out g _ HG5.out).mono ?_; rintro e w6 ⟨rfl, hG6, hg6⟩; have HB6 := hide hg6; clear hG6 hg6))
          all_goals
            go_ret
            have q1 := b_grown hb' HB5.out hb'.size hgw
            exact ⟨rfl, b_grown q1 HB6.out q1.size hgw⟩
        · have htu : Hid (x.tur = 1) := hide (by rw [HT3.out]; simp [*])
          have hnd : Hid (x.need = false) := hide (by rw [HE.out]; simp [RG.need, *])
          have hna : Hid ((if x.need then x.aim else 0) = 0) := hide (by rw [hnd.out, HE.out]; simp)
          have ham : Hid (0 ≤ x.aim) := hide (by rw [HE.out]; show 0 ≤ tq; omega)
          have f1 : (at_ == tq) = true := by simp [hat]
          have f2 : (at_ != tq) = false := by simp [hat]
          have f3 : (fr != tq) = true := by simp [hfr]
          clear hat hfr e2
          rcases hend with rfl | ⟨rfl, hkn⟩
          all_goals
          go_wp2_with (first
            | (go_at_call 22; refine (gCountsW x 0 1 hsh.out htu.out g _ hG.out).mono ?_; rintro e w5 ⟨rfl, hG5, hg5⟩; have HG5 := hide hG5; have HB5 := hide hg5; clear hG5 hg5)
            | (go_at_call 23; refine (gNeedsV x 0 false hna.out hnd.out ham.out g _ HG5.out).mono ?_; rintro e w6 ⟨rfl, hG6, hg6⟩; have HB6 := hide hg6; clear hG6 hg6))
          all_goals
            go_ret
            have q1 := b_grown hb' HB5.out hb'.size hgw
            exact ⟨rfl, b_grown q1 HB6.out q1.size hgw⟩
      ·   have f1 : (at_ == tq) = false := by simp [hat]
          have f2 : (at_ != tq) = true := by simp [hat]
          have htu : Hid (x.tur = 0) := hide (by rw [HT3.out]; simp [*])
          have hnd : Hid (x.need = true) := hide (by rw [HE.out]; simp [RG.need, *])
          have hna : Hid ((if x.need then x.aim else 0) = tq) := hide (by rw [hnd.out, HE.out]; simp)
          have ham : Hid (0 ≤ x.aim) := hide (by rw [HE.out]; show 0 ≤ tq; omega)
          clear hat e2
          rcases hend with rfl | ⟨rfl, hkn⟩
          all_goals
          go_wp2_with (first
            | (go_at_call 22; refine (gCountsW x 0 0 hsh.out htu.out g _ hG.out).mono ?_; rintro e w5 ⟨rfl, hG5, hg5⟩; have HG5 := hide hG5; have HB5 := hide hg5; clear hG5 hg5)
            | (go_at_call 23; refine (gNeedsV x tq true hna.out hnd.out ham.out g _ HG5.out).mono ?_; rintro e w6 ⟨rfl, hG6, hg6⟩; have HB6 := hide hg6; clear hG6 hg6))
          all_goals
            go_ret
            have q1 := b_grown hb' HB5.out hb'.size hgw
            exact ⟨rfl, b_grown q1 HB6.out q1.size hgw⟩
end Go.Proofs.Ytdjbdlfdknfcaaa
