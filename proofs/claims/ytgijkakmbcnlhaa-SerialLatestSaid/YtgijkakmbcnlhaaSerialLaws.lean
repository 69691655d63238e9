/-
  The laws of package serial: each law's function returns true, whatever it is given.
-/
import Derived.Test.YtgijkakmbcnlhaaSerial
namespace Go.Proofs.Ytgijkakmbcnlhaa
set_option linter.unusedSimpArgs false
set_option linter.unusedVariables false
open Go.RowKit

set_option maxHeartbeats 400000 in
theorem serialDist_walk (a : Int) (ha : 0 ≤ a ∧ a ≤ 65535) (b : Int) (hb : 0 ≤ b ∧ b ≤ 65535) (c : Int) (hc : 0 ≤ c ∧ c ≤ 4294967295) (d : Int) (hd : 0 ≤ d ∧ d ≤ 4294967295) (w : World) :
    Calls Try.prog 3 #[.int .u16 a, .int .u16 b, .int .u32 c, .int .u32 d] w fun e w' => e = .returned (.bool true) ∧ Below w.heap.size w w' := by
  go_enter Try.func3, Try.ntmps3
  go_wp2_with (first | (go_at_call 13; refine (rdist _ _ _ (by omega) (by omega) (by omega) (by omega) (by omega) (by omega) _).mono ?_; rintro e w' ⟨rfl, rfl⟩) | (go_at_call 14; refine (awake1 _).mono ?_; rintro e w' ⟨rfl, rfl⟩) | (go_at_call 15; refine (dist16 _ _ (by omega) (by omega) (by omega) (by omega) _).mono ?_; rintro e w' ⟨rfl, rfl⟩) | (go_at_call 16; refine (ahead16 _ _ (by omega) (by omega) (by omega) (by omega) _).mono ?_; rintro e w' ⟨rfl, rfl⟩) | (go_at_call 17; refine (dist32 _ _ (by omega) (by omega) (by omega) (by omega) _).mono ?_; rintro e w' ⟨rfl, rfl⟩) | (go_at_call 18; refine (ahead32 _ _ (by omega) (by omega) (by omega) (by omega) _).mono ?_; rintro e w' ⟨rfl, rfl⟩))
  all_goals go_ret
  all_goals exact ⟨rfl, Below.refl _ _⟩

set_option maxHeartbeats 400000 in
theorem serialNear_walk (n : Int) (hn : -9223372036854775808 ≤ n ∧ n ≤ 9223372036854775807) (a : Int) (ha : 0 ≤ a ∧ a ≤ 65535) (c : Int) (hc : 0 ≤ c ∧ c ≤ 4294967295) (w : World) :
    Calls Try.prog 5 #[.int .i64 n, .int .u16 a, .int .u32 c] w fun e w' => e = .returned (.bool true) ∧ Below w.heap.size w w' := by
  by_cases h1 : n > 1125899906842624
  · go_enter Try.func5, Try.ntmps5
    go_wp2_with (first | (go_at_call 14; refine (awake1 _).mono ?_; rintro e w' ⟨rfl, rfl⟩))
    go_ret
    exact ⟨rfl, Below.refl _ _⟩
  by_cases h2 : n < -1125899906842624
  · go_enter Try.func5, Try.ntmps5
    go_wp2_with (first | (go_at_call 14; refine (awake1 _).mono ?_; rintro e w' ⟨rfl, rfl⟩))
    go_ret
    exact ⟨rfl, Below.refl _ _⟩
  have d1 := dz_bd16 a (n % 65536)
  have d2 := dz_bd32 c (n % 4294967296)
  have e1 : (nz 65536 n a) % 65536 = a := by unfold nz dz; omega
  have e2 : (nz 4294967296 n c) % 4294967296 = c := by unfold nz dz; omega
  have e3 : -32768 ≤ nz 65536 n a - n ∧ nz 65536 n a - n < 32768 := by unfold nz; omega
  have e4 : -9223372036854775808 ≤ nz 65536 n a ∧ nz 65536 n a ≤ 9223372036854775807 := by unfold nz; omega
  have H1 := hide e1
  have H2 := hide e2
  clear e1 e2
  go_enter Try.func5, Try.ntmps5
  go_wp2_with (first | (go_at_call 14; refine (awake1 _).mono ?_; rintro e w' ⟨rfl, rfl⟩) | (go_at_call 19; refine (near16 _ _ (by omega) (by omega) (by omega) (by omega) _).mono ?_; rintro e w' ⟨rfl, rfl⟩) | (go_at_call 20; refine (near32 _ _ (by omega) (by omega) (by omega) (by omega) _).mono ?_; rintro e w' ⟨rfl, rfl⟩) | (go_at_call 21; refine (rnear _ _ _ (by omega) (by omega) (by omega) (by omega) (by omega) (by omega) _).mono ?_; rintro e w' ⟨rfl, rfl⟩))
  all_goals go_ret
  all_goals exact ⟨rfl, Below.refl _ _⟩

theorem dz_self (way a : Int) (h : 2 ≤ way) : dz way a a = 0 := by
  unfold dz; rw [Int.sub_self, Int.zero_emod, if_pos (by omega)]

theorem one16 (a b : Int) (ha : 0 ≤ a ∧ a ≤ 65535) (hb : 0 ≤ b ∧ b ≤ 65535) (h : ¬ a = b) :
    ((decide (0 < dz 65536 a b) == decide (0 < dz 65536 b a)) == (IntKind.u16.wrap (a - b) == 32768)) = true := by
  have h1 := dz_pos16 a b
  have h2 := dz_pos16 b a
  by_cases x : 0 < dz 65536 a b <;> by_cases y : 0 < dz 65536 b a <;> simp only [x, y, true_iff, false_iff, decide_true, decide_false, IntKind.wrap_u16] at * <;>
    simp <;> omega
theorem one32 (a b : Int) (ha : 0 ≤ a ∧ a ≤ 4294967295) (hb : 0 ≤ b ∧ b ≤ 4294967295) (h : ¬ a = b) :
    ((decide (0 < dz 4294967296 a b) == decide (0 < dz 4294967296 b a)) == ((a - b) % 4294967296 == 2147483648)) = true := by
  have h1 := dz_pos32 a b
  have h2 := dz_pos32 b a
  by_cases x : 0 < dz 4294967296 a b <;> by_cases y : 0 < dz 4294967296 b a <;> simp only [x, y, true_iff, false_iff, decide_true, decide_false] at * <;>
    simp <;> omega

set_option maxHeartbeats 1000000 in
theorem serialOne_walk (a : Int) (ha : 0 ≤ a ∧ a ≤ 65535) (b : Int) (hb : 0 ≤ b ∧ b ≤ 65535) (c : Int) (hc : 0 ≤ c ∧ c ≤ 4294967295) (d : Int) (hd : 0 ≤ d ∧ d ≤ 4294967295) (w : World) :
    Calls Try.prog 4 #[.int .u16 a, .int .u16 b, .int .u32 c, .int .u32 d] w fun e w' => e = .returned (.bool true) ∧ Below w.heap.size w w' := by
  by_cases hab : a = b <;> by_cases hcd : c = d
  · subst hab
    subst hcd
    have e1 := dz_self 65536 a (by omega)
    go_enter Try.func4, Try.ntmps4
    go_wp2_with (first | (go_at_call 14; refine (awake1 _).mono ?_; rintro e w' ⟨rfl, rfl⟩) | (go_at_call 15; refine (dist16 _ _ (by omega) (by omega) (by omega) (by omega) _).mono ?_; rintro e w' ⟨rfl, rfl⟩) | (go_at_call 16; refine (ahead16 _ _ (by omega) (by omega) (by omega) (by omega) _).mono ?_; rintro e w' ⟨rfl, rfl⟩) | (go_at_call 18; refine (ahead32 _ _ (by omega) (by omega) (by omega) (by omega) _).mono ?_; rintro e w' ⟨rfl, rfl⟩))
    all_goals (go_ret; exact ⟨rfl, Below.refl _ _⟩)
  · subst hab
    have e1 := dz_self 65536 a (by omega)
    have e2 := one32 c d hc hd hcd
    go_enter Try.func4, Try.ntmps4
    go_wp2_with (first | (go_at_call 14; refine (awake1 _).mono ?_; rintro e w' ⟨rfl, rfl⟩) | (go_at_call 15; refine (dist16 _ _ (by omega) (by omega) (by omega) (by omega) _).mono ?_; rintro e w' ⟨rfl, rfl⟩) | (go_at_call 16; refine (ahead16 _ _ (by omega) (by omega) (by omega) (by omega) _).mono ?_; rintro e w' ⟨rfl, rfl⟩) | (go_at_call 18; refine (ahead32 _ _ (by omega) (by omega) (by omega) (by omega) _).mono ?_; rintro e w' ⟨rfl, rfl⟩))
    all_goals (go_ret; exact ⟨rfl, Below.refl _ _⟩)
  · subst hcd
    have e1 := one16 a b ha hb hab
    go_enter Try.func4, Try.ntmps4
    go_wp2_with (first | (go_at_call 14; refine (awake1 _).mono ?_; rintro e w' ⟨rfl, rfl⟩) | (go_at_call 15; refine (dist16 _ _ (by omega) (by omega) (by omega) (by omega) _).mono ?_; rintro e w' ⟨rfl, rfl⟩) | (go_at_call 16; refine (ahead16 _ _ (by omega) (by omega) (by omega) (by omega) _).mono ?_; rintro e w' ⟨rfl, rfl⟩) | (go_at_call 18; refine (ahead32 _ _ (by omega) (by omega) (by omega) (by omega) _).mono ?_; rintro e w' ⟨rfl, rfl⟩))
    all_goals (go_ret; exact ⟨rfl, Below.refl _ _⟩)
  · have e1 := one16 a b ha hb hab
    have e2 := one32 c d hc hd hcd
    go_enter Try.func4, Try.ntmps4
    go_wp2_with (first | (go_at_call 14; refine (awake1 _).mono ?_; rintro e w' ⟨rfl, rfl⟩) | (go_at_call 15; refine (dist16 _ _ (by omega) (by omega) (by omega) (by omega) _).mono ?_; rintro e w' ⟨rfl, rfl⟩) | (go_at_call 16; refine (ahead16 _ _ (by omega) (by omega) (by omega) (by omega) _).mono ?_; rintro e w' ⟨rfl, rfl⟩) | (go_at_call 18; refine (ahead32 _ _ (by omega) (by omega) (by omega) (by omega) _).mono ?_; rintro e w' ⟨rfl, rfl⟩))
    all_goals (go_ret; exact ⟨rfl, Below.refl _ _⟩)

theorem i16_wrap (n : Int) : IntKind.i16.wrap n = (n + 32768) % 65536 - 32768 := by
  simp [IntKind.wrap, IntKind.bits, IntKind.signed]
  split <;> omega
theorem dz_add16 (a m : Int) (h : -32768 ≤ m ∧ m < 32768) : dz 65536 ((a + m) % 65536) a = m := by unfold dz; omega
theorem dz_add32 (a m : Int) (h : -2147483648 ≤ m ∧ m < 2147483648) : dz 4294967296 ((a + m) % 4294967296) a = m := by unfold dz; omega
set_option maxHeartbeats 400000 in
theorem serialAdds_walk (a : Int) (ha : 0 ≤ a ∧ a ≤ 65535) (c : Int) (hc : 0 ≤ c ∧ c ≤ 4294967295) (n : Int) (hn : -9223372036854775808 ≤ n ∧ n ≤ 9223372036854775807) (w : World) :
    Calls Try.prog 6 #[.int .u16 a, .int .u32 c, .int .i64 n] w fun e w' => e = .returned (.bool true) ∧ Below w.heap.size w w' := by
  have hm : -32768 ≤ IntKind.i16.wrap n ∧ IntKind.i16.wrap n < 32768 := by rw [i16_wrap]; omega
  have hk : -2147483648 ≤ wrap32 n ∧ wrap32 n < 2147483648 := by unfold wrap32; omega
  have e1 := dz_add16 a _ hm
  have e2 := dz_add32 c _ hk
  have e3 : ((a + IntKind.i16.wrap n) % 65536 + -IntKind.i16.wrap n) % 65536 = a := by omega
  go_enter Try.func6, Try.ntmps6
  go_wp2_with (first | (go_at_call 14; refine (awake1 _).mono ?_; rintro e w' ⟨rfl, rfl⟩) | (go_at_call 15; refine (dist16 _ _ (by omega) (by omega) (by omega) (by omega) _).mono ?_; rintro e w' ⟨rfl, rfl⟩) | (go_at_call 17; refine (dist32 _ _ (by omega) (by omega) (by omega) (by omega) _).mono ?_; rintro e w' ⟨rfl, rfl⟩) | (go_at_call 22; refine (add16 _ _ (by omega) (by omega) _).mono ?_; rintro e w' ⟨rfl, rfl⟩) | (go_at_call 23; refine (add32 _ _ (by omega) (by omega) _).mono ?_; rintro e w' ⟨rfl, rfl⟩) | (go_at_call 24; refine (rmod _ _ (by omega) (by omega) (by omega) (by omega) _).mono ?_; rintro e w' ⟨rfl, rfl⟩))
  all_goals (go_ret; exact ⟨rfl, Below.refl _ _⟩)
end Go.Proofs.Ytgijkakmbcnlhaa
