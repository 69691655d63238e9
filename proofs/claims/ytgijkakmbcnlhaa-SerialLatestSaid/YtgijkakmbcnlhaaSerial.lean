/-
  The functions of package serial, and the reference's, each by a contract.
-/
import Derived.Test.YtgijkakmbcnlhaaRows
import Derived.Test.YtgijkakmbcnlhaaBase
import Derived.Deep.QuietTactic
import Derived.BigQuiet
namespace Go.Proofs.Ytgijkakmbcnlhaa
set_option linter.unusedSimpArgs false
set_option linter.unusedVariables false
open Go.RowKit

/-- how far a is ahead of b, the shorter way round -/
def dz (way a b : Int) : Int := if (a - b) % way < way / 2 then (a - b) % way else (a - b) % way - way

theorem half16 (w : World) : Calls Try.prog 33 #[] w fun e w' => e = .returned (.int .u16 32768) ∧ w = w' := by
  go_enter Try.func33, Try.ntmps33
  go_wp2
  go_ret
  exact ⟨rfl, rfl⟩
theorem half32 (w : World) : Calls Try.prog 34 #[] w fun e w' => e = .returned (.int .u32 2147483648) ∧ w = w' := by
  go_enter Try.func34, Try.ntmps34
  go_wp2
  go_ret
  exact ⟨rfl, rfl⟩

theorem dist16 (a b : Int) (ha : 0 ≤ a) (ha' : a < 65536) (hb : 0 ≤ b) (hb' : b < 65536) (w : World) :
    Calls Try.prog 15 #[.int .u16 a, .int .u16 b] w fun e w' => e = .returned (.int .i64 (dz 65536 a b)) ∧ w = w' := by
  go_enter Try.func15, Try.ntmps15
  go_wp2_with (go_at_call 33; refine (half16 _).mono ?_; rintro e w' ⟨rfl, rfl⟩)
  all_goals go_ret
  all_goals exact ⟨ret_int (by simp only [IntKind.wrap_u16, wrap64, dz] at *; omega), rfl⟩
theorem dist32 (a b : Int) (ha : 0 ≤ a) (ha' : a < 4294967296) (hb : 0 ≤ b) (hb' : b < 4294967296) (w : World) :
    Calls Try.prog 17 #[.int .u32 a, .int .u32 b] w fun e w' => e = .returned (.int .i64 (dz 4294967296 a b)) ∧ w = w' := by
  go_enter Try.func17, Try.ntmps17
  go_wp2_with (go_at_call 34; refine (half32 _).mono ?_; rintro e w' ⟨rfl, rfl⟩)
  all_goals go_ret
  all_goals exact ⟨ret_int (by simp only [IntKind.wrap_u32, wrap64, dz] at *; omega), rfl⟩
theorem dz_pos16 (a b : Int) : 0 < dz 65536 a b ↔ (a - b) % 65536 ≠ 0 ∧ (a - b) % 65536 < 32768 := by unfold dz; omega
theorem dz_pos32 (a b : Int) : 0 < dz 4294967296 a b ↔ (a - b) % 4294967296 ≠ 0 ∧ (a - b) % 4294967296 < 2147483648 := by unfold dz; omega
theorem ahead16 (a b : Int) (ha : 0 ≤ a) (ha' : a < 65536) (hb : 0 ≤ b) (hb' : b < 65536) (w : World) :
    Calls Try.prog 16 #[.int .u16 a, .int .u16 b] w fun e w' => e = .returned (.bool (decide (0 < dz 65536 a b))) ∧ w = w' := by
  go_enter Try.func16, Try.ntmps16
  go_wp2_with (go_at_call 33; refine (half16 _).mono ?_; rintro e w' ⟨rfl, rfl⟩)
  all_goals go_ret
  all_goals exact ⟨ret_bool (by rw [Bool.eq_iff_iff]; simp only [IntKind.wrap_u16] at *; rw [decide_eq_true_iff, dz_pos16]; (try simp) <;> omega), rfl⟩
theorem ahead32 (a b : Int) (ha : 0 ≤ a) (ha' : a < 4294967296) (hb : 0 ≤ b) (hb' : b < 4294967296) (w : World) :
    Calls Try.prog 18 #[.int .u32 a, .int .u32 b] w fun e w' => e = .returned (.bool (decide (0 < dz 4294967296 a b))) ∧ w = w' := by
  go_enter Try.func18, Try.ntmps18
  go_wp2_with (go_at_call 34; refine (half32 _).mono ?_; rintro e w' ⟨rfl, rfl⟩)
  all_goals go_ret
  all_goals exact ⟨ret_bool (by rw [Bool.eq_iff_iff]; rw [decide_eq_true_iff, dz_pos32]; (try simp) <;> omega), rfl⟩

theorem dz_bd16 (a b : Int) : -32768 ≤ dz 65536 a b ∧ dz 65536 a b < 32768 := by unfold dz; omega
theorem dz_bd32 (a b : Int) : -2147483648 ≤ dz 4294967296 a b ∧ dz 4294967296 a b < 2147483648 := by unfold dz; omega

/-- the number without an end -/
def nz (way at_ a : Int) : Int := at_ + dz way a (at_ % way)

theorem near16 (n a : Int) (hn : -2305843009213693952 ≤ n) (hn' : n ≤ 2305843009213693952) (ha : 0 ≤ a) (ha' : a < 65536) (w : World) :
    Calls Try.prog 19 #[.int .i64 n, .int .u16 a] w fun e w' => e = .returned (.int .i64 (nz 65536 n a)) ∧ w = w' := by
  obtain ⟨d1, d2⟩ := dz_bd16 a (n % 65536)
  go_enter Try.func19, Try.ntmps19
  go_wp2_with (go_at_call 15; simp only [IntKind.wrap_u16]; go_loud (refine (dist16 _ _ (by omega) (by omega) (by omega) (by omega) _).mono ?_); rintro e w' ⟨rfl, rfl⟩)
  go_ret
  exact ⟨ret_int rfl, rfl⟩
theorem near32 (n a : Int) (hn : -2305843009213693952 ≤ n) (hn' : n ≤ 2305843009213693952) (ha : 0 ≤ a) (ha' : a < 4294967296) (w : World) :
    Calls Try.prog 20 #[.int .i64 n, .int .u32 a] w fun e w' => e = .returned (.int .i64 (nz 4294967296 n a)) ∧ w = w' := by
  obtain ⟨d1, d2⟩ := dz_bd32 a (n % 4294967296)
  go_enter Try.func20, Try.ntmps20
  go_wp2_with (go_at_call 17; go_loud (refine (dist32 _ _ (by omega) (by omega) (by omega) (by omega) _).mono ?_); rintro e w' ⟨rfl, rfl⟩)
  go_ret
  exact ⟨ret_int rfl, rfl⟩
theorem add16 (a n : Int) (ha : 0 ≤ a) (ha' : a < 65536) (w : World) :
    Calls Try.prog 22 #[.int .u16 a, .int .i64 n] w fun e w' => e = .returned (.int .u16 ((a + n) % 65536)) ∧ w = w' := by
  go_enter Try.func22, Try.ntmps22
  go_wp2
  go_ret
  exact ⟨ret_int (by simp only [IntKind.wrap_u16]; omega), rfl⟩
theorem add32 (a n : Int) (ha : 0 ≤ a) (ha' : a < 4294967296) (w : World) :
    Calls Try.prog 23 #[.int .u32 a, .int .i64 n] w fun e w' => e = .returned (.int .u32 ((a + n) % 4294967296)) ∧ w = w' := by
  go_enter Try.func23, Try.ntmps23
  go_wp2
  go_ret
  exact ⟨ret_int (by omega), rfl⟩

/-! the reference -/
theorem tmod_neg (n way : Int) (h1 : 1 ≤ way) (hn : n < 0) : n.tmod way = if n % way = 0 then 0 else n % way - way := by
  rw [Int.tmod_eq_emod]
  have hd : way ∣ n ↔ n % way = 0 := Int.dvd_iff_emod_eq_zero
  have hp : ((way.natAbs : Nat) : Int) = way := Int.natAbs_of_nonneg (by omega)
  by_cases hz : n % way = 0
  · rw [if_pos (Or.inr (hd.2 hz)), if_pos hz]; omega
  · rw [if_neg (by rintro (h | h); · omega
                   · exact hz (hd.1 h)), if_neg hz, hp]
theorem rmod (n way : Int) (h1 : 1 ≤ way) (h2 : way ≤ 4294967296) (hn : -9223372036854775808 ≤ n) (hn' : n ≤ 9223372036854775807) (w : World) :
    Calls Try.prog 24 #[.int .i64 n, .int .i64 way] w fun e w' => e = .returned (.int .i64 (n % way)) ∧ w = w' := by
  have f1 := Int.emod_nonneg n (show way ≠ 0 by omega)
  have f2 := Int.emod_lt_of_pos n (show 0 < way by omega)
  have e1 : ((way : Int) == 0) = false := by simp; omega
  by_cases h0 : 0 ≤ n
  · go_enter Try.func24, Try.ntmps24
    go_wp2
    go_ret
    exact ⟨rfl, rfl⟩
  · have e := tmod_neg n way h1 (by omega)
    have e2 : n.tmod way < 0 → wrap64 (n.tmod way + way) = n % way := by
      intro h
      rw [IntWalk.wrap64_in _ (by split at e <;> omega)]
      split at e <;> omega
    have e3 : 0 ≤ n.tmod way → n.tmod way = n % way := by intro h; split at e <;> omega
    have H2 := hide e2
    have H3 := hide e3
    clear e e2 e3
    go_enter Try.func24, Try.ntmps24
    go_wp2
    · go_ret
      exact ⟨ret_int (H2.out (by assumption)), rfl⟩
    · go_ret
      exact ⟨ret_int (H3.out (by assumption)), rfl⟩
theorem rdist (a b way : Int) (h1 : 2 ≤ way) (h2 : way ≤ 4294967296) (ha : -2305843009213693952 ≤ a) (ha' : a ≤ 2305843009213693952) (hb : -2305843009213693952 ≤ b) (hb' : b ≤ 2305843009213693952) (w : World) :
    Calls Try.prog 13 #[.int .i64 a, .int .i64 b, .int .i64 way] w fun e w' => e = .returned (.int .i64 (dz way a b)) ∧ w = w' := by
  have f1 := Int.emod_nonneg (a - b) (show way ≠ 0 by omega)
  have f2 := Int.emod_lt_of_pos (a - b) (show 0 < way by omega)
  by_cases hd : (a - b) % way < way / 2
  · go_enter Try.func13, Try.ntmps13
    go_wp2_with (go_at_call 24; refine (rmod _ _ (by omega) (by omega) (by omega) (by omega) _).mono ?_; rintro e w' ⟨rfl, rfl⟩)
    go_ret
    exact ⟨ret_int (by unfold dz; rw [if_pos hd]), rfl⟩
  · go_enter Try.func13, Try.ntmps13
    go_wp2_with (go_at_call 24; refine (rmod _ _ (by omega) (by omega) (by omega) (by omega) _).mono ?_; rintro e w' ⟨rfl, rfl⟩)
    go_ret
    exact ⟨ret_int (by unfold dz; rw [if_neg (by omega)]), rfl⟩
theorem dz_bd (a b way : Int) (h1 : 2 ≤ way) (h2 : way ≤ 4294967296) : -4294967296 ≤ dz way a b ∧ dz way a b ≤ 4294967296 := by
  have f1 := Int.emod_nonneg (a - b) (show way ≠ 0 by omega)
  have f2 := Int.emod_lt_of_pos (a - b) (show 0 < way by omega)
  unfold dz; split <;> omega
theorem rnear (n a way : Int) (h1 : 2 ≤ way) (h2 : way ≤ 4294967296) (hn : -2305843009213693952 ≤ n) (hn' : n ≤ 2305843009213693952) (ha : -2305843009213693952 ≤ a) (ha' : a ≤ 2305843009213693952) (w : World) :
    Calls Try.prog 21 #[.int .i64 n, .int .i64 a, .int .i64 way] w fun e w' => e = .returned (.int .i64 (nz way n a)) ∧ w = w' := by
  have f1 := Int.emod_nonneg n (show way ≠ 0 by omega)
  have f2 := Int.emod_lt_of_pos n (show 0 < way by omega)
  obtain ⟨d1, d2⟩ := dz_bd a (n % way) way h1 h2
  go_enter Try.func21, Try.ntmps21
  go_wp2_with (first
    | (go_at_call 24; refine (rmod _ _ (by omega) (by omega) (by omega) (by omega) _).mono ?_; rintro e w' ⟨rfl, rfl⟩)
    | (go_at_call 13; refine (rdist _ _ _ (by omega) (by omega) (by omega) (by omega) (by omega) (by omega) _).mono ?_; rintro e w' ⟨rfl, rfl⟩))
  go_ret
  exact ⟨ret_int rfl, rfl⟩
theorem awake1 (w : World) : Calls Try.prog 14 #[] w fun e w' => e = .returned (.bool true) ∧ w = w' := by
  have e1 : dz 65536 2 65535 = 3 := by decide
  have e2 : nz 65536 65530 4 = 65540 := by decide
  have e3 : dz 4294967296 1 0 = 1 := by decide
  go_enter Try.func14, Try.ntmps14
  go_wp2_with (first
    | (go_at_call 15; refine (dist16 _ _ (by omega) (by omega) (by omega) (by omega) _).mono ?_; rintro e w' ⟨rfl, rfl⟩)
    | (go_at_call 19; refine (near16 _ _ (by omega) (by omega) (by omega) (by omega) _).mono ?_; rintro e w' ⟨rfl, rfl⟩)
    | (go_at_call 18; refine (ahead32 _ _ (by omega) (by omega) (by omega) (by omega) _).mono ?_; rintro e w' ⟨rfl, rfl⟩))
  go_ret
  exact ⟨rfl, rfl⟩
end Go.Proofs.Ytgijkakmbcnlhaa
