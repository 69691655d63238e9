/-
  SerialLatest: the latest of several numbers.
-/
import Derived.Test.YtgijkakmbcnlhaaSerialLaws
import Derived.Test.YtgijkakmbcnlhaaMem2
import Derived.Test.YtgijkakmbcnlhaaArgs
import Derived.LoopTactic
import Derived.Deep.LoopGhost
import Derived.OwnWalk
namespace Go.Proofs.Ytgijkakmbcnlhaa
set_option linter.unusedSimpArgs false
set_option linter.unusedVariables false
open Go.RowKit

/-- the latest of several numbers -/
def lat (f : Int) (l : List Int) : Int := l.foldl (fun a n => if 0 < dz 65536 n a then n else a) f
theorem lat_snoc (f : Int) (l : List Int) (n : Int) : lat f (l ++ [n]) = if 0 < dz 65536 n (lat f l) then n else lat f l := by
  unfold lat
  rw [List.foldl_append]
  rfl
theorem getD_lt (l : List Int) (k : Nat) (h : k < l.length) : l.getD k 0 = l[k] := by simp [List.getD, h]
theorem lat_bd (f : Int) (l : List Int) (hf : 0 ≤ f ∧ f < 65536) (hl : ∀ n ∈ l, 0 ≤ n ∧ n < 65536) : 0 ≤ lat f l ∧ lat f l < 65536 := by
  induction l generalizing f with
  | nil => exact hf
  | cons n l ih =>
    simp only [lat, List.foldl_cons]
    refine ih _ ?_ (fun m hm => hl m (List.mem_cons_of_mem _ hm))
    have := hl n (List.mem_cons_self ..)
    split <;> assumption

set_option maxHeartbeats 1000000 in
theorem latest16 (f : Int) (l : List Int) (hf : 0 ≤ f ∧ f < 65536) (hl : ∀ n ∈ l, 0 ≤ n ∧ n < 65536) (hn : l.length ≤ 1000) (A : Option Addr) (c : Nat) (w : World)
    (hA : ∀ i, i < l.length → ∃ b o, A = some ⟨b, o, none⟩ ∧ w.cell? ⟨b, o + i, none⟩ = some (.int .u16 (l.getD i 0))) :
    Calls Try.prog 25 #[.int .u16 f, .slice A l.length c] w fun e w' => e = .returned (.int .u16 (lat f l)) ∧ w = w' := by
  obtain ⟨n, hN⟩ : ∃ n, l.length = n := ⟨_, rfl⟩
  rw [hN] at hn hA ⊢
  have HA := hide hA
  have HN := hide hN
  have HL := hide hl
  clear hA hN hl
  go_enter Try.func25, Try.ntmps25
  go_wp2
  go_loop [0, 9] (fun fv i => ∃ k : Nat, k ≤ n ∧ i = .int .i64 k ∧ fv = .int .u16 (lat f (l.take k))) (fun _ i => n - (intOf i).toNat)
  case atStart => exact ⟨0, by omega, rfl, rfl⟩
  case round =>
    obtain ⟨k, hk, rfl, rfl⟩ := hrel
    have hb := lat_bd f (l.take k) hf (fun m hm => HL.out m (List.mem_of_mem_take hm))
    by_cases hlt : k < n
    · obtain ⟨b, o, rfl, hc⟩ := HA.out k hlt
      have hm := HL.out (l.getD k 0) (by rw [getD_lt l k (by rw [HN.out]; exact hlt)]; exact List.getElem_mem _)
      have hs : Hid (lat f (l.take (k + 1)) = if 0 < dz 65536 (l.getD k 0) (lat f (l.take k)) then l.getD k 0 else lat f (l.take k)) := hide (by
        rw [← lat_snoc, List.take_succ_eq_append_getElem (by rw [HN.out]; exact hlt), getD_lt l k (by rw [HN.out]; exact hlt)])
      obtain ⟨z, hz⟩ : ∃ z, l.getD k 0 = z := ⟨_, rfl⟩
      obtain ⟨a, ha⟩ : ∃ a, lat f (l.take k) = a := ⟨_, rfl⟩
      rw [hz] at hc hm hs
      rw [ha] at hb hs ⊢
      clear hz ha
      by_cases hd : 0 < dz 65536 z a
      · have hd2 : decide (0 < dz 65536 z a) = true := by simp [hd]
        go_wp2_with (go_at_call 16; refine (ahead16 _ _ (by omega) (by omega) (by omega) (by omega) _).mono ?_; rintro e w' ⟨rfl, rfl⟩)
        go_round
        case rel => exact ⟨k + 1, by omega, by go_num, by rw [hs.out, if_pos hd]⟩
        case measure => simp [intOf]; omega
      · have hd2 : decide (0 < dz 65536 z a) = false := by simp [hd]
        go_wp2_with (go_at_call 16; refine (ahead16 _ _ (by omega) (by omega) (by omega) (by omega) _).mono ?_; rintro e w' ⟨rfl, rfl⟩)
        go_round
        case rel => exact ⟨k + 1, by omega, by go_num, by rw [hs.out, if_neg (by omega)]⟩
        case measure => simp [intOf]; omega
    · obtain rfl : k = n := by omega
      go_wp2
      go_ret
      exact ⟨ret_int (by rw [List.take_of_length_le (by rw [HN.out]; omega)]), rfl⟩

theorem info_u16 : (Try.prog.info? 22).map (fun i => (i.zero, i.size, i.bytes)) = some (some (.int .u16 0), 1, 2) := by kernel_rfl
/-- the numbers f plus each -/
def ups (f : Int) (l : List Int) : List Int := l.map fun b => (f + b) % 65536
theorem lat_ups (f : Int) (hf : 0 ≤ f ∧ f < 65536) (l : List Int) (hl : ∀ b ∈ l, 0 ≤ b ∧ b < 16384) : ∃ m, 0 ≤ m ∧ m < 16384 ∧ m = l.foldl max 0 ∧ lat f (ups f l) = (f + m) % 65536 := by
  suffices h : ∀ (l : List Int) (m0 : Int), 0 ≤ m0 ∧ m0 < 16384 → (∀ b ∈ l, 0 ≤ b ∧ b < 16384) → 0 ≤ l.foldl max m0 ∧ l.foldl max m0 < 16384 ∧ lat ((f + m0) % 65536) (ups f l) = (f + l.foldl max m0) % 65536 by
    obtain ⟨h1, h2, h3⟩ := h l 0 (by omega) hl
    refine ⟨_, h1, h2, rfl, ?_⟩
    rw [show (f + 0) % 65536 = f by omega] at h3
    exact h3
  intro l
  induction l with
  | nil => intro m0 h0 _; exact ⟨h0.1, h0.2, rfl⟩
  | cons b l ih =>
    intro m0 h0 hb
    have hb0 := hb b (List.mem_cons_self ..)
    have hm : max m0 b = if m0 < b then b else m0 := by omega
    have := ih (max m0 b) (by omega) (fun c hc => hb c (List.mem_cons_of_mem _ hc))
    refine ⟨this.1, this.2.1, ?_⟩
    rw [List.foldl_cons, ← this.2.2]
    show lat (if 0 < dz 65536 ((f + b) % 65536) ((f + m0) % 65536) then (f + b) % 65536 else (f + m0) % 65536) (ups f l) = _
    have hp := dz_pos16 ((f + b) % 65536) ((f + m0) % 65536)
    congr 1
    rw [hm]
    split <;> split <;> omega
end Go.Proofs.Ytgijkakmbcnlhaa
