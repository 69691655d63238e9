/-
  LedgerEnds, the plain law.
-/
import Derived.Test.YtdjbdlfdknfcaaaLedgerLaws
namespace Go.Proofs.Ytdjbdlfdknfcaaa
set_option linter.unusedSimpArgs false
set_option linter.unusedVariables false
open Go.RowKit
attribute [local irreducible] Pv WO WC Fn

theorem and_255 (x : Int) : bits .and .i64 x 255 = x % 256 := and_ones x 8 (by omega)
def irow (z : Int) : List Value := [.int .i64 z]
def iseg (V : Nat → Int) (n : Nat) : List (List Value) := (List.range n).map fun i => irow (V i)
theorem iseg_at {V : Nat → Int} {n i : Nat} (h : i < n) : (iseg V n)[i]? = some [.int .i64 (V i)] := by simp [iseg, h, irow]
theorem rws_ints {w : World} {A : Option Addr} {n c : Nat} {V : Nat → Nat → Value} (h : Rws [.int .i64] w A n c V) :
    ∃ (z : Nat → Int) (R : List Ro), (∀ r ∈ R, r.sat w) ∧ (∀ i, i < n → -9223372036854775808 ≤ z i ∧ z i ≤ 9223372036854775807) ∧ (0 < n → ∃ b o, A = some ⟨b, o, none⟩ ∧ ⟨b, o, 1, iseg z n⟩ ∈ R) := by
  obtain ⟨R, hR, h0⟩ := rws_ro h (by simp)
  obtain ⟨_, _, _, h4⟩ := h
  refine ⟨fun i => match V i 0 with | .int _ z => z | _ => 0, R, hR, fun i hi => ?_, fun hn => ?_⟩
  · obtain ⟨z, hz, hw⟩ := h4 i 0 _ hi rfl
    simp only [hz]
    simpa [Lit.wf, IntKind.min, IntKind.max, IntKind.bits, IntKind.signed] using hw
  · obtain ⟨b, o, hA, hm⟩ := h0 hn
    refine ⟨b, o, hA, ?_⟩
    have e : rowsOf [.int .i64] V n = iseg (fun i => match V i 0 with | .int _ z => z | _ => 0) n := by
      unfold rowsOf iseg
      refine List.map_congr_left fun i hi => ?_
      obtain ⟨z, hz, _⟩ := h4 i 0 _ (List.mem_range.1 hi) rfl
      simp [irow, hz]
    rw [← e]; exact hm
def lf (V : Nat → Int) (i : Nat) : Int := 1 + bits .and .i64 (V i) 255 % 3
theorem lf_b (V : Nat → Int) (i : Nat) : 1 ≤ lf V i ∧ lf V i ≤ 3 := by unfold lf; omega
def entAt (F : Nat → Int) (i k : Nat) : Ent := if k < i then ((k : Int), 100 + (k : Int), F k) else ((k : Int), 0, 0)
def led (F : Nat → Int) (n i : Nat) : List Ent := (List.range n).map (entAt F i)
def wrow (e : Ent) : List Value := [.int .i64 e.2.2]
theorem led_len (F : Nat → Int) (n i : Nat) : (led F n i).length = n := by simp [led]
theorem led_at (F : Nat → Int) {n k : Nat} (i : Nat) (h : k < n) : (led F n i)[k]? = some (entAt F i k) := by simp [led, h]
theorem led_old (F : Nat → Int) (n i : Nat) (h : n ≤ i) : led F n (i + 1) = led F n i := by
  unfold led
  refine List.map_congr_left fun k hk => ?_
  have := List.mem_range.1 hk
  unfold entAt; rw [if_pos (by omega), if_pos (by omega)]
theorem led_set (F : Nat → Int) (n i : Nat) (h : i < n) : (led F n i).set i ((i : Int), 100 + (i : Int), F i) = led F n (i + 1) := by
  apply List.ext_getElem?
  intro k
  by_cases hk : k < n
  · rw [led_at F (i + 1) hk]
    by_cases hki : i = k
    · subst hki; rw [List.getElem?_set_self (by rw [led_len]; exact h)]; unfold entAt; rw [if_pos (by omega)]
    · rw [List.getElem?_set_ne hki, led_at F i hk]
      unfold entAt
      by_cases hk2 : k < i
      · rw [if_pos hk2, if_pos (by omega)]
      · rw [if_neg hk2, if_neg (by omega)]
  · rw [List.getElem?_eq_none (by simp [led]; omega), List.getElem?_eq_none (by simp [led]; omega)]
theorem led_succ (F : Nat → Int) (n : Nat) : led F n 0 ++ [((n : Int), 0, 0)] = led F (n + 1) 0 := by
  simp [led, List.range_succ, entAt]
theorem led_cnt (F : Nat → Int) (hF : ∀ k, F k ≠ 0) (i : Nat) : ∀ n, cnt (led F n i) 0 = ((n - i : Nat) : Int)
  | 0 => by simp [led, cnt]
  | n + 1 => by
    have e : led F (n + 1) i = led F n i ++ [entAt F i n] := by simp [led, List.range_succ]
    rw [e, cnt_append, led_cnt F hF i n, cnt_one]
    unfold entAt
    by_cases h : n < i
    · rw [if_pos h]; simp only; rw [if_neg (hF n)]; omega
    · rw [if_neg h]; simp only [if_true]; omega
theorem led_w0 (F : Nat → Int) (n : Nat) : List.replicate n [.int .i64 0] = (led F n 0).map wrow := by
  apply List.ext_getElem?
  intro k
  by_cases hk : k < n
  · rw [List.getElem?_replicate, if_pos hk, List.getElem?_map, led_at F 0 hk]; simp [entAt, wrow]
  · rw [List.getElem?_eq_none (by simp; omega), List.getElem?_eq_none (by rw [List.length_map, led_len]; omega)]
theorem led_w (F : Nat → Int) {n k : Nat} (i : Nat) (h : k < n) : ((led F n i).map wrow)[k]? = some [.int .i64 (entAt F i k).2.2] := by simp [led_at F i h, wrow]
theorem led_wset (F : Nat → Int) (n i : Nat) (h : i < n) : ((led F n i).map wrow).set i [.int .i64 (F i)] = (led F n (i + 1)).map wrow := by
  rw [← led_set F n i h, List.map_set]; rfl
end Go.Proofs.Ytdjbdlfdknfcaaa
