/-
  Package ring, the plain law: how the list of the stored packets goes on.
-/
import Derived.Test.YtnjicnadlhfocaaRing2
namespace Go.Proofs.Ytnjicnadlhfocaa
set_option linter.unusedSimpArgs false
set_option linter.unusedVariables false

theorem mod_ne {put k i i' : Nat} (h1 : i < i') (h2 : i' ≤ put) (h3 : i' - i < k) : (put - i) % k ≠ (put - i') % k := by
  intro e
  have h := Nat.sub_mod_eq_zero_of_mod_eq e
  rw [show put - i - (put - i') = i' - i by omega, Nat.mod_eq_of_lt h3] at h
  omega
theorem mod_ne' {put k i i' : Nat} (hne : i ≠ i') (hi : i ≤ put) (hi' : i' ≤ put) (h1 : i - i' < k) (h2 : i' - i < k) : (put - i) % k ≠ (put - i') % k := by
  rcases Nat.lt_or_gt_of_ne hne with h | h
  · exact mod_ne h hi' h2
  · exact (mod_ne h hi h1).symm
def putQ (k : Nat) (Q : List Pk) (p : Pk) : List Pk := if k < Q.length + 1 then (Q ++ [p]).drop 1 else Q ++ [p]
theorem Lay.new (k : Nat) : Lay (List.replicate k none) 0 k [] := ⟨by simp, by simp, fun i p h1 h2 => by simp at h2; omega⟩
theorem Lay.put {S : List (Option Pk)} {put k : Nat} {Q : List Pk} (h : Lay S put k Q) (hk : 1 ≤ k) (p : Pk) : Lay (S.set (put % k) (some p)) (put + 1) k (putQ k Q p) := by
  obtain ⟨l1, l2, l3⟩ := h
  have hlt : put % k < k := Nat.mod_lt _ (by omega)
  have hlen : (putQ k Q p).length = min (put + 1) k := by unfold putQ; split <;> simp <;> omega
  have hget : ∀ i, 1 ≤ i → i ≤ (putQ k Q p).length → (putQ k Q p)[(putQ k Q p).length - i]? = (Q ++ [p])[Q.length + 1 - i]? := by
    intro i h1 h2
    rw [hlen] at h2 ⊢
    unfold putQ
    split
    · rw [List.getElem?_drop]; congr 1; omega
    · congr 1; omega
  refine ⟨by simp [l1], hlen, fun i p' h1 h2 h3 => ?_⟩
  rw [hget i h1 h2] at h3
  by_cases hi : i = 1
  · subst hi
    rw [show Q.length + 1 - 1 = Q.length by omega, List.getElem?_append_right (Nat.le_refl _)] at h3
    simp at h3
    subst h3
    rw [show put + 1 - 1 = put by omega, List.getElem?_set_self (by omega)]
  · rw [hlen] at h2
    rw [List.getElem?_append_left (by omega), show Q.length + 1 - i = Q.length - (i - 1) by omega] at h3
    have := l3 (i - 1) p' (by omega) (by omega) h3
    rw [show put + 1 - i = put - (i - 1) by omega, List.getElem?_set_ne]
    · exact this
    · have := mod_ne (put := put) (k := k) (i := 0) (i' := i - 1) (by omega) (by omega) (by omega)
      simpa using this
theorem Lay.set {S : List (Option Pk)} {put k : Nat} {Q : List Pk} (h : Lay S put k Q) {j : Nat} (hj : j < Q.length) (p : Pk) : Lay (S.set (sloc put k Q.length j) (some p)) put k (Q.set j p) := by
  have hrow := fun q hq => h.row (j := j) (p := q) hq
  obtain ⟨l1, l2, l3⟩ := h
  refine ⟨by simp [l1], by simp [l2], fun i p' h1 h2 h3 => ?_⟩
  simp only [List.length_set] at h2 h3
  by_cases hji : j = Q.length - i
  · have hlt : sloc put k Q.length j < S.length := by
      have := hrow _ (List.getElem?_eq_getElem hj)
      exact (List.getElem?_eq_some_iff.1 this).1
    rw [← hji, List.getElem?_set_self hj] at h3
    injection h3 with h3
    subst h3
    rw [show (put - i) % k = sloc put k Q.length j by unfold sloc; congr 1; omega, List.getElem?_set_self hlt]
  · rw [List.getElem?_set_ne hji] at h3
    rw [List.getElem?_set_ne]
    · exact l3 i p' h1 h2 h3
    · unfold sloc
      exact mod_ne' (by omega) (by omega) (by omega) (by omega) (by omega)
end Go.Proofs.Ytnjicnadlhfocaa
