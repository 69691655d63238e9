/-
  Package rate, the plain law: a meter's list tells as much as all that went.
-/
import Derived.Test.YtdlajpakdgbhiaaRate
namespace Go.Proofs.Ytdlajpakdgbhiaa
set_option linter.unusedSimpArgs false
set_option linter.unusedVariables false

def sumIn (w t : Int) (l : List (Int × Int)) : Int := sumB (l.filter fun p => decide (t - p.1 < w))
theorem sumIn_nil (w t : Int) : sumIn w t [] = 0 := rfl
theorem sumIn_append (w t : Int) (a b : List (Int × Int)) : sumIn w t (a ++ b) = sumIn w t a + sumIn w t b := by simp [sumIn, sumB]
theorem sumIn_one (w t : Int) (p : Int × Int) : sumIn w t [p] = if t - p.1 < w then p.2 else 0 := by
  unfold sumIn; by_cases h : t - p.1 < w <;> simp [h, sumB, List.filter_cons]
theorem sumIn_cons (w t : Int) (p : Int × Int) (l : List (Int × Int)) : sumIn w t (p :: l) = (if t - p.1 < w then p.2 else 0) + sumIn w t l := by
  rw [show p :: l = [p] ++ l from rfl, sumIn_append, sumIn_one]
theorem sumIn_old (w now t : Int) (h : now ≤ t) (l : List (Int × Int)) : sumIn w t (dropOld w now l) = sumIn w t l := by
  induction l with
  | nil => rfl
  | cons p l ih =>
    unfold dropOld
    rw [List.dropWhile_cons]
    by_cases hc : w ≤ now - p.1
    · rw [if_pos (by simpa using hc), sumIn_cons, if_neg (by omega), Int.zero_add]; exact ih
    · rw [if_neg (by simpa using hc)]
structure Acc (w : Int) (l ref : List (Int × Int)) (now : Int) (k : Nat) : Prop where
  each : ∀ p ∈ l, 0 ≤ p.1 ∧ p.1 ≤ now ∧ 0 ≤ p.2 ∧ p.2 ≤ k * 1073741824
  len : l.length ≤ k
  sorted : l.Pairwise (fun p q => p.1 ≤ q.1)
  same : ∀ t, now ≤ t → sumIn w t l = sumIn w t ref
theorem Acc.lok {w : Int} {l ref : List (Int × Int)} {now : Int} {k : Nat} (h : Acc w l ref now k) (hk : k ≤ 1000) (hn : now ≤ 1099511627776) : LOk l :=
  ⟨fun p hp => by have := h.each p hp; omega, by have := h.len; omega⟩
theorem Acc.later {w : Int} {l ref : List (Int × Int)} {now t : Int} {k : Nat} (h : Acc w l ref now k) (ht : now ≤ t) : Acc w l ref t k :=
  ⟨fun p hp => by have := h.each p hp; omega, h.len, h.sorted, fun u hu => h.same u (by omega)⟩
theorem old_sub (w now : Int) (l : List (Int × Int)) : (dropOld w now l).Sublist l := List.dropWhile_sublist _
theorem Acc.old {w : Int} {l ref : List (Int × Int)} {now : Int} {k : Nat} (h : Acc w l ref now k) : Acc w (dropOld w now l) ref now k :=
  ⟨fun p hp => h.each p ((old_sub w now l).mem hp), Nat.le_trans (old_sub w now l).length_le h.len, h.sorted.sublist (old_sub w now l), fun t ht => by rw [sumIn_old w now t ht, h.same t ht]⟩
theorem old_all {w now : Int} : ∀ {l : List (Int × Int)}, l.Pairwise (fun p q => p.1 ≤ q.1) → sumB (dropOld w now l) = sumIn w now l
  | [], _ => rfl
  | p :: l, h => by
    have hp := List.pairwise_cons.1 h
    rw [sumIn_cons]
    unfold dropOld
    rw [List.dropWhile_cons]
    by_cases hc : w ≤ now - p.1
    · rw [if_pos (by simpa using hc), if_neg (by omega), Int.zero_add]; exact old_all hp.2
    · rw [if_neg (by simpa using hc), if_pos (by omega), sumB_cons]
      congr 1
      unfold sumIn
      rw [List.filter_eq_self.2]
      intro q hq
      have := hp.1 q hq
      simp; omega
theorem Acc.sum {w : Int} {l ref : List (Int × Int)} {now : Int} {k : Nat} (h : Acc w l ref now k) : sumB (dropOld w now l) = sumIn w now ref := by
  rw [old_all h.sorted, h.same now (Int.le_refl _)]
theorem old_idem (w now : Int) (l : List (Int × Int)) : dropOld w now (dropOld w now l) = dropOld w now l := by
  induction l with
  | nil => rfl
  | cons p l ih =>
    unfold dropOld at ih ⊢
    rw [List.dropWhile_cons]
    split
    · exact ih
    · rename_i hc
      rw [List.dropWhile_cons, if_neg hc]
theorem Acc.add {w : Int} {d ref : List (Int × Int)} {now b : Int} {k : Nat} (h : Acc w d ref now k) (hb : 0 ≤ b ∧ b ≤ 1073741824) (hn : 0 ≤ now) : Acc w (addL d now b) (ref ++ [(now, b)]) now (k + 1) := by
  have happ : ∀ t, sumIn w t (addL d now b) = sumIn w t d + sumIn w t [(now, b)] := by
    intro t
    unfold addL
    rcases List.eq_nil_or_concat d with rfl | ⟨d', p, rfl⟩
    · simp [sumIn_nil]
    · rw [List.concat_eq_append]
      simp only [List.getLast?_append, List.getLast?_singleton, Option.some_or, List.dropLast_concat]
      split
      · rename_i hc
        rw [sumIn_append, sumIn_append, sumIn_one, sumIn_one, sumIn_one, hc]
        simp only
        split <;> omega
      · rw [sumIn_append]
  have hmem : ∀ q ∈ addL d now b, 0 ≤ q.1 ∧ q.1 ≤ now ∧ 0 ≤ q.2 ∧ q.2 ≤ (k + 1 : Nat) * 1073741824 := by
    intro q hq
    unfold addL at hq
    split at hq
    · rename_i p hp
      have hpm := h.each p (List.mem_of_getLast? hp)
      split at hq
      · rcases List.mem_append.1 hq with hq | hq
        · have := h.each q ((List.dropLast_sublist _).mem hq); omega
        · have := List.mem_singleton.1 hq; subst this; simp only; omega
      · rcases List.mem_append.1 hq with hq | hq
        · have := h.each q hq; omega
        · have := List.mem_singleton.1 hq; subst this; simp only; omega
    · have := List.mem_singleton.1 hq; subst this; simp only; omega
  refine ⟨hmem, ?_, ?_, fun t ht => ?_⟩
  · have := h.len
    unfold addL
    split
    · split <;> simp <;> omega
    · simp
  · unfold addL
    split
    · rename_i p hp
      split
      · refine List.pairwise_append.2 ⟨h.sorted.sublist (List.dropLast_sublist _), List.pairwise_singleton _ _, fun x hx y hy => ?_⟩
        have := List.mem_singleton.1 hy; subst this
        exact (h.each x ((List.dropLast_sublist _).mem hx)).2.1
      · refine List.pairwise_append.2 ⟨h.sorted, List.pairwise_singleton _ _, fun x hx y hy => ?_⟩
        have := List.mem_singleton.1 hy; subst this
        exact (h.each x hx).2.1
    · exact List.pairwise_singleton _ _
  · rw [happ, sumIn_append, h.same t ht]
theorem Acc.nil (w now : Int) (k : Nat) : Acc w [] [] now k := ⟨by simp, by simp, .nil, fun _ _ => rfl⟩
/-- the same each tick -/
def steady (b : Int) (k : Nat) : List (Int × Int) := (List.range k).map fun (i : Nat) => ((i : Int), b)
theorem steady_succ (b : Int) (k : Nat) : steady b (k + 1) = steady b k ++ [((k : Int), b)] := by simp [steady, List.range_succ]
theorem steady_sum (w n : Nat) (b : Int) (hw : w ≤ n) : ∀ k, k ≤ n → sumIn w ((n : Int) - 1) (steady b k) = b * ((k - (n - w) : Nat) : Int)
  | 0, _ => by simp [steady, sumIn_nil]
  | k + 1, hk => by
    rw [steady_succ, sumIn_append, steady_sum w n b hw k (by omega), sumIn_one]
    simp only
    by_cases hc : n ≤ w + k
    · rw [if_pos (by omega), show k + 1 - (n - w) = (k - (n - w)) + 1 by omega]
      simp [Int.mul_add]
    · rw [if_neg (by omega), show k + 1 - (n - w) = 0 by omega, show k - (n - w) = 0 by omega]
      simp
end Go.Proofs.Ytdlajpakdgbhiaa
