/-
  Package rtp: plain laws of a packet's bytes.
-/
import Derived.Test.YtlhlidmhlhodiaaRtpT
namespace Go.Proofs.Ytlhlidmhlhodiaa
set_option linter.unusedSimpArgs false
set_option linter.unusedVariables false
open Go.RowKit
set_option maxRecDepth 100000

theorem ext_all (s : ByteArray) (k : Nat) (h : k ≤ s.size) : s.extract 0 k ++ s.extract k s.size = s := by
  apply ByteArray.ext
  simp [ByteArray.data_extract]
theorem rdB_ok {s b r : ByteArray} {n : Int} (h : rdB s 0 n = (b, r, 0)) : s = b ++ r ∧ n = (b.size : Int) := by
  unfold rdB at h
  rw [if_neg (by simp)] at h
  split at h
  · cases h
  · split at h
    · cases h
    · rename_i h1 h2
      have e1 : s.extract 0 n.toNat = b := congrArg (fun x => x.1) h
      have e2 : s.extract n.toNat s.size = r := congrArg (fun x => x.2.1) h
      refine ⟨?_, ?_⟩
      · rw [← e1, ← e2, ext_all s n.toNat (by omega)]
      · rw [← e1, ByteArray.size_extract]; omega
attribute [local irreducible] ByteArray.extract
theorem last_split {k : Nat} {b : ByteArray} (h : b.size = k + 1) : ∃ b' x, b = b' ++ b1 x ∧ 0 ≤ x ∧ x ≤ 255 ∧ b'.size = k := by
  have e : b.data.toList.length = k + 1 := by simpa using h
  obtain ⟨l, u, hl⟩ : ∃ l u, b.data.toList = l ++ [u] := ⟨b.data.toList.dropLast, b.data.toList.getLast (by intro h0; rw [h0] at e; cases e), (List.dropLast_concat_getLast _).symm⟩
  refine ⟨⟨l.toArray⟩, (u.toNat : Int), ?_, by omega, by have := u.toNat_lt; omega, ?_⟩
  · have : b1 (u.toNat : Int) = ⟨#[u]⟩ := by simp [b1]
    rw [this]
    apply ByteArray.ext
    apply Array.toList_inj.1
    simp [hl]
  · rw [hl, List.length_append] at e
    simp only [List.length_cons, List.length_nil] at e
    show l.toArray.size = k
    simp; omega
theorem num_bytes : ∀ (k : Nat) (b : ByteArray), b.size = k → numS k (valK b k) = b
  | 0, b, h => (size_zero h).symm
  | k + 1, b, h => by
    obtain ⟨b', x, rfl, h1, h2, h3⟩ := last_split h
    have e := valK_b1 b' ⟨h1, h2⟩
    rw [h3] at e
    rw [e]
    show numS k ((valK b' k * 256 + x) / 256) ++ b1 ((valK b' k * 256 + x) % 256) = _
    rw [show (valK b' k * 256 + x) / 256 = valK b' k by omega, show (valK b' k * 256 + x) % 256 = x by omega, num_bytes k b' h3]
theorem val_num1 {x : Int} (h : 0 ≤ x ∧ x ≤ 255) : valK (numS 1 x) 1 = x := by rw [numS1 h]; exact val_b1 h
/-- what is read stands in front -/
theorem tK_ok {k : Nat} {s r : ByteArray} {x : Int} (h : tK k (s, 0) = (x, r, 0)) : s = numS k x ++ r ∧ valK (numS k x) k = x := by
  unfold tK at h
  rcases hq : rdB s 0 k with ⟨b, r2, e2⟩
  dsimp only at h
  rw [hq] at h
  dsimp only at h
  have e1 : valK b b.size = x := congrArg (fun x => x.1) h
  have e3 : r2 = r := congrArg (fun x => x.2.1) h
  have e4 : e2 = 0 := congrArg (fun x => x.2.2) h
  subst e3 e4
  obtain ⟨g1, g2⟩ := rdB_ok hq
  have hk : b.size = k := by omega
  rw [hk] at e1
  subst e1
  rw [num_bytes k b hk]
  exact ⟨g1, rfl⟩
theorem tK_frontN (k : Nat) {x : Int} (z : ByteArray) (hv : valK (numS k x) k = x) : tK k (numS k x ++ z, 0) = (x, z, 0) := by
  unfold tK
  dsimp only
  rw [rdB_front (numS k x) z k (by rw [numS_size])]
  dsimp only
  rw [numS_size, hv]
theorem tK_front1 {x : Int} (h : 0 ≤ x ∧ x ≤ 255) (z : ByteArray) : tK 1 (numS 1 x ++ z, 0) = (x, z, 0) := tK_frontN 1 z (val_num1 h)
theorem tK_front2 {x : Int} (h : 0 ≤ x ∧ x ≤ 65535) (z : ByteArray) : tK 2 (numS 2 x ++ z, 0) = (x, z, 0) := tK_frontN 2 z (val_num2 h)
theorem tK_front4 {x : Int} (h : 0 ≤ x ∧ x ≤ 4294967295) (z : ByteArray) : tK 4 (numS 4 x ++ z, 0) = (x, z, 0) := tK_frontN 4 z (val_num4 h)
theorem tK_more {k : Nat} {s r z : ByteArray} {x : Int} (h : tK k (s, 0) = (x, r, 0)) : tK k (s ++ z, 0) = (x, r ++ z, 0) := by
  obtain ⟨h1, h2⟩ := tK_ok h
  rw [h1, ByteArray.append_assoc]
  exact tK_frontN k _ h2
theorem tK_z {k : Int} {r : Rs} (h : (tK k r).2.2 = 0) : r.2 = 0 := by
  by_cases h0 : r.2 = 0
  · exact h0
  · rw [tK_err h0] at h; exact h
theorem tK_01 {k : Int} {r : Rs} (hk : 0 ≤ k) (h : r.2 = 0 ∨ r.2 = 1) : (tK k r).2.2 = 0 ∨ (tK k r).2.2 = 1 := by
  unfold tK rdB
  dsimp only
  rcases h with h | h
  · rw [if_neg (by simp [h]), if_neg (by omega)]
    split
    · exact .inr rfl
    · exact .inl rfl
  · rw [if_pos (by simp [h])]; exact .inr h
theorem csN_front (cs : List Int) (h6 : ∀ z ∈ cs, 0 ≤ z ∧ z ≤ 4294967295) : ∀ (i : Nat) (z : ByteArray), i ≤ cs.length → csN (numsS 4 (cs.take i) ++ z, 0) i = (cs.take i, z, 0)
  | 0, z, _ => by rw [List.take_zero]; show ([], (E0 ++ z, 0)) = _; rw [E0_append]
  | i + 1, z, h => by
    have he := List.getElem?_eq_getElem (show i < cs.length by omega)
    rw [numsS_take he, ByteArray.append_assoc, csN, csN_front cs h6 i _ (by omega)]
    dsimp only
    rw [tK_front4 (h6 _ (List.getElem_mem _)), List.take_add_one, he]
    rfl
theorem csN_z {r : Rs} : ∀ {n : Nat}, (csN r n).2.2 = 0 → r.2 = 0
  | 0, h => h
  | n + 1, h => by rw [csN] at h; exact csN_z (tK_z h)
theorem csN_01 {r : Rs} (h : r.2 = 0 ∨ r.2 = 1) : ∀ n : Nat, (csN r n).2.2 = 0 ∨ (csN r n).2.2 = 1
  | 0 => h
  | n + 1 => by rw [csN]; exact tK_01 (by omega) (csN_01 h n)
theorem csN_ok {s : ByteArray} : ∀ {n : Nat} {cs : List Int} {r : ByteArray}, csN (s, 0) n = (cs, r, 0) → s = numsS 4 cs ++ r ∧ cs.length = n ∧ ∀ z ∈ cs, 0 ≤ z ∧ z ≤ 4294967295
  | 0, cs, r, h => by
    have e1 : ([] : List Int) = cs := congrArg (fun x => x.1) h
    have e2 : s = r := congrArg (fun x => x.2.1) h
    subst e1 e2
    exact ⟨(E0_append _).symm, rfl, (fun z hz => by cases hz)⟩
  | n + 1, cs, r, h => by
    rw [csN] at h
    have hz : (csN (s, 0) n).2.2 = 0 := tK_z (congrArg (fun x => x.2.2) h)
    rcases hq : csN (s, 0) n with ⟨c2, r2, e2⟩
    rw [hq] at h hz
    dsimp only at h hz
    subst hz
    obtain ⟨g1, g2, g3⟩ := csN_ok hq
    have hb := tK4_b (r2, 0)
    rcases hq2 : tK 4 (r2, 0) with ⟨x, r3, e3⟩
    rw [hq2] at h hb
    dsimp only at h hb
    have e1 : c2 ++ [x] = cs := congrArg (fun x => x.1) h
    have e4 : r3 = r := congrArg (fun x => x.2.1) h
    have e5 : e3 = 0 := congrArg (fun x => x.2.2) h
    subst e1 e4 e5
    obtain ⟨g4, _⟩ := tK_ok (k := 4) hq2
    refine ⟨?_, by simp [g2], fun z hz => ?_⟩
    · rw [g1, g4, numsS_append, numsS_one, ByteArray.append_assoc]
    · rcases List.mem_append.1 hz with hz | hz
      · exact g3 z hz
      · rcases List.mem_singleton.1 hz with rfl; exact hb
theorem csN_more {s z : ByteArray} {n : Nat} {cs : List Int} {r : ByteArray} (h : csN (s, 0) n = (cs, r, 0)) : csN (s ++ z, 0) n = (cs, r ++ z, 0) := by
  obtain ⟨h1, h2, h3⟩ := csN_ok h
  have := csN_front cs h3 n (r ++ z) (by omega)
  rw [← h2, List.take_length] at this
  rw [h1, ByteArray.append_assoc, ← h2]; exact this
def exT (b : Bool) (pf : Int) (dt : ByteArray) : ByteArray := if b = true then numS 2 pf ++ numS 2 (dt.size / 4 : Nat) ++ dt else E0
theorem exR_front {b : Bool} {pf : Int} {dt : ByteArray} (h : b = true → 0 ≤ pf ∧ pf ≤ 65535 ∧ dt.size % 4 = 0 ∧ dt.size / 4 ≤ 65535) (h0 : b = false → pf = 0 ∧ dt = E0) (z : ByteArray) : exR b (exT b pf dt ++ z, 0) = (pf, dt, z, 0) := by
  cases b with
  | false =>
    obtain ⟨rfl, rfl⟩ := h0 rfl
    unfold exR exT
    simp only [Bool.false_eq_true, if_false, E0_append]
    rfl
  | true =>
    obtain ⟨h1, h2, h3, h4⟩ := h rfl
    unfold exR exT
    rw [if_pos rfl, if_pos rfl, ByteArray.append_assoc, ByteArray.append_assoc, tK_front2 ⟨h1, h2⟩]
    dsimp only
    rw [tK_front2 (x := ((dt.size / 4 : Nat) : Int)) (by omega)]
    dsimp only
    rw [rdB_front dt z _ (by omega)]
theorem exR_z {b : Bool} {r : Rs} (h : (exR b r).2.2.2 = 0) : r.2 = 0 := by
  by_cases h0 : r.2 = 0
  · exact h0
  · rw [exR_err h0] at h; exact h
theorem exR_ok {b : Bool} {s r : ByteArray} {pf : Int} {dt : ByteArray} (h : exR b (s, 0) = (pf, dt, r, 0)) : s = exT b pf dt ++ r ∧ (b = true → 0 ≤ pf ∧ pf ≤ 65535 ∧ dt.size % 4 = 0 ∧ dt.size / 4 ≤ 65535) ∧ (b = false → pf = 0 ∧ dt = E0) := by
  cases b with
  | false =>
    unfold exR at h
    rw [if_neg (by simp)] at h
    have e1 : (0 : Int) = pf := congrArg (fun x => x.1) h
    have e2 : ByteArray.empty = dt := congrArg (fun x => x.2.1) h
    have e3 : s = r := congrArg (fun x => x.2.2.1) h
    subst e1 e2 e3
    exact ⟨(E0_append _).symm, (fun h => by cases h), (fun _ => ⟨rfl, rfl⟩)⟩
  | true =>
    unfold exR at h
    rw [if_pos rfl] at h
    have v1 := tK2_b (s, 0)
    rcases q1 : tK 2 (s, 0) with ⟨p, r1, e1⟩
    rw [q1] at h v1
    dsimp only at h v1
    have v2 := tK2_b (r1, e1)
    rcases q2 : tK 2 (r1, e1) with ⟨l, r2, e2⟩
    rw [q2] at h v2
    dsimp only at h v2
    rcases q3 : rdB r2 e2 (4 * l) with ⟨d, r3, e3⟩
    rw [q3] at h
    dsimp only at h
    have g1 : p = pf := congrArg (fun x => x.1) h
    have g2 : d = dt := congrArg (fun x => x.2.1) h
    have g3 : r3 = r := congrArg (fun x => x.2.2.1) h
    have g4 : e3 = 0 := congrArg (fun x => x.2.2.2) h
    subst g1 g2 g3 g4
    have z2 : e2 = 0 := by
      by_cases h0 : e2 = 0
      · exact h0
      · unfold rdB at q3; rw [if_pos h0] at q3; exact congrArg (fun x => x.2.2) q3
    subst z2
    have z1 : e1 = 0 := tK_z (k := 2) (r := (r1, e1)) (by rw [q2])
    subst z1
    obtain ⟨t1, _⟩ := tK_ok (k := 2) q1
    obtain ⟨t2, _⟩ := tK_ok (k := 2) q2
    obtain ⟨t3, t4⟩ := rdB_ok q3
    have t5 : ((d.size / 4 : Nat) : Int) = l := by omega
    refine ⟨?_, (fun _ => ⟨v1.1, v1.2, by omega, by omega⟩), (fun h => by cases h)⟩
    unfold exT
    rw [if_pos rfl, t5, ByteArray.append_assoc, ByteArray.append_assoc, ← t3, ← t2, ← t1]
theorem exR_more {b : Bool} {s r z : ByteArray} {pf : Int} {dt : ByteArray} (h : exR b (s, 0) = (pf, dt, r, 0)) : exR b (s ++ z, 0) = (pf, dt, r ++ z, 0) := by
  obtain ⟨h1, h2, h3⟩ := exR_ok h
  rw [h1, ByteArray.append_assoc]
  exact exR_front h2 h3 _
theorem exR_01 {b : Bool} {r : Rs} (h : r.2 = 0 ∨ r.2 = 1) : (exR b r).2.2.2 = 0 ∨ (exR b r).2.2.2 = 1 := by
  unfold exR
  split
  · dsimp only
    have h2 := tK_01 (k := 2) (by omega) (tK_01 (k := 2) (by omega) h)
    have v := tK2_b (tK 2 r).2
    unfold rdB
    rcases h2 with h2 | h2
    · rw [if_neg (by simp [h2]), if_neg (by omega)]
      split
      · exact .inr rfl
      · exact .inl rfl
    · rw [if_pos (by simp [h2])]; exact .inr h2
  · exact h
end Go.Proofs.Ytlhlidmhlhodiaa
