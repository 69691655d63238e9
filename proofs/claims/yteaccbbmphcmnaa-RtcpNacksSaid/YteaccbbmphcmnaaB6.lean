/-
  Texts of this proof, laid together (part 6 of 6).
-/
import Derived.Test.YteaccbbmphcmnaaB5
/-
  Layer 5, plain: what is read may be, and is written by no more bytes.
-/
namespace Go.Proofs.Yteaccbbmphcmnaa
set_option linter.unusedSimpArgs false
set_option linter.unusedVariables false
open Go.RowKit
set_option maxRecDepth 100000
attribute [local irreducible] ByteArray.extract

theorem rdB_ok {s : ByteArray} {e n : Int} (h : (rdB s e n).2.2 = 0) : e = 0 ∧ 0 ≤ n ∧ n ≤ s.size ∧ ((rdB s e n).1.size : Int) = n ∧ (s.size : Int) = n + (rdB s e n).2.1.size := by
  unfold rdB at h ⊢
  by_cases h0 : e ≠ 0
  · rw [if_pos h0] at h; exact absurd h h0
  · rw [if_neg h0] at h ⊢
    by_cases h1 : n < 0
    · rw [if_pos h1] at h; cases h
    · rw [if_neg h1] at h ⊢
      by_cases h2 : (s.size : Int) < n
      · rw [if_pos h2] at h; cases h
      · rw [if_neg h2]
        refine ⟨by simpa using h0, by omega, by omega, ?_, ?_⟩
        · simp only [ByteArray.size_extract]; omega
        · simp only [ByteArray.size_extract]; omega
/-- a part that takes m bytes -/
def Eat {α : Type} (f : Rs → α × Rs) (m : Nat) (P : α → Prop) : Prop := ∀ r, (f r).2.2 = 0 → r.2 = 0 ∧ r.1.size = m + (f r).2.1.size ∧ P (f r).1
theorem eat_uK (k : Nat) : Eat (uK k) k (fun x => 0 ≤ x ∧ x < 256 ^ k) := fun r h => by
  obtain ⟨h1, h2, h3, h4, h5⟩ := rdB_ok (s := r.1) (e := r.2) (n := k) h
  refine ⟨h1, ?_, uK_b k r⟩
  show r.1.size = k + (rdB r.1 r.2 k).2.1.size
  omega
theorem eat1 : Eat (uK 1) 1 in8 := fun r h => by
  obtain ⟨h1, h2, h3⟩ := eat_uK 1 r h
  exact ⟨h1, h2, uK1_b r⟩
theorem eat2 : Eat (uK 2) 2 in16 := fun r h => by
  obtain ⟨h1, h2, h3⟩ := eat_uK 2 r h
  exact ⟨h1, h2, uK2_b r⟩
theorem eat3 : Eat (uK 3) 3 (fun x => 0 ≤ x ∧ x ≤ 16777215) := fun r h => by
  obtain ⟨h1, h2, h3⟩ := eat_uK 3 r h
  exact ⟨h1, h2, uK3_b r⟩
theorem eat4 : Eat (uK 4) 4 in32 := fun r h => by
  obtain ⟨h1, h2, h3⟩ := eat_uK 4 r h
  exact ⟨h1, h2, uK4_b r⟩
theorem eat8 : Eat (uK 8) 8 in64 := fun r h => by
  obtain ⟨h1, h2, h3⟩ := eat_uK 8 r h
  exact ⟨h1, h2, uK8_b r⟩
theorem repM_eat {α : Type} {f : Rs → α × Rs} {m : Nat} {P : α → Prop} (hf : Eat f m P) : ∀ (n : Nat) (r : Rs), (repM f n r).2.2 = 0 → r.2 = 0 ∧ r.1.size = m * n + (repM f n r).2.1.size ∧ ∀ x ∈ (repM f n r).1, P x
  | 0, r, h => ⟨h, by show r.1.size = m * 0 + r.1.size; omega, fun x hx => by cases hx⟩
  | n + 1, r, h => by
    obtain ⟨h1, h2, h3⟩ := repM_eat hf n (f r).2 h
    obtain ⟨h4, h5, h6⟩ := hf r h1
    refine ⟨h4, ?_, fun x hx => ?_⟩
    · show r.1.size = m * (n + 1) + (repM f n (f r).2).2.1.size
      rw [Nat.mul_add]; omega
    · rcases List.mem_cons.1 hx with rfl | hx
      · exact h6
      · exact h3 x hx
theorem tilM_eat {α : Type} {f : Rs → α × Rs} {m : Nat} {P : α → Prop} (hf : Eat f m P) : ∀ (n : Nat) (r : Rs), (tilM f n r).2.2 = 0 → r.2 = 0 ∧ r.1.size = m * (tilM f n r).1.length + (tilM f n r).2.1.size ∧ ∀ x ∈ (tilM f n r).1, P x
  | 0, r, h => ⟨h, by show r.1.size = m * 0 + r.1.size; omega, fun x hx => by cases hx⟩
  | n + 1, r, h => by
    by_cases h0 : r.1.size = 0
    · rw [tilM, if_pos h0] at h ⊢
      exact ⟨h, by show r.1.size = m * 0 + r.1.size; omega, fun x hx => by cases hx⟩
    · rw [tilM, if_neg h0] at h ⊢
      obtain ⟨h1, h2, h3⟩ := tilM_eat hf n (f r).2 h
      obtain ⟨h4, h5, h6⟩ := hf r h1
      refine ⟨h4, ?_, fun x hx => ?_⟩
      · show r.1.size = m * ((tilM f n (f r).2).1.length + 1) + (tilM f n (f r).2).2.1.size
        rw [Nat.mul_add]; omega
      · rcases List.mem_cons.1 hx with rfl | hx
        · exact h6
        · exact h3 x hx
theorem eatBk : Eat tBk 24 (fun b => b.ok ∧ b.tt ≤ 16777215) := fun r h => by
  unfold tBk at h ⊢
  dsimp only at h ⊢
  obtain ⟨g7, s7, p7⟩ := eat4 _ h
  obtain ⟨g6, s6, p6⟩ := eat4 _ g7
  obtain ⟨g5, s5, p5⟩ := eat4 _ g6
  obtain ⟨g4, s4, p4⟩ := eat4 _ g5
  obtain ⟨g3, s3, p3⟩ := eat3 _ g4
  obtain ⟨g2, s2, p2⟩ := eat1 _ g3
  obtain ⟨g1, s1, p1⟩ := eat4 _ g2
  refine ⟨g1, by omega, ⟨p1, p2, ⟨p3.1, Int.le_trans p3.2 (by decide)⟩, p4, p5, p6, p7⟩, p3.2⟩
theorem eatPr : Eat tPr 4 (fun x => in16 x.1 ∧ in16 x.2) := fun r h => by
  unfold tPr at h ⊢
  dsimp only at h ⊢
  obtain ⟨g2, s2, p2⟩ := eat2 _ h
  obtain ⟨g1, s1, p1⟩ := eat2 _ g2
  exact ⟨g1, by omega, p1, p2⟩
theorem eatOr : Eat tOr 8 (fun x => in32 x.1 ∧ in8 x.2) := fun r h => by
  unfold tOr at h ⊢
  dsimp only at h ⊢
  obtain ⟨g3, _, _, _, s3⟩ := rdB_ok h
  obtain ⟨g2, s2, p2⟩ := eat1 _ g3
  obtain ⟨g1, s1, p1⟩ := eat4 _ g2
  exact ⟨g1, by omega, p1, p2⟩
theorem itmM_ok : ∀ (n : Nat) (r : Rs), r.1.size < n → (itmM n r).2.2 = 0 → r.2 = 0 ∧ r.1.size = (itsT (itmM n r).1).size + 1 + (itmM n r).2.1.size ∧ ∀ x ∈ (itmM n r).1, in8 x.1 ∧ x.1 ≠ 0 ∧ x.2.size ≤ 255
  | 0, r, hn, h => by omega
  | n + 1, r, hn, h => by
    by_cases h0 : r.2 = 0
    · by_cases h1 : (uK 1 r).1 = 0
      · have e : itmM (n + 1) r = ([], (uK 1 r).2) := by rw [itmM, if_neg (by simp [h0]), if_pos h1]
        rw [e] at h ⊢
        obtain ⟨g1, s1, p1⟩ := eat1 _ h
        refine ⟨h0, ?_, fun x hx => by cases hx⟩
        show r.1.size = 0 + 1 + (uK 1 r).2.1.size
        omega
      · rw [itmM_step h0 h1] at h ⊢
        have h2 : (itmM n (itmS r)).2.2 = 0 := h
        have hS : (itmS r).2 = 0 := by
          by_cases hz : (itmS r).2 = 0
          · exact hz
          · cases n with
            | zero => exact h2
            | succ n => rw [itmM, if_pos hz] at h2; exact h2
        have hk : itmS r = (rdB (uK 1 (uK 1 r).2).2.1 (uK 1 (uK 1 r).2).2.2 (uK 1 (uK 1 r).2).1).2 := rfl
        rw [hk] at hS
        obtain ⟨g3, _, _, z3, s3⟩ := rdB_ok hS
        obtain ⟨g2, s2, p2⟩ := eat1 _ g3
        obtain ⟨g1, s1, p1⟩ := eat1 _ g2
        rw [← hk] at s3
        obtain ⟨f1, f2, f3⟩ := itmM_ok n (itmS r) (by omega) h2
        refine ⟨h0, ?_, fun x hx => ?_⟩
        · show r.1.size = (itT _ ++ itsT (itmM n (itmS r)).1).size + 1 + (itmM n (itmS r)).2.1.size
          unfold itT
          simp only [ByteArray.size_append, numsS_size, List.length_cons, List.length_nil]
          omega
        · rcases List.mem_cons.1 hx with rfl | hx
          · refine ⟨p1, h1, ?_⟩
            have h5 := p2.2
            dsimp only
            omega
          · exact f3 x hx
    · exfalso
      rw [itmM, if_pos h0] at h
      exact h0 h
theorem tCh_ok {r : Rs} (h : (tCh r).2.2 = 0) : r.2 = 0 ∧ r.1.size = (chT (tCh r).1).size + (tCh r).2.1.size ∧ in32 (tCh r).1.1 ∧ 2 * (tCh r).1.2.length ≤ r.1.size ∧ ∀ x ∈ (tCh r).1.2, in8 x.1 ∧ x.1 ≠ 0 ∧ x.2.size ≤ 255 := by
  unfold tCh chE at h ⊢
  dsimp only at h ⊢
  obtain ⟨g3, z0, z1, z3, s3⟩ := rdB_ok h
  obtain ⟨g2, s2, p2⟩ := itmM_ok ((uK 4 r).2.1.size + 1) _ (by omega) g3
  obtain ⟨g1, s1, p1⟩ := eat4 _ g2
  have hl := itsT_long (itmM ((uK 4 r).2.1.size + 1) (uK 4 r).2).1
  refine ⟨g1, ?_, p1, by omega, p2⟩
  unfold chT
  rw [pad4_zb, ByteArray.size_append, zb_size]
  simp only [ByteArray.size_append, numsS_size, List.length_cons, List.length_nil]
  unfold padJ
  generalize (itsT (itmM ((uK 4 r).2.1.size + 1) (uK 4 r).2).1).size = a at *
  generalize (itmM ((uK 4 r).2.1.size + 1) (uK 4 r).2).2.1.size = b at *
  omega
theorem repCh_ok : ∀ (n : Nat) (r : Rs), (repM tCh n r).2.2 = 0 → r.2 = 0 ∧ r.1.size = (chsT (repM tCh n r).1).size + (repM tCh n r).2.1.size ∧ ∀ c ∈ (repM tCh n r).1, in32 c.1 ∧ 2 * c.2.length ≤ r.1.size ∧ ∀ x ∈ c.2, in8 x.1 ∧ x.1 ≠ 0 ∧ x.2.size ≤ 255
  | 0, r, h => ⟨h, by show r.1.size = 0 + r.1.size; omega, fun x hx => by cases hx⟩
  | n + 1, r, h => by
    obtain ⟨h1, h2, h3⟩ := repCh_ok n (tCh r).2 h
    obtain ⟨h4, h5, h6, h7, h8⟩ := tCh_ok h1
    refine ⟨h4, ?_, fun c hc => ?_⟩
    · show r.1.size = (chT (tCh r).1 ++ chsT (repM tCh n (tCh r).2).1).size + (repM tCh n (tCh r).2).2.1.size
      rw [ByteArray.size_append]; omega
    · rcases List.mem_cons.1 hc with rfl | hc
      · exact ⟨h6, h7, h8⟩
      · obtain ⟨a1, a2, a3⟩ := h3 c hc
        exact ⟨a1, by omega, a3⟩
theorem rdF_ok {s : ByteArray} {e x : Int} (h : (rdF s e x).2 = 0) : e = 0 ∧ x = 0 ∧ rdF s e x = (s, e) := by
  unfold rdF at h ⊢
  by_cases h0 : e = 0 ∧ x ≠ 0
  · rw [if_pos h0] at h; exact absurd h h0.2
  · rw [if_neg h0] at h ⊢
    have h : e = 0 := h
    refine ⟨h, ?_, rfl⟩
    by_cases hx : x = 0
    · exact hx
    · exact absurd ⟨h, hx⟩ h0
theorem shl_ok : ∀ (n : Nat) (x : Int), 0 ≤ x → (shlM n x).2 = false → (shlM n x).1 = x * 2 ^ n
  | 0, x, _, _ => by rw [shlM]; simp
  | n + 1, x, h0, h => by
    by_cases hb : 9223372036854775808 ≤ x
    · rw [shlM, if_pos hb] at h; cases h
    · rw [shlM, if_neg hb] at h ⊢
      rw [shl_ok n (2 * x) (by omega) h, Int.pow_succ, Int.mul_comm (2 ^ n) 2, ← Int.mul_assoc, Int.mul_comm x 2]
theorem shl_b : ∀ (n : Nat) (x : Int), 0 ≤ x ∧ x ≤ 18446744073709551615 → in64 (shlM n x).1
  | 0, x, h => h
  | n + 1, x, h => by
    rw [shlM]
    split
    · exact h
    · exact shl_b n (2 * x) (by omega)
theorem rate_ok {m : Int} {k : Nat} (hm : 0 ≤ m ∧ m ≤ 262143) (h : in64 (m * 2 ^ k)) : m * 2 ^ k / 2 ^ exM (m * 2 ^ k) * 2 ^ exM (m * 2 ^ k) = m * 2 ^ k := by
  have he := exM_of h
  generalize exM (m * 2 ^ k) = e at *
  have hp : (0 : Int) < 2 ^ e := Int.pow_pos (by omega)
  have hk : e ≤ k := by
    rcases Nat.lt_or_ge k e with hlt | hge
    · exfalso
      rcases he.2 with h2 | h2
      · omega
      · have h3 : (2 : Int) ^ (k + 18) ≤ 2 ^ (e + 17) := two_le (by omega)
        have hk0 : (0 : Int) < 2 ^ k := Int.pow_pos (by omega)
        have h4 : m * 2 ^ k < 262144 * 2 ^ k := Int.mul_lt_mul_of_pos_right (by omega) hk0
        have h5 : (2 : Int) ^ (k + 18) = 262144 * 2 ^ k := by rw [Int.pow_add, Int.mul_comm]; rfl
        omega
    · exact hge
  obtain ⟨d, rfl⟩ : ∃ d, k = e + d := ⟨k - e, by omega⟩
  rw [Int.pow_add, Int.mul_comm (2 ^ e) (2 ^ d), ← Int.mul_assoc, Int.mul_ediv_cancel _ (by omega)]
theorem tRe_ok {b : ByteArray} (hb : b.size ≤ 1500) (h : (tRe (b, 0)).2.2 = 0) (h0 : (tRe (b, 0)).2.1.size = 0) : okK (tRe (b, 0)).1 ∧ (txK (tRe (b, 0)).1).size ≤ b.size := by
  unfold tRe at h h0 ⊢
  dsimp only at h h0 ⊢
  generalize e1 : uK 4 (b, 0) = q1 at *
  generalize e2 : uK 4 q1.2 = q2 at *
  generalize e3 : reA q2.2 = q3 at *
  generalize e4 : uK 1 q3 = q4 at *
  generalize e5 : uK 3 q4.2 = q5 at *
  generalize e6 : shlM (q5.1 / 262144).toNat (q5.1 % 262144) = q6 at *
  generalize e7 : tilM (uK 4) (reB q6.2 q5.2).1.size (reB q6.2 q5.2) = q7 at *
  unfold reC at h h0
  have hn : (q7.1.length : Int) = q4.1 := by
    by_cases hn : (q7.1.length : Int) = q4.1
    · exact hn
    · rw [if_neg hn] at h; exact absurd (rdF_ok h).2.1 (by decide)
  rw [if_pos hn] at h h0
  have t7 := tilM_eat eat4 (reB q6.2 q5.2).1.size (reB q6.2 q5.2) (by rw [e7]; exact h)
  rw [e7] at t7
  obtain ⟨g7, s7, p7⟩ := t7
  have hbig : q6.2 = false := by
    cases hq : q6.2 with
    | false => rfl
    | true =>
      rw [hq] at g7
      unfold reB at g7
      rw [if_pos rfl] at g7
      exact absurd (rdF_ok g7).2.1 (by decide)
  rw [hbig] at g7 s7
  have g7 : q5.2.2 = 0 := g7
  have s7 : q5.2.1.size = 4 * q7.1.length + q7.2.1.size := s7
  have t5 := eat3 q4.2 (by rw [e5]; exact g7)
  rw [e5] at t5
  obtain ⟨g5, s5, p5⟩ := t5
  have t4 := eat1 q3 (by rw [e4]; exact g5)
  rw [e4] at t4
  obtain ⟨g4, s4, p4⟩ := t4
  have t3 : q2.2.2 = 0 ∧ q2.2.1.size = 4 + q3.1.size := by
    rw [← e3] at g4 ⊢
    unfold reA at g4 ⊢
    by_cases hm : (rdB q2.2.1 q2.2.2 4).1 = rembS
    · rw [if_pos hm] at g4 ⊢
      obtain ⟨a1, a2, a3, a4, a5⟩ := rdB_ok g4
      exact ⟨a1, by omega⟩
    · rw [if_neg hm] at g4
      exact absurd (rdF_ok g4).2.1 (by decide)
  have t2 := eat4 q1.2 (by rw [e2]; exact t3.1)
  rw [e2] at t2
  obtain ⟨g2, s2, p2⟩ := t2
  have t1 := eat4 (b, 0) (by rw [e1]; exact g2)
  rw [e1] at t1
  obtain ⟨g1, s1, p1⟩ := t1
  have hm : 0 ≤ q5.1 % 262144 ∧ q5.1 % 262144 ≤ 262143 := by omega
  have hv := shl_ok (q5.1 / 262144).toNat (q5.1 % 262144) hm.1 (by rw [e6]; exact hbig)
  have hi := shl_b (q5.1 / 262144).toNat (q5.1 % 262144) (by omega)
  rw [e6] at hv hi
  have hr : in64 q6.1 := hi
  have hx : q6.1 / 2 ^ exM q6.1 * 2 ^ exM q6.1 = q6.1 := by
    rw [hv] at hr ⊢
    exact rate_ok hm hr
  have s1 : b.size = 4 + q1.2.1.size := s1
  have p42 : q4.1 ≤ 255 := p4.2
  refine ⟨⟨p1, hr, hx, by omega, p7⟩, ?_⟩
  have : rembS.size = 4 := rfl
  simp only [txK, remT, ByteArray.size_append, numsS_size, List.length_cons, List.length_nil]
  omega
theorem byE_ok {b : ByteArray} {N : Nat} (hN : N ≤ 31) (hb : b.size % 4 = 0) (h : (byE (repM (uK 4) N (b, 0))).2.2 = 0) : okK (byE (repM (uK 4) N (b, 0))).1 ∧ (txK (byE (repM (uK 4) N (b, 0))).1).size ≤ b.size := by
  have hl := repM_len (f := uK 4) N (b, 0)
  have key := repM_eat eat4 N (b, 0)
  generalize repM (uK 4) N (b, 0) = q at *
  unfold byE at h ⊢
  by_cases h0 : q.2.1.size = 0
  · rw [if_pos h0] at h ⊢
    obtain ⟨g1, s1, p1⟩ := key h
    refine ⟨⟨by omega, p1, by decide⟩, ?_⟩
    have e : txK (.bye q.1 E0) = numsS 4 q.1 := by
      show byT q.1 E0 = _
      unfold byT
      exact if_pos rfl
    have s1 : b.size = 4 * N + q.2.1.size := s1
    rw [e, numsS_size]; omega
  · rw [if_neg h0] at h ⊢
    dsimp only at h ⊢
    obtain ⟨g3, _, _, _, s3⟩ := rdB_ok h
    obtain ⟨g2, _, _, z2, s2⟩ := rdB_ok g3
    obtain ⟨ga, sa, pa⟩ := eat1 _ g2
    obtain ⟨g1, s1, p1⟩ := key ga
    have pa2 := pa.2
    have s1 : b.size = 4 * N + q.2.1.size := s1
    generalize rdB (uK 1 q.2).2.1 (uK 1 q.2).2.2 (uK 1 q.2).1 = y at *
    refine ⟨⟨by omega, p1, by omega⟩, ?_⟩
    show (byT q.1 y.1).size ≤ b.size
    unfold byT
    by_cases h1 : y.1 = E0
    · rw [if_pos h1, numsS_size]; omega
    · rw [if_neg h1, pad4_zb, ByteArray.size_append, zb_size]
      simp only [ByteArray.size_append, numsS_size, List.length_cons, List.length_nil]
      unfold padJ
      omega
theorem tkM_ok {b : ByteArray} {kd ct : Int} (hb : b.size ≤ 1500) (h4 : b.size % 4 = 0) (hk : 192 ≤ kd ∧ kd ≤ 223) (hc : 0 ≤ ct ∧ ct ≤ 31) (h : (tkM (b, 0) kd ct).2.2 = 0) (h0 : (tkM (b, 0) kd ct).2.1.size = 0) :
    okK (tkM (b, 0) kd ct).1 ∧ (txK (tkM (b, 0) kd ct).1).size ≤ b.size := by
  unfold tkM at h h0 ⊢
  by_cases k0 : kd = 200
  · rw [if_pos k0] at h h0 ⊢
    unfold tSn at h h0 ⊢
    dsimp only at h h0 ⊢
    obtain ⟨g6, s6, p6⟩ := repM_eat eatBk _ _ h
    have hl := repM_len (f := tBk) ct.toNat (uK 4 (uK 4 (uK 4 (uK 8 (uK 4 (b, 0)).2).2).2).2).2
    obtain ⟨g5, s5, p5⟩ := eat4 _ g6
    obtain ⟨g4, s4, p4⟩ := eat4 _ g5
    obtain ⟨g3, s3, p3⟩ := eat4 _ g4
    obtain ⟨g2, s2, p2⟩ := eat8 _ g3
    obtain ⟨g1, s1, p1⟩ := eat4 _ g2
    refine ⟨⟨p1, p2, p3, p4, p5, by rw [hl]; omega, p6⟩, ?_⟩
    simp only [txK, ByteArray.size_append, numsS_size, bksT_size, List.length_cons, List.length_nil, hl]
    have s1 : b.size = 4 + (uK 4 (b, 0)).2.1.size := s1
    omega
  rw [if_neg k0] at h h0 ⊢
  by_cases k1 : kd = 201
  · rw [if_pos k1] at h h0 ⊢
    unfold tRv at h h0 ⊢
    dsimp only at h h0 ⊢
    obtain ⟨g6, s6, p6⟩ := repM_eat eatBk _ _ h
    have hl := repM_len (f := tBk) ct.toNat (uK 4 (b, 0)).2
    obtain ⟨g1, s1, p1⟩ := eat4 _ g6
    refine ⟨⟨p1, by rw [hl]; omega, p6⟩, ?_⟩
    simp only [txK, ByteArray.size_append, numsS_size, bksT_size, List.length_cons, List.length_nil, hl]
    have s1 : b.size = 4 + (uK 4 (b, 0)).2.1.size := s1
    omega
  rw [if_neg k1] at h h0 ⊢
  by_cases k2 : kd = 202
  · rw [if_pos k2] at h h0 ⊢
    dsimp only at h h0 ⊢
    obtain ⟨g1, s1, p1⟩ := repCh_ok _ _ h
    have hl := repM_len (f := tCh) ct.toNat (b, 0)
    have s1 : b.size = (chsT (repM tCh ct.toNat (b, 0)).1).size + (repM tCh ct.toNat (b, 0)).2.1.size := s1
    refine ⟨⟨by rw [hl]; omega, fun c hc => ?_⟩, ?_⟩
    · obtain ⟨a1, a2, a3⟩ := p1 c hc
      have a2 : 2 * c.2.length ≤ b.size := a2
      exact ⟨a1, by omega, a3⟩
    · show (chsT _).size ≤ b.size
      omega
  rw [if_neg k2] at h h0 ⊢
  by_cases k3 : kd = 203
  · rw [if_pos k3] at h h0 ⊢
    exact byE_ok (by omega) h4 h
  rw [if_neg k3] at h h0 ⊢
  by_cases k5 : kd = 205 ∧ ct = 1
  · rw [if_pos k5] at h h0 ⊢
    unfold tNk at h h0 ⊢
    dsimp only at h h0 ⊢
    obtain ⟨g3, s3, p3⟩ := tilM_eat eatPr _ _ h
    obtain ⟨g2, s2, p2⟩ := eat4 _ g3
    obtain ⟨g1, s1, p1⟩ := eat4 _ g2
    have s1 : b.size = 4 + (uK 4 (b, 0)).2.1.size := s1
    refine ⟨⟨p1, p2, by omega, p3⟩, ?_⟩
    simp only [txK, ByteArray.size_append, numsS_size, prsT_size, List.length_cons, List.length_nil]
    omega
  rw [if_neg k5] at h h0 ⊢
  by_cases k6 : kd = 206 ∧ ct = 1
  · rw [if_pos k6] at h h0 ⊢
    dsimp only at h h0 ⊢
    obtain ⟨g2, s2, p2⟩ := eat4 _ h
    obtain ⟨g1, s1, p1⟩ := eat4 _ g2
    have s1 : b.size = 4 + (uK 4 (b, 0)).2.1.size := s1
    refine ⟨⟨p1, p2⟩, ?_⟩
    simp only [txK, numsS_size, List.length_cons, List.length_nil]
    omega
  rw [if_neg k6] at h h0 ⊢
  by_cases k7 : kd = 206 ∧ ct = 4
  · rw [if_pos k7] at h h0 ⊢
    unfold tFi at h h0 ⊢
    dsimp only at h h0 ⊢
    obtain ⟨g3, s3, p3⟩ := tilM_eat eatOr _ _ h
    obtain ⟨g2, s2, p2⟩ := eat4 _ g3
    obtain ⟨g1, s1, p1⟩ := eat4 _ g2
    have s1 : b.size = 4 + (uK 4 (b, 0)).2.1.size := s1
    refine ⟨⟨p1, by omega, p3⟩, ?_⟩
    simp only [txK, ByteArray.size_append, numsS_size, orsT_size, List.length_cons, List.length_nil]
    omega
  rw [if_neg k7] at h h0 ⊢
  by_cases k8 : kd = 206 ∧ ct = 15
  · rw [if_pos k8] at h h0 ⊢
    exact tRe_ok hb h h0
  rw [if_neg k8] at h h0 ⊢
  dsimp only at h h0 ⊢
  rw [rdB_all] at h h0 ⊢
  refine ⟨⟨hk.1, hk.2, hc.1, hc.2, h4, (by show b.size ≤ 100000; omega), ?_⟩, Nat.le_refl _⟩
  unfold knK
  omega
theorem rdE_ok {s : ByteArray} {e : Int} (h : rdE s e = 0) : e = 0 ∧ s.size = 0 := by
  unfold rdE at h
  by_cases h0 : e = 0 ∧ s ≠ E0
  · rw [if_pos h0] at h; exact absurd h (by decide)
  · rw [if_neg h0] at h
    refine ⟨h, ?_⟩
    by_cases hs : s = E0
    · rw [hs]; rfl
    · exact absurd ⟨h, hs⟩ h0
theorem bdE_ok {pa : Bool} {s : ByteArray} {r : Rs} (h4 : s.size % 4 = 0) (h : (bdE pa s r).2.2 = 0) : r.2 = 0 ∧ (bdE pa s r).1.size % 4 = 0 ∧ (bdE pa s r).1.size ≤ s.size ∧ (bdE pa s r).2 = r := by
  unfold bdE at h ⊢
  by_cases h0 : pa = false ∨ r.2 ≠ 0
  · rw [if_pos h0] at h ⊢
    exact ⟨h, h4, Nat.le_refl _, rfl⟩
  · rw [if_neg h0] at h ⊢
    by_cases h1 : 0 < r.1.size ∨ padN s = 0 ∨ padN s % 4 ≠ 0 ∨ (s.size : Int) < padN s
    · rw [if_pos h1] at h
      exact absurd (rdF_ok h).2.1 (by decide)
    · rw [if_neg h1] at h ⊢
      have hp : 0 ≤ padN s := by
        unfold padN
        split
        · exact Int.le_refl _
        · exact (sb_b s _).1
      refine ⟨h, ?_, ?_, rfl⟩
      · simp only [ByteArray.size_extract]; omega
      · simp only [ByteArray.size_extract]; omega
/-- a packet that is read -/
theorem stM_ok {r : Rs} (hs : r.1.size ≤ 1500) (h : (stM r).2.2 = 0) : r.2 = 0 ∧ okK (stM r).1 ∧ (one4 ((hdK (stM r).1).1, (hdK (stM r).1).2, txK (stM r).1)).size + (stM r).2.1.size ≤ r.1.size := by
  unfold stM at h ⊢
  dsimp only at h ⊢
  generalize e1 : uK 1 r = q1 at *
  generalize e2 : uK 1 q1.2 = q2 at *
  generalize e3 : hdM q1.1 q2.1 q2.2 = q3 at *
  unfold bdM at h ⊢
  generalize e4 : uK 2 q3 = q4 at *
  generalize e5 : rdB q4.2.1 q4.2.2 (4 * q4.1) = q5 at *
  have b4 : 0 ≤ q4.1 := by rw [← e4]; exact (uK2_b q3).1
  generalize e6 : bdE (decide (q1.1 / 32 % 2 = 1)) q5.1 q5.2 = q6 at *
  unfold stB at h ⊢
  have h6 : q6.2.2 = 0 := by
    by_cases h6 : q6.2.2 = 0
    · exact h6
    · rw [if_pos h6] at h; exact h
  rw [if_neg (by simp [h6])] at h ⊢
  dsimp only at h ⊢
  obtain ⟨_, hE, eE⟩ := rdF_ok h
  rw [eE]
  obtain ⟨hE1, hE2⟩ := rdE_ok hE
  have h5 : q5.2.2 = 0 := by
    rw [← e6] at h6
    unfold bdE at h6
    split at h6
    · exact h6
    · split at h6
      · exact (rdF_ok h6).1
      · exact h6
  have t5 := rdB_ok (s := q4.2.1) (e := q4.2.2) (n := 4 * q4.1) (by rw [e5]; exact h5)
  rw [e5] at t5
  obtain ⟨g5, _, _, z5, s5⟩ := t5
  have t6 := bdE_ok (pa := decide (q1.1 / 32 % 2 = 1)) (s := q5.1) (r := q5.2) (by omega) (by rw [e6]; exact h6)
  rw [e6] at t6
  obtain ⟨_, m6, l6, r6⟩ := t6
  rw [r6]
  have t4 := eat2 q3 (by rw [e4]; exact g5)
  rw [e4] at t4
  obtain ⟨g4, s4, p4⟩ := t4
  have t3 : q2.2.2 = 0 ∧ q3 = q2.2 ∧ 192 ≤ q2.1 ∧ q2.1 ≤ 223 := by
    rw [← e3] at g4 ⊢
    unfold hdM at g4 ⊢
    by_cases hc : q2.2.2 = 0 ∧ (q1.1 / 64 ≠ 2 ∨ q2.1 < 192 ∨ 223 < q2.1)
    · rw [if_pos hc] at g4
      exact absurd (rdF_ok g4).2.1 (by decide)
    · rw [if_neg hc] at g4 ⊢
      refine ⟨g4, rfl, ?_⟩
      by_cases k1 : q2.1 < 192
      · exact absurd ⟨g4, .inr (.inl k1)⟩ hc
      · by_cases k2 : 223 < q2.1
        · exact absurd ⟨g4, .inr (.inr k2)⟩ hc
        · omega
  have t2 := eat1 q1.2 (by rw [e2]; exact t3.1)
  rw [e2] at t2
  obtain ⟨g2, s2, p2⟩ := t2
  have t1 := eat1 r (by rw [e1]; exact g2)
  rw [e1] at t1
  obtain ⟨g1, s1, p1⟩ := t1
  rw [t3.2.1] at s4
  have hq : q6.1.size ≤ 1500 := by omega
  obtain ⟨f1, f2⟩ := tkM_ok (b := q6.1) (kd := q2.1) (ct := q1.1 % 32) hq m6 t3.2.2 (by omega) hE1 hE2
  refine ⟨g1, f1, ?_⟩
  have f3 := pad4_id (txK_mod f1)
  rw [one4_size]
  dsimp only
  rw [f3]
  omega
theorem paM_ok : ∀ (n : Nat) (f : Bool) (r : Rs), r.1.size ≤ 1500 → r.2 = 0 → (paM n f r).2 = 0 → (∀ p ∈ (paM n f r).1, okK p) ∧ (txs (paM n f r).1).size ≤ r.1.size ∧ (f = true → 0 < n → (paM n f r).1 ≠ [])
  | 0, f, r, _, _, _ => ⟨(fun p hp => by cases hp), Nat.zero_le _, fun _ h => absurd h (by omega)⟩
  | n + 1, f, r, hs, hr, h => by
    by_cases hc : r.1.size = 0 ∧ ¬ (f = true ∧ r.2 = 0)
    · rw [paM, if_pos hc]
      exact ⟨(fun p hp => by cases hp), Nat.zero_le _, fun hf => absurd ⟨hf, hr⟩ hc.2⟩
    · rw [paM, if_neg hc] at h ⊢
      by_cases he : (stM r).2.2 = 0
      · rw [if_neg (by simp [he])] at h ⊢
        obtain ⟨_, h1, h2⟩ := stM_ok hs he
        have hsz : (stM r).2.1.size ≤ 1500 := by omega
        obtain ⟨h3, h4, _⟩ := paM_ok n false (stM r).2 hsz he h
        refine ⟨fun p hp => ?_, ?_, fun _ _ => by simp⟩
        · rcases List.mem_cons.1 hp with rfl | hp
          · exact h1
          · exact h3 p hp
        · show (one4 ((hdK (stM r).1).1, (hdK (stM r).1).2, txK (stM r).1) ++ txs (paM n false (stM r).2).1).size ≤ _
          rw [ByteArray.size_append]; omega
      · rw [if_pos he] at h
        exact absurd h he
/-- what is read may be -/
theorem pk_ok {s : ByteArray} (h : (pkM s).2 = 0) : s.size ≤ 1500 ∧ (∀ p ∈ (pkM s).1, okK p) ∧ (txs (pkM s).1).size ≤ s.size ∧ (pkM s).1 ≠ [] := by
  unfold pkM at h ⊢
  by_cases h0 : 1500 < s.size
  · rw [if_pos h0] at h; cases h
  · rw [if_neg h0] at h ⊢
    by_cases h1 : (paM (s.size + 1) true (s, 0)).2 = 0
    · rw [if_neg (by simp [h1])]
      obtain ⟨h2, h3, h4⟩ := paM_ok (s.size + 1) true (s, 0) (by dsimp only; omega) rfl h1
      exact ⟨by omega, h2, h3, h4 rfl (by omega)⟩
    · rw [if_pos h1] at h
      exact absurd h h1
end Go.Proofs.Yteaccbbmphcmnaa

/-
  Interface values that are compared.
-/
namespace Go.Proofs.Yteaccbbmphcmnaa
set_option linter.unusedSimpArgs false
set_option linter.unusedVariables false
open Go.RowKit
section
variable {P : Program} {fr : List (Nat × Value)} {hp : List It} {ro : List Ro} {x y : Operand} {t t' T : TypeId}
theorem pv_eql_if' {ks : List Kd} {r1 r2 : List Value} {ms : Array (String × TypeId)} {i : TypeInfo} (hx : opd fr x = some (.iface T (.agg r1.toArray))) (hy : opd fr y = some (.iface T (.agg r2.toArray)))
    (hu : P.underlying t = some (.interface ms)) (hi : P.info? T = some i) (hc : i.comparable = true) (h : TEq P T ks) (h1 : fits ks r1 = true) (h2 : fits ks r2 = true) : Pv P ⟨fr, hp, ro⟩ (.binOp .eql t x y t') (.bool (eqRow r1 r2)) := fun N E ac w dst ty pos af g ok => by
  have e1 : (Op.equal t (.iface T (.agg r1.toArray)) (.iface T (.agg r2.toArray))).run P w = .ok (eqRow r1 r2) w := by
    show Sem.run P (Op.equalIn (9999 + 1) t _ _) w = _
    have h := h.h
    unfold eqB at h
    split at h
    · rename_i fs hf
      split at h
      · rename_i hg
        have hff : P.fieldsOf T = fs := by unfold Program.fieldsOf; rw [hf]
        rw [Op.equalIn]
        simp only [Sem.run_bind, run_underlying hu, Result.andThen_ok]
        simp only [ne_eq, not_true_eq_false, if_false, Sem.run_bind, typeInfo, hi]
        simp [go_sem]
        rw [hi]
        simp [hc]
        rw [run_equalIn_struct w 9998 T _ _ (by rw [hff]; exact hf) hg.1, hff]
        exact run_eqFields_row fs.toList 0 ks r1 r2 h rfl rfl h1 h2
      · cases h
    · cases h
  have e2 : (binOp .eql t (.iface T (.agg r1.toArray)) (.iface T (.agg r2.toArray))).run P w = .ok (.bool (eqRow r1 r2)) w := by
    simp only [binOp, Sem.run_bind, e1]; rfl
  simp only [execOp, ok.h.eval hx, ok.h.eval hy]
  simp [eqGuard, e2]
def isIf (P : Program) (t : TypeId) : Bool := match P.underlying t with | some (.interface _) => true | _ => false
def cmpB (P : Program) (t : TypeId) : Bool := match P.info? t with | some i => i.comparable | none => false
theorem pv_eql_if {ks : List Kd} {r1 r2 : List Value} (hx : opd fr x = some (.iface T (.agg r1.toArray))) (hy : opd fr y = some (.iface T (.agg r2.toArray)))
    (hu : isIf P t = true) (hc : cmpB P T = true) (h : TEq P T ks) (h1 : fits ks r1 = true) (h2 : fits ks r2 = true) : Pv P ⟨fr, hp, ro⟩ (.binOp .eql t x y t') (.bool (eqRow r1 r2)) := by
  unfold isIf at hu
  unfold cmpB at hc
  split at hu
  · rename_i ms hm
    split at hc
    · rename_i i hi
      exact pv_eql_if' hx hy hm hi hc h h1 h2
    · cases hc
  · cases hu
theorem pv_eql_nil {e sz by_ : Nat} [h : TSl P t e sz by_] (hx : opd fr x = some (.slice none 0 0)) (hy : opd fr y = some (.slice none 0 0)) : Pv P ⟨fr, hp, ro⟩ (.binOp .eql t x y t') (.bool true) := fun N E ac w dst ty pos af g ok => by
  obtain ⟨_, _, h1, _⟩ := sl_und h.h
  have e1 : (Op.equal t (.slice none 0 0) (.slice none 0 0)).run P w = .ok true w := by
    show Sem.run P (Op.equalIn (9999 + 1) t _ _) w = _
    rw [Op.equalIn]
    simp only [Sem.run_bind, run_underlying h1, Result.andThen_ok]
    rfl
  have e2 : (binOp .eql t (.slice none 0 0) (.slice none 0 0)).run P w = .ok (.bool true) w := by
    simp only [binOp, Sem.run_bind, e1]; rfl
  simp only [execOp, ok.h.eval hx, ok.h.eval hy]
  simp [eqGuard, e2]
end
section
variable {P : Program} {N : Nat} {E : Env} {fr : List (Nat × Value)} {hp : List It} {ro : List Ro} {Kn : St → Prop} {ops : Array Oper} {rest : List Oper} {dst : Option Tmp} {ty : TypeId} {pos : String} {af : Array Edge} {x : Operand}
/-- a call of a function value -/
theorem wo_callv {f : FuncId} [HasBody P f] {vs : List Value} {L F : List It} {R : List Ro} {Post : Value → List It → List Ro → Prop} {l : List Operand} {ats : Array TypeId}
    (hx : opd fr x = some (.func (.func f) #[] #[])) (hF : Fn P f vs.toArray L R Post) (ha : opdL fr l = some vs) (hs : hp.Perm (L ++ F)) (hr : ∀ r ∈ R, r ∈ ro) (hd : dstOk dst N = true)
    (h : ∀ v L' R', Post v L' R' → ∀ H, H = L' ++ F → ∀ RR, RR = R' ++ ro → WO P N E ops rest ⟨putF dst v fr, H, RR⟩ Kn) :
    WO P N E ops (⟨dst, .call ⟨.value x, l.toArray, ats⟩, ty, pos, af, none⟩ :: rest) ⟨fr, hp, ro⟩ Kn := by
  intro Q hQ a w ok
  unfold wpList
  rw [if_pos (by simp [Region.wanted])]
  refine .inl ?_
  unfold Oper.wp
  have e : execOp a.eval ⟨dst, .call ⟨.value x, l.toArray, ats⟩, ty, pos, af, none⟩ = execOp a.eval ⟨dst, .call ⟨.value (.func f), l.toArray, ats⟩, ty, pos, af, none⟩ := by
    simp only [execOp, resolve, ok.h.eval hx]; rfl
  rw [e, HasBody.enter w, ok.h.evalL ha]
  refine (hF w (ok.s.start hs hr)).mono fun e w' ⟨v, L', R', he, hP, hS⟩ => ?_
  subst he
  exact h v L' R' hP _ rfl _ rfl Q hQ _ w' ⟨ok.h.putF hd v, ok.s.step hs (fun b hb => by
    obtain ⟨r, h1, h2⟩ := mem_blks.1 hb; exact mem_blks.2 ⟨r, hr r h1, h2⟩) hS⟩
end
end Go.Proofs.Yteaccbbmphcmnaa

/-
  Layer 5: awake.
-/
namespace Go.Proofs.Yteaccbbmphcmnaa
set_option linter.unusedSimpArgs false
set_option linter.unusedVariables false
open Go.RowKit
attribute [local irreducible] Pv WO WC Fn
set_option maxRecDepth 100000
attribute [local irreducible] ByteArray.extract

abbrev pliS : ByteArray := ⟨#[129, 206, 0, 2, 0, 0, 0, 1, 0, 0, 0, 2]⟩
theorem pliS_txs : txs [.pli 1 2] = pliS := by decide
theorem pliS_ok : pkM pliS = ([.pli 1 2], 0) := by
  have h := pk_back5 (l := [.pli 1 2]) (fun p hp => by rcases List.mem_singleton.1 hp with rfl; exact ⟨by unfold in32; omega, by unfold in32; omega⟩) (by simp) (by rw [pliS_txs]; decide)
  rwa [pliS_txs] at h
instance tEqPli : TEq Try.prog 88 [.i .u32, .i .u32] := ⟨by kernel_rfl⟩
theorem ifPk : isIf Try.prog 51 = true := by kernel_rfl
theorem cmPli : cmpB Try.prog 88 = true := by kernel_rfl
theorem yBye1 (A : Option Addr) (c : Nat) (R : List Ro) (hS : SQ R 1 A 1 c [[.iface 88 (.agg #[.int .u32 1, .int .u32 2])]]) : Fn Try.prog 28 #[.slice A 1 c] [] R (fun v L' R' => v = .slice none 0 0 ∧ L' = [] ∧ R' = []) := by
  obtain ⟨a0, o0, rfl, hmem⟩ := hS.pos (by omega)
  have hr : ([[.iface 88 (.agg #[.int .u32 1, .int .u32 2])]] : List (List Value))[0]? = some [.iface 88 (.agg #[.int .u32 1, .int .u32 2])] := rfl
  refine fn_intro Try.func28 rfl Try.ntmps28 rfl (fun E => ?_)
  (repeat (first | ((first | (apply wo_v; rfl) ); (· first | (apply pv_ev; rfl) | (apply g_bi; first | (apply pv_len_sl; rfl) ) )) | apply wo_nil | apply wc_seq | apply wc_region ))
  refine wc_block ?_
  refine wc_loop' (fun q st => ∃ (i : Int), (q = 0 ∧ i = 1 ∨ q = 1 ∧ i = 0) ∧ st = ⟨[(3, .slice none 0 0), (8, .slice (some ⟨a0, o0, none⟩) 1 c), (9, .int .i64 1), (10, .int .i64 i)], [], R⟩) ⟨0, .inr ⟨rfl, rfl⟩, rfl⟩ (wk_mk (by (repeat (first | apply wkf_nil | (apply wkf_cons; rfl))); done) (by (repeat (first | apply sub_nil )); done) (by first | exact fun _ h => h | (intro r hr; cases hr; done) | (simp; done) | exact fun _ h => List.mem_append_left _ h | (intro r hr; simp [hr]; done))) ?_
  rintro q st ⟨i, ⟨rfl, rfl⟩ | ⟨rfl, rfl⟩, rfl⟩
  · (repeat (first | ((first | (apply wo_v; rfl) ); (· first | (apply pv_ev; rfl) )) | apply wo_nil | apply wc_seq | apply wc_region | (apply wc_exit; rfl) | apply wc_ret | (apply wc_true; rfl) | (apply wc_false; rfl) ))
    exact ret1 rfl rfl ⟨rfl, rfl, rfl⟩ ((by (repeat (first | apply sub_nil )); done) : List.Perm _ ([] ++ _)) (by first | exact fun _ h => h | (intro r hr; cases hr; done) | (simp; done) | exact fun _ h => List.mem_append_left _ h | (intro r hr; simp [hr]; done))
  · have hr2 : ([[.iface 88 (.agg #[.int .u32 1, .int .u32 2])]] : List (List Value))[(0 : Int).toNat]? = some [.iface 88 (.agg #[.int .u32 1, .int .u32 2])] := rfl
    (repeat (first | ((first | (apply wo_v; rfl) ); (· first | (apply pv_ev; rfl) )) | apply wo_nil | apply wc_seq | apply wc_region | apply wc_skip | (apply wc_true; rfl) ))
    refine wc_block ?_
    (repeat (first | ((first | (apply wo_v; rfl) ); (· first | (apply pv_ev; rfl) | (apply g_load; first | (apply pv_ld; rfl; (· (repeat (first | fail ))); rfl) | (apply pv_ld_ownf; rfl; (· (repeat (first | fail ))); (· assumption); rfl) | (apply pv_ld_own1; rfl; (· (repeat (first | fail ))); (· assumption)) | (apply pv_ld_rof; rfl; (· (first | assumption )); (· assumption); rfl) | (apply pv_ld_ro1; rfl; (· (first | assumption )); (· assumption)) ) | (apply g_bin; first | (apply a_add; rfl; rfl; infer_instance; omega) ) | (apply g_idx; first | (apply pv_idx; rfl; rfl; omega) | (apply (pv_idx_e 0); rfl; rfl; rfl; omega) ) | (apply pv_tas; rfl; infer_instance) )) | apply wo_nil | apply wc_seq | apply wc_region | apply wc_skip | (apply wc_true; rfl) | (apply wc_false; rfl) | (apply wo_alloc; rfl; intro bx) | (apply wo_sta; rfl; rfl; rfl; rfl; (· (repeat (first | apply sel_here ))); (· (repeat (first | apply LayAt.nil | apply LayAt.here ))); rfl) ))
    exact loop_end ⟨0 + 1, .inl ⟨rfl, rfl⟩, rfl⟩ (by omega) (wk_mk (by (repeat (first | apply wkf_nil | (apply wkf_cons; rfl))); done) (by (repeat (first | apply sub_nil )); done) (by first | exact fun _ h => h | (intro r hr; cases hr; done) | (simp; done) | exact fun _ h => List.mem_append_left _ h | (intro r hr; simp [hr]; done)))
abbrev pkO1 (b : Nat) : It := .own 51 1 (some ⟨b, 0, none⟩) 1 1 [[.iface 88 (.agg #[.int .u32 1, .int .u32 2])]]
def tblAw : Nat → List (List It) → Value → List (List It) → Prop := fun k Ls v Ms => match k with
  | 18 => ∃ b, v = .slice (some ⟨b, 0, none⟩) 1 1 ∧ Ms = [[.own 51 1 (some ⟨b, 0, none⟩) 1 1 [[.iface 88 (.agg #[.int .u32 1, .int .u32 2])]]]]
  | 19 => v = .string pliS ∧ ∃ b, Ms = [[.own 51 1 (some ⟨b, 0, none⟩) 1 1 [[.iface 88 (.agg #[.int .u32 1, .int .u32 2])]]]]
  | _ => v = .slice none 0 0 ∧ Ms = [[]]
abbrev plB (b : Nat) : It := .ob b (.cells #[.int .u32 1, .int .u32 2] 88 (0, 0))
theorem yText1 (R0 : List Ro) (b : Nat) : Fn Try.prog 11 #[.slice (some ⟨b, 0, none⟩) 1 1] [.own 51 1 (some ⟨b, 0, none⟩) 1 1 [[.iface 88 (.agg #[.int .u32 1, .int .u32 2])]]] [] (fun v L' R' => v = .string pliS ∧ L' = [.own 51 1 (some ⟨b, 0, none⟩) 1 1 [[.iface 88 (.agg #[.int .u32 1, .int .u32 2])]]] ∧ R' = []) := by
  refine (Fn.own (Q := fun v L0 => v = .string pliS ∧ L0 = []) (fun R hS => ?_)).mono ?_
  · have hV : PksV R [.pli 1 2] [.iface 88 (.agg #[.int .u32 1, .int .u32 2])] := (PksV.nil R).snoc (p := .pli 1 2) rfl
    have := tTextK [.pli 1 2] [.iface 88 (.agg #[.int .u32 1, .int .u32 2])] _ 1 1 R hS hV (fun p hp => by rcases List.mem_singleton.1 hp with rfl; exact ⟨by unfold in32; omega, by unfold in32; omega⟩) (by simp) (fun p hp => by rcases List.mem_singleton.1 hp with rfl; decide)
    rw [pliS_txs] at this
    exact this.mono (fun v L' R' h => ⟨⟨h.1, h.2.1⟩, h.2.2⟩)
  · rintro v L' R' ⟨L0, ⟨rfl, rfl⟩, rfl, rfl⟩
    exact ⟨rfl, rfl, rfl⟩
set_option maxHeartbeats 16000000 in
theorem awake05 : Fn Try.prog 10 #[] [] [] (fun v L' R' => v = .bool true ∧ L' = [] ∧ R' = []) := by
  have wP := kParse pliS (by decide)
  rw [pliS_ok] at wP
  dsimp only [List.length_cons, List.length_nil] at wP
  refine fn_intro Try.func10 rfl Try.ntmps10 rfl (fun E => ?_)
  (repeat (first | ((first | (apply wo_v; rfl) ); (· first | (apply pv_ev; rfl) )) | apply wo_nil | apply wc_seq | apply wc_region ))
  (refine wo_call (wP) rfl (by (repeat (first | apply sub_nil )); done) (by first | exact fun _ h => h | (intro r hr; cases hr; done) | (simp; done) | exact fun _ h => List.mem_append_left _ h | (intro r hr; simp [hr]; done)) rfl ?_; rintro v L' R' ⟨A, c, vs, rfl, hS, hV, _, rfl⟩ H' hH RR hR; simp only [List.cons_append, List.nil_append] at hH hR; subst hH; have hR := hR.symm; subst hR)
  have hvs : vs = [.iface 88 (.agg #[.int .u32 1, .int .u32 2])] := by
    have h1 := hV.1
    obtain ⟨v, h2, h3⟩ := hV.2 0 _ rfl
    match vs, h1, h2 with
    | [u], _, h2 =>
      have : u = v := by simpa using h2
      subst this
      rw [show u = _ from h3]
  subst hvs
  have hS := hS.mono (R' := R' ++ []) (fun r hr => List.mem_append_left _ hr)
  generalize R' ++ [] = RG at *
  obtain ⟨a0, o0, rfl, hmem⟩ := hS.pos (by omega)
  have hr : (one1 [.iface 88 (.agg #[.int .u32 1, .int .u32 2])])[0]? = some [.iface 88 (.agg #[.int .u32 1, .int .u32 2])] := rfl
  have q1 := yBye1 (some ⟨a0, o0, none⟩) c RG hS
  (repeat (first | ((first | (apply wo_v; rfl) ); (· first | (apply pv_ev; rfl) | (apply g_build; apply pv_build; (· (repeat (first | apply Bld.nil | (apply Bld.one; rfl; rfl; (· (repeat (first | apply SetAt.here | apply SetAt.there)))) )))) )) | apply wo_nil | apply wc_seq | apply wc_region | (apply wo_alloc; rfl; intro bx) | (apply wo_sta; rfl; rfl; rfl; rfl; (· (repeat (first | apply sel_here ))); (· (repeat (first | apply LayAt.nil | apply LayAt.here ))); rfl) ))
  obtain ⟨bp, hbp⟩ : ∃ g, g = bx := ⟨_, rfl⟩
  subst hbp
  (refine wc_regM [0, 1] (aslL [(18, [0]), (19, [0]), (24, [1])]) (tblAw) ([plB bp]) (fm [(0, []), (1, [])]) mixed (by kernel_rfl) (by kernel_rfl) (by decide) (aslL_ok (by decide)) (by (repeat (first | (apply prm_cons; (· (repeat (first | apply sel_here )))) | apply List.Perm.nil )); done) ?_; (repeat (first | (apply HdM.val; rfl; rfl; (· first | apply gok_none | (apply gok_run; rfl; rfl)); (· first | (apply pv_ev; rfl) | (apply g_load; first | (apply pv_ld; rfl; (· (repeat (first | apply sel_there))); rfl) | (apply pv_lda; rfl; (· (repeat (first | apply sel_here ))); (· (repeat (first | apply Cut.here0 | apply Cut.here )))) | (apply pv_ld_ownf; rfl; (· (repeat (first | fail ))); (· assumption); rfl) | (apply pv_ld_own1; rfl; (· (repeat (first | apply sel_there))); (· assumption)) | (apply pv_ld_rof; rfl; (· (first | assumption )); (· assumption); rfl) | (apply pv_ld_ro1; rfl; (· (first | assumption )); (· assumption)) ) | (apply g_pick; first | (apply pv_pick_t; rfl; rfl) ) | (apply g_bin; first | (apply pv_eql_s; rfl; rfl) | (apply pv_eql_a; rfl; rfl; infer_instance; rfl; rfl) ) | (apply g_bi; first | (apply pv_len_sl; rfl) ) | (apply g_idx; first | (apply pv_idx; rfl; rfl; omega) | (apply (pv_idx_e 0); rfl; rfl; rfl; omega) ) | (apply pv_mki; rfl; infer_instance) )) | (apply HdM.skip; rfl; rfl; rfl; rfl) | (apply HdM.skipu; rfl; rfl; rfl) | (apply am_gt; rfl; rfl; (· first | assumption | omega)) | (apply am_gf; rfl; rfl; (· first | assumption | omega)) | (apply am_gt; rfl; rfl; (· first | (simp; done) | (simp; omega))) | (apply am_gf; rfl; rfl; (· first | (simp; done) | (simp; omega))))))
  apply HdM.val
  · rfl
  · rfl
  · (· first | (apply gok_run; rfl; rfl))
  · exact pv_eql_if (r1 := [.int .u32 1, .int .u32 2]) (r2 := [.int .u32 1, .int .u32 2]) rfl rfl ifPk cmPli tEqPli rfl rfl
  (repeat (first | (apply HdM.val; rfl; rfl; (· first | apply gok_none | (apply gok_run; rfl; rfl)); (· first | (apply pv_ev; rfl) | (apply g_load; first | (apply pv_lda; rfl; (· (repeat (first | apply sel_here ))); (· (repeat (first | apply Cut.here0 | apply Cut.here )))) ) | (apply g_pick; first | (apply pv_pick_t; rfl; rfl) ) | (apply pv_mki; rfl; infer_instance) )) | (apply HdM.skip; rfl; rfl; rfl; rfl) | (apply HdM.skipu; rfl; rfl; rfl) | (apply am_gt; rfl; rfl; (· first | assumption | omega)) | (apply am_gf; rfl; rfl; (· first | assumption | omega)) | (apply am_gt; rfl; rfl; (· first | (simp; done) | (simp; omega))) | (apply am_gf; rfl; rfl; (· first | (simp; done) | (simp; omega)))))
  (refine hm_eff (cs := [0]) rfl (by decide) rfl rfl (by first | exact gok_none | exact gok_run rfl rfl) (fun a ha => outc_mono (outc_bsl (by (repeat (first | apply Rws'.nil | (apply Rws'.one; rfl; rfl; rfl) )); done) rfl rfl rfl a ha) (fun v M h => Exists.elim h fun b h => ⟨[M], Exists.intro b (And.intro h.1 (congrArg (fun x => [x]) h.2)), rfl, by simp⟩)) (⟨_, _, Exists.intro 0 (And.intro rfl rfl), rfl⟩) ?_; rintro v Ms ⟨b9, rfl, rfl⟩ _; simp only [setls, setl, reduceIte, Nat.reduceEqDiff]; (repeat (first | (apply HdM.val; rfl; rfl; (· first | fail ); (· first | fail )) | (apply HdM.skip; rfl; rfl; rfl; rfl) | (apply HdM.skipu; rfl; rfl; rfl) | (apply am_gt; rfl; rfl; (· first | assumption | omega)) | (apply am_gf; rfl; rfl; (· first | assumption | omega)) | (apply am_gt; rfl; rfl; (· first | (simp; done) | (simp; omega))) | (apply am_gf; rfl; rfl; (· first | (simp; done) | (simp; omega))))))
  (refine hm_eff (cs := [0]) rfl (by decide) rfl rfl (by first | exact gok_none | exact gok_run rfl rfl) (fun a ha => outc_mono (outc_call (F1 := _) (T := fun v M => v = .string pliS ∧ M = [pkO1 b9]) (yText1 [] b9) rfl (by (repeat (first | apply sub_nil )); done) (by first | exact fun _ h => h | (intro r hr; cases hr; done) | (simp; done) | exact fun _ h => List.mem_append_left _ h | (intro r hr; simp [hr]; done)) (by rintro v L' R' ⟨rfl, rfl, _⟩; exact ⟨_, ⟨rfl, rfl⟩, (by (repeat (first | (apply prm_cons; (· (repeat (first | apply sel_here )))) | apply List.Perm.nil )); done)⟩) a ha) (fun v M h => ⟨[M], And.intro h.1 (Exists.intro b9 (congrArg (fun x => [x]) h.2)), rfl, by simp⟩)) (⟨_, _, And.intro rfl (Exists.intro 0 rfl), rfl⟩) ?_; rintro v Ms ⟨rfl, b8, rfl⟩ _; simp only [setls, setl, reduceIte, Nat.reduceEqDiff]; (repeat (first | (apply HdM.val; rfl; rfl; (· first | apply gok_none | (apply gok_run; rfl; rfl)); (· first | (apply pv_ev; rfl) | (apply g_pick; first | (apply pv_pick_t; rfl; rfl) ) | (apply g_bin; first | (apply pv_eql_s; rfl; rfl) ) )) | (apply HdM.skip; rfl; rfl; rfl; rfl) | (apply HdM.skipu; rfl; rfl; rfl) | (apply am_gt; rfl; rfl; (· first | assumption | omega)) | (apply am_gf; rfl; rfl; (· first | assumption | omega)) | (apply am_gt; rfl; rfl; (· first | (simp; done) | (simp; omega))) | (apply am_gf; rfl; rfl; (· first | (simp; done) | (simp; omega))))))
  (refine hm_eff (cs := [1]) rfl (by decide) rfl rfl (by first | exact gok_none | exact gok_run rfl rfl) (fun a ha => outc_mono (outc_call (F1 := _) (T := fun v M => v = .slice none 0 0 ∧ M = []) (q1) rfl (by (repeat (first | apply sub_nil )); done) (by first | exact fun _ h => h | (intro r hr; cases hr; done) | (simp; done) | exact fun _ h => List.mem_append_left _ h | (intro r hr; simp [hr]; done)) (by rintro v L' R' ⟨rfl, rfl, _⟩; exact ⟨_, ⟨rfl, rfl⟩, (by (repeat (first | (apply prm_cons; (· (repeat (first | apply sel_here )))) | apply List.Perm.nil )); done)⟩) a ha) (fun v M h => ⟨[[]], And.intro h.1 rfl, rfl, h.2⟩)) ⟨_, _, And.intro rfl rfl, rfl⟩ ?_; rintro v Ms ⟨rfl, rfl⟩ _; simp only [setls, setl, reduceIte, Nat.reduceEqDiff]; (repeat (first | (apply HdM.val; rfl; rfl; (· first | apply gok_none | (apply gok_run; rfl; rfl)); (· first | (apply pv_ev; rfl) | (apply g_pick; first | (apply pv_pick_t; rfl; rfl) ) | (apply g_bi; first | (apply pv_len_sl; rfl) ) )) )))
  (refine HdM.nil ?_; intro H hH; simp only [Hp, fm, look, setl, List.flatMap_cons, List.flatMap_nil, reduceIte, Nat.reduceEqDiff, Option.getD_some, List.append_nil, List.cons_append, List.nil_append] at hH; subst hH)
  (repeat (first | apply wc_ret ))
  exact ret1 rfl rfl ⟨by simp, rfl, rfl⟩ ((by (repeat (first | apply sub_nil )); done) : List.Perm _ ([] ++ _)) (by first | exact fun _ h => h | (intro r hr; cases hr; done) | (simp; done) | exact fun _ h => List.mem_append_left _ h | (intro r hr; simp [hr]; done))
end Go.Proofs.Yteaccbbmphcmnaa

/-
  RtcpNacks: the pairs ask for the given numbers, and for no other ones.
-/
namespace Go.Proofs.Yteaccbbmphcmnaa
set_option linter.unusedSimpArgs false
set_option linter.unusedVariables false
open Go.RowKit
attribute [local irreducible] Pv WO WC Fn
set_option maxRecDepth 100000
attribute [local irreducible] ByteArray.extract

theorem aset_mem {l : List (Int × Value)} {x : Int} {v : Value} (hn : (l.map Prod.fst).Nodup) {p : Int × Value} (hp : p ∈ aset l x v) : p = (x, v) ∨ (p ∈ l ∧ p.1 ≠ x) := by
  induction l with
  | nil => exact .inl (List.mem_singleton.1 hp)
  | cons q l ih =>
    obtain ⟨a, u⟩ := q
    obtain ⟨h1, h2⟩ := List.nodup_cons.1 hn
    unfold aset at hp
    by_cases hx : x = a
    · rw [if_pos hx] at hp
      rcases List.mem_cons.1 hp with rfl | hp
      · exact .inl (by rw [hx])
      · exact .inr ⟨.tail _ hp, fun e => h1 (by rw [← hx, ← e]; exact List.mem_map.2 ⟨p, hp, rfl⟩)⟩
    · rw [if_neg hx] at hp
      rcases List.mem_cons.1 hp with rfl | hp
      · exact .inr ⟨.head _, fun e => hx e.symm⟩
      · rcases ih h2 hp with h | ⟨h, h'⟩
        · exact .inl h
        · exact .inr ⟨.tail _ h, h'⟩
theorem aset_keys {l : List (Int × Value)} {x : Int} {v : Value} : ∀ y ∈ (aset l x v).map Prod.fst, y ∈ l.map Prod.fst ∨ y = x := by
  induction l with
  | nil => intro y hy; exact .inr (by simpa [aset] using hy)
  | cons q l ih =>
    obtain ⟨a, u⟩ := q
    intro y hy
    unfold aset at hy
    by_cases hx : x = a
    · rw [if_pos hx] at hy; exact .inl hy
    · rw [if_neg hx] at hy
      rcases List.mem_cons.1 hy with rfl | hy
      · exact .inl (.head _)
      · rcases ih y hy with h | h
        · exact .inl (.tail _ h)
        · exact .inr h
theorem aset_nodup {l : List (Int × Value)} {x : Int} {v : Value} (hn : (l.map Prod.fst).Nodup) : ((aset l x v).map Prod.fst).Nodup := by
  induction l with
  | nil => simp [aset]
  | cons q l ih =>
    obtain ⟨a, u⟩ := q
    obtain ⟨h1, h2⟩ := List.nodup_cons.1 hn
    unfold aset
    by_cases hx : x = a
    · rw [if_pos hx]; exact hn
    · rw [if_neg hx]
      refine List.nodup_cons.2 ⟨fun h => ?_, ih h2⟩
      rcases aset_keys _ h with h | h
      · exact h1 h
      · exact hx h.symm
/-- counts: from one on, or struck -/
def Cn (km : List (Int × Value)) (lo : Int) (j : Nat) : Prop := ∀ x, alook km x = none ∨ ∃ v : Int, alook km x = some (.int .i64 v) ∧ v ≠ 0 ∧ lo ≤ v ∧ v ≤ j
theorem Cn.set {km : List (Int × Value)} {lo : Int} {j k : Nat} {v : Int} (h : Cn km lo j) (x : Int) (hjk : j ≤ k) (h1 : v ≠ 0) (h2 : lo ≤ v) (h3 : v ≤ k) : Cn (aset km x (.int .i64 v)) lo k := fun y => by
  rw [alook_set]
  by_cases hy : y = x
  · rw [if_pos hy]; exact .inr ⟨v, rfl, h1, h2, h3⟩
  · rw [if_neg hy]
    rcases h y with h | ⟨u, h, h4, h5, h6⟩
    · exact .inl h
    · exact .inr ⟨u, h, h4, h5, by omega⟩
abbrev rpO (ao : Option Addr) (n c : Nat) (l : List (Int × Int)) : It := .own 45 2 ao n c (pairV l)
abbrev itrO (r b n : Nat) (seen : Array Nat) : It := .ob r (.mapIter (some b) n seen n)
theorem rpO_snoc (ao : Option Addr) (n c : Nat) (l : List (Int × Int)) (x y : Int) : rpO ao n c (l ++ [(x, y)]) = It.own 45 2 ao n c (pairV l ++ [[.int .u16 x, .int .u16 y]]) := by simp [rpO, pairV]
def tblNp (x y : Int) : Nat → List (List It) → Value → List (List It) → Prop := fun k Ls v Ms => match k, Ls with
  | 12, _ => ∃ b, v = .pointer (some ⟨b, 0, none⟩) ∧ Ms = [[prO b 0 0]]
  | 13, [[.ob b _]] => v = undef ∧ Ms = [[prO b x y]]
  | _, _ => False
set_option maxHeartbeats 16000000 in
theorem rtcpNacks_fn (l : List Int) (A : Option Addr) (n c : Nat) (l2 : List Int) (A2 : Option Addr) (n2 c2 : Nat) (R : List Ro) (hn9 : n ≤ 9223372036854775807) (hn29 : n2 ≤ 9223372036854775807) (hS : SQ R 1 A n c (l.map fun x => [Value.int .i64 x])) (hS2 : SQ R 1 A2 n2 c2 (c32 l2)) (hb2 : ∀ x ∈ l2, in32 x) :
    Fn Try.prog 4 #[.slice A n c, .slice A2 n2 c2] [] R (fun v _ _ => v = .bool true) := by
  have hn : n = l.length := by rw [← hS.len]; simp
  have hn2 : n2 = l2.length := by rw [← hS2.len, c32_len]
  subst hn hn2
  refine fn_intro Try.func4 rfl Try.ntmps4 rfl (fun E => ?_)
  (repeat (first | ((first | (apply wo_v; rfl) ); (· first | (apply pv_ev; rfl) )) | apply wo_nil | apply wc_seq | apply wc_region ))
  (refine wo_call (awake05) rfl (by (repeat (first | apply sub_nil )); done) (by first | exact fun _ h => h | (intro r hr; cases hr; done) | (simp; done) | exact fun _ h => List.mem_append_left _ h | (intro r hr; simp [hr]; done)) rfl ?_; rintro v L' R' ⟨rfl, rfl, rfl⟩ H' hH RR hR; simp only [List.cons_append, List.nil_append] at hH hR; subst hH; have hR := hR.symm; subst hR)
  (repeat (first | ((first | (apply wo_v; rfl) ); (· first | (apply pv_ev; rfl) | (apply g_un; first | (apply pv_not_t; rfl) ) )) | apply wo_nil | apply wc_seq | apply wc_region | apply wc_skip | (apply wc_true; rfl) | (apply wc_false; rfl) | (apply wo_bsl; (· (repeat (first | apply Rws'.nil ))); rfl; rfl; rfl; rfl; intro bx) ))
  refine wo_mmake .u16 rfl (fun bm => ?_)
  (repeat (first | ((first | (apply wo_v; rfl) ); (· first | (apply pv_ev; rfl) )) | apply wo_nil | apply wc_seq | apply wc_region ))
  refine wc_join0 (fun st => ∃ (k : Nat) (as_ : List Int) (a1 : Option Addr) (c1 : Nat) (km : List (Int × Value)), k ≤ 40 ∧ as_.length = k ∧ (∀ x ∈ as_, in16 x) ∧ (km.map Prod.fst).Nodup ∧ (∀ y ∈ km.map Prod.fst, y ∈ as_) ∧ (∀ x ∈ as_, alook km x ≠ none) ∧ Cn km 1 40 ∧ st = ⟨[(1, .slice A2 l2.length c2), (5, .slice a1 k c1), (6, .map (some bm))], [sO a1 k c1 as_, .ob bm (mob .u16 km)], R⟩) ?_ ?_
  · refine wc_block ?_
    refine wc_loop' (fun q st => ∃ (k : Nat) (as_ : List Int) (a1 : Option Addr) (c1 : Nat) (km : List (Int × Value)), q = 40 - k ∧ k ≤ 40 ∧ k ≤ l.length ∧ as_.length = k ∧ (∀ x ∈ as_, in16 x) ∧ (km.map Prod.fst).Nodup ∧ (∀ y ∈ km.map Prod.fst, y ∈ as_) ∧ (∀ x ∈ as_, alook km x ≠ none) ∧ Cn km 1 k ∧ st = ⟨[(0, .slice A l.length c), (1, .slice A2 l2.length c2), (5, .slice a1 k c1), (6, .map (some bm)), (7, .int .i64 k)], [sO a1 k c1 as_, .ob bm (mob .u16 km)], R⟩) ⟨0, [], _, _, [], rfl, by omega, Nat.zero_le _, rfl, by simp, List.nodup_nil, by simp, by simp, fun _ => .inl rfl, rfl⟩ (wk_mk (by (repeat (first | apply wkf_nil | (apply wkf_cons; rfl))); done) (by (repeat (first | apply sub_nil | (apply sub_cons; (· (repeat (first | apply sel_here | apply sel_there)))))); done) (by first | exact fun _ h => h | (intro r hr; cases hr; done) | (simp; done) | exact fun _ h => List.mem_append_left _ h | (intro r hr; simp [hr]; done))) ?_
    rintro q st ⟨k, as_, a1, c1, km, rfl, hk4, hkn, hk, has, hnd, hks, hal, hcn, rfl⟩
    by_cases h1 : k < l.length
    · by_cases h2 : k < 40
      · obtain ⟨x, hx⟩ : ∃ x, l[k]? = some x := ⟨_, List.getElem?_eq_getElem h1⟩
        have hr : (l.map fun x => [Value.int .i64 x])[k]? = some [.int .i64 x] := by simp [hx]
        obtain ⟨b0, o0, rfl, hmem⟩ := hS.pos (by omega)
        (repeat (first | ((first | (apply wo_v; rfl) ); (· first | (apply pv_ev; rfl) | (apply g_pick; first | (apply pv_pick_t; rfl; rfl) ) | (apply g_bi; first | (apply pv_len_sl; rfl) ) )) | apply wo_nil | apply wc_seq | apply wc_region | apply wc_skip | (apply wc_true; rfl) | (apply wc_false; rfl) | (apply a_dec_t; rfl; (· first | assumption | omega)) | (apply wo_run; rfl; rfl) | (apply wo_skip; rfl; rfl; rfl; rfl) | (apply wo_skip_u; rfl; rfl; rfl) | (apply a_gt; rfl; rfl; (· first | assumption | omega)) ))
        refine wc_block ?_
        (repeat (first | ((first | (apply wo_v; rfl) ); (· first | (apply pv_ev; rfl) | (apply g_load; first | (apply pv_ld; rfl; (· (repeat (first | apply sel_there))); rfl) | (apply pv_ld_ownf; rfl; (· (repeat (first | fail ))); (· assumption); rfl) | (apply pv_ld_own1; rfl; (· (repeat (first | apply sel_there))); (· assumption)) | (apply pv_ld_rof; rfl; (· (first | assumption )); (· assumption); rfl) | (apply pv_ld_ro1; rfl; (· (first | assumption )); (· assumption)) ) | (apply g_bi; first | fail ) | (apply g_conv; first | (apply a_conv; rfl; infer_instance; infer_instance; infer_instance; omega) | (apply a_conv_u; rfl; infer_instance; infer_instance; infer_instance) ) | (apply g_idx; first | (apply pv_idx; rfl; rfl; omega) ) )) | apply wo_nil | apply wc_seq | apply wc_region | (apply wo_bsl; (· (repeat (first | apply Rws'.nil | (apply Rws'.one; rfl; rfl; rfl) ))); rfl; rfl; rfl; rfl; intro bx) ))
        obtain ⟨y, hy⟩ : ∃ y, x % 65536 = y := ⟨_, rfl⟩
        have hyb : in16 y := by unfold in16; omega
        rw [hy]
        clear hr hmem hx hy
        refine wo_app (ao := a1) (n := k) (m := 1) rfl rfl (by (repeat (first | apply sel_here | apply sel_there)); done) (by (repeat (first | apply sel_here )); done) (by unfold maxLen; omega) (by omega) rfl (fun a3 c3 => ?_)
        have g1 : ∀ x ∈ as_ ++ [y], in16 x := fun x hx => by
          rcases List.mem_append.1 hx with h | h
          · exact has x h
          · rcases List.mem_singleton.1 h with rfl; exact hyb
        have g2 : ∀ v : Value, ∀ z ∈ (aset km y v).map Prod.fst, z ∈ as_ ++ [y] := fun v z hz => by
          rcases aset_keys z hz with h | h
          · exact List.mem_append_left _ (hks z h)
          · rw [h]; simp
        have g3 : ∀ v : Value, ∀ z ∈ as_ ++ [y], alook (aset km y v) z ≠ none := fun v z hz => by
          rw [alook_set]
          by_cases hzy : z = y
          · rw [if_pos hzy]; simp
          · rw [if_neg hzy]
            rcases List.mem_append.1 hz with h | h
            · exact hal z h
            · exact absurd (List.mem_singleton.1 h) hzy
        have g4 : (as_ ++ [y]).length = k + 1 := by rw [List.length_append, hk]; rfl
        rcases hcn y with h | ⟨v, h, h4, h5, h6⟩
        · (repeat (first | ((first | (apply wo_v; rfl) ); (· first | (apply pv_ev; rfl) | (apply g_bin; first | (apply a_add; rfl; rfl; infer_instance; omega) ) )) | ((apply wo_v; rfl); (· first | (apply g_lk; first | (apply pv_mlk_n; rfl; rfl; (· (repeat (first | apply sel_here | apply sel_there))); (· assumption)) ) )) | (apply wo_mput; rfl; rfl; rfl; (· (repeat (first | apply sel_here | apply sel_there))); rfl) | apply wo_nil | apply wc_region ))
          exact loop_end ⟨k + 1, as_ ++ [y], a3, c3, aset km y (.int .i64 (0 + 1)), rfl, by omega, by omega, g4, g1, aset_nodup hnd, g2 _, g3 _, hcn.set y (by omega) (by omega) (by omega) (by omega), by rw [c16_snoc]⟩ (by omega) (wk_mk (by (repeat (first | apply wkf_nil | (apply wkf_cons; rfl))); done) (by (repeat (first | apply sub_nil | (apply sub_cons; (· (repeat (first | apply sel_here | apply sel_there)))))); done) (by first | exact fun _ h => h | (intro r hr; cases hr; done) | (simp; done) | exact fun _ h => List.mem_append_left _ h | (intro r hr; simp [hr]; done)))
        · (repeat (first | ((first | (apply wo_v; rfl) ); (· first | (apply pv_ev; rfl) | (apply g_bin; first | (apply a_add; rfl; rfl; infer_instance; omega) ) )) | ((apply wo_v; rfl); (· first | (apply g_lk; first | (apply pv_mlk_n; rfl; rfl; (· (repeat (first | apply sel_here | apply sel_there))); (· assumption)) | (apply pv_mlk_s; rfl; rfl; (· (repeat (first | apply sel_here | apply sel_there))); (· assumption)) ) )) | (apply wo_mput; rfl; rfl; rfl; (· (repeat (first | apply sel_here | apply sel_there))); rfl) | apply wo_nil | apply wc_region ))
          exact loop_end ⟨k + 1, as_ ++ [y], a3, c3, aset km y (.int .i64 (v + 1)), rfl, by omega, by omega, g4, g1, aset_nodup hnd, g2 _, g3 _, hcn.set y (by omega) (by omega) (by omega) (by omega), by rw [c16_snoc]⟩ (by omega) (wk_mk (by (repeat (first | apply wkf_nil | (apply wkf_cons; rfl))); done) (by (repeat (first | apply sub_nil | (apply sub_cons; (· (repeat (first | apply sel_here | apply sel_there)))))); done) (by first | exact fun _ h => h | (intro r hr; cases hr; done) | (simp; done) | exact fun _ h => List.mem_append_left _ h | (intro r hr; simp [hr]; done)))
      · (repeat (first | ((first | (apply wo_v; rfl) ); (· first | (apply pv_ev; rfl) | (apply g_pick; first | (apply pv_pick_t; rfl; rfl) ) | (apply g_bi; first | (apply pv_len_sl; rfl) ) )) | apply wo_nil | apply wc_seq | apply wc_region | (apply wc_exit; rfl) | (apply wc_true; rfl) | (apply wc_false; rfl) | (apply a_dec_t; rfl; (· first | assumption | omega)) | (apply a_dec_f; rfl; (· first | assumption | omega)) | (apply wo_run; rfl; rfl) | (apply wo_skip; rfl; rfl; rfl; rfl) | (apply wo_skip_u; rfl; rfl; rfl) | (apply a_gt; rfl; rfl; (· first | assumption | omega)) ))
        exact cut_end ⟨k, as_, a1, c1, km, by omega, hk, has, hnd, hks, hal, (by have e : k = 40 := (by omega); rw [e] at hcn; exact hcn), rfl⟩ (wk_mk (by (repeat (first | apply wkf_nil | (apply wkf_cons; rfl))); done) (by (repeat (first | apply sub_nil )); done) (by first | exact fun _ h => h | (intro r hr; cases hr; done) | (simp; done) | exact fun _ h => List.mem_append_left _ h | (intro r hr; simp [hr]; done)))
    · (repeat (first | ((first | (apply wo_v; rfl) ); (· first | (apply pv_ev; rfl) | (apply g_pick; first | (apply pv_pick_t; rfl; rfl) | (apply pv_pick_f; rfl; rfl)) | (apply g_bi; first | (apply pv_len_sl; rfl) ) )) | apply wo_nil | apply wc_seq | apply wc_region | (apply wc_exit; rfl) | (apply wc_true; rfl) | (apply wc_false; rfl) | (apply wo_run; rfl; rfl) | (apply wo_skip; rfl; rfl; rfl; rfl) | (apply wo_skip_u; rfl; rfl; rfl) | (apply a_gt; rfl; rfl; (· first | assumption | omega)) | (apply a_gf; rfl; rfl; (· first | assumption | omega)) ))
      exact cut_end ⟨k, as_, a1, c1, km, by omega, hk, has, hnd, hks, hal, (fun x => by rcases hcn x with h | ⟨v, h3, h4, h5, h6⟩; exact .inl h; exact .inr ⟨v, h3, h4, h5, by omega⟩), rfl⟩ (wk_mk (by (repeat (first | apply wkf_nil | (apply wkf_cons; rfl))); done) (by (repeat (first | apply sub_nil )); done) (by first | exact fun _ h => h | (intro r hr; cases hr; done) | (simp; done) | exact fun _ h => List.mem_append_left _ h | (intro r hr; simp [hr]; done)))
  rintro st ⟨k, as_, a1, c1, km, hk4, hk, has, hnd, hks, hal, hcn, rfl⟩
  have q1 := fun A R' hS => nPairs as_ A k c1 R' hS (by omega) has
  have hp := pairM_ok has
  have hmem := pairM_iff has
  have q2 := fun A c R' hS => nSeqs 0 0 (pairM as_) A (pairM as_).length c R' hS (by omega) hp.1
  have hql := seqL_len (pairM as_)
  have hqi := seqL_in hp.1
  generalize pairM as_ = ps at *
  generalize seqL ps = Q at *
  refine wc_still (ao := a1) (n := k) (c := c1) (sz := 1) (by (repeat (first | apply sel_here )); done) (fun R1 hS1 => ?_)
  have q1 := q1 _ _ hS1.sq
  have hRA : ∀ r, r ∈ R → r ∈ R1 ++ R := fun r hr => List.mem_append_right _ hr
  generalize R1 ++ R = RA at *
  (repeat (first | ((first | (apply wo_v; rfl) ); (· first | (apply pv_ev; rfl) )) | apply wc_seq | apply wc_region ))
  (refine wo_call (q1) rfl (by (repeat (first | apply sub_nil )); done) (by first | exact fun _ h => h | (intro r hr; cases hr; done) | (simp; done) | exact fun _ h => List.mem_append_left _ h | (intro r hr; simp [hr]; done)) rfl ?_; rintro v L' R' ⟨a2, c3, rfl, rfl, rfl⟩ H' hH RR hR; simp only [List.cons_append, List.nil_append] at hH hR; subst hH; have hR := hR.symm; subst hR)
  refine wo_still (ao := a2) (n := ps.length) (c := c3) (sz := 2) (by (repeat (first | apply sel_here )); done) (fun R2 hS3 => ?_)
  have q2 := q2 _ _ _ hS3.sq
  have hRB : ∀ r, r ∈ R → r ∈ R2 ++ RA := fun r hr => List.mem_append_right _ (hRA r hr)
  generalize R2 ++ RA = RB at *
  (repeat (first | ((first | (apply wo_v; rfl) ); (· first | (apply pv_ev; rfl) | (apply g_build; apply pv_build; (· (repeat (first | apply Bld.nil | (apply Bld.one; rfl; rfl; (· (repeat (first | apply SetAt.here | apply SetAt.there)))) )))) )) ))
  (refine wo_call (q2) rfl (by (repeat (first | apply sub_nil )); done) (by first | exact fun _ h => h | (intro r hr; cases hr; done) | (simp; done) | exact fun _ h => List.mem_append_left _ h | (intro r hr; simp [hr]; done)) rfl ?_; rintro v L' R' ⟨a4, c4, rfl, rfl, rfl⟩ H' hH RR hR; simp only [List.cons_append, List.nil_append] at hH hR; subst hH; have hR := hR.symm; subst hR)
  (repeat (first | ((first | (apply wo_v; rfl) ); (· first | (apply pv_ev; rfl) | (apply g_bi; first | (apply pv_len_sl; rfl) ) )) | apply wo_nil ))
  have hcm : Cn km (-1) 40 := fun x => by
    rcases hcn x with h | ⟨v, h3, h4, h5, h6⟩
    · exact .inl h
    · exact .inr ⟨v, h3, h4, by omega, h6⟩
  have hQ0 : ∀ p ∈ km, p.2 = .int .i64 (-1) ∨ p.1 ∈ Q.drop 0 := fun p hp => .inr (by rw [List.drop_zero]; exact (hmem p.1).2 (hks p.1 (List.mem_map.2 ⟨p, hp, rfl⟩)))
  have hQa : ∀ x ∈ Q, alook km x ≠ none := fun x hx => hal x ((hmem x).1 hx)
  have hQl : Q.length ≤ 680 := by have := hp.2; omega
  clear q1 q2 hcn hks hal hmem has hS1 hS3 hp hql
  refine wc_join0 (fun st => ∃ km, (km.map Prod.fst).Nodup ∧ (∀ p ∈ km, p.2 = .int .i64 (-1)) ∧ st = ⟨[(1, .slice A2 l2.length c2), (6, .map (some bm))], [.ob bm (mob .u16 km)], RB⟩) ?_ ?_
  · refine wc_block ?_
    refine wc_loop' (fun q st => ∃ (j : Nat) (km : List (Int × Value)), q = Q.length - j ∧ j ≤ Q.length ∧ (km.map Prod.fst).Nodup ∧ Cn km (-1) 40 ∧ (∀ x ∈ Q, alook km x ≠ none) ∧ (∀ p ∈ km, p.2 = .int .i64 (-1) ∨ p.1 ∈ Q.drop j) ∧ st = ⟨[(1, .slice A2 l2.length c2), (6, .map (some bm)), (50, .slice a4 Q.length c4), (51, .int .i64 Q.length), (52, .int .i64 j)], [sO a4 Q.length c4 Q, .ob bm (mob .u16 km)], RB⟩) ⟨0, km, rfl, Nat.zero_le _, hnd, hcm, hQa, hQ0, rfl⟩ (wk_mk (by (repeat (first | apply wkf_nil | (apply wkf_cons; rfl))); done) (by (repeat (first | apply sub_nil )); done) (by first | exact fun _ h => h | (intro r hr; cases hr; done) | (simp; done) | exact fun _ h => List.mem_append_left _ h | (intro r hr; simp [hr]; done))) ?_
    clear hnd hcm hQa hQ0 km
    rintro q st ⟨j, km, rfl, hj, hnd, hcm, hQa, hQ0, rfl⟩
    by_cases hlt : j < Q.length
    · obtain ⟨x, hx⟩ : ∃ x, Q[j]? = some x := ⟨_, List.getElem?_eq_getElem hlt⟩
      have hr : (c16 Q)[j]? = some [.int .u16 x] := by simp [c16, hx]
      refine wc_some (ao := a4) (by (repeat (first | apply sel_here )); done) (by omega) ?_
      rintro bs os rfl
      have g1 : ∀ z ∈ Q, alook (aset km x (.int .i64 (-1))) z ≠ none := fun z hz => by
        rw [alook_set]
        by_cases hzx : z = x
        · rw [if_pos hzx]; simp
        · rw [if_neg hzx]; exact hQa z hz
      have g2 : ∀ p ∈ aset km x (.int .i64 (-1)), p.2 = .int .i64 (-1) ∨ p.1 ∈ Q.drop (j + 1) := fun p hp => by
        rcases aset_mem hnd hp with rfl | ⟨h1, h2⟩
        · exact .inl rfl
        · rcases hQ0 p h1 with h | h
          · exact .inl h
          · rw [List.drop_eq_getElem_cons hlt] at h
            have ex : Q[j] = x := by have := List.getElem?_eq_getElem hlt; rw [hx] at this; exact (Option.some.inj this).symm
            rw [ex] at h
            rcases List.mem_cons.1 h with h | h
            · exact absurd h h2
            · exact .inr h
      rcases hcm x with h | ⟨v, h, h4, h5, h6⟩
      · exact absurd h (hQa x (List.mem_of_getElem? hx))
      · (repeat (first | ((first | (apply wo_v; rfl) ); (· first | (apply pv_ev; rfl) )) | apply wo_nil | apply wc_seq | apply wc_region | apply wc_skip | (apply wc_true; rfl) | (apply wc_false; rfl) | (apply a_dec_t; rfl; (· first | assumption | omega)) ))
        refine wc_block ?_
        (repeat (first | ((first | (apply wo_v; rfl) ); (· first | (apply pv_ev; rfl) | (apply g_load; first | (apply pv_ld; rfl; (· (repeat (first | apply sel_there))); rfl) | (apply pv_ld_ownf; rfl; (· (repeat (first | fail ))); (· assumption); rfl) | (apply pv_ld_own1; rfl; (· (repeat (first | apply sel_here ))); (· assumption)) ) | (apply g_bin; first | (apply a_add; rfl; rfl; infer_instance; omega) ) | (apply g_idx; first | (apply pv_idx; rfl; rfl; omega) ) )) | ((apply wo_v; rfl); (· first | (apply g_lk; first | (apply pv_mlk_n; rfl; rfl; (· (repeat (first | apply sel_here | apply sel_there))); (· assumption)) | (apply pv_mlk_s; rfl; rfl; (· (repeat (first | apply sel_here | apply sel_there))); (· assumption)) ) )) | (apply wo_mput; rfl; rfl; rfl; (· (repeat (first | apply sel_here | apply sel_there))); rfl) | apply wo_nil | apply wc_seq | apply wc_region | apply wc_skip | (apply wc_true; rfl) | (apply wc_false; rfl) | (apply a_dec_t; rfl; (· first | assumption | omega)) | (apply a_dec_f; rfl; (· first | assumption | omega)) ))
        exact loop_end ⟨j + 1, aset km x (.int .i64 (-1)), rfl, by omega, aset_nodup hnd, hcm.set x (Nat.le_refl _) (by omega) (by omega) (by omega), g1, g2, rfl⟩ (by omega) (wk_mk (by (repeat (first | apply wkf_nil | (apply wkf_cons; rfl))); done) (by (repeat (first | apply sub_nil | (apply sub_cons; (· (repeat (first | apply sel_here | apply sel_there)))))); done) (by first | exact fun _ h => h | (intro r hr; cases hr; done) | (simp; done) | exact fun _ h => List.mem_append_left _ h | (intro r hr; simp [hr]; done)))
    · have e : j = Q.length := by omega
      subst e
      (repeat (first | ((first | (apply wo_v; rfl) ); (· first | (apply pv_ev; rfl) )) | apply wo_nil | apply wc_seq | apply wc_region | (apply wc_exit; rfl) | (apply wc_true; rfl) | (apply wc_false; rfl) | (apply a_dec_t; rfl; (· first | assumption | omega)) | (apply a_dec_f; rfl; (· first | assumption | omega)) ))
      exact cut_end ⟨km, hnd, (fun p hp => by rcases hQ0 p hp with h | h; exact h; rw [List.drop_length] at h; cases h), rfl⟩ (wk_mk (by (repeat (first | apply wkf_nil | (apply wkf_cons; rfl))); done) (by (repeat (first | apply sub_nil | (apply sub_cons; (· (repeat (first | apply sel_here | apply sel_there)))))); done) (by first | exact fun _ h => h | (intro r hr; cases hr; done) | (simp; done) | exact fun _ h => List.mem_append_left _ h | (intro r hr; simp [hr]; done)))
  clear hnd hcm hQa hQ0 km
  rintro st ⟨km, hnd, hall, rfl⟩
  (repeat (first | ((first | (apply wo_v; rfl) ); (· first | (apply pv_ev; rfl) )) | apply wc_seq | apply wc_region ))
  refine wo_range (b := bm) rfl (by (repeat (first | apply sel_here )); done) rfl (fun r => ?_)
  (repeat (first | apply wo_nil ))
  refine wc_join0 (fun st => st = ⟨[(1, .slice A2 l2.length c2)], [], RB⟩) ?_ ?_
  · refine wc_block ?_
    refine wc_loop' (fun q st => ∃ (seen : Array Nat), q = (leftOf (mEnt .u16 0 km).toArray seen).size ∧ st = ⟨[(1, .slice A2 l2.length c2), (64, .pointer (some ⟨r, 0, none⟩))], [itrO r bm km.length seen, .ob bm (mob .u16 km)], RB⟩) ⟨#[], rfl, rfl⟩ (wk_mk (by (repeat (first | apply wkf_nil | (apply wkf_cons; rfl))); done) (by (repeat (first | apply sub_nil )); done) (by first | exact fun _ h => h | (intro r hr; cases hr; done) | (simp; done) | exact fun _ h => List.mem_append_left _ h | (intro r hr; simp [hr]; done))) ?_
    rintro q st ⟨seen, rfl, rfl⟩
    (repeat (first | ((first | (apply wo_v; rfl) ); (· first | (apply pv_ev; rfl) )) | apply wc_seq | apply wc_region ))
    refine wo_next (r := r) (bm := bm) rfl (.refl _) (fun x hx => by have := (mEnt_mem (by simpa using hx)).2.1; omega) (Nat.le_refl _) rfl (fun h0 => ?_) (fun en hen => ?_)
    · (repeat (first | ((first | (apply wo_v; rfl) ); (· first | (apply pv_ev; rfl) )) | apply wo_nil | apply wc_seq | (apply wc_exit; rfl) | (apply wc_true; rfl) | (apply wc_false; rfl) ))
      exact cut_end rfl (wk_mk (by (repeat (first | apply wkf_nil | (apply wkf_cons; rfl))); done) (by (repeat (first | apply sub_nil )); done) (by first | exact fun _ h => h | (intro r hr; cases hr; done) | (simp; done) | exact fun _ h => List.mem_append_left _ h | (intro r hr; simp [hr]; done)))
    · have hmm := left_mem hen
      have hlt := left_lt hen
      obtain ⟨_, _, a, v, hav, hk, hv⟩ := mEnt_mem (by simpa using hmm)
      have hv1 : v = .int .i64 (-1) := hall (a, v) hav
      rw [hv1] at hv
      have hpe := fun fr => pv_entry (P := Try.prog) (r := r) (bm := bm) (since := km.length) (ck := km.length) (seen := seen) (x := .tmp 64) (fr := (64, .pointer (some ⟨r, 0, none⟩)) :: fr) (ro := RB) (F := []) rfl (.refl _) hmm (by simpa using mEnt_nodup .u16 km 0)
      rw [hk, hv]
      (repeat (first | ((first | (apply wo_v; rfl) ); (· first | (apply pv_ev; rfl) )) | apply wo_nil | apply wc_seq | apply wc_skip | (apply wc_true; rfl) ))
      refine wc_block ?_
      (repeat (first | ((first | (apply wo_v; rfl) ); (· first | (apply pv_ev; rfl) )) | apply wc_seq | apply wc_region ))
      refine wo_v rfl (pv_entry rfl (.refl _) hmm (by simpa using mEnt_nodup .u16 km 0)) ?_
      rw [hk, hv]
      (repeat (first | ((first | (apply wo_v; rfl) ); (· first | (apply pv_ev; rfl) )) | apply wo_nil | apply wc_seq | apply wc_region | apply wc_skip | (apply wc_true; rfl) | (apply wc_false; rfl) ))
      exact loop_end ⟨seen.push en.born, rfl, rfl⟩ hlt (wk_mk (by (repeat (first | apply wkf_nil | (apply wkf_cons; rfl))); done) (by (repeat (first | apply sub_nil )); done) (by first | exact fun _ h => h | (intro r hr; cases hr; done) | (simp; done) | exact fun _ h => List.mem_append_left _ h | (intro r hr; simp [hr]; done)))
  clear hnd hall km
  rintro st rfl
  (repeat (first | ((first | (apply wo_v; rfl) ); (· first | (apply pv_ev; rfl) )) | apply wo_nil | apply wc_seq | apply wc_region | (apply wo_alloc; rfl; intro bx) ))
  obtain ⟨b13, hb13⟩ : ∃ g, g = bx := ⟨_, rfl⟩
  subst hb13
  have mR : ∀ r, r ∈ R → r ∈ RB := hRB
  have hS2 := hS2.mono mR
  refine wc_own0 44 2 ?_
  refine wc_own0 45 2 ?_
  refine wc_join0 (fun st => ∃ (k : Nat) (ps : List (Int × Int)) (a1 a2 : Option Addr) (c1 c3 : Nat), k ≤ 8 ∧ ps.length = k ∧ (∀ x ∈ ps, in16 x.1 ∧ in16 x.2) ∧ st = ⟨[(13, .pointer (some ⟨b13, 0, none⟩)), (14, .slice a2 k c3)], [nkO b13 0 0 (.slice a1 k c1), pO a1 k c1 ps, rpO a2 k c3 ps], RB⟩) ?_ ?_
  · refine wc_block ?_
    refine wc_loop' (fun q st => ∃ (k : Nat) (ps : List (Int × Int)) (a1 a2 : Option Addr) (c1 c3 : Nat), q = 8 - k ∧ k ≤ 8 ∧ k ≤ l2.length ∧ ps.length = k ∧ (∀ x ∈ ps, in16 x.1 ∧ in16 x.2) ∧ st = ⟨[(1, .slice A2 l2.length c2), (13, .pointer (some ⟨b13, 0, none⟩)), (14, .slice a2 k c3), (15, .int .i64 k)], [nkO b13 0 0 (.slice a1 k c1), pO a1 k c1 ps, rpO a2 k c3 ps], RB⟩) ⟨0, [], none, none, 0, 0, rfl, by omega, Nat.zero_le _, rfl, by simp, rfl⟩ (wk_mk (by (repeat (first | apply wkf_nil | (apply wkf_cons; rfl))); done) (by (repeat (first | apply sub_nil | (apply sub_cons; (· (repeat (first | apply sel_here | apply sel_there)))))); done) (by first | exact fun _ h => h | (intro r hr; cases hr; done) | (simp; done) | exact fun _ h => List.mem_append_left _ h | (intro r hr; simp [hr]; done))) ?_
    rintro q st ⟨k, ps, a1, a2, c1, c3, rfl, hk8, hkn, hk, hps, rfl⟩
    by_cases h1 : k < l2.length
    · by_cases h2 : k < 8
      · obtain ⟨x, hx⟩ : ∃ x, l2[k]? = some x := ⟨_, List.getElem?_eq_getElem h1⟩
        have hr := c32_at hx
        have hxb : 0 ≤ x ∧ x ≤ 4294967295 := hb2 x (List.mem_of_getElem? hx)
        obtain ⟨b0, o0, rfl, hmem⟩ := hS2.pos (by omega)
        have g1 : ∀ z ∈ ps ++ [(x % 65536, x / 65536)], in16 z.1 ∧ in16 z.2 := fun z hz => by
          rcases List.mem_append.1 hz with h | h
          · exact hps z h
          · rcases List.mem_singleton.1 h with rfl
            unfold in16; dsimp only; omega
        (repeat (first | ((first | (apply wo_v; rfl) ); (· first | (apply pv_ev; rfl) | (apply g_pick; first | (apply pv_pick_t; rfl; rfl) ) | (apply g_bi; first | (apply pv_len_sl; rfl) ) )) | apply wo_nil | apply wc_seq | apply wc_region | apply wc_skip | (apply wc_true; rfl) | (apply wc_false; rfl) | (apply a_dec_t; rfl; (· first | assumption | omega)) | (apply wo_run; rfl; rfl) | (apply wo_skip; rfl; rfl; rfl; rfl) | (apply wo_skip_u; rfl; rfl; rfl) | (apply a_gt; rfl; rfl; (· first | assumption | omega)) ))
        refine wc_block ?_
        (repeat (first | apply wc_seq ))
        (refine wc_regM [0] (aslL [(12, [0]), (13, [0])]) (tblNp (x % 65536) (x / 65536)) ([nkO b13 0 0 (.slice a1 k c1), pO a1 k c1 ps, rpO a2 k c3 ps]) (fm [(0, [])]) mixed (by kernel_rfl) (by kernel_rfl) (by decide) (aslL_ok (by decide)) (by (repeat (first | (apply prm_cons; (· (repeat (first | apply sel_here )))) | apply List.Perm.nil )); done) ?_; (repeat (first | (apply HdM.val; rfl; rfl; (· first | apply gok_none ); (· first | (apply pv_ev; rfl) | (apply g_load; first | (apply pv_ld; rfl; (· (repeat (first | apply sel_there))); rfl) | (apply pv_ld_ownf; rfl; (· (repeat (first | fail ))); (· assumption); rfl) | (apply pv_ld_own1; rfl; (· (repeat (first | apply sel_there))); (· assumption)) | (apply pv_ld_rof; rfl; (· (first | assumption )); (· assumption); rfl) | (apply pv_ld_ro1; rfl; (· (first | assumption )); (· assumption)) ) | (apply g_bin; first | (apply a_shr; rfl; rfl; rfl; omega; rfl) ) | (apply g_conv; first | (apply a_conv; rfl; infer_instance; infer_instance; infer_instance; omega) | (apply a_conv_u; rfl; infer_instance; infer_instance; infer_instance) ) | (apply g_idx; first | (apply pv_idx; rfl; rfl; omega) ) | (apply g_build; apply pv_build; (· (repeat (first | apply Bld.nil | (apply Bld.one; rfl; rfl; (· (repeat (first | apply SetAt.here | apply SetAt.there)))) )))) )) )))
        (refine hm_eff (cs := [0]) rfl (by decide) rfl rfl (by first | exact gok_none | exact gok_run rfl rfl) (fun a ha => outc_mono (outc_alloc a ha) (fun v M h => Exists.elim h fun b h => ⟨[M], Exists.intro b (And.intro h.1 (congrArg (fun x => [x]) h.2)), rfl, by simp⟩)) (⟨_, _, Exists.intro 0 (And.intro rfl rfl), rfl⟩) ?_; rintro v Ms ⟨b16, rfl, rfl⟩ _; simp only [setls, setl, reduceIte, Nat.reduceEqDiff]; (repeat (first | fail )))
        (refine hm_eff (cs := [0]) rfl (by decide) rfl rfl (by first | exact gok_none | exact gok_run rfl rfl) (fun a ha => outc_mono (outc_sta rfl rfl rfl rfl (by (repeat (first | apply LayAt.nil | apply LayAt.here )); done) a ha) (fun v M h => ⟨[M], And.intro h.1 (congrArg (fun x => [x]) h.2), rfl, by simp⟩)) (⟨_, _, And.intro rfl rfl, rfl⟩) ?_; rintro v Ms ⟨rfl, rfl⟩ _; simp only [setls, setl, reduceIte, Nat.reduceEqDiff]; (repeat (first | fail )))
        (refine HdM.nil ?_; intro H hH; simp only [Hp, fm, look, setl, List.flatMap_cons, List.flatMap_nil, reduceIte, Nat.reduceEqDiff, Option.getD_some, List.append_nil, List.cons_append, List.nil_append] at hH; subst hH)
        (repeat (first | ((first | (apply wo_v; rfl) ); (· first | (apply pv_ev; rfl) | (apply pv_fld; rfl) | (apply g_load; first | (apply pv_ld; rfl; (· (repeat (first | apply sel_here ))); rfl) | (apply pv_lda; rfl; (· (repeat (first | apply sel_here | apply sel_there))); (· (repeat (first | apply Cut.here0 | apply Cut.here )))) ) | (apply g_bi; first | fail ) )) | apply wc_seq | apply wc_region | (apply wo_bsl; (· (repeat (first | apply Rws'.nil | (apply Rws'.one; rfl; rfl; rfl) | (apply Rws'.agg; rfl; rfl; rfl)))); rfl; rfl; rfl; rfl; intro bx) ))
        refine wo_app (ao := a1) (n := k) (m := 1) rfl rfl (by (repeat (first | apply sel_here | apply sel_there)); done) (by (repeat (first | apply sel_here )); done) (by unfold maxLen; omega) (by omega) rfl (fun a3 d1 => ?_)
        (repeat (first | ((first | (apply wo_v; rfl) ); (· first | (apply pv_ev; rfl) | (apply pv_fld; rfl) | (apply g_load; first | (apply pv_lda; rfl; (· (repeat (first | apply sel_here | apply sel_there))); (· (repeat (first | apply Cut.here0 | apply Cut.here )))) ) | (apply g_bi; first | fail ) )) | apply wo_nil | apply wc_region | (apply wo_st; rfl; rfl; rfl; (· (repeat (first | apply sel_here | apply sel_there))); (· (repeat (first | apply SetAt.here | apply SetAt.there))); rfl) | (apply wo_bsl; (· (repeat (first | apply Rws'.nil | (apply Rws'.one; rfl; rfl; rfl) | (apply Rws'.agg; rfl; rfl; rfl)))); rfl; rfl; rfl; rfl; intro bx) ))
        refine wo_app (ao := a2) (n := k) (m := 1) rfl rfl (by (repeat (first | apply sel_here | apply sel_there)); done) (by (repeat (first | apply sel_here )); done) (by unfold maxLen; omega) (by omega) rfl (fun a4 d2 => ?_)
        (repeat (first | ((first | (apply wo_v; rfl) ); (· first | (apply pv_ev; rfl) | (apply g_bin; first | (apply a_add; rfl; rfl; infer_instance; omega) ) )) | apply wo_nil | apply wc_region ))
        exact loop_end ⟨k + 1, ps ++ [(x % 65536, x / 65536)], a3, a4, d1, d2, rfl, by omega, by omega, by rw [List.length_append, hk]; rfl, g1, by rw [pO_snoc, rpO_snoc]⟩ (by omega) (wk_mk (by (repeat (first | apply wkf_nil | (apply wkf_cons; rfl))); done) (by (repeat (first | apply sub_nil | (apply sub_cons; (· (repeat (first | apply sel_here | apply sel_there)))))); done) (by first | exact fun _ h => h | (intro r hr; cases hr; done) | (simp; done) | exact fun _ h => List.mem_append_left _ h | (intro r hr; simp [hr]; done)))
      · (repeat (first | ((first | (apply wo_v; rfl) ); (· first | (apply pv_ev; rfl) | (apply g_pick; first | (apply pv_pick_t; rfl; rfl) ) | (apply g_bi; first | (apply pv_len_sl; rfl) ) )) | apply wo_nil | apply wc_seq | apply wc_region | (apply wc_exit; rfl) | (apply wc_true; rfl) | (apply wc_false; rfl) | (apply a_dec_t; rfl; (· first | assumption | omega)) | (apply a_dec_f; rfl; (· first | assumption | omega)) | (apply wo_run; rfl; rfl) | (apply wo_skip; rfl; rfl; rfl; rfl) | (apply wo_skip_u; rfl; rfl; rfl) | (apply a_gt; rfl; rfl; (· first | assumption | omega)) ))
        exact cut_end ⟨k, ps, a1, a2, c1, c3, by omega, hk, hps, rfl⟩ (wk_mk (by (repeat (first | apply wkf_nil | (apply wkf_cons; rfl))); done) (by (repeat (first | apply sub_nil )); done) (by first | exact fun _ h => h | (intro r hr; cases hr; done) | (simp; done) | exact fun _ h => List.mem_append_left _ h | (intro r hr; simp [hr]; done)))
    · (repeat (first | ((first | (apply wo_v; rfl) ); (· first | (apply pv_ev; rfl) | (apply g_pick; first | (apply pv_pick_t; rfl; rfl) | (apply pv_pick_f; rfl; rfl)) | (apply g_bi; first | (apply pv_len_sl; rfl) ) )) | apply wo_nil | apply wc_seq | apply wc_region | (apply wc_exit; rfl) | (apply wc_true; rfl) | (apply wc_false; rfl) | (apply wo_run; rfl; rfl) | (apply wo_skip; rfl; rfl; rfl; rfl) | (apply wo_skip_u; rfl; rfl; rfl) | (apply a_gt; rfl; rfl; (· first | assumption | omega)) | (apply a_gf; rfl; rfl; (· first | assumption | omega)) ))
      exact cut_end ⟨k, ps, a1, a2, c1, c3, by omega, hk, hps, rfl⟩ (wk_mk (by (repeat (first | apply wkf_nil | (apply wkf_cons; rfl))); done) (by (repeat (first | apply sub_nil )); done) (by first | exact fun _ h => h | (intro r hr; cases hr; done) | (simp; done) | exact fun _ h => List.mem_append_left _ h | (intro r hr; simp [hr]; done)))
  rintro st ⟨k, ps, a1, a2, c1, c3, hk8, hk, hps, rfl⟩
  have q1 := fun R' hS => nSeqs 0 0 ps a1 k c1 R' hS (by omega) hps
  have q2 := fun R' hS => eSeqs ps a2 k c3 R' hS (by omega) hps
  have hql := seqL_len ps
  generalize seqL ps = Q at *
  refine wc_still (ao := a1) (n := k) (c := c1) (sz := 2) (by (repeat (first | apply sel_here | apply sel_there)); done) (fun R3 hS3 => ?_)
  refine wc_still (ao := a2) (n := k) (c := c3) (sz := 2) (by (repeat (first | apply sel_here | apply sel_there)); done) (fun R4 hS4 => ?_)
  have q1 := q1 _ (hS3.sq.mono (R' := R4 ++ (R3 ++ RB)) (fun r hr => List.mem_append_right _ hr))
  have q2 := q2 _ hS4.sq
  generalize R4 ++ (R3 ++ RB) = RC at *
  (repeat (first | ((first | (apply wo_v; rfl) ); (· first | (apply pv_ev; rfl) | (apply g_load; first | (apply pv_lda; rfl; (· (repeat (first | apply sel_here ))); (· (repeat (first | apply Cut.here0 | apply Cut.here )))) ) )) | apply wc_seq | apply wc_region ))
  (refine wo_call (q1) rfl (by (repeat (first | apply sub_nil )); done) (by first | exact fun _ h => h | (intro r hr; cases hr; done) | (simp; done) | exact fun _ h => List.mem_append_left _ h | (intro r hr; simp [hr]; done)) rfl ?_; rintro v L' R' ⟨a5, c5, rfl, rfl, rfl⟩ H' hH RR hR; simp only [List.cons_append, List.nil_append] at hH hR; subst hH; have hR := hR.symm; subst hR)
  (repeat (first | ((first | (apply wo_v; rfl) ); (· first | (apply pv_ev; rfl) )) ))
  (refine wo_call (q2) rfl (by (repeat (first | apply sub_nil )); done) (by first | exact fun _ h => h | (intro r hr; cases hr; done) | (simp; done) | exact fun _ h => List.mem_append_left _ h | (intro r hr; simp [hr]; done)) rfl ?_; rintro v L' R' ⟨a6, c6, rfl, rfl, rfl⟩ H' hH RR hR; simp only [List.cons_append, List.nil_append] at hH hR; subst hH; have hR := hR.symm; subst hR)
  (repeat (first | ((first | (apply wo_v; rfl) ); (· first | (apply pv_ev; rfl) | (apply g_bi; first | (apply pv_len_sl; rfl) ) )) | apply wo_nil | apply wc_seq | apply wc_region | apply wc_skip | (apply wc_true; rfl) | (apply wc_false; rfl) | (apply a_dec_t; rfl; (· first | assumption | omega)) | (apply a_dec_f; rfl; (· first | assumption | omega)) ))
  have hQl2 : Q.length ≤ 136 := by omega
  refine wc_still (ao := a5) (n := Q.length) (c := c5) (sz := 1) (by (repeat (first | apply sel_here | apply sel_there)); done) (fun R5 hS5 => ?_)
  refine wc_still (ao := a6) (n := Q.length) (c := c6) (sz := 1) (by (repeat (first | apply sel_here )); done) (fun R6 hS6 => ?_)
  have hS5 := (hS5.sq).mono (R' := R6 ++ (R5 ++ RC)) (fun r hr => List.mem_append_right _ hr)
  have hS6 := hS6.sq
  generalize R6 ++ (R5 ++ RC) = RD at *
  refine wc_block ?_
  refine wc_loop' (fun q st => ∃ (i : Nat), q = Q.length - i ∧ i ≤ Q.length ∧ st = ⟨[(17, .slice a5 Q.length c5), (18, .slice a6 Q.length c6), (113, .int .i64 Q.length), (114, .int .i64 i)], [], RD⟩) ⟨0, rfl, Nat.zero_le _, rfl⟩ (wk_mk (by (repeat (first | apply wkf_nil | (apply wkf_cons; rfl))); done) (by (repeat (first | apply sub_nil )); done) (by first | exact fun _ h => h | (intro r hr; cases hr; done) | (simp; done) | exact fun _ h => List.mem_append_left _ h | (intro r hr; simp [hr]; done))) ?_
  rintro q st ⟨i, rfl, hi, rfl⟩
  by_cases hlt : i < Q.length
  · obtain ⟨z, hz⟩ : ∃ z, Q[i]? = some z := ⟨_, List.getElem?_eq_getElem hlt⟩
    have hr : (c16 Q)[i]? = some [.int .u16 z] := by simp [c16, hz]
    obtain ⟨b1, o1, rfl, hm1⟩ := hS5.pos (by omega)
    obtain ⟨b2, o2, rfl, hm2⟩ := hS6.pos (by omega)
    (repeat (first | ((first | (apply wo_v; rfl) ); (· first | (apply pv_ev; rfl) )) | apply wo_nil | apply wc_seq | apply wc_region | apply wc_skip | (apply wc_true; rfl) | (apply wc_false; rfl) | (apply a_dec_t; rfl; (· first | assumption | omega)) ))
    refine wc_block ?_
    (repeat (first | ((first | (apply wo_v; rfl) ); (· first | (apply pv_ev; rfl) )) | apply wo_nil | apply wc_seq | apply wc_region ))
    (refine wc_quiet mixed (by kernel_rfl) ?_; (repeat (first | ((first | (apply wo_v; rfl) | (apply hd_v; rfl) ); (· first | (apply pv_ev; rfl) | (apply g_load; first | (apply pv_ld; rfl; (· (repeat (first | fail ))); rfl) | (apply pv_ld_ownf; rfl; (· (repeat (first | fail ))); (· assumption); rfl) | (apply pv_ld_own1; rfl; (· (repeat (first | fail ))); (· assumption)) | (apply pv_ld_rof; rfl; (· (first | assumption )); (· assumption); rfl) | (apply pv_ld_ro1; rfl; (· (first | assumption )); (· assumption)) ) | (apply g_bin; first | (apply a_add; rfl; rfl; infer_instance; omega) ) | (apply g_idx; first | (apply pv_idx; rfl; rfl; omega) ) )) | apply wo_nil | apply Hd.nil | apply wc_region | apply wc_skip | (apply wc_true; rfl) | (apply wc_false; rfl) | (apply a_dec_t; rfl; (· first | assumption | omega)) | (apply a_dec_f; rfl; (· first | assumption | omega)) )))
    (repeat (first | fail ))
    exact loop_end ⟨i + 1, rfl, by omega, rfl⟩ (by omega) (wk_mk (by (repeat (first | apply wkf_nil | (apply wkf_cons; rfl))); done) (by (repeat (first | apply sub_nil )); done) (by first | exact fun _ h => h | (intro r hr; cases hr; done) | (simp; done) | exact fun _ h => List.mem_append_left _ h | (intro r hr; simp [hr]; done)))
  · have e : i = Q.length := by omega
    subst e
    (repeat (first | ((first | (apply wo_v; rfl) ); (· first | (apply pv_ev; rfl) )) | apply wo_nil | apply wc_seq | apply wc_region | (apply wc_exit; rfl) | apply wc_ret | (apply wc_true; rfl) | (apply wc_false; rfl) | (apply a_dec_t; rfl; (· first | assumption | omega)) | (apply a_dec_f; rfl; (· first | assumption | omega)) ))
    exact ret1 rfl rfl rfl ((by (repeat (first | apply sub_nil )); done) : List.Perm _ ([] ++ _)) (by first | exact fun _ h => h | (intro r hr; cases hr; done) | (simp; done) | exact fun _ h => List.mem_append_left _ h | (intro r hr; simp [hr]; done))
theorem c64_rows {A : Option Addr} {n c : Nat} {V : Nat → Nat → Value} {w : World} (h : Rws [.int .i64] w A n c V) : ∃ (l : List Int) (R : List Ro), (∀ r ∈ R, r.sat w) ∧ SQ R 1 A n c (l.map fun x => [Value.int .i64 x]) ∧ n ≤ 9223372036854775807 := by
  have h2 := h.1
  have h3 := h.2.1
  obtain ⟨z, R, h4, h5, h6, _⟩ := rws_k h
  refine ⟨(List.range n).map z, R, h4, ⟨by simp, fun h0 => ?_⟩, by unfold maxLen at h3; omega⟩
  obtain ⟨b, o, hA, hm⟩ := h6 h0
  have e : kseg .i64 z n = ((List.range n).map z).map fun x => [Value.int .i64 x] := by simp [kseg, Function.comp_def]
  exact ⟨b, o, hA, by rw [← e]; exact hm⟩
theorem c32_rows {A : Option Addr} {n c : Nat} {V : Nat → Nat → Value} {w : World} (h : Rws [.int .u32] w A n c V) : ∃ (l : List Int) (R : List Ro), (∀ r ∈ R, r.sat w) ∧ SQ R 1 A n c (c32 l) ∧ (∀ x ∈ l, in32 x) ∧ n ≤ 9223372036854775807 := by
  have h2 := h.1
  have h3 := h.2.1
  obtain ⟨z, R, h4, h5, h6, _⟩ := rws_k h
  refine ⟨(List.range n).map z, R, h4, ⟨by simp [c32], fun h0 => ?_⟩, fun x hx => ?_, by unfold maxLen at h3; omega⟩
  · obtain ⟨b, o, hA, hm⟩ := h6 h0
    have e : kseg .u32 z n = c32 ((List.range n).map z) := by simp [kseg, c32, Function.comp_def]
    exact ⟨b, o, hA, by rw [← e]; exact hm⟩
  · obtain ⟨i, hi, rfl⟩ := List.mem_map.1 hx
    exact h5 i (List.mem_range.1 hi)
theorem rtcpNacks_walk {w : World} (A : Option Addr) (n c : Nat) (V : Nat → Nat → Value) (hV : Rws [.int .i64] w A n c V) (B : Option Addr) (m d : Nat) (U : Nat → Nat → Value) (hU : Rws [.int .u32] w B m d U) :
    Calls Try.prog 4 #[.slice A n c, .slice B m d] w fun e w' => e = .returned (.bool true) ∧ Below w.heap.size w w' := by
  obtain ⟨l, R, hR, hS, hn⟩ := c64_rows hV
  obtain ⟨l2, R2, hR2, hS2, hb, hn2⟩ := c32_rows hU
  exact walk_of (rtcpNacks_fn l A n c l2 B m d (R ++ R2) hn hn2 (hS.mono fun r hr => List.mem_append_left _ hr) (hS2.mono fun r hr => List.mem_append_right _ hr) hb)
    (fun r hr => by rcases List.mem_append.1 hr with h | h; exact hR r h; exact hR2 r h)
end Go.Proofs.Yteaccbbmphcmnaa
