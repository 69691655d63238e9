/-
  Package octet: the reader's numbers, and the reference's.
-/
import Derived.Test.YtlhlidmhlhodiaaOct
namespace Go.Proofs.Ytlhlidmhlhodiaa
set_option linter.unusedSimpArgs false
set_option linter.unusedVariables false
set_option linter.unusedSimpArgs false
set_option linter.unusedVariables false
open Go.RowKit
set_option maxRecDepth 100000
attribute [local irreducible] Pv WO WC Fn
attribute [local irreducible] ByteArray.extract

def valK (s : ByteArray) : Nat → Int
  | 0 => 0
  | k + 1 => valK s k * 256 + sb s k
theorem valK_b (s : ByteArray) : (∀ k, 0 ≤ valK s k) ∧ valK s 1 ≤ 255 ∧ valK s 2 ≤ 65535 ∧ valK s 3 ≤ 16777215 ∧ valK s 4 ≤ 4294967295 ∧ valK s 5 ≤ 1099511627775 ∧ valK s 6 ≤ 281474976710655 ∧ valK s 7 ≤ 72057594037927935 ∧ valK s 8 ≤ 18446744073709551615 := by
  have h := sb_b s
  refine ⟨fun k => ?_, ?_⟩
  · induction k with
    | zero => exact Int.le_refl _
    | succ k ih => have := h k; simp only [valK]; omega
  · have h0 := h 0; have h1 := h 1; have h2 := h 2; have h3 := h 3; have h4 := h 4; have h5 := h 5; have h6 := h 6; have h7 := h 7
    simp only [valK]
    omega
theorem valK_le7 (s : ByteArray) {k : Nat} (hk : k ≤ 7) : 0 ≤ valK s k ∧ valK s k ≤ 72057594037927935 := by
  obtain ⟨h0, h1, h2, h3, h4, h5, h6, h7, h8⟩ := valK_b s
  have := h0 k
  obtain rfl | rfl | rfl | rfl | rfl | rfl | rfl | rfl : k = 0 ∨ k = 1 ∨ k = 2 ∨ k = 3 ∨ k = 4 ∨ k = 5 ∨ k = 6 ∨ k = 7 := by omega
  · simp [valK]
  all_goals omega
theorem valK_le8 (s : ByteArray) {k : Nat} (hk : k ≤ 8) : 0 ≤ valK s k ∧ valK s k ≤ 18446744073709551615 := by
  by_cases h : k ≤ 7
  · have := valK_le7 s h; omega
  · obtain rfl : k = 8 := by omega
    have := valK_b s; exact ⟨this.1 8, this.2.2.2.2.2.2.2.2⟩
theorem rdB_size (s : ByteArray) (e n : Int) (hn : 0 ≤ n) : (((rdB s e n).1).size : Int) ≤ n := by
  have hE : E0.size = 0 := rfl
  unfold rdB
  split
  · simpa [hE] using hn
  · split
    · simpa [hE] using hn
    · split
      · simpa [hE] using hn
      · simp only [ByteArray.size_extract]; omega
theorem rdB_size2 (s : ByteArray) (e n : Int) : ((rdB s e n).2.1).size ≤ s.size := by
  have hE : E0.size = 0 := rfl
  unfold rdB
  split
  · exact Nat.le_refl _
  · split
    · simp [hE]
    · split
      · simp [hE]
      · simp only [ByteArray.size_extract]; omega
set_option maxHeartbeats 1000000 in
theorem octNum (g : Nat) (s b s2 : ByteArray) (e n e2 : Int) (hs : s.size ≤ 1099511627776) (hq : rdB s e (min (max n 1) 8) = (b, s2, e2)) : Fn Try.prog 121 #[.pointer (some ⟨g, 0, none⟩), .int .i64 n] [rdO g s e] []
    (fun v L' R' => v = .int .u64 (valK b b.size) ∧ L' = [rdO g s2 e2] ∧ R' = []) := by
  have hB := octBytes g s e (min (max n 1) 8) hs
  have hz := rdB_size s e (min (max n 1) 8) (by omega)
  rw [hq] at hB hz
  simp only at hB hz
  have hz8 : b.size ≤ 8 := by omega
  clear hz hq
  refine fn_intro Try.func121 rfl Try.ntmps121 rfl (fun E => ?_)
  (repeat (first | ((first | (apply wo_v; rfl) ); (· first | (apply pv_ev; rfl) | (apply g_bi; first | (apply pv_min; rfl; rfl) | (apply pv_max; rfl; rfl)) )) | apply wo_nil | apply wc_seq | apply wc_region ))
  (refine wo_call (hB) rfl (by (repeat (first | apply sub_nil )); done) (by first | exact fun _ h => h | (intro r hr; cases hr; done) | (simp; done) | exact fun _ h => List.mem_append_left _ h | (intro r hr; simp [hr]; done)) rfl ?_; rintro v L' R' ⟨rfl, rfl, rfl⟩ H' hH RR hR; simp only [List.cons_append, List.nil_append] at hH hR; subst hH; have hR := hR.symm; subst hR)
  (repeat (first | ((first | (apply wo_v; rfl) ); (· first | (apply pv_ev; rfl) | (apply g_bi; first | (apply pv_len_sl; rfl) ) | (apply g_conv; first | (apply a_conv; rfl; infer_instance; infer_instance; infer_instance; omega) | (apply a_conv_u; rfl; infer_instance; infer_instance; infer_instance) | (apply a_conv_w; rfl; infer_instance; infer_instance) ) )) | apply wo_nil | apply wc_block | (apply wo_conv_sb; rfl; rfl; intro bc cc hcc) ))
  refine wc_loop' (fun m st => ∃ (k : Nat), m = b.size - k ∧ st = ⟨[(5, .int .u64 (valK b k)), (13, .slice (some ⟨bc, 0, none⟩) b.size cc), (14, .int .i64 b.size), (15, .int .i64 k)], [rdO g s2 e2], [⟨bc, 0, 1, brows b⟩]⟩ ∧ k ≤ b.size)
    ⟨0, rfl, rfl, Nat.zero_le _⟩ (wk_mk (by (repeat (first | apply wkf_nil | (apply wkf_cons; rfl))); done) (by (repeat (first | apply sub_nil )); done) (by first | exact fun _ h => h | (intro r hr; cases hr; done) | (simp; done) | exact fun _ h => List.mem_append_left _ h | (intro r hr; simp [hr]; done))) ?_
  rintro m st ⟨k, rfl, rfl, hk⟩
  by_cases hlt : k < b.size
  · have hr := brows_at hlt
    have hv := valK_le7 b (show k ≤ 7 by omega)
    have hb := sb_b b k
    (repeat (first | ((first | (apply wo_v; rfl) ); (· first | (apply pv_ev; rfl) | (apply g_load; first | (apply pv_ld; rfl; (· (repeat (first | apply sel_there))); rfl) | (apply pv_ld_ownf; rfl; (· (repeat (first | fail ))); (· assumption); rfl) | (apply pv_ld_own1; rfl; (· (repeat (first | apply sel_there))); (· assumption)) | (apply pv_ld_rof; rfl; (· (first | assumption )); (· assumption); rfl) | (apply pv_ld_ro1; rfl; (· (first | assumption | ((repeat (first | apply List.Mem.head )); done))); (· assumption)) ) | (apply g_bin; first | (apply a_add; rfl; rfl; infer_instance; omega) | (apply (a_or 8); rfl; rfl; infer_instance; rfl; omega) | (apply a_shl; rfl; rfl; rfl; omega; rfl; infer_instance; omega) ) | (apply g_conv; first | (apply a_conv; rfl; infer_instance; infer_instance; infer_instance; omega) ) | (apply g_idx; first | (apply pv_idx; rfl; rfl; omega) ) )) | apply wo_nil | apply wc_seq | apply wc_region | apply wc_block | apply wc_skip | (apply wc_true; rfl) | (apply wc_false; rfl) | (apply a_dec_t; rfl; (· first | assumption | omega)) ))
    exact loop_end ⟨k + 1, rfl, rfl, by omega⟩ (by omega) (wk_mk (by (repeat (first | apply wkf_nil | (apply wkf_cons; rfl))); done) (by (repeat (first | apply sub_nil )); done) (by first | exact fun _ h => h | (intro r hr; cases hr; done) | (simp; done) | exact fun _ h => List.mem_append_left _ h | (intro r hr; simp [hr]; done)))
  · obtain rfl : k = b.size := by omega
    (repeat (first | ((first | (apply wo_v; rfl) ); (· first | (apply pv_ev; rfl) )) | apply wo_nil | apply wc_seq | apply wc_region | (apply wc_exit; rfl) | apply wc_ret | (apply wc_true; rfl) | (apply wc_false; rfl) | (apply a_dec_t; rfl; (· first | assumption | omega)) | (apply a_dec_f; rfl; (· first | assumption | omega)) ))
    exact retv rfl (by (repeat (first | apply RV.nil | (apply RV.tmp; rfl) )); done) (⟨rfl, rfl, rfl⟩) (by (repeat (first | apply sub_nil )); done) (by first | exact fun _ h => h | (intro r hr; cases hr; done) | (simp; done) | exact fun _ h => List.mem_append_left _ h | (intro r hr; simp [hr]; done))
theorem octU8 (g : Nat) (s b s2 : ByteArray) (e e2 : Int) (hs : s.size ≤ 1099511627776) (hq : rdB s e 1 = (b, s2, e2)) : Fn Try.prog 63 #[.pointer (some ⟨g, 0, none⟩)] [rdO g s e] []
    (fun v L' R' => v = .int .u8 (valK b b.size) ∧ L' = [rdO g s2 e2] ∧ R' = []) := by
  have hN := octNum g s b s2 e 1 e2 hs (by rw [show min (max (1 : Int) 1) 8 = 1 from rfl]; exact hq)
  have hz := rdB_size s e 1 (by omega)
  rw [hq] at hz
  have hv : 0 ≤ valK b b.size ∧ valK b b.size ≤ 255 := by
    obtain ⟨h0, h1, _⟩ := valK_b b
    have h2 := h0 b.size
    obtain h | h : b.size = 0 ∨ b.size = 1 := by simp only at hz; omega
    · rw [h]; simp [valK]
    · rw [h] at h2 ⊢; omega
  refine fn_intro Try.func63 rfl Try.ntmps63 rfl (fun E => ?_)
  (repeat (first | ((first | (apply wo_v; rfl) ); (· first | (apply pv_ev; rfl) )) | apply wo_nil | apply wc_seq | apply wc_region ))
  (refine wo_call (hN) rfl (by (repeat (first | apply sub_nil )); done) (by first | exact fun _ h => h | (intro r hr; cases hr; done) | (simp; done) | exact fun _ h => List.mem_append_left _ h | (intro r hr; simp [hr]; done)) rfl ?_; rintro v L' R' ⟨rfl, rfl, rfl⟩ H' hH RR hR; simp only [List.cons_append, List.nil_append] at hH hR; subst hH; have hR := hR.symm; subst hR)
  (repeat (first | ((first | (apply wo_v; rfl) ); (· first | (apply pv_ev; rfl) | (apply g_conv; first | (apply a_conv; rfl; infer_instance; infer_instance; infer_instance; omega) ) )) | apply wo_nil | apply wc_ret ))
  exact retv rfl (by (repeat (first | apply RV.nil | (apply RV.tmp; rfl) )); done) (⟨rfl, rfl, rfl⟩) (by (repeat (first | apply sub_nil )); done) (by first | exact fun _ h => h | (intro r hr; cases hr; done) | (simp; done) | exact fun _ h => List.mem_append_left _ h | (intro r hr; simp [hr]; done))
theorem octU16 (g : Nat) (s b s2 : ByteArray) (e e2 : Int) (hs : s.size ≤ 1099511627776) (hq : rdB s e 2 = (b, s2, e2)) : Fn Try.prog 65 #[.pointer (some ⟨g, 0, none⟩)] [rdO g s e] []
    (fun v L' R' => v = .int .u16 (valK b b.size) ∧ L' = [rdO g s2 e2] ∧ R' = []) := by
  have hN := octNum g s b s2 e 2 e2 hs (by rw [show min (max (2 : Int) 1) 8 = 2 from rfl]; exact hq)
  have hz := rdB_size s e 2 (by omega)
  rw [hq] at hz
  have hv : 0 ≤ valK b b.size ∧ valK b b.size ≤ 65535 := by
    obtain ⟨h0, h1, h1', _⟩ := valK_b b
    have h2 := h0 b.size
    obtain h | h | h : b.size = 0 ∨ b.size = 1 ∨ b.size = 2 := by simp only at hz; omega
    · rw [h]; simp [valK]
    · rw [h] at h2 ⊢; omega
    · rw [h] at h2 ⊢; omega
  refine fn_intro Try.func65 rfl Try.ntmps65 rfl (fun E => ?_)
  (repeat (first | ((first | (apply wo_v; rfl) ); (· first | (apply pv_ev; rfl) )) | apply wo_nil | apply wc_seq | apply wc_region ))
  (refine wo_call (hN) rfl (by (repeat (first | apply sub_nil )); done) (by first | exact fun _ h => h | (intro r hr; cases hr; done) | (simp; done) | exact fun _ h => List.mem_append_left _ h | (intro r hr; simp [hr]; done)) rfl ?_; rintro v L' R' ⟨rfl, rfl, rfl⟩ H' hH RR hR; simp only [List.cons_append, List.nil_append] at hH hR; subst hH; have hR := hR.symm; subst hR)
  (repeat (first | ((first | (apply wo_v; rfl) ); (· first | (apply pv_ev; rfl) | (apply g_conv; first | (apply a_conv; rfl; infer_instance; infer_instance; infer_instance; omega) ) )) | apply wo_nil | apply wc_ret ))
  exact retv rfl (by (repeat (first | apply RV.nil | (apply RV.tmp; rfl) )); done) (⟨rfl, rfl, rfl⟩) (by (repeat (first | apply sub_nil )); done) (by first | exact fun _ h => h | (intro r hr; cases hr; done) | (simp; done) | exact fun _ h => List.mem_append_left _ h | (intro r hr; simp [hr]; done))
theorem octU32 (g : Nat) (s b s2 : ByteArray) (e e2 : Int) (hs : s.size ≤ 1099511627776) (hq : rdB s e 4 = (b, s2, e2)) : Fn Try.prog 66 #[.pointer (some ⟨g, 0, none⟩)] [rdO g s e] []
    (fun v L' R' => v = .int .u32 (valK b b.size) ∧ L' = [rdO g s2 e2] ∧ R' = []) := by
  have hN := octNum g s b s2 e 4 e2 hs (by rw [show min (max (4 : Int) 1) 8 = 4 from rfl]; exact hq)
  have hz := rdB_size s e 4 (by omega)
  rw [hq] at hz
  have hv : 0 ≤ valK b b.size ∧ valK b b.size ≤ 4294967295 := by
    obtain ⟨h0, h1, h1', h1'', h1''', _⟩ := valK_b b
    have h2 := h0 b.size
    obtain h | h | h | h | h : b.size = 0 ∨ b.size = 1 ∨ b.size = 2 ∨ b.size = 3 ∨ b.size = 4 := by simp only at hz; omega
    · rw [h]; simp [valK]
    all_goals (rw [h] at h2 ⊢; omega)
  refine fn_intro Try.func66 rfl Try.ntmps66 rfl (fun E => ?_)
  (repeat (first | ((first | (apply wo_v; rfl) ); (· first | (apply pv_ev; rfl) )) | apply wo_nil | apply wc_seq | apply wc_region ))
  (refine wo_call (hN) rfl (by (repeat (first | apply sub_nil )); done) (by first | exact fun _ h => h | (intro r hr; cases hr; done) | (simp; done) | exact fun _ h => List.mem_append_left _ h | (intro r hr; simp [hr]; done)) rfl ?_; rintro v L' R' ⟨rfl, rfl, rfl⟩ H' hH RR hR; simp only [List.cons_append, List.nil_append] at hH hR; subst hH; have hR := hR.symm; subst hR)
  (repeat (first | ((first | (apply wo_v; rfl) ); (· first | (apply pv_ev; rfl) | (apply g_conv; first | (apply a_conv; rfl; infer_instance; infer_instance; infer_instance; omega) ) )) | apply wo_nil | apply wc_ret ))
  exact retv rfl (by (repeat (first | apply RV.nil | (apply RV.tmp; rfl) )); done) (⟨rfl, rfl, rfl⟩) (by (repeat (first | apply sub_nil )); done) (by first | exact fun _ h => h | (intro r hr; cases hr; done) | (simp; done) | exact fun _ h => List.mem_append_left _ h | (intro r hr; simp [hr]; done))
theorem octRest (g : Nat) (s : ByteArray) (e : Int) (hs : s.size ≤ 1099511627776) : Fn Try.prog 68 #[.pointer (some ⟨g, 0, none⟩)] [rdO g s e] []
    (fun v L' R' => v = .string (rdB s e s.size).1 ∧ L' = [rdO g (rdB s e s.size).2.1 (rdB s e s.size).2.2] ∧ R' = []) := by
  have hB := octBytes g s e s.size hs
  refine fn_intro Try.func68 rfl Try.ntmps68 rfl (fun E => ?_)
  (repeat (first | ((first | (apply wo_v; rfl) ); (· first | (apply pv_ev; rfl) )) | apply wo_nil | apply wc_seq | apply wc_region ))
  (refine wo_call (octLen g s e) rfl (by (repeat (first | apply sub_nil )); done) (by first | exact fun _ h => h | (intro r hr; cases hr; done) | (simp; done) | exact fun _ h => List.mem_append_left _ h | (intro r hr; simp [hr]; done)) rfl ?_; rintro v L' R' ⟨rfl, rfl, rfl⟩ H' hH RR hR; simp only [List.cons_append, List.nil_append] at hH hR; subst hH; have hR := hR.symm; subst hR)
  (repeat (first | ((first | (apply wo_v; rfl) ); (· first | (apply pv_ev; rfl) )) ))
  (refine wo_call (hB) rfl (by (repeat (first | apply sub_nil )); done) (by first | exact fun _ h => h | (intro r hr; cases hr; done) | (simp; done) | exact fun _ h => List.mem_append_left _ h | (intro r hr; simp [hr]; done)) rfl ?_; rintro v L' R' ⟨rfl, rfl, rfl⟩ H' hH RR hR; simp only [List.cons_append, List.nil_append] at hH hR; subst hH; have hR := hR.symm; subst hR)
  (repeat (first | ((first | (apply wo_v; rfl) ); (· first | (apply pv_ev; rfl) )) | apply wo_nil | apply wc_ret ))
  exact retv rfl (by (repeat (first | apply RV.nil | (apply RV.tmp; rfl) )); done) (⟨rfl, rfl, rfl⟩) (by (repeat (first | apply sub_nil )); done) (by first | exact fun _ h => h | (intro r hr; cases hr; done) | (simp; done) | exact fun _ h => List.mem_append_left _ h | (intro r hr; simp [hr]; done))
def rdE (s : ByteArray) (e : Int) : Int := if e = 0 ∧ s ≠ E0 then 2 else e
theorem octEnd (g : Nat) (s : ByteArray) (e : Int) (he : e ≠ 0 → s = E0) : Fn Try.prog 87 #[.pointer (some ⟨g, 0, none⟩)] [rdO g s e] []
    (fun v L' R' => v = .int .i64 (rdE s e) ∧ L' = [rdO g E0 (rdE s e)] ∧ R' = []) := by
  by_cases h1 : s = E0
  · have hf : rdE s e = e := if_neg (fun h => h.2 h1)
    rw [hf]
    subst h1
    refine fn_intro Try.func87 rfl Try.ntmps87 rfl (fun E => ?_)
    (repeat (first | ((first | (apply wo_v; rfl) ); (· first | (apply pv_ev; rfl) | (apply pv_fld; rfl) | (apply g_load; first | (apply pv_ld; rfl; (· (repeat (first | apply sel_here ))); rfl) ) | (apply g_bin; first | (apply pv_neq_s; rfl; rfl) ) )) | apply wo_nil | apply wc_seq | apply wc_region | apply wc_skip | apply wc_ret | (apply wc_true; rfl) | (apply wc_false; rfl) ))
    exact retv rfl (by (repeat (first | apply RV.nil | (apply RV.tmp; rfl) )); done) (⟨rfl, rfl, rfl⟩) (by (repeat (first | apply sub_nil )); done) (by first | exact fun _ h => h | (intro r hr; cases hr; done) | (simp; done) | exact fun _ h => List.mem_append_left _ h | (intro r hr; simp [hr]; done))
  · have h2 : e = 0 := by
      by_cases h2 : e = 0
      · exact h2
      · exact absurd (he h2) h1
    subst h2
    have hf : rdE s 0 = 2 := if_pos ⟨rfl, h1⟩
    rw [hf]
    have hF := octFail g s 0 2
    rw [show rdF s 0 2 = (E0, 2) from if_pos ⟨rfl, by omega⟩] at hF
    refine fn_intro Try.func87 rfl Try.ntmps87 rfl (fun E => ?_)
    (repeat (first | ((first | (apply wo_v; rfl) ); (· first | (apply pv_ev; rfl) | (apply pv_fld; rfl) | (apply g_load; first | (apply pv_ld; rfl; (· (repeat (first | apply sel_here ))); rfl) ) | (apply g_bin; first | (apply pv_neq_s; rfl; rfl) ) )) | apply wo_nil | apply wc_seq | apply wc_region | (apply wc_true; rfl) | (apply wc_false; rfl) | (apply a_dec_t; rfl; (· first | assumption | omega)) ))
    (refine wo_call (hF) rfl (by (repeat (first | apply sub_nil )); done) (by first | exact fun _ h => h | (intro r hr; cases hr; done) | (simp; done) | exact fun _ h => List.mem_append_left _ h | (intro r hr; simp [hr]; done)) rfl ?_; rintro v L' R' ⟨rfl, rfl, rfl⟩ H' hH RR hR; simp only [List.cons_append, List.nil_append] at hH hR; subst hH; have hR := hR.symm; subst hR)
    (repeat (first | ((first | (apply wo_v; rfl) ); (· first | (apply pv_ev; rfl) | (apply pv_fld; rfl) | (apply g_load; first | (apply pv_ld; rfl; (· (repeat (first | apply sel_here ))); rfl) ) )) | apply wo_nil | apply wc_seq | apply wc_region | apply wc_ret ))
    exact retv rfl (by (repeat (first | apply RV.nil | (apply RV.tmp; rfl) )); done) (⟨rfl, rfl, rfl⟩) (by (repeat (first | apply sub_nil )); done) (by first | exact fun _ h => h | (intro r hr; cases hr; done) | (simp; done) | exact fun _ h => List.mem_append_left _ h | (intro r hr; simp [hr]; done))
/-! the reference -/
def cutS (s : ByteArray) (n : Nat) : ByteArray := if n < s.size then s.extract 0 n else s
theorem cutS_size (s : ByteArray) (n : Nat) : (cutS s n).size ≤ n := by
  unfold cutS
  split
  · simp only [ByteArray.size_extract]; omega
  · omega
theorem octCut (s : ByteArray) (n : Nat) : Fn Try.prog 11 #[.string s, .int .i64 n] [] [] (fun v L' R' => v = .string (cutS s n) ∧ L' = [] ∧ R' = []) := by
  by_cases h : n < s.size
  · rw [show cutS s n = s.extract 0 n from if_pos h]
    refine fn_intro Try.func11 rfl Try.ntmps11 rfl (fun E => ?_)
    (repeat (first | ((first | (apply wo_v; rfl) ); (· first | (apply pv_ev; rfl) | (apply g_bi; first | (apply pv_len_str; rfl) ) | (apply pv_cs_hi; rfl; rfl; omega) )) | apply wo_nil | apply wc_seq | apply wc_region | apply wc_ret | (apply wc_true; rfl) | (apply wc_false; rfl) | (apply a_dec_t; rfl; (· first | assumption | omega)) ))
    exact retv rfl (by (repeat (first | apply RV.nil | (apply RV.tmp; rfl) )); done) (⟨by simp [outV], rfl, rfl⟩) (by (repeat (first | apply sub_nil )); done) (by first | exact fun _ h => h | (intro r hr; cases hr; done) | (simp; done) | exact fun _ h => List.mem_append_left _ h | (intro r hr; simp [hr]; done))
  · rw [show cutS s n = s from if_neg h]
    refine fn_intro Try.func11 rfl Try.ntmps11 rfl (fun E => ?_)
    (repeat (first | ((first | (apply wo_v; rfl) ); (· first | (apply pv_ev; rfl) | (apply g_bi; first | (apply pv_len_str; rfl) ) )) | apply wo_nil | apply wc_seq | apply wc_region | apply wc_skip | apply wc_ret | (apply wc_true; rfl) | (apply wc_false; rfl) | (apply a_dec_t; rfl; (· first | assumption | omega)) | (apply a_dec_f; rfl; (· first | assumption | omega)) ))
    exact retv rfl (by (repeat (first | apply RV.nil | (apply RV.tmp; rfl) )); done) (⟨rfl, rfl, rfl⟩) (by (repeat (first | apply sub_nil )); done) (by first | exact fun _ h => h | (intro r hr; cases hr; done) | (simp; done) | exact fun _ h => List.mem_append_left _ h | (intro r hr; simp [hr]; done))
end Go.Proofs.Ytlhlidmhlhodiaa
