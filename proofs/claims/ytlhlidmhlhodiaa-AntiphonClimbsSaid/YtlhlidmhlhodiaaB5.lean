/-
  Texts of this proof, laid together (part 5 of 5).
-/
import Derived.Test.YtlhlidmhlhodiaaB4
/-
  Layer 4: Check, With, Keyframe; awake.
-/
namespace Go.Proofs.Ytlhlidmhlhodiaa
set_option linter.unusedSimpArgs false
set_option linter.unusedVariables false
set_option linter.unusedSimpArgs false
set_option linter.unusedVariables false
open Go.RowKit
attribute [local irreducible] Pv WO WC Fn
set_option maxRecDepth 100000

def keyB (st : Bool) (pt : Int) (s : ByteArray) : Bool := st && decide (pt = 0) && decide (s ≠ E0) && decide (bits .and .u8 (sb s 0) 1 = 0)
theorem aw_prs : prs ⟨#[144, 128, 5, 114, 101, 115, 116]⟩ = (⟨false, true, 0, 5, false, -1, -1, false, -1⟩, ⟨#[114, 101, 115, 116]⟩, 0) := by decide
theorem aw_txt : txt ⟨false, true, 0, 5, false, -1, -1, false, -1⟩ = ⟨#[144, 128, 5]⟩ := by decide
theorem aw_k1 : keyB true 0 ⟨#[16]⟩ = true := by decide
theorem aw_k2 : keyB true 0 ⟨#[17]⟩ = false := by decide
attribute [local irreducible] ByteArray.extract
set_option maxHeartbeats 16000000 in
theorem vKey (nr st : Bool) (pt pic : Int) (wd : Bool) (lv ly : Int) (sy : Bool) (ky : Int) (s : ByteArray) (b : Bool) (hb : keyB st pt s = b) :
    Fn Try.prog 158 #[.agg (dL nr st pt pic wd lv ly sy ky).toArray, .string s] [] [] (fun v L' R' => v = .bool b ∧ L' = [] ∧ R' = []) := by
  subst hb
  unfold keyB
  cases st with
  | false =>
    refine fn_intro Try.func158 rfl Try.ntmps158 rfl (fun E => ?_)
    (repeat (first | ((first | (apply wo_v; rfl) ); (· first | (apply pv_ev; rfl) | (apply pv_fld; rfl) | (apply g_load; first | (apply pv_ld; rfl; (· (repeat (first | apply sel_here ))); rfl) ) | (apply g_pick; first | (apply pv_pick_t; rfl; rfl) | (apply pv_pick_f; rfl; rfl)) )) | apply wo_nil | apply wc_seq | apply wc_region | apply wc_ret | (apply wo_run; rfl; rfl) | (apply wo_skip; rfl; rfl; rfl; rfl) | (apply wo_box1; rfl; rfl; rfl; intro bx) | (apply wo_boxa; rfl; rfl; intro bx) ))
    exact ret1 rfl rfl ⟨rfl, rfl, rfl⟩ ((by (repeat (first | apply sub_nil )); done) : List.Perm _ ([] ++ _)) (by first | exact fun _ h => h | (intro r hr; cases hr; done) | (simp; done) | exact fun _ h => List.mem_append_left _ h | (intro r hr; simp [hr]; done))
  | true =>
    by_cases hp : pt = 0
    · by_cases he : s = E0
      · refine fn_intro Try.func158 rfl Try.ntmps158 rfl (fun E => ?_)
        (repeat (first | ((first | (apply wo_v; rfl) ); (· first | (apply pv_ev; rfl) | (apply pv_fld; rfl) | (apply g_load; first | (apply pv_ld; rfl; (· (repeat (first | apply sel_here ))); rfl) ) | (apply g_pick; first | (apply pv_pick_t; rfl; rfl) | (apply pv_pick_f; rfl; rfl)) | (apply g_bin; first | (apply pv_neq_s; rfl; rfl) ) )) | apply wo_nil | apply wc_seq | apply wc_region | apply wc_ret | (apply wo_run; rfl; rfl) | (apply wo_skip; rfl; rfl; rfl; rfl) | (apply wo_skip_u; rfl; rfl; rfl) | (apply a_gt; rfl; rfl; (· first | assumption | omega)) | (apply a_gf; rfl; rfl; (· first | assumption | omega)) | (apply a_gt; rfl; rfl; (· first | (simp; done) | (simp; omega))) | (apply a_gf; rfl; rfl; (· first | (simp; done) | (simp; omega))) | (apply wo_box1; rfl; rfl; rfl; intro bx) | (apply wo_boxa; rfl; rfl; intro bx) ))
        exact ret1 rfl rfl ⟨by simp [he], rfl, rfl⟩ ((by (repeat (first | apply sub_nil )); done) : List.Perm _ ([] ++ _)) (by first | exact fun _ h => h | (intro r hr; cases hr; done) | (simp; done) | exact fun _ h => List.mem_append_left _ h | (intro r hr; simp [hr]; done))
      · have hsz : 0 < s.size := by
          rcases Nat.eq_zero_or_pos s.size with h | h
          · exact absurd (size_zero h) he
          · exact h
        refine fn_intro Try.func158 rfl Try.ntmps158 rfl (fun E => ?_)
        (repeat (first | ((first | (apply wo_v; rfl) ); (· first | (apply pv_ev; rfl) | (apply pv_fld; rfl) | (apply g_load; first | (apply pv_ld; rfl; (· (repeat (first | apply sel_here ))); rfl) ) | (apply g_pick; first | (apply pv_pick_t; rfl; rfl) ) | (apply g_bin; first | (apply pv_and; rfl; rfl) | (apply pv_neq_s; rfl; rfl) ) | (apply pv_index_sn; rfl; rfl; omega) )) | apply wo_nil | apply wc_seq | apply wc_region | apply wc_ret | (apply wo_run; rfl; rfl) | (apply wo_skip; rfl; rfl; rfl; rfl) | (apply wo_skip_u; rfl; rfl; rfl) | (apply a_gt; rfl; rfl; (· first | assumption | omega)) | (apply wo_box1; rfl; rfl; rfl; intro bx) | (apply wo_boxa; rfl; rfl; intro bx) ))
        exact ret1 rfl rfl ⟨by simp [hp, he], rfl, rfl⟩ ((by (repeat (first | apply sub_nil )); done) : List.Perm _ ([] ++ _)) (by first | exact fun _ h => h | (intro r hr; cases hr; done) | (simp; done) | exact fun _ h => List.mem_append_left _ h | (intro r hr; simp [hr]; done))
    · refine fn_intro Try.func158 rfl Try.ntmps158 rfl (fun E => ?_)
      (repeat (first | ((first | (apply wo_v; rfl) ); (· first | (apply pv_ev; rfl) | (apply pv_fld; rfl) | (apply g_load; first | (apply pv_ld; rfl; (· (repeat (first | apply sel_here ))); rfl) ) | (apply g_pick; first | (apply pv_pick_t; rfl; rfl) | (apply pv_pick_f; rfl; rfl)) )) | apply wo_nil | apply wc_seq | apply wc_region | apply wc_ret | (apply wo_run; rfl; rfl) | (apply wo_skip; rfl; rfl; rfl; rfl) | (apply wo_skip_u; rfl; rfl; rfl) | (apply a_gt; rfl; rfl; (· first | assumption | omega)) | (apply a_gf; rfl; rfl; (· first | assumption | omega)) | (apply wo_box1; rfl; rfl; rfl; intro bx) | (apply wo_boxa; rfl; rfl; intro bx) ))
      exact ret1 rfl rfl ⟨by simp [hp], rfl, rfl⟩ ((by (repeat (first | apply sub_nil )); done) : List.Perm _ ([] ++ _)) (by first | exact fun _ h => h | (intro r hr; cases hr; done) | (simp; done) | exact fun _ h => List.mem_append_left _ h | (intro r hr; simp [hr]; done))
theorem and_32767 (x : Int) : bits .and .i64 x 32767 = x % 32768 := and_ones x 15 (by omega)
theorem and_255v (x : Int) : bits .and .i64 x 255 = x % 256 := and_ones x 8 (by omega)
theorem vWith (nr st : Bool) (pt pic : Int) (wd : Bool) (lv ly : Int) (sy : Bool) (ky : Int) (p l : Int) :
    Fn Try.prog 18 #[.agg (dL nr st pt pic wd lv ly sy ky).toArray, .int .i64 p, .int .i64 l] [] []
      (fun v L' R' => v = .agg (dL nr st pt (if 0 ≤ pic then p % 32768 else pic) (if 0 ≤ pic then true else wd) (if 0 ≤ lv then l % 256 else lv) ly sy ky).toArray ∧ L' = [] ∧ R' = []) := by
  have e1 := and_32767 p
  have e2 := and_255v l
  by_cases h1 : 0 ≤ pic <;> by_cases h2 : 0 ≤ lv
  · rw [if_pos h1, if_pos h1, if_pos h2, ← e1, ← e2]
    refine fn_intro Try.func18 rfl Try.ntmps18 rfl (fun E => ?_)
    (repeat (first | ((first | (apply wo_v; rfl) ); (· first | (apply pv_ev; rfl) | (apply pv_fld; rfl) | (apply g_load; first | (apply pv_ld; rfl; (· (repeat (first | apply sel_here | apply sel_there))); rfl) | (apply pv_lda; rfl; (· (repeat (first | apply sel_here ))); (· (repeat (first | apply Cut.here0 | apply Cut.here )))) ) | (apply g_bin; first | (apply pv_and; rfl; rfl) ) )) | apply wo_nil | apply wc_seq | apply wc_region | apply wc_ret | (apply wc_true; rfl) | (apply wc_false; rfl) | (apply a_dec_t; rfl; (· first | assumption | omega)) | (apply wo_st; rfl; rfl; rfl; (· (repeat (first | apply sel_here | apply sel_there))); (· (repeat (first | apply SetAt.here | apply SetAt.there))); rfl) | (apply wo_box1; rfl; rfl; rfl; intro bx) | (apply wo_boxa; rfl; rfl; intro bx) | (apply wo_alloc; rfl; intro bx) | (apply wo_sta; rfl; rfl; rfl; rfl; (· (repeat (first | apply sel_here | apply sel_there))); (· (repeat (first | apply LayAt.nil | apply LayAt.here ))); rfl) ))
    exact retv rfl (by (repeat (first | apply RV.nil | (apply RV.agg; rfl; (· (repeat (first | apply sel_here ))); infer_instance; (· (repeat (first | apply Cut.here0 | apply Cut.here )))) )); done) (⟨rfl, rfl, rfl⟩) (by (repeat (first | apply sub_nil )); done) (by first | exact fun _ h => h | (intro r hr; cases hr; done) | (simp; done) | exact fun _ h => List.mem_append_left _ h | (intro r hr; simp [hr]; done))
  · rw [if_pos h1, if_pos h1, if_neg h2, ← e1]
    refine fn_intro Try.func18 rfl Try.ntmps18 rfl (fun E => ?_)
    (repeat (first | ((first | (apply wo_v; rfl) ); (· first | (apply pv_ev; rfl) | (apply pv_fld; rfl) | (apply g_load; first | (apply pv_ld; rfl; (· (repeat (first | apply sel_here | apply sel_there))); rfl) | (apply pv_lda; rfl; (· (repeat (first | apply sel_here ))); (· (repeat (first | apply Cut.here0 | apply Cut.here )))) ) | (apply g_bin; first | (apply pv_and; rfl; rfl) ) )) | apply wo_nil | apply wc_seq | apply wc_region | apply wc_skip | apply wc_ret | (apply wc_true; rfl) | (apply wc_false; rfl) | (apply a_dec_t; rfl; (· first | assumption | omega)) | (apply a_dec_f; rfl; (· first | assumption | omega)) | (apply wo_st; rfl; rfl; rfl; (· (repeat (first | apply sel_here | apply sel_there))); (· (repeat (first | apply SetAt.here | apply SetAt.there))); rfl) | (apply wo_box1; rfl; rfl; rfl; intro bx) | (apply wo_boxa; rfl; rfl; intro bx) | (apply wo_alloc; rfl; intro bx) | (apply wo_sta; rfl; rfl; rfl; rfl; (· (repeat (first | apply sel_here | apply sel_there))); (· (repeat (first | apply LayAt.nil | apply LayAt.here ))); rfl) ))
    exact retv rfl (by (repeat (first | apply RV.nil | (apply RV.agg; rfl; (· (repeat (first | apply sel_here ))); infer_instance; (· (repeat (first | apply Cut.here0 | apply Cut.here )))) )); done) (⟨rfl, rfl, rfl⟩) (by (repeat (first | apply sub_nil )); done) (by first | exact fun _ h => h | (intro r hr; cases hr; done) | (simp; done) | exact fun _ h => List.mem_append_left _ h | (intro r hr; simp [hr]; done))
  · rw [if_neg h1, if_neg h1, if_pos h2, ← e2]
    refine fn_intro Try.func18 rfl Try.ntmps18 rfl (fun E => ?_)
    (repeat (first | ((first | (apply wo_v; rfl) ); (· first | (apply pv_ev; rfl) | (apply pv_fld; rfl) | (apply g_load; first | (apply pv_ld; rfl; (· (repeat (first | apply sel_here | apply sel_there))); rfl) | (apply pv_lda; rfl; (· (repeat (first | apply sel_here ))); (· (repeat (first | apply Cut.here0 | apply Cut.here )))) ) | (apply g_bin; first | (apply pv_and; rfl; rfl) ) )) | apply wo_nil | apply wc_seq | apply wc_region | apply wc_skip | apply wc_ret | (apply wc_true; rfl) | (apply wc_false; rfl) | (apply a_dec_t; rfl; (· first | assumption | omega)) | (apply a_dec_f; rfl; (· first | assumption | omega)) | (apply wo_st; rfl; rfl; rfl; (· (repeat (first | apply sel_here | apply sel_there))); (· (repeat (first | apply SetAt.here | apply SetAt.there))); rfl) | (apply wo_box1; rfl; rfl; rfl; intro bx) | (apply wo_boxa; rfl; rfl; intro bx) | (apply wo_alloc; rfl; intro bx) | (apply wo_sta; rfl; rfl; rfl; rfl; (· (repeat (first | apply sel_here | apply sel_there))); (· (repeat (first | apply LayAt.nil | apply LayAt.here ))); rfl) ))
    exact retv rfl (by (repeat (first | apply RV.nil | (apply RV.agg; rfl; (· (repeat (first | apply sel_here ))); infer_instance; (· (repeat (first | apply Cut.here0 | apply Cut.here )))) )); done) (⟨rfl, rfl, rfl⟩) (by (repeat (first | apply sub_nil )); done) (by first | exact fun _ h => h | (intro r hr; cases hr; done) | (simp; done) | exact fun _ h => List.mem_append_left _ h | (intro r hr; simp [hr]; done))
  · rw [if_neg h1, if_neg h1, if_neg h2]
    refine fn_intro Try.func18 rfl Try.ntmps18 rfl (fun E => ?_)
    (repeat (first | ((first | (apply wo_v; rfl) ); (· first | (apply pv_ev; rfl) | (apply pv_fld; rfl) | (apply g_load; first | (apply pv_ld; rfl; (· (repeat (first | apply sel_here | apply sel_there))); rfl) | (apply pv_lda; rfl; (· (repeat (first | apply sel_here | apply sel_there))); (· (repeat (first | apply Cut.here0 | apply Cut.here )))) ) )) | apply wo_nil | apply wc_seq | apply wc_region | apply wc_skip | apply wc_ret | (apply wc_true; rfl) | (apply wc_false; rfl) | (apply a_dec_t; rfl; (· first | assumption | omega)) | (apply a_dec_f; rfl; (· first | assumption | omega)) | (apply wo_box1; rfl; rfl; rfl; intro bx) | (apply wo_boxa; rfl; rfl; intro bx) | (apply wo_alloc; rfl; intro bx) | (apply wo_sta; rfl; rfl; rfl; rfl; (· (repeat (first | apply sel_here ))); (· (repeat (first | apply LayAt.nil | apply LayAt.here ))); rfl) ))
    exact retv rfl (by (repeat (first | apply RV.nil | (apply RV.agg; rfl; (· (repeat (first | apply sel_here ))); infer_instance; (· (repeat (first | apply Cut.here0 | apply Cut.here )))) )); done) (⟨rfl, rfl, rfl⟩) (by (repeat (first | apply sub_nil )); done) (by first | exact fun _ h => h | (intro r hr; cases hr; done) | (simp; done) | exact fun _ h => List.mem_append_left _ h | (intro r hr; simp [hr]; done))
set_option maxHeartbeats 64000000 in
theorem vCheck (nr st : Bool) (pt pic : Int) (wd : Bool) (lv ly : Int) (sy : Bool) (ky : Int) (r : Int) (hr : chk ⟨nr, st, pt, pic, wd, lv, ly, sy, ky⟩ = r) :
    Fn Try.prog 13 #[.agg (dL nr st pt pic wd lv ly sy ky).toArray] [] [] (fun v L' R' => v = .int .i64 r ∧ L' = [] ∧ R' = []) := by
  have i3 := vIn pic 32767
  have i4 := vIn lv 255
  have i5 := vIn ly 3
  have i6 := vIn ky 31
  by_cases b1 : pt < 0
  · obtain rfl : 5 = r := by rw [← hr]; unfold chk okA; rw [if_pos (by simp only; omega)]
    refine fn_intro Try.func13 rfl Try.ntmps13 rfl (fun E => ?_)
    (repeat (first | ((first | (apply wo_v; rfl) ); (· first | (apply pv_ev; rfl) | (apply pv_fld; rfl) | (apply g_load; first | (apply pv_ld; rfl; (· (repeat (first | apply sel_here ))); rfl) ) | (apply g_pick; first | (apply pv_pick_t; rfl; rfl) ) )) | apply wo_nil | apply wc_seq | apply wc_region | apply wc_block | apply wc_ret | (apply wc_true; rfl) | (apply wo_run; rfl; rfl) | (apply wo_skip; rfl; rfl; rfl; rfl) | (apply wo_skip_u; rfl; rfl; rfl) | (apply a_gt; rfl; rfl; (· first | assumption | omega)) | (apply wo_box1; rfl; rfl; rfl; intro bx) | (apply wo_boxa; rfl; rfl; intro bx) ))
    exact ret1 rfl rfl ⟨rfl, rfl, rfl⟩ ((by (repeat (first | apply sub_nil )); done) : List.Perm _ ([] ++ _)) (by first | exact fun _ h => h | (intro r hr; cases hr; done) | (simp; done) | exact fun _ h => List.mem_append_left _ h | (intro r hr; simp [hr]; done))
  by_cases b2 : 7 < pt
  · obtain rfl : 5 = r := by rw [← hr]; unfold chk okA; rw [if_pos (by simp only; omega)]
    refine fn_intro Try.func13 rfl Try.ntmps13 rfl (fun E => ?_)
    (repeat (first | ((first | (apply wo_v; rfl) ); (· first | (apply pv_ev; rfl) | (apply pv_fld; rfl) | (apply g_load; first | (apply pv_ld; rfl; (· (repeat (first | apply sel_here ))); rfl) ) | (apply g_pick; first | (apply pv_pick_t; rfl; rfl) | (apply pv_pick_f; rfl; rfl)) )) | apply wo_nil | apply wc_seq | apply wc_region | apply wc_block | apply wc_ret | (apply wc_true; rfl) | (apply wo_run; rfl; rfl) | (apply wo_skip; rfl; rfl; rfl; rfl) | (apply wo_skip_u; rfl; rfl; rfl) | (apply a_gt; rfl; rfl; (· first | assumption | omega)) | (apply a_gf; rfl; rfl; (· first | assumption | omega)) | (apply wo_box1; rfl; rfl; rfl; intro bx) | (apply wo_boxa; rfl; rfl; intro bx) ))
    exact ret1 rfl rfl ⟨rfl, rfl, rfl⟩ ((by (repeat (first | apply sub_nil )); done) : List.Perm _ ([] ++ _)) (by first | exact fun _ h => h | (intro r hr; cases hr; done) | (simp; done) | exact fun _ h => List.mem_append_left _ h | (intro r hr; simp [hr]; done))
  by_cases b3 : -1 ≤ pic ∧ pic ≤ 32767
  case neg =>
    obtain rfl : 5 = r := by rw [← hr]; unfold chk okA; rw [if_pos (by simp only; omega)]
    rw [decide_eq_false b3] at i3
    refine fn_intro Try.func13 rfl Try.ntmps13 rfl (fun E => ?_)
    (repeat (first | ((first | (apply wo_v; rfl) ); (· first | (apply pv_ev; rfl) | (apply pv_fld; rfl) | (apply g_load; first | (apply pv_ld; rfl; (· (repeat (first | apply sel_here ))); rfl) ) | (apply g_pick; first | (apply pv_pick_t; rfl; rfl) | (apply pv_pick_f; rfl; rfl)) )) | apply wo_nil | apply wc_seq | apply wc_region | apply wc_block | (apply wo_run; rfl; rfl) | (apply wo_skip; rfl; rfl; rfl; rfl) | (apply wo_skip_u; rfl; rfl; rfl) | (apply a_gt; rfl; rfl; (· first | assumption | omega)) | (apply a_gf; rfl; rfl; (· first | assumption | omega)) | (apply wo_box1; rfl; rfl; rfl; intro bx) | (apply wo_boxa; rfl; rfl; intro bx) ))
    (refine wo_call (i3) rfl (by (repeat (first | apply sub_nil )); done) (by first | exact fun _ h => h | (intro r hr; cases hr; done) | (simp; done) | exact fun _ h => List.mem_append_left _ h | (intro r hr; simp [hr]; done)) rfl ?_; rintro v L' R' ⟨rfl, rfl, rfl⟩ H' hH RR hR; simp only [List.cons_append, List.nil_append] at hH hR; subst hH; have hR := hR.symm; subst hR)
    (repeat (first | ((first | (apply wo_v; rfl) ); (· first | (apply pv_ev; rfl) | (apply g_pick; first | (apply pv_pick_t; rfl; rfl) | (apply pv_pick_f; rfl; rfl)) | (apply g_un; first | (apply pv_not_t; rfl) | (apply pv_not_f; rfl) ) )) | apply wo_nil | apply wc_seq | apply wc_region | apply wc_ret | (apply wc_true; rfl) | (apply wo_run; rfl; rfl) | (apply wo_skip; rfl; rfl; rfl; rfl) ))
    exact ret1 rfl rfl ⟨rfl, rfl, rfl⟩ ((by (repeat (first | apply sub_nil )); done) : List.Perm _ ([] ++ _)) (by first | exact fun _ h => h | (intro r hr; cases hr; done) | (simp; done) | exact fun _ h => List.mem_append_left _ h | (intro r hr; simp [hr]; done))
  rw [decide_eq_true b3] at i3
  by_cases b4 : -1 ≤ lv ∧ lv ≤ 255
  case neg =>
    obtain rfl : 5 = r := by rw [← hr]; unfold chk okA; rw [if_pos (by simp only; omega)]
    rw [decide_eq_false b4] at i4
    refine fn_intro Try.func13 rfl Try.ntmps13 rfl (fun E => ?_)
    (repeat (first | ((first | (apply wo_v; rfl) ); (· first | (apply pv_ev; rfl) | (apply pv_fld; rfl) | (apply g_load; first | (apply pv_ld; rfl; (· (repeat (first | apply sel_here ))); rfl) ) | (apply g_pick; first | (apply pv_pick_t; rfl; rfl) | (apply pv_pick_f; rfl; rfl)) )) | apply wo_nil | apply wc_seq | apply wc_region | apply wc_block | (apply wo_run; rfl; rfl) | (apply wo_skip; rfl; rfl; rfl; rfl) | (apply wo_skip_u; rfl; rfl; rfl) | (apply a_gt; rfl; rfl; (· first | assumption | omega)) | (apply a_gf; rfl; rfl; (· first | assumption | omega)) | (apply wo_box1; rfl; rfl; rfl; intro bx) | (apply wo_boxa; rfl; rfl; intro bx) ))
    (refine wo_call (i3) rfl (by (repeat (first | apply sub_nil )); done) (by first | exact fun _ h => h | (intro r hr; cases hr; done) | (simp; done) | exact fun _ h => List.mem_append_left _ h | (intro r hr; simp [hr]; done)) rfl ?_; rintro v L' R' ⟨rfl, rfl, rfl⟩ H' hH RR hR; simp only [List.cons_append, List.nil_append] at hH hR; subst hH; have hR := hR.symm; subst hR)
    (repeat (first | ((first | (apply wo_v; rfl) ); (· first | (apply pv_ev; rfl) | (apply pv_fld; rfl) | (apply g_load; first | (apply pv_ld; rfl; (· (repeat (first | apply sel_here ))); rfl) ) | (apply g_pick; first | (apply pv_pick_t; rfl; rfl) | (apply pv_pick_f; rfl; rfl)) | (apply g_un; first | (apply pv_not_t; rfl) ) )) | (apply wo_run; rfl; rfl) ))
    (refine wo_call (i4) rfl (by (repeat (first | apply sub_nil )); done) (by first | exact fun _ h => h | (intro r hr; cases hr; done) | (simp; done) | exact fun _ h => List.mem_append_left _ h | (intro r hr; simp [hr]; done)) rfl ?_; rintro v L' R' ⟨rfl, rfl, rfl⟩ H' hH RR hR; simp only [List.cons_append, List.nil_append] at hH hR; subst hH; have hR := hR.symm; subst hR)
    (repeat (first | ((first | (apply wo_v; rfl) ); (· first | (apply pv_ev; rfl) | (apply g_pick; first | (apply pv_pick_t; rfl; rfl) | (apply pv_pick_f; rfl; rfl)) | (apply g_un; first | (apply pv_not_t; rfl) | (apply pv_not_f; rfl) ) )) | apply wo_nil | apply wc_seq | apply wc_region | apply wc_ret | (apply wc_true; rfl) | (apply wo_run; rfl; rfl) | (apply wo_skip; rfl; rfl; rfl; rfl) ))
    exact ret1 rfl rfl ⟨rfl, rfl, rfl⟩ ((by (repeat (first | apply sub_nil )); done) : List.Perm _ ([] ++ _)) (by first | exact fun _ h => h | (intro r hr; cases hr; done) | (simp; done) | exact fun _ h => List.mem_append_left _ h | (intro r hr; simp [hr]; done))
  rw [decide_eq_true b4] at i4
  by_cases b5 : -1 ≤ ly ∧ ly ≤ 3
  case neg =>
    obtain rfl : 5 = r := by rw [← hr]; unfold chk okA; rw [if_pos (by simp only; omega)]
    rw [decide_eq_false b5] at i5
    refine fn_intro Try.func13 rfl Try.ntmps13 rfl (fun E => ?_)
    (repeat (first | ((first | (apply wo_v; rfl) ); (· first | (apply pv_ev; rfl) | (apply pv_fld; rfl) | (apply g_load; first | (apply pv_ld; rfl; (· (repeat (first | apply sel_here ))); rfl) ) | (apply g_pick; first | (apply pv_pick_t; rfl; rfl) | (apply pv_pick_f; rfl; rfl)) )) | apply wo_nil | apply wc_seq | apply wc_region | apply wc_block | (apply wo_run; rfl; rfl) | (apply wo_skip; rfl; rfl; rfl; rfl) | (apply wo_skip_u; rfl; rfl; rfl) | (apply a_gt; rfl; rfl; (· first | assumption | omega)) | (apply a_gf; rfl; rfl; (· first | assumption | omega)) | (apply wo_box1; rfl; rfl; rfl; intro bx) | (apply wo_boxa; rfl; rfl; intro bx) ))
    (refine wo_call (i3) rfl (by (repeat (first | apply sub_nil )); done) (by first | exact fun _ h => h | (intro r hr; cases hr; done) | (simp; done) | exact fun _ h => List.mem_append_left _ h | (intro r hr; simp [hr]; done)) rfl ?_; rintro v L' R' ⟨rfl, rfl, rfl⟩ H' hH RR hR; simp only [List.cons_append, List.nil_append] at hH hR; subst hH; have hR := hR.symm; subst hR)
    (repeat (first | ((first | (apply wo_v; rfl) ); (· first | (apply pv_ev; rfl) | (apply pv_fld; rfl) | (apply g_load; first | (apply pv_ld; rfl; (· (repeat (first | apply sel_here ))); rfl) ) | (apply g_pick; first | (apply pv_pick_t; rfl; rfl) | (apply pv_pick_f; rfl; rfl)) | (apply g_un; first | (apply pv_not_t; rfl) ) )) | (apply wo_run; rfl; rfl) ))
    (refine wo_call (i4) rfl (by (repeat (first | apply sub_nil )); done) (by first | exact fun _ h => h | (intro r hr; cases hr; done) | (simp; done) | exact fun _ h => List.mem_append_left _ h | (intro r hr; simp [hr]; done)) rfl ?_; rintro v L' R' ⟨rfl, rfl, rfl⟩ H' hH RR hR; simp only [List.cons_append, List.nil_append] at hH hR; subst hH; have hR := hR.symm; subst hR)
    (repeat (first | ((first | (apply wo_v; rfl) ); (· first | (apply pv_ev; rfl) | (apply pv_fld; rfl) | (apply g_load; first | (apply pv_ld; rfl; (· (repeat (first | apply sel_here ))); rfl) ) | (apply g_pick; first | (apply pv_pick_t; rfl; rfl) | (apply pv_pick_f; rfl; rfl)) | (apply g_un; first | (apply pv_not_t; rfl) ) )) | (apply wo_run; rfl; rfl) ))
    (refine wo_call (i5) rfl (by (repeat (first | apply sub_nil )); done) (by first | exact fun _ h => h | (intro r hr; cases hr; done) | (simp; done) | exact fun _ h => List.mem_append_left _ h | (intro r hr; simp [hr]; done)) rfl ?_; rintro v L' R' ⟨rfl, rfl, rfl⟩ H' hH RR hR; simp only [List.cons_append, List.nil_append] at hH hR; subst hH; have hR := hR.symm; subst hR)
    (repeat (first | ((first | (apply wo_v; rfl) ); (· first | (apply pv_ev; rfl) | (apply g_pick; first | (apply pv_pick_t; rfl; rfl) | (apply pv_pick_f; rfl; rfl)) | (apply g_un; first | (apply pv_not_t; rfl) | (apply pv_not_f; rfl) ) )) | apply wo_nil | apply wc_seq | apply wc_region | apply wc_ret | (apply wc_true; rfl) | (apply wo_run; rfl; rfl) | (apply wo_skip; rfl; rfl; rfl; rfl) ))
    exact ret1 rfl rfl ⟨rfl, rfl, rfl⟩ ((by (repeat (first | apply sub_nil )); done) : List.Perm _ ([] ++ _)) (by first | exact fun _ h => h | (intro r hr; cases hr; done) | (simp; done) | exact fun _ h => List.mem_append_left _ h | (intro r hr; simp [hr]; done))
  rw [decide_eq_true b5] at i5
  by_cases b6 : -1 ≤ ky ∧ ky ≤ 31
  case neg =>
    obtain rfl : 5 = r := by rw [← hr]; unfold chk okA; rw [if_pos (by simp only; omega)]
    rw [decide_eq_false b6] at i6
    refine fn_intro Try.func13 rfl Try.ntmps13 rfl (fun E => ?_)
    (repeat (first | ((first | (apply wo_v; rfl) ); (· first | (apply pv_ev; rfl) | (apply pv_fld; rfl) | (apply g_load; first | (apply pv_ld; rfl; (· (repeat (first | apply sel_here ))); rfl) ) | (apply g_pick; first | (apply pv_pick_t; rfl; rfl) | (apply pv_pick_f; rfl; rfl)) )) | apply wo_nil | apply wc_seq | apply wc_region | apply wc_block | (apply wo_run; rfl; rfl) | (apply wo_skip; rfl; rfl; rfl; rfl) | (apply wo_skip_u; rfl; rfl; rfl) | (apply a_gt; rfl; rfl; (· first | assumption | omega)) | (apply a_gf; rfl; rfl; (· first | assumption | omega)) | (apply wo_box1; rfl; rfl; rfl; intro bx) | (apply wo_boxa; rfl; rfl; intro bx) ))
    (refine wo_call (i3) rfl (by (repeat (first | apply sub_nil )); done) (by first | exact fun _ h => h | (intro r hr; cases hr; done) | (simp; done) | exact fun _ h => List.mem_append_left _ h | (intro r hr; simp [hr]; done)) rfl ?_; rintro v L' R' ⟨rfl, rfl, rfl⟩ H' hH RR hR; simp only [List.cons_append, List.nil_append] at hH hR; subst hH; have hR := hR.symm; subst hR)
    (repeat (first | ((first | (apply wo_v; rfl) ); (· first | (apply pv_ev; rfl) | (apply pv_fld; rfl) | (apply g_load; first | (apply pv_ld; rfl; (· (repeat (first | apply sel_here ))); rfl) ) | (apply g_pick; first | (apply pv_pick_t; rfl; rfl) | (apply pv_pick_f; rfl; rfl)) | (apply g_un; first | (apply pv_not_t; rfl) ) )) | (apply wo_run; rfl; rfl) ))
    (refine wo_call (i4) rfl (by (repeat (first | apply sub_nil )); done) (by first | exact fun _ h => h | (intro r hr; cases hr; done) | (simp; done) | exact fun _ h => List.mem_append_left _ h | (intro r hr; simp [hr]; done)) rfl ?_; rintro v L' R' ⟨rfl, rfl, rfl⟩ H' hH RR hR; simp only [List.cons_append, List.nil_append] at hH hR; subst hH; have hR := hR.symm; subst hR)
    (repeat (first | ((first | (apply wo_v; rfl) ); (· first | (apply pv_ev; rfl) | (apply pv_fld; rfl) | (apply g_load; first | (apply pv_ld; rfl; (· (repeat (first | apply sel_here ))); rfl) ) | (apply g_pick; first | (apply pv_pick_t; rfl; rfl) | (apply pv_pick_f; rfl; rfl)) | (apply g_un; first | (apply pv_not_t; rfl) ) )) | (apply wo_run; rfl; rfl) ))
    (refine wo_call (i5) rfl (by (repeat (first | apply sub_nil )); done) (by first | exact fun _ h => h | (intro r hr; cases hr; done) | (simp; done) | exact fun _ h => List.mem_append_left _ h | (intro r hr; simp [hr]; done)) rfl ?_; rintro v L' R' ⟨rfl, rfl, rfl⟩ H' hH RR hR; simp only [List.cons_append, List.nil_append] at hH hR; subst hH; have hR := hR.symm; subst hR)
    (repeat (first | ((first | (apply wo_v; rfl) ); (· first | (apply pv_ev; rfl) | (apply pv_fld; rfl) | (apply g_load; first | (apply pv_ld; rfl; (· (repeat (first | apply sel_here ))); rfl) ) | (apply g_pick; first | (apply pv_pick_t; rfl; rfl) | (apply pv_pick_f; rfl; rfl)) | (apply g_un; first | (apply pv_not_t; rfl) ) )) | (apply wo_run; rfl; rfl) ))
    (refine wo_call (i6) rfl (by (repeat (first | apply sub_nil )); done) (by first | exact fun _ h => h | (intro r hr; cases hr; done) | (simp; done) | exact fun _ h => List.mem_append_left _ h | (intro r hr; simp [hr]; done)) rfl ?_; rintro v L' R' ⟨rfl, rfl, rfl⟩ H' hH RR hR; simp only [List.cons_append, List.nil_append] at hH hR; subst hH; have hR := hR.symm; subst hR)
    (repeat (first | ((first | (apply wo_v; rfl) ); (· first | (apply pv_ev; rfl) | (apply g_pick; first | (apply pv_pick_t; rfl; rfl) | (apply pv_pick_f; rfl; rfl)) | (apply g_un; first | (apply pv_not_t; rfl) | (apply pv_not_f; rfl) ) )) | apply wo_nil | apply wc_seq | apply wc_region | apply wc_ret | (apply wc_true; rfl) | (apply wo_run; rfl; rfl) ))
    exact ret1 rfl rfl ⟨rfl, rfl, rfl⟩ ((by (repeat (first | apply sub_nil )); done) : List.Perm _ ([] ++ _)) (by first | exact fun _ h => h | (intro r hr; cases hr; done) | (simp; done) | exact fun _ h => List.mem_append_left _ h | (intro r hr; simp [hr]; done))
  rw [decide_eq_true b6] at i6
  by_cases c1 : pic < 0 <;> by_cases c2 : 127 < pic <;> by_cases c3 : ly < 0 <;> cases wd <;> cases sy
  all_goals first | (exfalso; omega) | skip
  all_goals
    unfold chk at hr
    rw [if_neg (by unfold okA; simp only; omega)] at hr
    simp [okF, c1, c2, c3] at hr
    subst hr
    refine fn_intro Try.func13 rfl Try.ntmps13 rfl (fun E => ?_)
    (repeat (first | ((first | (apply wo_v; rfl) ); (· first | (apply pv_ev; rfl) | (apply pv_fld; rfl) | (apply g_load; first | (apply pv_ld; rfl; (· (repeat (first | apply sel_here ))); rfl) ) | (apply g_pick; first | (apply pv_pick_t; rfl; rfl) | (apply pv_pick_f; rfl; rfl)) )) | apply wo_nil | apply wc_seq | apply wc_region | apply wc_block | (apply wo_run; rfl; rfl) | (apply wo_skip; rfl; rfl; rfl; rfl) | (apply wo_skip_u; rfl; rfl; rfl) | (apply a_gt; rfl; rfl; (· first | assumption | omega)) | (apply a_gf; rfl; rfl; (· first | assumption | omega)) | (apply wo_box1; rfl; rfl; rfl; intro bx) | (apply wo_boxa; rfl; rfl; intro bx) ))
    (refine wo_call (i3) rfl (by (repeat (first | apply sub_nil )); done) (by first | exact fun _ h => h | (intro r hr; cases hr; done) | (simp; done) | exact fun _ h => List.mem_append_left _ h | (intro r hr; simp [hr]; done)) rfl ?_; rintro v L' R' ⟨rfl, rfl, rfl⟩ H' hH RR hR; simp only [List.cons_append, List.nil_append] at hH hR; subst hH; have hR := hR.symm; subst hR)
    (repeat (first | ((first | (apply wo_v; rfl) ); (· first | (apply pv_ev; rfl) | (apply pv_fld; rfl) | (apply g_load; first | (apply pv_ld; rfl; (· (repeat (first | apply sel_here ))); rfl) ) | (apply g_pick; first | (apply pv_pick_t; rfl; rfl) | (apply pv_pick_f; rfl; rfl)) | (apply g_un; first | (apply pv_not_t; rfl) ) )) | (apply wo_run; rfl; rfl) ))
    (refine wo_call (i4) rfl (by (repeat (first | apply sub_nil )); done) (by first | exact fun _ h => h | (intro r hr; cases hr; done) | (simp; done) | exact fun _ h => List.mem_append_left _ h | (intro r hr; simp [hr]; done)) rfl ?_; rintro v L' R' ⟨rfl, rfl, rfl⟩ H' hH RR hR; simp only [List.cons_append, List.nil_append] at hH hR; subst hH; have hR := hR.symm; subst hR)
    (repeat (first | ((first | (apply wo_v; rfl) ); (· first | (apply pv_ev; rfl) | (apply pv_fld; rfl) | (apply g_load; first | (apply pv_ld; rfl; (· (repeat (first | apply sel_here ))); rfl) ) | (apply g_pick; first | (apply pv_pick_t; rfl; rfl) | (apply pv_pick_f; rfl; rfl)) | (apply g_un; first | (apply pv_not_t; rfl) ) )) | (apply wo_run; rfl; rfl) ))
    (refine wo_call (i5) rfl (by (repeat (first | apply sub_nil )); done) (by first | exact fun _ h => h | (intro r hr; cases hr; done) | (simp; done) | exact fun _ h => List.mem_append_left _ h | (intro r hr; simp [hr]; done)) rfl ?_; rintro v L' R' ⟨rfl, rfl, rfl⟩ H' hH RR hR; simp only [List.cons_append, List.nil_append] at hH hR; subst hH; have hR := hR.symm; subst hR)
    (repeat (first | ((first | (apply wo_v; rfl) ); (· first | (apply pv_ev; rfl) | (apply pv_fld; rfl) | (apply g_load; first | (apply pv_ld; rfl; (· (repeat (first | apply sel_here ))); rfl) ) | (apply g_pick; first | (apply pv_pick_t; rfl; rfl) | (apply pv_pick_f; rfl; rfl)) | (apply g_un; first | (apply pv_not_t; rfl) ) )) | (apply wo_run; rfl; rfl) ))
    (refine wo_call (i6) rfl (by (repeat (first | apply sub_nil )); done) (by first | exact fun _ h => h | (intro r hr; cases hr; done) | (simp; done) | exact fun _ h => List.mem_append_left _ h | (intro r hr; simp [hr]; done)) rfl ?_; rintro v L' R' ⟨rfl, rfl, rfl⟩ H' hH RR hR; simp only [List.cons_append, List.nil_append] at hH hR; subst hH; have hR := hR.symm; subst hR)
    (repeat (first | ((first | (apply wo_v; rfl) ); (· first | (apply pv_ev; rfl) | (apply pv_fld; rfl) | (apply g_load; first | (apply pv_ld; rfl; (· (repeat (first | apply sel_here ))); rfl) ) | (apply g_pick; first | (apply pv_pick_t; rfl; rfl) | (apply pv_pick_f; rfl; rfl)) | (apply g_un; first | (apply pv_not_t; rfl) | (apply pv_not_f; rfl) ) )) | apply wo_nil | apply wc_seq | apply wc_region | apply wc_skip | apply wc_ret | (apply wc_true; rfl) | (apply wc_false; rfl) | (apply wo_run; rfl; rfl) | (apply wo_skip; rfl; rfl; rfl; rfl) | (apply wo_skip_u; rfl; rfl; rfl) | (apply a_gt; rfl; rfl; (· first | assumption | omega)) | (apply a_gf; rfl; rfl; (· first | assumption | omega)) ))
    exact ret1 rfl rfl ⟨rfl, rfl, rfl⟩ ((by (repeat (first | apply sub_nil )); done) : List.Perm _ ([] ++ _)) (by first | exact fun _ h => h | (intro r hr; cases hr; done) | (simp; done) | exact fun _ h => List.mem_append_left _ h | (intro r hr; simp [hr]; done))
theorem eqD (d : Dc) : EqRow (dv d) (dv d) := eqRow_refl [.b, .b, .i .i64, .i .i64, .b, .i .i64, .i .i64, .b, .i .i64] _ rfl
end Go.Proofs.Ytlhlidmhlhodiaa

/-
  Sparse frames: interface values: making one, asserting one, calling through one.
-/
namespace Go.Proofs.Ytlhlidmhlhodiaa
set_option linter.unusedSimpArgs false
set_option linter.unusedVariables false
open Go.RowKit

class TIfc (P : Program) (T : TypeId) : Prop where h : ∀ (x : Value) (w : World), (Instr.makeInterface T x).run P w = .ok (.iface T x) w
class TAs (P : Program) (xT T U : TypeId) (f : outParam (Value → Value)) : Prop where h : ∀ (v : Value) (w : World), (Instr.typeAssert (.iface T v) xT U true).run P w = .ok (f v) w
class TInv (P : Program) (T : TypeId) (m : String) (f : outParam FuncId) : Prop where h : ∀ (v : Value) (args : Array Value) (w : World), (callMethod (.iface T v) m args).run P w = .ok (.enter f (#[v] ++ args)) w
section
variable {P : Program} {N : Nat} {E : Env} {fr : List (Nat × Value)} {hp F : List It} {ro : List Ro} {T U xT : TypeId} {x : Operand} {v : Value} {Kn Kr : St → Prop} {Kx : List (Nat × (St → Prop))} {ops : Array Oper} {rest : List Oper} {dst : Option Tmp} {ty : TypeId} {pos : String} {af : Array Edge}
theorem pv_mki (hx : opd fr x = some v) (hT : TIfc P T) : Pv P ⟨fr, hp, ro⟩ (.makeInterface T x) (.iface T v) := fun N E ac w dst ty pos af g ok => by
  simp only [execOp, ok.h.eval hx]; simp [hT.h, go_sem]
theorem pv_tas {f : Value → Value} (hx : opd fr x = some (.iface T v)) (hT : TAs P xT T U f) : Pv P ⟨fr, hp, ro⟩ (.typeAssert x xT U true) (f v) := fun N E ac w dst ty pos af g ok => by
  simp only [execOp, ok.h.eval hx]; simp [hT.h, go_sem]
theorem inv_enter {f : FuncId} {m : String} {a : Act} {l : List Operand} {ats : Array TypeId} {g : Option (Nat × Bool)} (hT : TInv P T m f) (hx : a.eval x = .iface T v) (w : World) :
    (execOp a.eval ⟨dst, .call ⟨.invoke x m, l.toArray, ats⟩, ty, pos, af, g⟩).run P w = .ok (.enter f (v :: l.map a.eval).toArray) w := by
  have e : ∀ r : Array Value, (#[Value.iface T v] ++ r)[0]? = some (Value.iface T v) := fun r => by
    rw [Array.getElem?_append_left (Nat.zero_lt_one)]; rfl
  have e2 : ∀ r : Array Value, (#[Value.iface T v] ++ r).extract 1 (#[Value.iface T v] ++ r).size = r := fun r => by
    apply Array.ext'; simp
  have e3 : (execOp a.eval ⟨dst, .call ⟨.invoke x m, l.toArray, ats⟩, ty, pos, af, g⟩).run P w = (Go.invoke (.fn (.method m) #[]) (#[Value.iface T v] ++ l.toArray.map a.eval)).run P w := by
    simp only [execOp, resolve, hx, Sem.run_bind, Sem.run_pure, Result.andThen_ok]
  rw [e3]
  unfold Go.invoke
  rw [e]
  simp only [e2]
  rw [hT.h]
  simp
theorem wo_inv {f : FuncId} {m : String} {vs : List Value} {L F : List It} {R : List Ro} {Post : Value → List It → List Ro → Prop} {l : List Operand} {ats : Array TypeId}
    (hx : opd fr x = some (.iface T v)) (hT : TInv P T m f) (hF : Fn P f (v :: vs).toArray L R Post) (ha : opdL fr l = some vs) (hs : hp.Perm (L ++ F)) (hr : ∀ r ∈ R, r ∈ ro) (hd : dstOk dst N = true)
    (h : ∀ v L' R', Post v L' R' → ∀ H, H = L' ++ F → ∀ RR, RR = R' ++ ro → WO P N E ops rest ⟨putF dst v fr, H, RR⟩ Kn) :
    WO P N E ops (⟨dst, .call ⟨.invoke x m, l.toArray, ats⟩, ty, pos, af, none⟩ :: rest) ⟨fr, hp, ro⟩ Kn := by
  intro Q hQ a w ok
  unfold wpList
  rw [if_pos (by simp [Region.wanted])]
  refine .inl ?_
  unfold Oper.wp
  rw [inv_enter hT (ok.h.eval hx) w, ok.h.evalL ha]
  refine (hF w (ok.s.start hs hr)).mono fun e w' ⟨v, L', R', he, hP, hS⟩ => ?_
  subst he
  exact h v L' R' hP _ rfl _ rfl Q hQ _ w' ⟨ok.h.putF hd v, ok.s.step hs (fun b hb => by
    obtain ⟨r, h1, h2⟩ := mem_blks.1 hb; exact mem_blks.2 ⟨r, hr r h1, h2⟩) hS⟩
theorem outc_inv {f : FuncId} {m : String} {B0 : List It} {vs : List Value} {L Lc F1 : List It} {R : List Ro} {Post : Value → List It → List Ro → Prop} {TT : Value → List It → Prop} {l : List Operand} {ats : Array TypeId} {g : Option (Nat × Bool)}
    (hx : opd fr x = some (.iface T v)) (hT : TInv P T m f) (hF : Fn P f (v :: vs).toArray L R Post) (ha : opdL fr l = some vs) (hs : (Lc ++ B0).Perm (L ++ F1)) (hr : ∀ r ∈ R, r ∈ ro) (hTT : ∀ v L' R', Post v L' R' → ∃ M, TT v M ∧ (L' ++ F1).Perm (M ++ B0)) :
    ∀ a, Holds N fr a → Outc P E B0 ro ⟨dst, .call ⟨.invoke x m, l.toArray, ats⟩, ty, pos, af, g⟩ a Lc TT := fun a hh F w hw => by
  rw [inv_enter hT (hh.eval hx) w, hh.evalL ha]
  refine ⟨rfl, ?_⟩
  have hp1 : (Lc ++ (B0 ++ F)).Perm (L ++ (F1 ++ F)) := by
    rw [← List.append_assoc, ← List.append_assoc]; exact hs.append_right F
  have hw1 := hw.perm hp1
  refine (hF w (hw1.start (.refl _) hr)).mono fun e w' ⟨v, L', R', he, hP, hS⟩ => ?_
  obtain ⟨M, h1, h2⟩ := hTT v L' R' hP
  have h3 := (hw1.step (.refl _) (fun b hb => by obtain ⟨r, h1, h2⟩ := mem_blks.1 hb; exact mem_blks.2 ⟨r, hr r h1, h2⟩) hS).some_ro (fun r hr => List.mem_append_right _ hr)
  refine ⟨v, M, he, h1, h3.perm ?_⟩
  rw [← List.append_assoc, ← List.append_assoc]
  exact h2.append_right F
theorem outc_app_g {t e sz by_ n c m c2 : Nat} {B0 : List It} {ao ao2 : Option Addr} {xs ys : List (List Value)} {x y : Operand} {g : Option (Nat × Bool)} [TSl P t e sz by_] (hx : opd fr x = some (.slice ao n c)) (hy : opd fr y = some (.slice ao2 m c2))
    (b1 : n + m ≤ maxLen) (b2 : (n + m) * by_ ≤ 140737488355328) :
    ∀ a, Holds N fr a → Outc P E B0 ro ⟨dst, .call ⟨.builtin .append, #[x, y], #[t, t]⟩, ty, pos, af, g⟩ a [.own e sz ao n c xs, .own e sz ao2 m c2 ys] (fun v M => ∃ ao' c', v = .slice ao' (n + m) c' ∧ M = [.own e sz ao' (n + m) c' (xs ++ ys), .own e sz ao2 m c2 ys]) := by
  cases ao2 with
  | some ad =>
    intro a hh F w hw
    have hS2 : OwnSat w e sz (some ad) m c2 ys := hw.get (.swap _ _ _)
    obtain ⟨hsp, _⟩ := hS2.at_ _ rfl
    obtain ⟨b, o, s⟩ := ad
    simp only at hsp
    subst hsp
    exact outc_app hx hy b1 b2 a hh F w hw
  | none =>
    intro a hh F w hw
    obtain ⟨i, z, h1, h2, h3, h4, h5, h6, h7⟩ := sl_und (TSl.h (P := P) (T := t))
    have hS : OwnSat w e sz ao n c xs := hw.get (.refl _)
    have hS2 : OwnSat w e sz none m c2 ys := hw.get (.swap _ _ _)
    have hc0 := hS2.nil rfl
    have hle := hS2.le
    obtain rfl : m = 0 := by omega
    obtain rfl : ys = [] := List.eq_nil_of_length_eq_zero hS2.len
    have hr : (Builtin.append_ #[t, t] ty #[.slice ao n c, .slice none 0 c2]).run P w = .ok (.slice ao n c) w := by
      have hn0 : n + 0 ≤ c := by have := hS.le; omega
      cases ao <;> simp [Builtin.append_, run_underlying h1, sizeOf, typeInfo, h2, Builtin.lenOf, hn0, Builtin.firstCells, storeCells, go_sem] <;> (have := hS.le; omega)
    rw [exec_append (hh.eval hx) (hh.eval hy) hr]
    exact ⟨_, ⟨ao, c, rfl, rfl⟩, by simpa using hw⟩
/-- a field of a structure that is a value -/
def fld1B (P : Program) (T i : Nat) : Option Nat := match P.underlying T with
  | some (.struct fs) => match fs[i]? with
    | some f => if oneB P f.type then some f.offset else none
    | none => none
  | _ => none
class FO (P : Program) (T i : Nat) (off : outParam Nat) : Prop where h : fld1B P T i = some off
theorem pv_field {i off : Nat} {l : List Value} (hx : opd fr x = some (.agg l.toArray)) (hF : FO P T i off) (hl : l[off]? = some v) : Pv P ⟨fr, hp, ro⟩ (.field T x i) v := fun N E ac w dst ty pos af g ok => by
  have h := hF.h
  unfold fld1B at h
  split at h
  · rename_i fs hu
    split at h
    · rename_i f hf
      split at h
      · rename_i h1
        simp only [Option.some.injEq] at h
        subst h
        haveI : TOne P f.type := ⟨h1⟩
        simp only [execOp, ok.h.eval hx]
        have e := run_part_one (P := P) (T := f.type) (w := w) hl
        simp only [Instr.field, Sem.run_bind, run_underlying hu, Result.andThen_ok, hf, asAgg, Sem.run_pure, e]
      · cases h
    · cases h
  · cases h
end
theorem outc_ld {P : Program} {N : Nat} {E : Env} {fr : List (Nat × Value)} {L B0 : List It} {ro : List Ro} {op : Op} {v : Value} {dst : Option Tmp} {ty : TypeId} {pos : String} {af : Array Edge} {g : Option (Nat × Bool)} (h : Pv P ⟨fr, L, ro⟩ op v) :
    ∀ a, Holds N fr a → Outc P E B0 ro ⟨dst, op, ty, pos, af, g⟩ a L (fun v' M => v' = v ∧ M = L) := fun a hh F w hw => by
  unfold Pv at h
  rw [h N E a w dst ty pos af g ⟨hh, hw.left⟩]
  exact ⟨L, ⟨rfl, rfl⟩, hw⟩
theorem outc_fr {P : Program} {E : Env} {B0 X L : List It} {ro : List Ro} {o : Oper} {a : Act} {T : Value → List It → Prop} (h : Outc P E B0 ro o a L T) : Outc P E B0 ro o a (X ++ L) (fun v M => ∃ M0, T v M0 ∧ M = X ++ M0) := fun F w hw => by
  have pm : ∀ Y : List It, ((X ++ Y) ++ (B0 ++ F)).Perm (Y ++ (B0 ++ (X ++ F))) := fun Y => by
    rw [List.append_assoc]
    refine List.perm_append_comm.trans ?_
    rw [List.append_assoc, List.append_assoc]
    refine List.Perm.append_left Y ?_
    exact List.Perm.append_left B0 List.perm_append_comm
  have h1 := h (X ++ F) w (hw.perm (pm L))
  cases hr : (execOp a.eval o).run P w with
  | ok v w' =>
    rw [hr] at h1
    cases v with
    | value v =>
      obtain ⟨M, h2, h3⟩ := h1
      exact ⟨X ++ M, ⟨M, h2, rfl⟩, h3.perm (pm M).symm⟩
    | skip =>
      obtain ⟨M, h2, h3⟩ := h1
      exact ⟨X ++ M, ⟨M, h2, rfl⟩, h3.perm (pm M).symm⟩
    | enter f args =>
      obtain ⟨h0, h1⟩ := h1
      exact ⟨h0, h1.mono fun e w'' ⟨v, M, h2, h3, h4⟩ => ⟨v, X ++ M, h2, ⟨M, h3, rfl⟩, h4.perm (pm M).symm⟩⟩
    | _ => exact h1
  | _ => rw [hr] at h1; exact h1
theorem outc_frA {P : Program} {N : Nat} {E : Env} {fr : List (Nat × Value)} {B0 X L : List It} {ro : List Ro} {o : Oper} {T : Value → List It → Prop} (h : ∀ a, Holds N fr a → Outc P E B0 ro o a L T) : ∀ a, Holds N fr a → Outc P E B0 ro o a (X ++ L) (fun v M => ∃ M0, T v M0 ∧ M = X ++ M0) := fun a ha => outc_fr (h a ha)
end Go.Proofs.Ytlhlidmhlhodiaa

/-
  What interface values of this seat's program do, as instances. (Written by wip/tools/ifaces.py.)
-/
namespace Go.Proofs.Ytlhlidmhlhodiaa
set_option linter.unusedVariables false

instance : TIfc Try.prog 75 := ⟨fun _ _ => by kernel_rfl⟩
instance : TIfc Try.prog 77 := ⟨fun _ _ => by kernel_rfl⟩
instance : TIfc Try.prog 190 := ⟨fun _ _ => by kernel_rfl⟩
instance : TIfc Try.prog 194 := ⟨fun _ _ => by kernel_rfl⟩
instance : TIfc Try.prog 197 := ⟨fun _ _ => by kernel_rfl⟩
instance : TIfc Try.prog 267 := ⟨fun _ _ => by kernel_rfl⟩
instance : TIfc Try.prog 269 := ⟨fun _ _ => by kernel_rfl⟩
instance : TIfc Try.prog 273 := ⟨fun _ _ => by kernel_rfl⟩
instance : TIfc Try.prog 312 := ⟨fun _ _ => by kernel_rfl⟩
instance : TAs Try.prog 179 75 75 (fun v => .tuple #[v, .bool true]) := ⟨fun _ _ => by kernel_rfl⟩
instance : TAs Try.prog 179 77 75 (fun _ => .tuple #[.agg #[.int .u32 0, .int .u32 0, .slice none 0 0], .bool false]) := ⟨fun _ _ => by kernel_rfl⟩
instance : TAs Try.prog 179 190 75 (fun _ => .tuple #[.agg #[.int .u32 0, .int .u32 0, .slice none 0 0], .bool false]) := ⟨fun _ _ => by kernel_rfl⟩
instance : TAs Try.prog 179 194 75 (fun _ => .tuple #[.agg #[.int .u32 0, .int .u32 0, .slice none 0 0], .bool false]) := ⟨fun _ _ => by kernel_rfl⟩
instance : TAs Try.prog 179 197 75 (fun _ => .tuple #[.agg #[.int .u32 0, .int .u32 0, .slice none 0 0], .bool false]) := ⟨fun _ _ => by kernel_rfl⟩
instance : TAs Try.prog 179 267 75 (fun _ => .tuple #[.agg #[.int .u32 0, .int .u32 0, .slice none 0 0], .bool false]) := ⟨fun _ _ => by kernel_rfl⟩
instance : TAs Try.prog 179 269 75 (fun _ => .tuple #[.agg #[.int .u32 0, .int .u32 0, .slice none 0 0], .bool false]) := ⟨fun _ _ => by kernel_rfl⟩
instance : TAs Try.prog 179 273 75 (fun _ => .tuple #[.agg #[.int .u32 0, .int .u32 0, .slice none 0 0], .bool false]) := ⟨fun _ _ => by kernel_rfl⟩
instance : TAs Try.prog 179 312 75 (fun _ => .tuple #[.agg #[.int .u32 0, .int .u32 0, .slice none 0 0], .bool false]) := ⟨fun _ _ => by kernel_rfl⟩
instance : TAs Try.prog 179 75 77 (fun _ => .tuple #[.agg #[.int .u32 0, .int .u32 0], .bool false]) := ⟨fun _ _ => by kernel_rfl⟩
instance : TAs Try.prog 179 77 77 (fun v => .tuple #[v, .bool true]) := ⟨fun _ _ => by kernel_rfl⟩
instance : TAs Try.prog 179 190 77 (fun _ => .tuple #[.agg #[.int .u32 0, .int .u32 0], .bool false]) := ⟨fun _ _ => by kernel_rfl⟩
instance : TAs Try.prog 179 194 77 (fun _ => .tuple #[.agg #[.int .u32 0, .int .u32 0], .bool false]) := ⟨fun _ _ => by kernel_rfl⟩
instance : TAs Try.prog 179 197 77 (fun _ => .tuple #[.agg #[.int .u32 0, .int .u32 0], .bool false]) := ⟨fun _ _ => by kernel_rfl⟩
instance : TAs Try.prog 179 267 77 (fun _ => .tuple #[.agg #[.int .u32 0, .int .u32 0], .bool false]) := ⟨fun _ _ => by kernel_rfl⟩
instance : TAs Try.prog 179 269 77 (fun _ => .tuple #[.agg #[.int .u32 0, .int .u32 0], .bool false]) := ⟨fun _ _ => by kernel_rfl⟩
instance : TAs Try.prog 179 273 77 (fun _ => .tuple #[.agg #[.int .u32 0, .int .u32 0], .bool false]) := ⟨fun _ _ => by kernel_rfl⟩
instance : TAs Try.prog 179 312 77 (fun _ => .tuple #[.agg #[.int .u32 0, .int .u32 0], .bool false]) := ⟨fun _ _ => by kernel_rfl⟩
instance : TAs Try.prog 179 75 190 (fun _ => .tuple #[.agg #[.int .u32 0, .slice none 0 0], .bool false]) := ⟨fun _ _ => by kernel_rfl⟩
instance : TAs Try.prog 179 77 190 (fun _ => .tuple #[.agg #[.int .u32 0, .slice none 0 0], .bool false]) := ⟨fun _ _ => by kernel_rfl⟩
instance : TAs Try.prog 179 190 190 (fun v => .tuple #[v, .bool true]) := ⟨fun _ _ => by kernel_rfl⟩
instance : TAs Try.prog 179 194 190 (fun _ => .tuple #[.agg #[.int .u32 0, .slice none 0 0], .bool false]) := ⟨fun _ _ => by kernel_rfl⟩
instance : TAs Try.prog 179 197 190 (fun _ => .tuple #[.agg #[.int .u32 0, .slice none 0 0], .bool false]) := ⟨fun _ _ => by kernel_rfl⟩
instance : TAs Try.prog 179 267 190 (fun _ => .tuple #[.agg #[.int .u32 0, .slice none 0 0], .bool false]) := ⟨fun _ _ => by kernel_rfl⟩
instance : TAs Try.prog 179 269 190 (fun _ => .tuple #[.agg #[.int .u32 0, .slice none 0 0], .bool false]) := ⟨fun _ _ => by kernel_rfl⟩
instance : TAs Try.prog 179 273 190 (fun _ => .tuple #[.agg #[.int .u32 0, .slice none 0 0], .bool false]) := ⟨fun _ _ => by kernel_rfl⟩
instance : TAs Try.prog 179 312 190 (fun _ => .tuple #[.agg #[.int .u32 0, .slice none 0 0], .bool false]) := ⟨fun _ _ => by kernel_rfl⟩
instance : TAs Try.prog 179 75 194 (fun _ => .tuple #[.agg #[.int .u32 0, .int .u64 0, .slice none 0 0], .bool false]) := ⟨fun _ _ => by kernel_rfl⟩
instance : TAs Try.prog 179 77 194 (fun _ => .tuple #[.agg #[.int .u32 0, .int .u64 0, .slice none 0 0], .bool false]) := ⟨fun _ _ => by kernel_rfl⟩
instance : TAs Try.prog 179 190 194 (fun _ => .tuple #[.agg #[.int .u32 0, .int .u64 0, .slice none 0 0], .bool false]) := ⟨fun _ _ => by kernel_rfl⟩
instance : TAs Try.prog 179 194 194 (fun v => .tuple #[v, .bool true]) := ⟨fun _ _ => by kernel_rfl⟩
instance : TAs Try.prog 179 197 194 (fun _ => .tuple #[.agg #[.int .u32 0, .int .u64 0, .slice none 0 0], .bool false]) := ⟨fun _ _ => by kernel_rfl⟩
instance : TAs Try.prog 179 267 194 (fun _ => .tuple #[.agg #[.int .u32 0, .int .u64 0, .slice none 0 0], .bool false]) := ⟨fun _ _ => by kernel_rfl⟩
instance : TAs Try.prog 179 269 194 (fun _ => .tuple #[.agg #[.int .u32 0, .int .u64 0, .slice none 0 0], .bool false]) := ⟨fun _ _ => by kernel_rfl⟩
instance : TAs Try.prog 179 273 194 (fun _ => .tuple #[.agg #[.int .u32 0, .int .u64 0, .slice none 0 0], .bool false]) := ⟨fun _ _ => by kernel_rfl⟩
instance : TAs Try.prog 179 312 194 (fun _ => .tuple #[.agg #[.int .u32 0, .int .u64 0, .slice none 0 0], .bool false]) := ⟨fun _ _ => by kernel_rfl⟩
instance : TAs Try.prog 179 75 197 (fun _ => .tuple #[.agg #[.slice none 0 0, .string ByteArray.empty], .bool false]) := ⟨fun _ _ => by kernel_rfl⟩
instance : TAs Try.prog 179 77 197 (fun _ => .tuple #[.agg #[.slice none 0 0, .string ByteArray.empty], .bool false]) := ⟨fun _ _ => by kernel_rfl⟩
instance : TAs Try.prog 179 190 197 (fun _ => .tuple #[.agg #[.slice none 0 0, .string ByteArray.empty], .bool false]) := ⟨fun _ _ => by kernel_rfl⟩
instance : TAs Try.prog 179 194 197 (fun _ => .tuple #[.agg #[.slice none 0 0, .string ByteArray.empty], .bool false]) := ⟨fun _ _ => by kernel_rfl⟩
instance : TAs Try.prog 179 197 197 (fun v => .tuple #[v, .bool true]) := ⟨fun _ _ => by kernel_rfl⟩
instance : TAs Try.prog 179 267 197 (fun _ => .tuple #[.agg #[.slice none 0 0, .string ByteArray.empty], .bool false]) := ⟨fun _ _ => by kernel_rfl⟩
instance : TAs Try.prog 179 269 197 (fun _ => .tuple #[.agg #[.slice none 0 0, .string ByteArray.empty], .bool false]) := ⟨fun _ _ => by kernel_rfl⟩
instance : TAs Try.prog 179 273 197 (fun _ => .tuple #[.agg #[.slice none 0 0, .string ByteArray.empty], .bool false]) := ⟨fun _ _ => by kernel_rfl⟩
instance : TAs Try.prog 179 312 197 (fun _ => .tuple #[.agg #[.slice none 0 0, .string ByteArray.empty], .bool false]) := ⟨fun _ _ => by kernel_rfl⟩
instance : TAs Try.prog 179 75 274 (fun v => .tuple #[.iface 75 v, .bool true]) := ⟨fun _ _ => by kernel_rfl⟩
instance : TAs Try.prog 179 77 274 (fun v => .tuple #[.iface 77 v, .bool true]) := ⟨fun _ _ => by kernel_rfl⟩
instance : TAs Try.prog 179 190 274 (fun v => .tuple #[.iface 190 v, .bool true]) := ⟨fun _ _ => by kernel_rfl⟩
instance : TAs Try.prog 179 194 274 (fun v => .tuple #[.iface 194 v, .bool true]) := ⟨fun _ _ => by kernel_rfl⟩
instance : TAs Try.prog 179 197 274 (fun v => .tuple #[.iface 197 v, .bool true]) := ⟨fun _ _ => by kernel_rfl⟩
instance : TAs Try.prog 179 267 274 (fun v => .tuple #[.iface 267 v, .bool true]) := ⟨fun _ _ => by kernel_rfl⟩
instance : TAs Try.prog 179 269 274 (fun v => .tuple #[.iface 269 v, .bool true]) := ⟨fun _ _ => by kernel_rfl⟩
instance : TAs Try.prog 179 273 274 (fun v => .tuple #[.iface 273 v, .bool true]) := ⟨fun _ _ => by kernel_rfl⟩
instance : TAs Try.prog 179 312 274 (fun v => .tuple #[.iface 312 v, .bool true]) := ⟨fun _ _ => by kernel_rfl⟩
instance : TInv Try.prog 75 "Head" 219 := ⟨fun _ _ _ => by kernel_rfl⟩
instance : TInv Try.prog 77 "Head" 221 := ⟨fun _ _ _ => by kernel_rfl⟩
instance : TInv Try.prog 190 "Head" 228 := ⟨fun _ _ _ => by kernel_rfl⟩
instance : TInv Try.prog 194 "Head" 230 := ⟨fun _ _ _ => by kernel_rfl⟩
instance : TInv Try.prog 197 "Head" 233 := ⟨fun _ _ _ => by kernel_rfl⟩
instance : TInv Try.prog 267 "Head" 237 := ⟨fun _ _ _ => by kernel_rfl⟩
instance : TInv Try.prog 269 "Head" 240 := ⟨fun _ _ _ => by kernel_rfl⟩
instance : TInv Try.prog 273 "Head" 242 := ⟨fun _ _ _ => by kernel_rfl⟩
instance : TInv Try.prog 312 "Head" 246 := ⟨fun _ _ _ => by kernel_rfl⟩
instance : TInv Try.prog 75 "antiphon/rtcp.put" 220 := ⟨fun _ _ _ => by kernel_rfl⟩
instance : TInv Try.prog 77 "antiphon/rtcp.put" 222 := ⟨fun _ _ _ => by kernel_rfl⟩
instance : TInv Try.prog 190 "antiphon/rtcp.put" 229 := ⟨fun _ _ _ => by kernel_rfl⟩
instance : TInv Try.prog 194 "antiphon/rtcp.put" 231 := ⟨fun _ _ _ => by kernel_rfl⟩
instance : TInv Try.prog 197 "antiphon/rtcp.put" 234 := ⟨fun _ _ _ => by kernel_rfl⟩
instance : TInv Try.prog 267 "antiphon/rtcp.put" 238 := ⟨fun _ _ _ => by kernel_rfl⟩
instance : TInv Try.prog 269 "antiphon/rtcp.put" 241 := ⟨fun _ _ _ => by kernel_rfl⟩
instance : TInv Try.prog 273 "antiphon/rtcp.put" 243 := ⟨fun _ _ _ => by kernel_rfl⟩
instance : TInv Try.prog 312 "antiphon/rtcp.put" 247 := ⟨fun _ _ _ => by kernel_rfl⟩
instance : FO Try.prog 218 2 2 := ⟨by kernel_rfl⟩
instance : FO Try.prog 243 0 0 := ⟨by kernel_rfl⟩
end Go.Proofs.Ytlhlidmhlhodiaa

/-
  Packets of rtcp as values.
-/
namespace Go.Proofs.Ytlhlidmhlhodiaa
set_option linter.unusedSimpArgs false
set_option linter.unusedVariables false
open Go.RowKit

structure Bk where
  ss : Int
  lo : Int
  tt : Int
  la : Int
  ji : Int
  ls : Int
  dl : Int
def Bk.ok (b : Bk) : Prop := (0 ≤ b.ss ∧ b.ss ≤ 4294967295) ∧ (0 ≤ b.lo ∧ b.lo ≤ 255) ∧ (0 ≤ b.tt ∧ b.tt ≤ 4294967295) ∧ (0 ≤ b.la ∧ b.la ≤ 4294967295) ∧ (0 ≤ b.ji ∧ b.ji ≤ 4294967295) ∧ (0 ≤ b.ls ∧ b.ls ≤ 4294967295) ∧ (0 ≤ b.dl ∧ b.dl ≤ 4294967295)
def c16 (l : List Int) : List (List Value) := l.map fun z => [.int .u16 z]
def c32 (l : List Int) : List (List Value) := l.map fun z => [.int .u32 z]
def pairV (l : List (Int × Int)) : List (List Value) := l.map fun x => [.int .u16 x.1, .int .u16 x.2]
def ordV (l : List (Int × Int)) : List (List Value) := l.map fun x => [.int .u32 x.1, .int .u8 x.2]
def itmV (l : List (Int × ByteArray)) : List (List Value) := l.map fun x => [.int .u8 x.1, .string x.2]
def blkV (l : List Bk) : List (List Value) := l.map fun b => [.int .u32 b.ss, .int .u8 b.lo, .int .u32 b.tt, .int .u32 b.la, .int .u32 b.ji, .int .u32 b.ls, .int .u32 b.dl]
theorem c16_at {l : List Int} {i : Nat} {z : Int} (h : l[i]? = some z) : (c16 l)[i]? = some [.int .u16 z] := by simp [c16, h]
theorem c32_at {l : List Int} {i : Nat} {z : Int} (h : l[i]? = some z) : (c32 l)[i]? = some [.int .u32 z] := by simp [c32, h]
theorem pairV_at {l : List (Int × Int)} {i : Nat} {x : Int × Int} (h : l[i]? = some x) : (pairV l)[i]? = some [.int .u16 x.1, .int .u16 x.2] := by simp [pairV, h]
theorem ordV_at {l : List (Int × Int)} {i : Nat} {x : Int × Int} (h : l[i]? = some x) : (ordV l)[i]? = some [.int .u32 x.1, .int .u8 x.2] := by simp [ordV, h]
theorem itmV_at {l : List (Int × ByteArray)} {i : Nat} {x : Int × ByteArray} (h : l[i]? = some x) : (itmV l)[i]? = some [.int .u8 x.1, .string x.2] := by simp [itmV, h]
theorem blkV_at {l : List Bk} {i : Nat} {b : Bk} (h : l[i]? = some b) : (blkV l)[i]? = some [.int .u32 b.ss, .int .u8 b.lo, .int .u32 b.tt, .int .u32 b.la, .int .u32 b.ji, .int .u32 b.ls, .int .u32 b.dl] := by simp [blkV, h]
theorem c16_app (a b : List Int) : c16 (a ++ b) = c16 a ++ c16 b := by simp [c16]
theorem c16_len (a : List Int) : (c16 a).length = a.length := by simp [c16]
theorem c32_len (a : List Int) : (c32 a).length = a.length := by simp [c32]
theorem pairV_len (a : List (Int × Int)) : (pairV a).length = a.length := by simp [pairV]
theorem ordV_len (a : List (Int × Int)) : (ordV a).length = a.length := by simp [ordV]
theorem itmV_len (a : List (Int × ByteArray)) : (itmV a).length = a.length := by simp [itmV]
theorem blkV_len (a : List Bk) : (blkV a).length = a.length := by simp [blkV]
inductive Pkt where
  | sender (ss ntp t pk oc : Int) (bl : List Bk)
  | receiver (ss : Int) (bl : List Bk)
  | sdes (ch : List (Int × List (Int × ByteArray)))
  | bye (ss : List Int) (rs : ByteArray)
  | nack (fm to : Int) (ps : List (Int × Int))
  | pli (fm to : Int)
  | fir (fm : Int) (os : List (Int × Int))
  | remb (fm rt : Int) (ss : List Int)
  | other (kd ct : Int) (bd : ByteArray)
def ChV (R : List Ro) (c : Int × List (Int × ByteArray)) (row : List Value) : Prop := ∃ A n k, row = [.int .u32 c.1, .slice A n k] ∧ SQ R 2 A n k (itmV c.2)
def ChsV (R : List Ro) (l : List (Int × List (Int × ByteArray))) (rows : List (List Value)) : Prop := rows.length = l.length ∧ ∀ (i : Nat) c, l[i]? = some c → ∃ row, rows[i]? = some row ∧ ChV R c row
theorem ChV.mono {R R' : List Ro} (hR : ∀ r ∈ R, r ∈ R') {c : Int × List (Int × ByteArray)} {row : List Value} (h : ChV R c row) : ChV R' c row := by
  obtain ⟨A, n, k, h1, h2⟩ := h; exact ⟨A, n, k, h1, h2.mono hR⟩
theorem ChsV.mono {R R' : List Ro} (hR : ∀ r ∈ R, r ∈ R') {l : List (Int × List (Int × ByteArray))} {rows : List (List Value)} (h : ChsV R l rows) : ChsV R' l rows :=
  ⟨h.1, fun i c hc => by obtain ⟨row, h1, h2⟩ := h.2 i c hc; exact ⟨row, h1, h2.mono hR⟩⟩
/-- a packet's value -/
def PkV (R : List Ro) : Pkt → Value → Prop
  | .sender ss ntp t pk oc bl, v => ∃ A n c, v = .iface 267 (.agg #[.int .u32 ss, .int .u64 ntp, .int .u32 t, .int .u32 pk, .int .u32 oc, .slice A n c]) ∧ SQ R 7 A n c (blkV bl)
  | .receiver ss bl, v => ∃ A n c, v = .iface 269 (.agg #[.int .u32 ss, .slice A n c]) ∧ SQ R 7 A n c (blkV bl)
  | .sdes ch, v => ∃ A n c rows, v = .iface 312 (.agg #[.slice A n c]) ∧ SQ R 2 A n c rows ∧ ChsV R ch rows
  | .bye ss rs, v => ∃ A n c, v = .iface 197 (.agg #[.slice A n c, .string rs]) ∧ SQ R 1 A n c (c32 ss)
  | .nack fm to ps, v => ∃ A n c, v = .iface 75 (.agg #[.int .u32 fm, .int .u32 to, .slice A n c]) ∧ SQ R 2 A n c (pairV ps)
  | .pli fm to, v => v = .iface 77 (.agg #[.int .u32 fm, .int .u32 to])
  | .fir fm os, v => ∃ A n c, v = .iface 190 (.agg #[.int .u32 fm, .slice A n c]) ∧ SQ R 2 A n c (ordV os)
  | .remb fm rt ss, v => ∃ A n c, v = .iface 194 (.agg #[.int .u32 fm, .int .u64 rt, .slice A n c]) ∧ SQ R 1 A n c (c32 ss)
  | .other kd ct bd, v => v = .iface 273 (.agg #[.int .u8 kd, .int .u8 ct, .string bd])
theorem PkV.mono {R R' : List Ro} (hR : ∀ r ∈ R, r ∈ R') : ∀ {p : Pkt} {v : Value}, PkV R p v → PkV R' p v
  | .sender .., _, h => by obtain ⟨A, n, c, h1, h2⟩ := h; exact ⟨A, n, c, h1, h2.mono hR⟩
  | .receiver .., _, h => by obtain ⟨A, n, c, h1, h2⟩ := h; exact ⟨A, n, c, h1, h2.mono hR⟩
  | .sdes .., _, h => by obtain ⟨A, n, c, rows, h1, h2, h3⟩ := h; exact ⟨A, n, c, rows, h1, h2.mono hR, h3.mono hR⟩
  | .bye .., _, h => by obtain ⟨A, n, c, h1, h2⟩ := h; exact ⟨A, n, c, h1, h2.mono hR⟩
  | .nack .., _, h => by obtain ⟨A, n, c, h1, h2⟩ := h; exact ⟨A, n, c, h1, h2.mono hR⟩
  | .pli .., _, h => h
  | .fir .., _, h => by obtain ⟨A, n, c, h1, h2⟩ := h; exact ⟨A, n, c, h1, h2.mono hR⟩
  | .remb .., _, h => by obtain ⟨A, n, c, h1, h2⟩ := h; exact ⟨A, n, c, h1, h2.mono hR⟩
  | .other .., _, h => h
theorem PkV.one {R : List Ro} : ∀ {p : Pkt} {v : Value}, PkV R p v → v.oneCell' = true
  | .sender .., _, h => by obtain ⟨A, n, c, rfl, h2⟩ := h; rfl
  | .receiver .., _, h => by obtain ⟨A, n, c, rfl, h2⟩ := h; rfl
  | .sdes .., _, h => by obtain ⟨A, n, c, rows, rfl, h2, h3⟩ := h; rfl
  | .bye .., _, h => by obtain ⟨A, n, c, rfl, h2⟩ := h; rfl
  | .nack .., _, h => by obtain ⟨A, n, c, rfl, h2⟩ := h; rfl
  | .pli .., _, h => by obtain rfl := h; rfl
  | .fir .., _, h => by obtain ⟨A, n, c, rfl, h2⟩ := h; rfl
  | .remb .., _, h => by obtain ⟨A, n, c, rfl, h2⟩ := h; rfl
  | .other .., _, h => by obtain rfl := h; rfl
/-- a packet's numbers lie in their ranges, its lists are not too long -/
def in8 (x : Int) : Prop := 0 ≤ x ∧ x ≤ 255
def in16 (x : Int) : Prop := 0 ≤ x ∧ x ≤ 65535
def in32 (x : Int) : Prop := 0 ≤ x ∧ x ≤ 4294967295
def in64 (x : Int) : Prop := 0 ≤ x ∧ x ≤ 18446744073709551615
def Pkt.ok (m : Nat) : Pkt → Prop
  | .sender ss ntp t pk oc bl => in32 ss ∧ in64 ntp ∧ in32 t ∧ in32 pk ∧ in32 oc ∧ (∀ b ∈ bl, b.ok) ∧ bl.length ≤ m
  | .receiver ss bl => in32 ss ∧ (∀ b ∈ bl, b.ok) ∧ bl.length ≤ m
  | .sdes ch => (∀ c ∈ ch, in32 c.1 ∧ c.2.length ≤ m ∧ ∀ x ∈ c.2, in8 x.1 ∧ x.2.size ≤ m) ∧ ch.length ≤ m
  | .bye ss rs => (∀ x ∈ ss, in32 x) ∧ ss.length ≤ m ∧ rs.size ≤ m
  | .nack fm to ps => in32 fm ∧ in32 to ∧ (∀ x ∈ ps, in16 x.1 ∧ in16 x.2) ∧ ps.length ≤ m
  | .pli fm to => in32 fm ∧ in32 to
  | .fir fm os => in32 fm ∧ (∀ x ∈ os, in32 x.1 ∧ in8 x.2) ∧ os.length ≤ m
  | .remb fm rt ss => in32 fm ∧ in64 rt ∧ (∀ x ∈ ss, in32 x) ∧ ss.length ≤ m
  | .other kd ct bd => in8 kd ∧ in8 ct ∧ bd.size ≤ m
/-- packets in a slice: interface values -/
def PksV (R : List Ro) (l : List Pkt) (vs : List Value) : Prop := vs.length = l.length ∧ ∀ (i : Nat) p, l[i]? = some p → ∃ v, vs[i]? = some v ∧ PkV R p v
def one1 (vs : List Value) : List (List Value) := vs.map fun v => [v]
theorem one1_at {vs : List Value} {i : Nat} {v : Value} (h : vs[i]? = some v) : (one1 vs)[i]? = some [v] := by simp [one1, h]
theorem one1_len (vs : List Value) : (one1 vs).length = vs.length := by simp [one1]
theorem one1_app (a b : List Value) : one1 (a ++ b) = one1 a ++ one1 b := by simp [one1]
theorem PksV.mono {R R' : List Ro} (hR : ∀ r ∈ R, r ∈ R') {l : List Pkt} {vs : List Value} (h : PksV R l vs) : PksV R' l vs :=
  ⟨h.1, fun i p hp => by obtain ⟨v, h1, h2⟩ := h.2 i p hp; exact ⟨v, h1, h2.mono hR⟩⟩
theorem PksV.nil (R : List Ro) : PksV R [] [] := ⟨rfl, fun i p h => by simp at h⟩
theorem PksV.snoc {R : List Ro} {l : List Pkt} {vs : List Value} {p : Pkt} {v : Value} (h : PksV R l vs) (hp : PkV R p v) : PksV R (l ++ [p]) (vs ++ [v]) := by
  refine ⟨by simp [h.1], fun i q hq => ?_⟩
  by_cases hi : i < l.length
  · rw [List.getElem?_append_left hi] at hq
    obtain ⟨u, h1, h2⟩ := h.2 i q hq
    exact ⟨u, by rw [List.getElem?_append_left (by rw [h.1]; exact hi)]; exact h1, h2⟩
  · rw [List.getElem?_append_right (by omega)] at hq
    have : i - l.length = 0 := by
      rcases Nat.eq_zero_or_pos (i - l.length) with h0 | h0
      · exact h0
      · rw [List.getElem?_eq_none (by simp; omega)] at hq; cases hq
    rw [this] at hq
    simp only [List.getElem?_cons_zero, Option.some.injEq] at hq
    subst hq
    exact ⟨v, by rw [List.getElem?_append_right (by rw [h.1]; omega), h.1, this]; rfl, hp⟩
end Go.Proofs.Ytlhlidmhlhodiaa

/-
  Package rtcp: Text, by what each packet writes; Pli and Nack.
-/
namespace Go.Proofs.Ytlhlidmhlhodiaa
set_option linter.unusedSimpArgs false
set_option linter.unusedVariables false
open Go.RowKit
attribute [local irreducible] Pv WO WC Fn
set_option maxRecDepth 100000
attribute [local irreducible] ByteArray.extract

def HdC (v : Value) (kd ct : Int) : Prop := ∃ T w f, v = .iface T w ∧ TInv Try.prog T "Head" f ∧ HasBody Try.prog f ∧ Fn Try.prog f #[w] [] [] (fun u L' R' => u = .tuple #[.int .u8 kd, .int .u8 ct] ∧ L' = [] ∧ R' = [])
def PtC (R : List Ro) (v : Value) (tx : ByteArray) : Prop := ∀ g, Fn Try.prog 88 #[.pointer (some ⟨g, 0, none⟩), v] (wrH g none none 0 E0) R (fun u L' R' => ∃ p ao c, u = .tuple #[] ∧ L' = wrH g p ao c tx ∧ R' = [] ∧ WOk g p ao c tx)
theorem wo_head {N : Nat} {E : Env} {fr : List (Nat × Value)} {hp : List It} {ro : List Ro} {x : Operand} {v : Value} {kd ct : Int} {Kn : St → Prop} {ops : Array Oper} {rest : List Oper} {dst : Option Tmp} {ty : TypeId} {pos : String} {af : Array Edge} {ats : Array TypeId}
    (hx : opd fr x = some v) (hH : HdC v kd ct) (hd : dstOk dst N = true) (h : WO Try.prog N E ops rest ⟨putF dst (.tuple #[.int .u8 kd, .int .u8 ct]) fr, hp, ro⟩ Kn) :
    WO Try.prog N E ops (⟨dst, .call ⟨.invoke x "Head", #[], ats⟩, ty, pos, af, none⟩ :: rest) ⟨fr, hp, ro⟩ Kn := by
  obtain ⟨T, w, f, rfl, hT, hB, hF⟩ := hH
  haveI := hB
  refine wo_inv (l := []) (vs := []) (F := hp) hx hT hF rfl (.refl _) (fun r hr => by cases hr) hd ?_
  rintro v L' R' ⟨rfl, rfl, rfl⟩ H hH RR hR
  subst hH
  subst hR
  exact h
theorem zb_pad (s : ByteArray) : (s ++ zb (padJ s.size 4)).size % 4 = 0 := by
  rw [ByteArray.size_append, zb_size]; exact padJ_eq _ (by omega)
/-- a text, filled up to words of four bytes -/
def pad4 (s : ByteArray) : ByteArray := s ++ zb (padJ s.size 4)
theorem pad4_size (s : ByteArray) : (pad4 s).size ≤ s.size + 3 := by
  unfold pad4
  rw [ByteArray.size_append, zb_size]
  have := padJ_lt s.size (T := 4) (by omega)
  omega
theorem pad4_mod (s : ByteArray) : (pad4 s).size % 4 = 0 := zb_pad s
theorem pad4_id {s : ByteArray} (h : s.size % 4 = 0) : pad4 s = s := by
  unfold pad4 padJ
  rw [h]
  show s ++ E0 = s
  exact append_E0 s
def hd4 (kd ct : Int) (n : Nat) : ByteArray := b1 (128 + ct % 32) ++ b1 kd ++ numS 2 ((n / 4 : Nat) : Int)
/-- a packet's bytes -/
def one4 (x : Int × Int × ByteArray) : ByteArray := hd4 x.1 x.2.1 (pad4 x.2.2).size ++ pad4 x.2.2
def all4 : List (Int × Int × ByteArray) → ByteArray
  | [] => E0
  | x :: l => one4 x ++ all4 l
theorem all4_app : ∀ a b, all4 (a ++ b) = all4 a ++ all4 b
  | [], b => (E0_append _).symm
  | x :: a, b => by
    show one4 x ++ all4 (a ++ b) = (one4 x ++ all4 a) ++ all4 b
    rw [all4_app a b, ByteArray.append_assoc]
theorem all4_take {l : List (Int × Int × ByteArray)} {j : Nat} {x : Int × Int × ByteArray} (h : l[j]? = some x) : all4 (l.take (j + 1)) = all4 (l.take j) ++ one4 x := by
  rw [List.take_add_one, h, all4_app]
  show all4 (l.take j) ++ (one4 x ++ E0) = _
  rw [append_E0]
theorem one4_size (x : Int × Int × ByteArray) : (one4 x).size = 4 + (pad4 x.2.2).size := by
  unfold one4 hd4
  simp only [ByteArray.size_append, b1_size, numS_size]
theorem all4_size : ∀ {l : List (Int × Int × ByteArray)} {m : Nat}, (∀ x ∈ l, x.2.2.size ≤ m) → (all4 l).size ≤ (m + 7) * l.length
  | [], m, _ => Nat.le_refl _
  | x :: l, m, h => by
    have h1 := h x (.head _)
    have h2 := all4_size (fun y hy => h y (.tail _ hy))
    have h3 := one4_size x
    have h4 := pad4_size x.2.2
    show (one4 x ++ all4 l).size ≤ _
    rw [ByteArray.size_append, List.length_cons, Nat.mul_add]; omega
theorem or_128 {a : Int} : 0 ≤ a ∧ a ≤ 255 → bits .or .u8 128 (bits .and .u8 a 31) = 128 + a % 32 := u8_all (p := fun a => bits .or .u8 128 (bits .and .u8 a 31) = 128 + a % 32) (by decide +kernel)
theorem brows_two' {x y : Int} (hx : 0 ≤ x ∧ x ≤ 255) (hy : 0 ≤ y ∧ y ≤ 255) : [[Value.int .u8 x], [.int .u8 y]] = brows (b1 x ++ b1 y) := by
  have e1 := b1_rows hx
  have e2 := b1_rows hy
  have : brows (b1 x ++ b1 y) = brows (b1 x) ++ brows (b1 y) := by simp [brows]
  rw [this, e1, e2]; rfl
set_option maxHeartbeats 16000000 in
theorem tText (l : List (Int × Int × ByteArray)) (vs : List Value) (A : Option Addr) (n c : Nat) (R : List Ro) (hS : SQ R 1 A n c (one1 vs)) (hn : vs.length = l.length) (hl : l.length ≤ 1000) (hz : ∀ x ∈ l, x.2.2.size ≤ 200000) (hr : ∀ x ∈ l, in8 x.1 ∧ in8 x.2.1)
    (hH : ∀ (i : Nat) x v, l[i]? = some x → vs[i]? = some v → HdC v x.1 x.2.1 ∧ PtC R v x.2.2) :
    Fn Try.prog 36 #[.slice A n c] [] R (fun v L' R' => v = .string (all4 l) ∧ L' = [] ∧ R' = []) := by
  have hnl : n = l.length := by rw [← hS.len, one1_len, hn]
  subst hnl
  refine fn_intro Try.func36 rfl Try.ntmps36 rfl (fun E => ?_)
  (repeat (first | ((first | (apply wo_v; rfl) ); (· first | (apply pv_ev; rfl) | (apply g_bi; first | (apply pv_len_sl; rfl) ) )) | apply wo_nil | apply wc_seq | apply wc_region | (apply wo_alloc; rfl; intro bx) ))
  obtain ⟨go, hgo⟩ : ∃ g, g = bx := ⟨_, rfl⟩
  subst hgo
  refine wc_own0 5 1 ?_
  refine wc_join0 (fun st => ∃ p ao c', st = ⟨[(3, .pointer (some ⟨go, 0, none⟩))], wrH go p ao c' (all4 l), R⟩ ∧ WOk go p ao c' (all4 l)) ?_ ?_
  · refine wc_block ?_
    refine wc_loop' (fun q st => ∃ (i : Nat) (p ao : Option Addr) (c' : Nat) (s : ByteArray), q = l.length - i ∧ i ≤ l.length ∧ s = all4 (l.take i) ∧ WOk go p ao c' s ∧ st = ⟨[(3, .pointer (some ⟨go, 0, none⟩)), (9, .slice A l.length c), (10, .int .i64 l.length), (11, .int .i64 i)], wrH go p ao c' s, R⟩) ⟨0, none, none, 0, E0, rfl, Nat.zero_le _, rfl, ⟨.inl rfl, .inl ⟨rfl, rfl, rfl⟩⟩, rfl⟩ (wk_mk (by (repeat (first | apply wkf_nil | (apply wkf_cons; rfl))); done) (by (repeat (first | apply sub_nil | (apply sub_cons; (· (repeat (first | apply sel_here | apply sel_there)))))); done) (by first | exact fun _ h => h | (intro r hr; cases hr; done) | (simp; done) | exact fun _ h => List.mem_append_left _ h | (intro r hr; simp [hr]; done))) ?_
    rintro q st ⟨i, p, ao, c', s, rfl, hi, hs, hw, rfl⟩
    by_cases hlt : i < l.length
    · obtain ⟨x, hx⟩ : ∃ x, l[i]? = some x := ⟨_, List.getElem?_eq_getElem hlt⟩
      obtain ⟨v, hv⟩ : ∃ v, vs[i]? = some v := ⟨_, List.getElem?_eq_getElem (by omega)⟩
      obtain ⟨hHd, hPt⟩ := hH i x v hx hv
      have hrow := one1_at hv
      have hxm := List.mem_of_getElem? hx
      have hxz := hz x hxm
      obtain ⟨hk, hc⟩ := hr x hxm
      have hnx := all4_take hx
      rw [← hs] at hnx
      have hsz : s.size ≤ 200007 * i := by
        have := all4_size (l := l.take i) (m := 200000) (fun y hy => hz y (List.mem_of_mem_take hy))
        rw [← hs, List.length_take] at this
        have h2 : (200000 + 7) * min i l.length ≤ 200007 * i := Nat.mul_le_mul_left _ (by omega)
        omega
      obtain ⟨kd, ct, tx⟩ := x
      dsimp only at hHd hPt hxz hk hc hnx
      obtain ⟨a0, o0, rfl, hmem⟩ := hS.pos (by omega)
      (repeat (first | ((first | (apply wo_v; rfl) ); (· first | (apply pv_ev; rfl) )) | apply wo_nil | apply wc_seq | apply wc_region | apply wc_skip | (apply wc_true; rfl) | (apply wc_false; rfl) | (apply a_dec_t; rfl; (· first | assumption | omega)) ))
      refine wc_block ?_
      (repeat (first | ((first | (apply wo_v; rfl) ); (· first | (apply pv_ev; rfl) | (apply g_load; first | (apply pv_ld; rfl; (· (repeat (first | apply sel_there))); rfl) | (apply pv_ld_ownf; rfl; (· (repeat (first | fail ))); (· assumption); rfl) | (apply pv_ld_own1; rfl; (· (repeat (first | apply sel_there))); (· assumption)) | (apply pv_ld_rof; rfl; (· (first | assumption )); (· assumption); rfl) | (apply pv_ld_ro1; rfl; (· (first | assumption )); (· assumption)) ) | (apply g_idx; first | (apply pv_idx; rfl; rfl; omega) ) )) | apply wo_nil | apply wc_seq | apply wc_region ))
      refine wo_head rfl hHd rfl ?_
      (repeat (first | ((first | (apply wo_v; rfl) ); (· first | (apply pv_ev; rfl) )) | apply wo_nil | apply wc_seq | apply wc_region | (apply wo_alloc; rfl; intro bx) ))
      obtain ⟨gw, hgw⟩ : ∃ g, g = bx := ⟨_, rfl⟩
      subst hgw
      refine wo_own0 5 1 ?_
      (refine wo_call (hPt gw) rfl (by (repeat (first | apply sub_nil | (apply sub_cons; (· (repeat (first | apply sel_here | apply sel_there)))))); done) (by first | exact fun _ h => h | (intro r hr; cases hr; done) | (simp; done) | exact fun _ h => List.mem_append_left _ h | (intro r hr; simp [hr]; done)) rfl ?_; rintro v L' R' ⟨p1, ao1, c1, rfl, rfl, rfl, hw1⟩ H' hH RR hR; simp only [List.cons_append, List.nil_append] at hH hR; subst hH; have hR := hR.symm; subst hR)
      (repeat (first | ((first | (apply wo_v; rfl) ); (· first | (apply pv_ev; rfl) )) | apply wo_nil | apply wc_seq | apply wc_region ))
      have hpad := wPad gw c1 p1 ao1 tx 4 4 rfl (by omega) hw1 (by omega)
      rw [show tx ++ zb (padJ tx.size 4) = pad4 tx from rfl] at hpad
      have hpz := pad4_size tx
      rw [show one4 (kd, ct, tx) = hd4 kd ct (pad4 tx).size ++ pad4 tx from rfl] at hnx
      generalize pad4 tx = px at hpad hpz hnx
      (refine wo_call (hpad) rfl (by (repeat (first | apply sub_nil )); done) (by first | exact fun _ h => h | (intro r hr; cases hr; done) | (simp; done) | exact fun _ h => List.mem_append_left _ h | (intro r hr; simp [hr]; done)) rfl ?_; rintro v L' R' ⟨p2, ao2, c2, rfl, rfl, rfl, hw2⟩ H' hH RR hR; simp only [List.cons_append, List.nil_append] at hH hR; subst hH; have hR := hR.symm; subst hR)
      (repeat (first | ((first | (apply wo_v; rfl) ); (· first | (apply pv_ev; rfl) | (apply g_bin; first | (apply pv_and; rfl; rfl) | (apply (a_or 4); rfl; rfl; infer_instance; rfl; omega) | (apply (a_or 5); rfl; rfl; infer_instance; rfl; omega) | (apply (a_or 6); rfl; rfl; infer_instance; rfl; omega) | (apply (a_or 7); rfl; rfl; infer_instance; rfl; omega) | (apply (a_or 8); rfl; rfl; infer_instance; rfl; omega) | (apply (a_or 16); rfl; rfl; infer_instance; rfl; omega) | (apply (a_or 24); rfl; rfl; infer_instance; rfl; omega) | (apply (a_or 32); rfl; rfl; infer_instance; rfl; omega) | (apply pv_or; rfl; rfl) ) )) | apply wo_nil | apply wc_region | (apply wo_bsl; (· (repeat (first | apply Rws'.nil | (apply Rws'.one; rfl; rfl; rfl) ))); rfl; rfl; rfl; rfl; intro bx) ))
      have hct := or_128 hc
      have hk0 : 0 ≤ 128 + ct % 32 ∧ 128 + ct % 32 ≤ 255 := by omega
      have z1 : (b1 (128 + ct % 32) ++ b1 kd).size = 2 := by rw [ByteArray.size_append, b1_size, b1_size]
      rw [hct, brows_two' hk0 hk]
      have hW1 := fun bl => wU8 go c' bl 2 p ao s (b1 (128 + ct % 32) ++ b1 kd) hw (by rw [z1]; omega) (by rw [z1]; omega)
      simp only [z1] at hW1
      obtain ⟨s1, hs1⟩ : ∃ s1, s ++ (b1 (128 + ct % 32) ++ b1 kd) = s1 := ⟨_, rfl⟩
      have zs1 : s1.size = s.size + 2 := by rw [← hs1, ByteArray.size_append, z1]
      rw [hs1] at hW1
      (refine wo_call (hW1 _) rfl (by (repeat (first | apply sub_nil | (apply sub_cons; (· (repeat (first | apply sel_here | apply sel_there)))))); done) (by first | exact fun _ h => h | (intro r hr; cases hr; done) | (simp; done) | exact fun _ h => List.mem_append_left _ h | (intro r hr; simp [hr]; done)) rfl ?_; rintro v L' R' ⟨p3, ao3, c3, rfl, rfl, rfl, hw3⟩ H' hH RR hR; simp only [List.cons_append, List.nil_append] at hH hR; subst hH; have hR := hR.symm; subst hR)
      (repeat (first | ((first | (apply wo_v; rfl) ); (· first | (apply pv_ev; rfl) )) ))
      (refine wo_call (wLen gw c2 p2 ao2 px.size) rfl (by (repeat (first | apply sub_nil | (apply sub_cons; (· (repeat (first | apply sel_here | apply sel_there)))))); done) (by first | exact fun _ h => h | (intro r hr; cases hr; done) | (simp; done) | exact fun _ h => List.mem_append_left _ h | (intro r hr; simp [hr]; done)) rfl ?_; rintro v L' R' ⟨rfl, rfl, rfl⟩ H' hH RR hR; simp only [List.cons_append, List.nil_append] at hH hR; subst hH; have hR := hR.symm; subst hR)
      have ed : ((px.size / 4 : Nat) : Int) = (px.size : Int) / 4 := by omega
      have hW2 := fun bl => wU16 go c3 bl 1 p3 ao3 s1 [(px.size : Int) / 4] (by intro y hy; rcases List.mem_singleton.1 hy with rfl; omega) (by simp) hw3 (by omega)
      rw [numsS_one, ← ed] at hW2
      obtain ⟨s2, hs2⟩ : ∃ s2, s1 ++ numS 2 ((px.size / 4 : Nat) : Int) = s2 := ⟨_, rfl⟩
      have zs2 : s2.size = s.size + 4 := by rw [← hs2, ByteArray.size_append, numS_size, zs1]
      rw [hs2] at hW2
      (repeat (first | ((first | (apply wo_v; rfl) ); (· first | (apply pv_ev; rfl) | (apply g_bin; first | (apply a_quo; rfl; rfl; infer_instance; omega) ) | (apply g_conv; first | (apply a_conv; rfl; infer_instance; infer_instance; infer_instance; omega) ) )) | (apply wo_bsl; (· (repeat (first | apply Rws'.nil | (apply Rws'.one; rfl; rfl; rfl) ))); rfl; rfl; rfl; rfl; intro bx) ))
      rw [← ed]
      (refine wo_call (hW2 _) rfl (by (repeat (first | apply sub_nil | (apply sub_cons; (· (repeat (first | apply sel_here | apply sel_there)))))); done) (by first | exact fun _ h => h | (intro r hr; cases hr; done) | (simp; done) | exact fun _ h => List.mem_append_left _ h | (intro r hr; simp [hr]; done)) rfl ?_; rintro v L' R' ⟨p4, ao4, c4, rfl, rfl, rfl, hw4⟩ H' hH RR hR; simp only [List.cons_append, List.nil_append] at hH hR; subst hH; have hR := hR.symm; subst hR)
      (repeat (first | ((first | (apply wo_v; rfl) ); (· first | (apply pv_ev; rfl) )) ))
      (refine wo_call (wText gw c2 p2 ao2 px hw2) rfl (by (repeat (first | apply sub_nil | (apply sub_cons; (· (repeat (first | apply sel_here | apply sel_there)))))); done) (by first | exact fun _ h => h | (intro r hr; cases hr; done) | (simp; done) | exact fun _ h => List.mem_append_left _ h | (intro r hr; simp [hr]; done)) rfl ?_; rintro v L' R' ⟨rfl, rfl, rfl⟩ H' hH RR hR; simp only [List.cons_append, List.nil_append] at hH hR; subst hH; have hR := hR.symm; subst hR)
      (repeat (first | ((first | (apply wo_v; rfl) ); (· first | (apply pv_ev; rfl) )) | (apply wo_bsl; (· (repeat (first | apply Rws'.nil | (apply Rws'.one; rfl; rfl; rfl) ))); rfl; rfl; rfl; rfl; intro bx) ))
      have hW3 := fun bl => wPut go c4 bl 1 p4 ao4 s2 [px] (by intro y hy; rcases List.mem_singleton.1 hy with rfl; omega) (by simp) hw4 (by omega)
      rw [show catS [px] = px from append_E0 px] at hW3
      have hfin : s2 ++ px = all4 (l.take (i + 1)) := by
        rw [hnx, ← hs2, ← hs1]
        unfold hd4
        simp only [ByteArray.append_assoc]
      rw [hfin] at hW3
      (refine wo_call (hW3 _) rfl (by (repeat (first | apply sub_nil | (apply sub_cons; (· (repeat (first | apply sel_here | apply sel_there)))))); done) (by first | exact fun _ h => h | (intro r hr; cases hr; done) | (simp; done) | exact fun _ h => List.mem_append_left _ h | (intro r hr; simp [hr]; done)) rfl ?_; rintro v L' R' ⟨p5, ao5, c5, rfl, rfl, rfl, hw5⟩ H' hH RR hR; simp only [List.cons_append, List.nil_append] at hH hR; subst hH; have hR := hR.symm; subst hR)
      (repeat (first | ((first | (apply wo_v; rfl) ); (· first | (apply pv_ev; rfl) | (apply g_bin; first | (apply a_add; rfl; rfl; infer_instance; omega) ) )) | apply wo_nil | apply wc_region ))
      exact loop_end ⟨i + 1, p5, ao5, c5, _, rfl, by omega, rfl, hw5, rfl⟩ (by omega) (wk_mk (by (repeat (first | apply wkf_nil | (apply wkf_cons; rfl))); done) (by (repeat (first | apply sub_nil )); done) (by first | exact fun _ h => h | (intro r hr; cases hr; done) | (simp; done) | exact fun _ h => List.mem_append_left _ h | (intro r hr; simp [hr]; done)))
    · have e : i = l.length := by omega
      subst e
      rw [List.take_length] at hs
      subst hs
      (repeat (first | ((first | (apply wo_v; rfl) ); (· first | (apply pv_ev; rfl) )) | apply wo_nil | apply wc_seq | apply wc_region | (apply wc_exit; rfl) | (apply wc_true; rfl) | (apply wc_false; rfl) | (apply a_dec_t; rfl; (· first | assumption | omega)) | (apply a_dec_f; rfl; (· first | assumption | omega)) ))
      exact cut_end ⟨p, ao, c', rfl, hw⟩ (wk_mk (by (repeat (first | apply wkf_nil | (apply wkf_cons; rfl))); done) (by (repeat (first | apply sub_nil )); done) (by first | exact fun _ h => h | (intro r hr; cases hr; done) | (simp; done) | exact fun _ h => List.mem_append_left _ h | (intro r hr; simp [hr]; done)))
  rintro st ⟨p, ao, c', rfl, hw⟩
  (repeat (first | ((first | (apply wo_v; rfl) ); (· first | (apply pv_ev; rfl) )) | apply wc_seq | apply wc_region ))
  (refine wo_call (wText go c' p ao _ hw) rfl (by (repeat (first | apply sub_nil )); done) (by first | exact fun _ h => h | (intro r hr; cases hr; done) | (simp; done) | exact fun _ h => List.mem_append_left _ h | (intro r hr; simp [hr]; done)) rfl ?_; rintro v L' R' ⟨rfl, rfl, rfl⟩ H' hH RR hR; simp only [List.cons_append, List.nil_append] at hH hR; subst hH; have hR := hR.symm; subst hR)
  (repeat (first | ((first | (apply wo_v; rfl) ); (· first | (apply pv_ev; rfl) )) | apply wo_nil | apply wc_ret ))
  exact ret1 rfl rfl ⟨rfl, rfl, rfl⟩ ((by (repeat (first | apply sub_nil )); done) : List.Perm _ ([] ++ _)) (by first | exact fun _ h => h | (intro r hr; cases hr; done) | (simp; done) | exact fun _ h => List.mem_append_left _ h | (intro r hr; simp [hr]; done))
/-! ## Pli and Nack -/
theorem hPli (f0 to : Int) : Fn Try.prog 221 #[.agg #[.int .u32 f0, .int .u32 to]] [] [] (fun u L' R' => u = .tuple #[.int .u8 206, .int .u8 1] ∧ L' = [] ∧ R' = []) := by
  refine fn_intro Try.func221 rfl Try.ntmps221 rfl (fun E => ?_)
  (repeat (first | ((first | (apply wo_v; rfl) ); (· first | (apply pv_ev; rfl) )) | apply wo_nil | apply wc_seq | apply wc_region | apply wc_ret | (apply wo_box1; rfl; rfl; rfl; intro bx) | (apply wo_boxa; rfl; rfl; intro bx) ))
  exact retv rfl (by (repeat (first | apply RV.nil | (apply RV.tmp; rfl) )); done) (⟨rfl, rfl, rfl⟩) (by (repeat (first | apply sub_nil )); done) (by first | exact fun _ h => h | (intro r hr; cases hr; done) | (simp; done) | exact fun _ h => List.mem_append_left _ h | (intro r hr; simp [hr]; done))
theorem hNack (f0 to : Int) (w : Value) (hw : w.oneCell' = true) : Fn Try.prog 219 #[.agg #[.int .u32 f0, .int .u32 to, w]] [] [] (fun u L' R' => u = .tuple #[.int .u8 205, .int .u8 1] ∧ L' = [] ∧ R' = []) := by
  refine fn_intro Try.func219 rfl Try.ntmps219 rfl (fun E => ?_)
  (repeat (first | ((first | (apply wo_v; rfl) ); (· first | (apply pv_ev; rfl) )) | apply wo_nil | apply wc_seq | apply wc_region | apply wc_ret | (apply wo_box1; rfl; rfl; rfl; intro bx) | (apply wo_boxa; rfl; rfl; intro bx) ))
  exact retv rfl (by (repeat (first | apply RV.nil | (apply RV.tmp; rfl) )); done) (⟨rfl, rfl, rfl⟩) (by (repeat (first | apply sub_nil )); done) (by first | exact fun _ h => h | (intro r hr; cases hr; done) | (simp; done) | exact fun _ h => List.mem_append_left _ h | (intro r hr; simp [hr]; done))
abbrev PtF (f : FuncId) (R : List Ro) (g : Nat) (w : Value) (tx : ByteArray) : Prop := Fn Try.prog f #[w, .pointer (some ⟨g, 0, none⟩)] (wrH g none none 0 E0) R (fun u L' R' => ∃ p ao c, u = .tuple #[] ∧ L' = wrH g p ao c tx ∧ R' = [] ∧ WOk g p ao c tx)
theorem w0 (g : Nat) : WOk g none none 0 E0 := ⟨.inl rfl, .inl ⟨rfl, rfl, rfl⟩⟩
theorem pPli (R : List Ro) (g : Nat) (f0 to : Int) (h1 : in32 f0) (h2 : in32 to) : PtF 222 R g (.agg #[.int .u32 f0, .int .u32 to]) (numsS 4 [f0, to]) := by
  have hW := fun bl => wU32 g 0 bl 2 none none E0 [f0, to] (by intro y hy; simp only [List.mem_cons, List.not_mem_nil, or_false] at hy; rcases hy with rfl | rfl; exact h1; exact h2) (by simp) (w0 g) (by decide)
  rw [E0_append] at hW
  refine fn_intro Try.func222 rfl Try.ntmps222 rfl (fun E => ?_)
  (repeat (first | ((first | (apply wo_v; rfl) ); (· first | (apply pv_ev; rfl) | (apply pv_fld; rfl) | (apply g_load; first | (apply pv_ld; rfl; (· (repeat (first | apply sel_here ))); rfl) ) )) | apply wo_nil | apply wc_seq | apply wc_region | (apply wo_box1; rfl; rfl; rfl; intro bx) | (apply wo_boxa; rfl; rfl; intro bx) | (apply wo_bsl; (· (repeat (first | apply Rws'.nil | (apply Rws'.one; rfl; rfl; rfl) ))); rfl; rfl; rfl; rfl; intro bx) ))
  (refine wo_call (hW _) rfl (by (repeat (first | apply sub_nil | (apply sub_cons; (· (repeat (first | apply sel_here | apply sel_there)))))); done) (by first | exact fun _ h => h | (intro r hr; cases hr; done) | (simp; done) | exact fun _ h => List.mem_append_left _ h | (intro r hr; simp [hr]; done)) rfl ?_; rintro v L' R' ⟨p5, ao5, c5, rfl, rfl, rfl, hw5⟩ H' hH RR hR; simp only [List.cons_append, List.nil_append] at hH hR; subst hH; have hR := hR.symm; subst hR)
  (repeat (first | apply wo_nil ))
  exact ret0 rfl ⟨p5, ao5, c5, rfl, rfl, rfl, hw5⟩ (by (repeat (first | apply sub_nil )); done) (by first | exact fun _ h => h | (intro r hr; cases hr; done) | (simp; done) | exact fun _ h => List.mem_append_left _ h | (intro r hr; simp [hr]; done))
def prsT : List (Int × Int) → ByteArray
  | [] => E0
  | x :: l => numsS 2 [x.1, x.2] ++ prsT l
theorem prsT_app : ∀ a b, prsT (a ++ b) = prsT a ++ prsT b
  | [], b => (E0_append _).symm
  | x :: a, b => by
    show numsS 2 [x.1, x.2] ++ prsT (a ++ b) = (numsS 2 [x.1, x.2] ++ prsT a) ++ prsT b
    rw [prsT_app a b, ByteArray.append_assoc]
theorem prsT_take {l : List (Int × Int)} {j : Nat} {x : Int × Int} (h : l[j]? = some x) : prsT (l.take (j + 1)) = prsT (l.take j) ++ numsS 2 [x.1, x.2] := by
  rw [List.take_add_one, h, prsT_app]
  show prsT (l.take j) ++ (numsS 2 [x.1, x.2] ++ E0) = _
  rw [append_E0]
theorem prsT_size : ∀ l : List (Int × Int), (prsT l).size = 4 * l.length
  | [] => rfl
  | x :: l => by
    show (numsS 2 [x.1, x.2] ++ prsT l).size = _
    simp only [ByteArray.size_append, prsT_size l, numsS_size, List.length_cons, List.length_nil]; omega
set_option maxHeartbeats 8000000 in
theorem pNack (R : List Ro) (g : Nat) (f0 to : Int) (l : List (Int × Int)) (A : Option Addr) (n c : Nat) (hS : SQ R 2 A n c (pairV l)) (hl : l.length ≤ 10000) (h1 : in32 f0) (h2 : in32 to) (hb : ∀ x ∈ l, in16 x.1 ∧ in16 x.2) :
    PtF 220 R g (.agg #[.int .u32 f0, .int .u32 to, .slice A n c]) (numsS 4 [f0, to] ++ prsT l) := by
  have hn : n = l.length := by rw [← hS.len, pairV_len]
  subst hn
  have hW := fun bl => wU32 g 0 bl 2 none none E0 [f0, to] (by intro y hy; simp only [List.mem_cons, List.not_mem_nil, or_false] at hy; rcases hy with rfl | rfl; exact h1; exact h2) (by simp) (w0 g) (by decide)
  rw [E0_append] at hW
  have zh : (numsS 4 [f0, to]).size = 8 := by rw [numsS_size]; rfl
  generalize numsS 4 [f0, to] = th at hW zh
  refine fn_intro Try.func220 rfl Try.ntmps220 rfl (fun E => ?_)
  (repeat (first | ((first | (apply wo_v; rfl) ); (· first | (apply pv_ev; rfl) | (apply pv_fld; rfl) | (apply g_load; first | (apply pv_ld; rfl; (· (repeat (first | apply sel_here ))); rfl) ) )) | apply wo_nil | apply wc_seq | apply wc_region | (apply wo_box1; rfl; rfl; rfl; intro bx) | (apply wo_boxa; rfl; rfl; intro bx) | (apply wo_bsl; (· (repeat (first | apply Rws'.nil | (apply Rws'.one; rfl; rfl; rfl) ))); rfl; rfl; rfl; rfl; intro bx) ))
  (refine wo_call (hW _) rfl (by (repeat (first | apply sub_nil | (apply sub_cons; (· (repeat (first | apply sel_here | apply sel_there)))))); done) (by first | exact fun _ h => h | (intro r hr; cases hr; done) | (simp; done) | exact fun _ h => List.mem_append_left _ h | (intro r hr; simp [hr]; done)) rfl ?_; rintro v L' R' ⟨p5, ao5, c5, rfl, rfl, rfl, hw5⟩ H' hH RR hR; simp only [List.cons_append, List.nil_append] at hH hR; subst hH; have hR := hR.symm; subst hR)
  (repeat (first | ((first | (apply wo_v; rfl) ); (· first | (apply pv_ev; rfl) | (apply pv_fld; rfl) | (apply g_load; first | (apply pv_ld; rfl; (· (repeat (first | apply sel_here | apply sel_there))); rfl) ) | (apply g_bi; first | (apply pv_len_sl; rfl) ) )) | apply wo_nil | apply wc_seq | apply wc_region ))
  refine wc_block ?_
  refine wc_loop' (fun q st => ∃ (i : Nat) (p ao : Option Addr) (c' : Nat) (s : ByteArray), q = l.length - i ∧ i ≤ l.length ∧ s = th ++ prsT (l.take i) ∧ WOk g p ao c' s ∧ st = ⟨[(1, .pointer (some ⟨g, 0, none⟩)), (14, .slice A l.length c), (15, .int .i64 l.length), (16, .int .i64 i)], wrH g p ao c' s, R⟩) ⟨0, p5, ao5, c5, th, rfl, Nat.zero_le _, (append_E0 _).symm, hw5, rfl⟩ (wk_mk (by (repeat (first | apply wkf_nil | (apply wkf_cons; rfl))); done) (by (repeat (first | apply sub_nil )); done) (by first | exact fun _ h => h | (intro r hr; cases hr; done) | (simp; done) | exact fun _ h => List.mem_append_left _ h | (intro r hr; simp [hr]; done))) ?_
  clear hw5 hW p5 ao5 c5
  rintro q st ⟨i, p, ao, c', s, rfl, hi, hs, hw, rfl⟩
  by_cases hlt : i < l.length
  · obtain ⟨x, hx⟩ : ∃ x, l[i]? = some x := ⟨_, List.getElem?_eq_getElem hlt⟩
    have hr := pairV_at hx
    obtain ⟨⟨x1, x2⟩, x3, x4⟩ := hb _ (List.mem_of_getElem? hx)
    have hnx := prsT_take hx
    have hsz := prsT_size (l.take i)
    obtain ⟨a, b⟩ := x
    dsimp only at hr x1 x2 x3 x4 hnx
    have hsz2 : s.size ≤ 8 + 4 * i := by rw [hs, ByteArray.size_append, zh, hsz, List.length_take]; omega
    have hnx2 : s ++ numsS 2 [a, b] = th ++ prsT (l.take (i + 1)) := by rw [hnx, hs, ByteArray.append_assoc]
    obtain ⟨a0, o0, rfl, hmem⟩ := hS.pos (by omega)
    have hW2 := fun bl => wU16 g c' bl 2 p ao s [a, b] (by intro y hy; simp only [List.mem_cons, List.not_mem_nil, or_false] at hy; rcases hy with rfl | rfl; exact ⟨x1, x2⟩; exact ⟨x3, x4⟩) (by simp) hw (by omega)
    rw [hnx2] at hW2
    (repeat (first | ((first | (apply wo_v; rfl) ); (· first | (apply pv_ev; rfl) )) | apply wo_nil | apply wc_seq | apply wc_region | apply wc_skip | (apply wc_true; rfl) | (apply wc_false; rfl) | (apply a_dec_t; rfl; (· first | assumption | omega)) ))
    refine wc_block ?_
    (repeat (first | ((first | (apply wo_v; rfl) ); (· first | (apply pv_ev; rfl) | (apply pv_fld; rfl) | (apply g_load; first | (apply pv_ld; rfl; (· (repeat (first | apply sel_here ))); rfl) | (apply pv_lda; rfl; (· (repeat (first | apply sel_there))); (· (repeat (first | fail )))) | (apply pv_ld_owna; rfl; (· (repeat (first | apply sel_there))); (· assumption)) | (apply pv_ld_roa; rfl; (· (first | assumption )); (· assumption))) | (apply g_idx; first | (apply pv_idx; rfl; rfl; omega) ) )) | apply wo_nil | apply wc_seq | apply wc_region | (apply wo_alloc; rfl; intro bx) | (apply wo_bsl; (· (repeat (first | apply Rws'.nil | (apply Rws'.one; rfl; rfl; rfl) ))); rfl; rfl; rfl; rfl; intro bx) | (apply wo_sta; rfl; rfl; rfl; rfl; (· (repeat (first | apply sel_here ))); (· (repeat (first | apply LayAt.nil | apply LayAt.here ))); rfl) ))
    (refine wo_call (hW2 _) rfl (by (repeat (first | apply sub_nil | (apply sub_cons; (· (repeat (first | apply sel_here | apply sel_there)))))); done) (by first | exact fun _ h => h | (intro r hr; cases hr; done) | (simp; done) | exact fun _ h => List.mem_append_left _ h | (intro r hr; simp [hr]; done)) rfl ?_; rintro v L' R' ⟨p6, ao6, c6, rfl, rfl, rfl, hw6⟩ H' hH RR hR; simp only [List.cons_append, List.nil_append] at hH hR; subst hH; have hR := hR.symm; subst hR)
    (repeat (first | ((first | (apply wo_v; rfl) ); (· first | (apply pv_ev; rfl) | (apply g_bin; first | (apply a_add; rfl; rfl; infer_instance; omega) ) )) | apply wo_nil | apply wc_region ))
    exact loop_end ⟨i + 1, p6, ao6, c6, _, rfl, by omega, rfl, hw6, rfl⟩ (by omega) (wk_mk (by (repeat (first | apply wkf_nil | (apply wkf_cons; rfl))); done) (by (repeat (first | apply sub_nil )); done) (by first | exact fun _ h => h | (intro r hr; cases hr; done) | (simp; done) | exact fun _ h => List.mem_append_left _ h | (intro r hr; simp [hr]; done)))
  · have e : i = l.length := by omega
    subst e
    rw [List.take_length] at hs
    subst hs
    (repeat (first | ((first | (apply wo_v; rfl) ); (· first | (apply pv_ev; rfl) )) | apply wo_nil | apply wc_seq | apply wc_region | (apply wc_exit; rfl) | (apply wc_true; rfl) | (apply wc_false; rfl) | (apply a_dec_t; rfl; (· first | assumption | omega)) | (apply a_dec_f; rfl; (· first | assumption | omega)) ))
    exact ret0 rfl ⟨p, ao, c', rfl, rfl, rfl, hw⟩ (by (repeat (first | apply sub_nil )); done) (by first | exact fun _ h => h | (intro r hr; cases hr; done) | (simp; done) | exact fun _ h => List.mem_append_left _ h | (intro r hr; simp [hr]; done))
/-- through the interface -/
theorem tPli (R : List Ro) (f0 to : Int) (h1 : in32 f0) (h2 : in32 to) : PtC R (.iface 77 (.agg #[.int .u32 f0, .int .u32 to])) (numsS 4 [f0, to]) := fun g => by
  refine fn_intro Try.func88 rfl Try.ntmps88 rfl (fun E => ?_)
  (repeat (first | ((first | (apply wo_v; rfl) ); (· first | (apply pv_ev; rfl) | (apply pv_tas; rfl; infer_instance) )) | apply wo_nil | apply wc_seq | apply wc_region | (apply wc_true; rfl) ))
  (refine wo_inv rfl inferInstance (pPli R g f0 to h1 h2) rfl (by (repeat (first | apply sub_nil )); done) (by first | exact fun _ h => h | (intro r hr; cases hr; done) | (simp; done) | exact fun _ h => List.mem_append_left _ h | (intro r hr; simp [hr]; done)) rfl ?_; rintro v L' R' ⟨p5, ao5, c5, rfl, rfl, rfl, hw5⟩ H' hH RR hR; simp only [List.cons_append, List.nil_append] at hH hR; subst hH; have hR := hR.symm; subst hR)
  (repeat (first | apply wo_nil ))
  exact ret0 rfl ⟨p5, ao5, c5, rfl, rfl, rfl, hw5⟩ (by (repeat (first | apply sub_nil )); done) (by first | exact fun _ h => h | (intro r hr; cases hr; done) | (simp; done) | exact fun _ h => List.mem_append_left _ h | (intro r hr; simp [hr]; done))
theorem tNack (R : List Ro) (f0 to : Int) (l : List (Int × Int)) (A : Option Addr) (n c : Nat) (hS : SQ R 2 A n c (pairV l)) (hl : l.length ≤ 10000) (h1 : in32 f0) (h2 : in32 to) (hb : ∀ x ∈ l, in16 x.1 ∧ in16 x.2) :
    PtC R (.iface 75 (.agg #[.int .u32 f0, .int .u32 to, .slice A n c])) (numsS 4 [f0, to] ++ prsT l) := fun g => by
  refine fn_intro Try.func88 rfl Try.ntmps88 rfl (fun E => ?_)
  (repeat (first | ((first | (apply wo_v; rfl) ); (· first | (apply pv_ev; rfl) | (apply pv_tas; rfl; infer_instance) )) | apply wo_nil | apply wc_seq | apply wc_region | (apply wc_true; rfl) ))
  (refine wo_inv rfl inferInstance (pNack R g f0 to l A n c hS hl h1 h2 hb) rfl (by (repeat (first | apply sub_nil )); done) (by first | exact fun _ h => h | (intro r hr; cases hr; done) | (simp; done) | exact fun _ h => List.mem_append_left _ h | (intro r hr; simp [hr]; done)) rfl ?_; rintro v L' R' ⟨p5, ao5, c5, rfl, rfl, rfl, hw5⟩ H' hH RR hR; simp only [List.cons_append, List.nil_append] at hH hR; subst hH; have hR := hR.symm; subst hR)
  (repeat (first | apply wo_nil ))
  exact ret0 rfl ⟨p5, ao5, c5, rfl, rfl, rfl, hw5⟩ (by (repeat (first | apply sub_nil )); done) (by first | exact fun _ h => h | (intro r hr; cases hr; done) | (simp; done) | exact fun _ h => List.mem_append_left _ h | (intro r hr; simp [hr]; done))
theorem dPli (f0 to : Int) : HdC (.iface 77 (.agg #[.int .u32 f0, .int .u32 to])) 206 1 := ⟨_, _, _, rfl, inferInstance, inferInstance, hPli f0 to⟩
theorem dNack (f0 to : Int) (A : Option Addr) (n c : Nat) : HdC (.iface 75 (.agg #[.int .u32 f0, .int .u32 to, .slice A n c])) 205 1 := ⟨_, _, _, rfl, inferInstance, inferInstance, hNack f0 to _ rfl⟩
end Go.Proofs.Ytlhlidmhlhodiaa

/-
  The laws through the layers: live.
-/
namespace Go.Proofs.Ytlhlidmhlhodiaa
set_option linter.unusedSimpArgs false
set_option linter.unusedVariables false
open Go.RowKit
attribute [local irreducible] Pv WO WC Fn
set_option maxRecDepth 100000
attribute [local irreducible] ByteArray.extract

theorem live1 : txt ⟨false, false, 0, -1, false, -1, -1, false, -1⟩ = ⟨#[0]⟩ := by decide
theorem live2 : all4 [(206, 1, numsS 4 [1, 2])] = ⟨#[129, 206, 0, 2, 0, 0, 0, 1, 0, 0, 0, 2]⟩ := by decide
theorem alive : Fn Try.prog 12 #[] [] [] (fun v L' R' => v = .bool true ∧ L' = [] ∧ R' = []) := by
  have hck : Ck ⟨false, 96, 1, 0, 0, [], false, 0, E0, ⟨#[120]⟩, 0⟩ := ⟨by decide, by decide, by decide, by decide, (fun _ => ⟨rfl, rfl⟩), by decide⟩
  have hokr : okR ⟨false, 96, 1, 0, 0, [], false, 0, E0, ⟨#[120]⟩, 0⟩ := ⟨by decide, by decide, by decide, by decide, by decide, (fun z hz => by cases hz)⟩
  have hx := prR_txP hokr hck
  have hz := txP_size hck
  have wT := gText false 96 1 0 0 [] false 0 E0 ⟨#[120]⟩ 0 none 0 0 [] (SQ.nil _ _ _ _) (by decide) (by decide) (by decide) (by decide) (by decide) (by decide) (by decide) (by decide) (by decide) (fun z hz => by cases hz)
  unfold txP at hx hz
  dsimp only at hx hz
  rw [show lenM ([] : List Int).length false E0 ⟨#[120]⟩ 0 = 13 by decide] at hz
  generalize txR false 96 1 0 0 [] false 0 E0 ⟨#[120]⟩ 0 = x at hx hz wT
  have wP := pParse x (by omega)
  rw [hx] at wP
  dsimp only [List.length_nil] at wP
  have wV := vText false false 0 (-1) false (-1) (-1) false (-1) (by decide) (by decide)
  rw [live1] at wV
  have wR := fun A c R hS => tText [(206, 1, numsS 4 [1, 2])] [.iface 77 (.agg #[.int .u32 1, .int .u32 2])] A 1 c R hS rfl (by decide) (by decide) (by intro x hx; rcases List.mem_singleton.1 hx with rfl; exact ⟨by unfold in8; dsimp only; omega, by unfold in8; dsimp only; omega⟩)
    (fun i x v h1 h2 => by
      match i, h1, h2 with
      | 0, h1, h2 =>
        simp only [List.getElem?_cons_zero, Option.some.injEq] at h1 h2
        subst h1 h2
        exact ⟨dPli 1 2, tPli R 1 2 (by unfold in32; omega) (by unfold in32; omega)⟩)
  rw [live2] at wR
  refine fn_intro Try.func12 rfl Try.ntmps12 rfl (fun E => ?_)
  (repeat (first | ((first | (apply wo_v; rfl) ); (· first | (apply pv_ev; rfl) | (apply g_load; first | (apply pv_lda; rfl; (· (repeat (first | apply sel_here ))); (· (repeat (first | apply Cut.here0 | apply Cut.here )))) ) | (apply g_build; apply pv_build; (· (repeat (first | apply Bld.nil | (apply Bld.one; rfl; rfl; (· (repeat (first | apply SetAt.here | apply SetAt.there)))) )))) )) | apply wo_nil | apply wc_seq | apply wc_region | (apply wo_alloc; rfl; intro bx) | (apply wo_sta; rfl; rfl; rfl; rfl; (· (repeat (first | apply sel_here ))); (· (repeat (first | apply LayAt.nil | apply LayAt.here ))); rfl) ))
  (refine wo_call (wT) rfl (by (repeat (first | apply sub_nil )); done) (by first | exact fun _ h => h | (intro r hr; cases hr; done) | (simp; done) | exact fun _ h => List.mem_append_left _ h | (intro r hr; simp [hr]; done)) rfl ?_; rintro v L' R' ⟨rfl, rfl, rfl⟩ H' hH RR hR; simp only [List.cons_append, List.nil_append] at hH hR; subst hH; have hR := hR.symm; subst hR)
  (repeat (first | ((first | (apply wo_v; rfl) ); (· first | (apply pv_ev; rfl) )) ))
  (refine wo_call (wP) rfl (by (repeat (first | apply sub_nil )); done) (by first | exact fun _ h => h | (intro r hr; cases hr; done) | (simp; done) | exact fun _ h => List.mem_append_left _ h | (intro r hr; simp [hr]; done)) rfl ?_; rintro v L' R' ⟨ao, c, rfl, rfl, rfl⟩ H' hH RR hR; simp only [List.cons_append, List.nil_append] at hH hR; subst hH; have hR := hR.symm; subst hR)
  (repeat (first | ((first | (apply wo_v; rfl) ); (· first | (apply pv_ev; rfl) )) | apply wo_nil | apply wc_seq | apply wc_region | (apply wo_alloc; rfl; intro bx) | (apply wo_sta; rfl; rfl; rfl; rfl; (· (repeat (first | apply sel_here ))); (· (repeat (first | apply LayAt.nil | apply LayAt.here ))); rfl) ))
  (refine wo_call (vPlain) rfl (by (repeat (first | apply sub_nil )); done) (by first | exact fun _ h => h | (intro r hr; cases hr; done) | (simp; done) | exact fun _ h => List.mem_append_left _ h | (intro r hr; simp [hr]; done)) rfl ?_; rintro v L' R' ⟨rfl, rfl, rfl⟩ H' hH RR hR; simp only [List.cons_append, List.nil_append] at hH hR; subst hH; have hR := hR.symm; subst hR)
  (repeat (first | ((first | (apply wo_v; rfl) ); (· first | (apply pv_ev; rfl) | (apply pv_fld; rfl) | (apply g_load; first | (apply pv_ld; rfl; (· (repeat (first | apply sel_here | apply sel_there))); rfl) | (apply pv_lda; rfl; (· (repeat (first | apply sel_here ))); (· (repeat (first | apply Cut.here0 | apply Cut.here )))) ) | (apply g_pick; first | (apply pv_pick_t; rfl; rfl) ) | (apply g_bin; first | (apply pv_eql_s; rfl; rfl) ) )) | apply wo_nil | apply wc_seq | apply wc_region | (apply wo_run; rfl; rfl) | (apply wo_alloc; rfl; intro bx) | (apply wo_sta; rfl; rfl; rfl; rfl; (· (repeat (first | apply sel_here ))); (· (repeat (first | apply LayAt.nil | apply LayAt.here ))); rfl) ))
  (refine wo_call (wV) rfl (by (repeat (first | apply sub_nil )); done) (by first | exact fun _ h => h | (intro r hr; cases hr; done) | (simp; done) | exact fun _ h => List.mem_append_left _ h | (intro r hr; simp [hr]; done)) rfl ?_; rintro v L' R' ⟨rfl, rfl, rfl⟩ H' hH RR hR; simp only [List.cons_append, List.nil_append] at hH hR; subst hH; have hR := hR.symm; subst hR)
  (repeat (first | ((first | (apply wo_v; rfl) ); (· first | (apply pv_ev; rfl) | (apply g_pick; first | (apply pv_pick_t; rfl; rfl) ) | (apply g_bi; first | (apply pv_len_str; rfl) ) | (apply g_build; apply pv_build; (· (repeat (first | apply Bld.nil | (apply Bld.one; rfl; rfl; (· (repeat (first | apply SetAt.here | apply SetAt.there)))) )))) | (apply pv_mki; rfl; infer_instance) )) | (apply wo_run; rfl; rfl) | (apply wo_bsl; (· (repeat (first | apply Rws'.nil | (apply Rws'.one; rfl; rfl; rfl) ))); rfl; rfl; rfl; rfl; intro bx) ))
  refine wo_still (ao := some ⟨bx, 0, none⟩) (n := 1) (c := 1) (by (repeat (first | apply sel_here )); done) (fun R1 hS1 => ?_)
  have wR2 := wR _ _ _ hS1.sq
  have hy1 : sb ⟨#[129, 206, 0, 2, 0, 0, 0, 1, 0, 0, 0, 2]⟩ (Int.toNat 1) = 206 := by decide
  have hy2 : (⟨#[129, 206, 0, 2, 0, 0, 0, 1, 0, 0, 0, 2]⟩ : ByteArray).size = 12 := rfl
  generalize (⟨#[129, 206, 0, 2, 0, 0, 0, 1, 0, 0, 0, 2]⟩ : ByteArray) = y at wR2 hy1 hy2
  (refine wo_call (wR2) rfl (by (repeat (first | apply sub_nil )); done) (by first | exact fun _ h => h | (intro r hr; cases hr; done) | (simp; done) | exact fun _ h => List.mem_append_left _ h | (intro r hr; simp [hr]; done)) rfl ?_; rintro v L' R' ⟨rfl, rfl, rfl⟩ H' hH RR hR; simp only [List.cons_append, List.nil_append] at hH hR; subst hH; have hR := hR.symm; subst hR)
  (repeat (first | ((first | (apply wo_v; rfl) ); (· first | (apply pv_ev; rfl) | (apply g_pick; first | (apply pv_pick_t; rfl; rfl) ) | (apply pv_index_sn; rfl; rfl; omega) | (apply pv_index_s; rfl; rfl; omega) )) | apply wo_nil | apply wc_ret | (apply wo_run; rfl; rfl) ))
  exact ret1 rfl rfl ⟨by rw [hy1]; simp, rfl, rfl⟩ ((by (repeat (first | apply sub_nil )); done) : List.Perm _ ([] ++ _)) (by first | exact fun _ h => h | (intro r hr; cases hr; done) | (simp; done) | exact fun _ h => List.mem_append_left _ h | (intro r hr; simp [hr]; done))
end Go.Proofs.Ytlhlidmhlhodiaa

/-
  Package rate.
-/
namespace Go.Proofs.Ytlhlidmhlhodiaa
set_option linter.unusedSimpArgs false
set_option linter.unusedVariables false
open Go.RowKit
attribute [local irreducible] Pv WO WC Fn

def sumB (l : List (Int × Int)) : Int := (l.map Prod.snd).sum
def prow (p : Int × Int) : List Value := [.int .i64 p.1, .int .i64 p.2]
abbrev mtH (g : Nat) (ao : Option Addr) (c : Nat) (w : Int) (l : List (Int × Int)) (tt cp : Int) : List It :=
  [.ob g (.cells #[.int .i64 w, .slice ao l.length c, .int .i64 (sumB l), .int .i64 tt, .int .i64 cp] 169 (0, 0)), .own 175 2 ao l.length c (l.map prow)]
def dropOld (w now : Int) (l : List (Int × Int)) : List (Int × Int) := l.dropWhile fun p => decide (w ≤ now - p.1)
structure LOk (l : List (Int × Int)) : Prop where
  each : ∀ p ∈ l, 0 ≤ p.1 ∧ p.1 ≤ 1099511627776 ∧ 0 ≤ p.2 ∧ p.2 ≤ 1099511627776
  len : l.length ≤ 1000
theorem sumB_nonneg {l : List (Int × Int)} (h : ∀ p ∈ l, 0 ≤ p.1 ∧ p.1 ≤ 1099511627776 ∧ 0 ≤ p.2 ∧ p.2 ≤ 1099511627776) : 0 ≤ sumB l ∧ sumB l ≤ l.length * 1099511627776 := by
  induction l with
  | nil => simp [sumB]
  | cons p l ih =>
    have h1 := h p (.head _)
    have h2 := ih (fun q hq => h q (.tail _ hq))
    simp only [sumB, List.map_cons, List.sum_cons, List.length_cons] at h2 ⊢
    omega
theorem sumB_cons (p : Int × Int) (l : List (Int × Int)) : sumB (p :: l) = p.2 + sumB l := by simp [sumB]
theorem LOk.sum {l : List (Int × Int)} (h : LOk l) : 0 ≤ sumB l ∧ sumB l ≤ 1099511627776000 := by
  have h1 := sumB_nonneg h.each
  have h2 := h.len
  omega
theorem LOk.tail {p : Int × Int} {l : List (Int × Int)} (h : LOk (p :: l)) : LOk l := ⟨fun q hq => h.each q (.tail _ hq), by have := h.len; simp at this; omega⟩
theorem LOk.old {l : List (Int × Int)} (h : LOk l) (w now : Int) : LOk (dropOld w now l) := by
  induction l with
  | nil => exact h
  | cons p l ih =>
    unfold dropOld
    rw [List.dropWhile_cons]
    split
    · exact ih h.tail
    · exact h

theorem rateNew_ok (w : Int) (h : 1 ≤ w ∧ w ≤ 1048576) : Fn Try.prog 27 #[.int .i64 w] [] [] (fun v L' R' => ∃ g, v = .tuple #[.pointer (some ⟨g, 0, none⟩), .int .i64 0] ∧ L' = [.ob g (.cells #[.int .i64 w, .slice none 0 0, .int .i64 0, .int .i64 0, .int .i64 0] 169 (0, 0))] ∧ R' = []) := by
  refine fn_intro Try.func27 rfl Try.ntmps27 rfl (fun E => ?_)
  (repeat (first | ((first | (apply wo_v; rfl) ); (· first | (apply pv_ev; rfl) | (apply g_pick; first | (apply pv_pick_t; rfl; rfl) | (apply pv_pick_f; rfl; rfl)) | (apply g_build; apply pv_build; (· (repeat (first | apply Bld.nil | (apply Bld.one; rfl; rfl; (· (repeat (first | apply SetAt.here )))) )))) )) | apply wo_nil | apply wc_seq | apply wc_region | apply wc_skip | apply wc_ret | (apply wc_true; rfl) | (apply wc_false; rfl) | (apply a_dec_t; rfl; (· first | assumption | omega)) | (apply a_dec_f; rfl; (· first | assumption | omega)) | (apply wo_run; rfl; rfl) | (apply wo_skip; rfl; rfl; rfl; rfl) | (apply wo_skip_u; rfl; rfl; rfl) | (apply a_gt; rfl; rfl; (· first | assumption | omega)) | (apply a_gf; rfl; rfl; (· first | assumption | omega)) | (apply wo_box1; rfl; rfl; rfl; intro bx) | (apply wo_boxa; rfl; rfl; intro bx) ))
  exact ret2 rfl rfl rfl ⟨_, rfl, rfl, rfl⟩ (by (repeat (first | apply sub_nil )); done) (by first | exact fun _ h => h | (intro r hr; cases hr; done) | (simp; done) | exact fun _ h => List.mem_append_left _ h | (intro r hr; simp [hr]; done))
theorem rateNew_no (w : Int) (h : ¬ (1 ≤ w ∧ w ≤ 1048576)) : Fn Try.prog 27 #[.int .i64 w] [] [] (fun v L' R' => v = .tuple #[.pointer none, .int .i64 5] ∧ L' = [] ∧ R' = []) := by
  refine fn_intro Try.func27 rfl Try.ntmps27 rfl (fun E => ?_)
  rcases Int.lt_or_le w 1 with h1 | h1
  · (repeat (first | ((first | (apply wo_v; rfl) ); (· first | (apply pv_ev; rfl) | (apply g_pick; first | (apply pv_pick_t; rfl; rfl) ) )) | apply wo_nil | apply wc_seq | apply wc_region | apply wc_ret | (apply wc_true; rfl) | (apply wo_run; rfl; rfl) | (apply wo_skip; rfl; rfl; rfl; rfl) | (apply wo_skip_u; rfl; rfl; rfl) | (apply a_gt; rfl; rfl; (· first | assumption | omega)) ))
    exact ret2 rfl rfl rfl ⟨rfl, rfl, rfl⟩ (by (repeat (first | apply sub_nil )); done) (by first | exact fun _ h => h | (intro r hr; cases hr; done) | (simp; done) | exact fun _ h => List.mem_append_left _ h | (intro r hr; simp [hr]; done))
  · (repeat (first | ((first | (apply wo_v; rfl) ); (· first | (apply pv_ev; rfl) | (apply g_pick; first | (apply pv_pick_t; rfl; rfl) | (apply pv_pick_f; rfl; rfl)) )) | apply wo_nil | apply wc_seq | apply wc_region | apply wc_ret | (apply wc_true; rfl) | (apply wc_false; rfl) | (apply a_dec_t; rfl; (· first | assumption | omega)) | (apply wo_run; rfl; rfl) | (apply wo_skip; rfl; rfl; rfl; rfl) | (apply wo_skip_u; rfl; rfl; rfl) | (apply a_gt; rfl; rfl; (· first | assumption | omega)) | (apply a_gf; rfl; rfl; (· first | assumption | omega)) ))
    exact ret2 rfl rfl rfl ⟨rfl, rfl, rfl⟩ (by (repeat (first | apply sub_nil )); done) (by first | exact fun _ h => h | (intro r hr; cases hr; done) | (simp; done) | exact fun _ h => List.mem_append_left _ h | (intro r hr; simp [hr]; done))

set_option maxHeartbeats 1000000 in
theorem meterOld (w : Int) (l0 : List (Int × Int)) (tt cp : Int) (g c : Nat) (ao : Option Addr) (now : Int) (hl : LOk l0) (hn : 0 ≤ now ∧ now ≤ 1099511627776) (hw : 1 ≤ w ∧ w ≤ 1048576) :
    Fn Try.prog 81 #[.pointer (some ⟨g, 0, none⟩), .int .i64 now] (mtH g ao c w l0 tt cp) [] (fun v L' R' => ∃ ao' c', v = .tuple #[] ∧ L' = mtH g ao' c' w (dropOld w now l0) tt cp ∧ R' = []) := by
  refine fn_intro Try.func81 rfl Try.ntmps81 rfl (fun E => ?_)
  (repeat (first | apply wc_block ))
  refine wc_loop' (fun k st => ∃ (l : List (Int × Int)) (ao : Option Addr) (c : Nat), k = l.length ∧ st = ⟨[(0, .pointer (some ⟨g, 0, none⟩)), (1, .int .i64 now)], mtH g ao c w l tt cp, []⟩ ∧ LOk l ∧ dropOld w now l = dropOld w now l0) ⟨l0, ao, c, rfl, rfl, hl, rfl⟩ (wk_mk (by (repeat (first | apply wkf_nil | (apply wkf_cons; rfl))); done) (by (repeat (first | apply sub_nil )); done) (by first | exact fun _ h => h | (intro r hr; cases hr; done) | (simp; done) | exact fun _ h => List.mem_append_left _ h | (intro r hr; simp [hr]; done))) ?_
  rintro k st ⟨l, ao, c, rfl, rfl, hl, hd⟩
  cases l with
  | nil =>
    have h0 : ¬ ((0 : Int) < (([] : List (Int × Int)).length : Int)) := by simp
    (repeat (first | apply wc_seq ))
    (refine wc_quiet mixed (by kernel_rfl) ?_; (repeat (first | ((first | (apply hd_v; rfl) ); (· first | (apply pv_ev; rfl) | (apply pv_fld; rfl) | (apply g_load; first | (apply pv_ld; rfl; (· (repeat (first | apply sel_here ))); rfl) ) | (apply g_pick; first | (apply pv_pick_t; rfl; rfl) | (apply pv_pick_f; rfl; rfl)) | (apply g_bi; first | (apply pv_len_sl; rfl) ) )) | apply Hd.nil | (apply wc_exit; rfl) | (apply wc_true; rfl) | (apply wc_false; rfl) | (apply Hd.run; rfl; rfl) | (apply Hd.skip; rfl; rfl; rfl; rfl) )))
    exact ret0 rfl ⟨ao, c, rfl, by rw [← hd], rfl⟩ (by (repeat (first | apply sub_nil )); done) (by first | exact fun _ h => h | (intro r hr; cases hr; done) | (simp; done) | exact fun _ h => List.mem_append_left _ h | (intro r hr; simp [hr]; done))
  | cons p l =>
    have hp := hl.each p (.head _)
    have hlen : (p :: l).length = l.length + 1 := rfl
    have hr : ((p :: l).map prow)[0]? = some [.int .i64 p.1, .int .i64 p.2] := rfl
    have hs := hl.sum
    have hs2 := hl.tail.sum
    have hsc := sumB_cons p l
    (refine wc_some (by (repeat (first | apply sel_here | apply sel_there)); done) (by omega) (fun b o hao => ?_); subst hao)
    by_cases hc : w ≤ now - p.1
    · (repeat (first | apply wc_seq ))
      (refine wc_quiet mixed (by kernel_rfl) ?_; (repeat (first | ((first | (apply hd_v; rfl) ); (· first | (apply pv_ev; rfl) | (apply pv_fld; rfl) | (apply g_load; first | (apply pv_ld; rfl; (· (repeat (first | apply sel_here | apply sel_there))); rfl) | (apply pv_ld_ownf; rfl; (· (repeat (first | apply sel_here | apply sel_there))); (· assumption); rfl) ) | (apply g_pick; first | (apply pv_pick_t; rfl; rfl) ) | (apply g_bin; first | (apply a_sub; rfl; rfl; infer_instance; omega) ) | (apply g_bi; first | (apply pv_len_sl; rfl) ) | (apply g_idx; first | (apply pv_idx; rfl; rfl; omega) | (apply (pv_idx_e 0); rfl; rfl; rfl; omega) ) )) | apply Hd.nil | apply wc_seq | apply wc_block | apply wc_skip | (apply wc_true; rfl) | (apply wc_false; rfl) | (apply a_dec_t; rfl; (· first | assumption | omega)) | (apply Hd.run; rfl; rfl) | (apply Hd.skip; rfl; rfl; rfl; rfl) | (apply Hd.skipu; rfl; rfl; rfl) | (apply ah_gt; rfl; rfl; (· first | assumption | omega)) )))
      (refine wc_tail 14 mixed (by kernel_rfl) ?_; (repeat (first | ((first | (apply wo_v; rfl) | (apply hd_v; rfl) ); (· first | (apply pv_ev; rfl) | (apply pv_fld; rfl) | (apply g_load; first | (apply pv_ld; rfl; (· (repeat (first | apply sel_here | apply sel_there))); rfl) | (apply pv_ld_ownf; rfl; (· (repeat (first | apply sel_here | apply sel_there))); (· assumption); rfl) ) | (apply g_bin; first | (apply a_sub; rfl; rfl; infer_instance; omega) ) | (apply g_idx; first | (apply pv_idx; rfl; rfl; omega) | (apply (pv_idx_e 0); rfl; rfl; rfl; omega) ) )) | apply wo_nil | apply Hd.nil | apply wc_region | (apply wo_st; rfl; rfl; rfl; (· (repeat (first | apply sel_here ))); (· (repeat (first | apply SetAt.here | apply SetAt.there))); rfl) )))
      refine wo_cut_lo (l := 1) rfl (by (repeat (first | apply sel_here | apply sel_there)); done) rfl rfl (by omega) rfl (fun ao' => ?_)
      (repeat (first | ((first | (apply wo_v; rfl) ); (· first | (apply pv_ev; rfl) | (apply pv_fld; rfl) )) | apply wo_nil | (apply wo_st; rfl; rfl; rfl; (· (repeat (first | apply sel_here | apply sel_there))); (· (repeat (first | apply SetAt.here | apply SetAt.there))); rfl) ))
      refine loop_end ⟨l, ao', c - 1, rfl, rfl, hl.tail, ?_⟩ (by simp) ?_
      · rw [← hd]; simp [dropOld, List.dropWhile_cons, hc]
      · have hsum : sumB (p :: l) - p.2 = sumB l := by omega
        exact wk_mk (by (repeat (first | apply wkf_nil | (apply wkf_cons; rfl))); done) (by rw [hsum]; exact (by (repeat (first | apply sub_nil )); done)) (by first | exact fun _ h => h | (intro r hr; cases hr; done) | (simp; done) | exact fun _ h => List.mem_append_left _ h | (intro r hr; simp [hr]; done))
    · (repeat (first | apply wc_seq ))
      (refine wc_quiet mixed (by kernel_rfl) ?_; (repeat (first | ((first | (apply hd_v; rfl) ); (· first | (apply pv_ev; rfl) | (apply pv_fld; rfl) | (apply g_load; first | (apply pv_ld; rfl; (· (repeat (first | apply sel_here | apply sel_there))); rfl) | (apply pv_ld_ownf; rfl; (· (repeat (first | apply sel_here | apply sel_there))); (· assumption); rfl) ) | (apply g_pick; first | (apply pv_pick_t; rfl; rfl) ) | (apply g_bin; first | (apply a_sub; rfl; rfl; infer_instance; omega) ) | (apply g_bi; first | (apply pv_len_sl; rfl) ) | (apply g_idx; first | (apply pv_idx; rfl; rfl; omega) | (apply (pv_idx_e 0); rfl; rfl; rfl; omega) ) )) | apply Hd.nil | (apply wc_exit; rfl) | (apply wc_true; rfl) | (apply wc_false; rfl) | (apply a_dec_t; rfl; (· first | assumption | omega)) | (apply a_dec_f; rfl; (· first | assumption | omega)) | (apply Hd.run; rfl; rfl) | (apply Hd.skip; rfl; rfl; rfl; rfl) | (apply Hd.skipu; rfl; rfl; rfl) | (apply ah_gt; rfl; rfl; (· first | assumption | omega)) )))
      have hfin : dropOld w now l0 = p :: l := by rw [← hd]; simp [dropOld, List.dropWhile_cons, hc]
      exact ret0 rfl ⟨some ⟨b, o, none⟩, c, rfl, by rw [hfin], rfl⟩ (by (repeat (first | apply sub_nil )); done) (by first | exact fun _ h => h | (intro r hr; cases hr; done) | (simp; done) | exact fun _ h => List.mem_append_left _ h | (intro r hr; simp [hr]; done))

theorem meterOldV (w : Int) (l0 l1 : List (Int × Int)) (tt cp : Int) (g c : Nat) (ao : Option Addr) (now : Int) (h : dropOld w now l0 = l1) (hl : LOk l0) (hn : 0 ≤ now ∧ now ≤ 1099511627776) (hw : 1 ≤ w ∧ w ≤ 1048576) :
    Fn Try.prog 81 #[.pointer (some ⟨g, 0, none⟩), .int .i64 now] (mtH g ao c w l0 tt cp) [] (fun v L' R' => ∃ ao' c', v = .tuple #[] ∧ L' = mtH g ao' c' w l1 tt cp ∧ R' = []) := h ▸ meterOld w l0 tt cp g c ao now hl hn hw
def addL (l : List (Int × Int)) (now b : Int) : List (Int × Int) :=
  match l.getLast? with
  | some p => if p.1 = now then l.dropLast ++ [(now, p.2 + b)] else l ++ [(now, b)]
  | none => [(now, b)]
theorem sumB_append (a b : List (Int × Int)) : sumB (a ++ b) = sumB a + sumB b := by simp [sumB]
set_option maxHeartbeats 2000000 in
theorem meterAdd (w : Int) (l0 d : List (Int × Int)) (tt cp : Int) (g c : Nat) (ao : Option Addr) (now by_ : Int) (hd : dropOld w now l0 = d) (hl : LOk l0) (hn : 0 ≤ now ∧ now ≤ 1099511627776) (hw : 1 ≤ w ∧ w ≤ 1048576) (ht : 0 ≤ tt ∧ tt ≤ 1099511627776000)
    (b1 : Int) (hb : b1 = min (max by_ 0) 1073741824) :
    Fn Try.prog 30 #[.pointer (some ⟨g, 0, none⟩), .int .i64 now, .int .i64 by_] (mtH g ao c w l0 tt cp) [] (fun v L' R' => ∃ ao' c', v = .tuple #[] ∧ L' = mtH g ao' c' w (addL d now b1) (tt + b1) cp ∧ R' = []) := by
  have hold := meterOldV w l0 d tt cp g c ao now hd hl hn hw
  have hdk : LOk d := hd ▸ hl.old w now
  have hs := hdk.sum
  have hln := hdk.len
  subst hb
  clear hd hl
  refine fn_intro Try.func30 rfl Try.ntmps30 rfl (fun E => ?_)
  (repeat (first | ((first | (apply wo_v; rfl) ); (· first | (apply pv_ev; rfl) | (apply g_bi; first | (apply pv_min; rfl; rfl) | (apply pv_max; rfl; rfl)) )) | apply wo_nil | apply wc_seq | apply wc_region ))
  (refine wo_call (hold) rfl (by (repeat (first | apply sub_nil )); done) (by first | exact fun _ h => h | (intro r hr; cases hr; done) | (simp; done) | exact fun _ h => List.mem_append_left _ h | (intro r hr; simp [hr]; done)) rfl ?_; rintro v L' R' ⟨ao1, c1, rfl, rfl, rfl⟩ H' hH RR hR; simp only [List.cons_append, List.nil_append] at hH hR; subst hH; have hR := hR.symm; subst hR)
  clear hold ao c
  (repeat (first | ((first | (apply wo_v; rfl) ); (· first | (apply pv_ev; rfl) | (apply pv_fld; rfl) | (apply g_load; first | (apply pv_ld; rfl; (· (repeat (first | apply sel_here ))); rfl) ) | (apply g_bin; first | (apply a_add; rfl; rfl; infer_instance; omega) ) | (apply g_bi; first | (apply pv_len_sl; rfl) ) )) | apply wo_nil | apply wc_seq | apply wc_region | (apply wo_run; rfl; rfl) | (apply wo_skip; rfl; rfl; rfl; rfl) | (apply wo_skip_u; rfl; rfl; rfl) | (apply a_gt; rfl; rfl; (· first | assumption | omega)) | (apply a_gf; rfl; rfl; (· first | assumption | omega)) | (apply a_gt; rfl; rfl; (· first | (simp; done) | (simp; omega))) | (apply a_gf; rfl; rfl; (· first | (simp; done) | (simp; omega))) | (apply wo_st; rfl; rfl; rfl; (· (repeat (first | apply sel_here ))); (· (repeat (first | apply SetAt.here | apply SetAt.there))); rfl) ))
  rcases List.eq_nil_or_concat d with rfl | ⟨d', p, rfl⟩
  · have h0 : ¬ ((0 : Int) < (([] : List (Int × Int)).length : Int)) := by simp
    (repeat (first | ((first | (apply wo_v; rfl) ); (· first | (apply pv_ev; rfl) | (apply pv_fld; rfl) | (apply g_load; first | (apply pv_ld; rfl; (· (repeat (first | apply sel_here ))); rfl) ) | (apply g_pick; first | (apply pv_pick_t; rfl; rfl) | (apply pv_pick_f; rfl; rfl)) | (apply g_bi; first | fail ) | (apply g_build; apply pv_build; (· (repeat (first | apply Bld.nil | (apply Bld.one; rfl; rfl; (· (repeat (first | apply SetAt.here | apply SetAt.there)))) )))) )) | apply wo_nil | apply wc_region | apply wc_skip | (apply wc_true; rfl) | (apply wc_false; rfl) | (apply wo_run; rfl; rfl) | (apply wo_skip; rfl; rfl; rfl; rfl) | (apply wo_bsl; (· (repeat (first | apply Rws'.nil | (apply Rws'.one; rfl; rfl; rfl) | (apply Rws'.agg; rfl; rfl; rfl)))); rfl; rfl; rfl; rfl; intro bx) ))
    refine wo_app rfl rfl (by (repeat (first | apply sel_here | apply sel_there)); done) (by (repeat (first | apply sel_here )); done) (by simp [maxLen]) (by simp) rfl (fun ao2 c2 => ?_)
    (repeat (first | ((first | (apply wo_v; rfl) ); (· first | (apply pv_ev; rfl) | (apply pv_fld; rfl) )) | apply wo_nil | (apply wo_st; rfl; rfl; rfl; (· (repeat (first | apply sel_here | apply sel_there))); (· (repeat (first | apply SetAt.here | apply SetAt.there))); rfl) ))
    have e1 : sumB [] + min (max by_ 0) 1073741824 = sumB (addL [] now (min (max by_ 0) 1073741824)) := by simp [addL, sumB]
    exact ret0 rfl ⟨ao2, c2, rfl, rfl, rfl⟩ (by rw [e1]; exact (by (repeat (first | apply sub_nil )); done)) (by first | exact fun _ h => h | (intro r hr; cases hr; done) | (simp; done) | exact fun _ h => List.mem_append_left _ h | (intro r hr; simp [hr]; done))
  · rw [List.concat_eq_append] at *
    have hp := hdk.each p (by simp)
    have hlen : (d' ++ [p]).length = d'.length + 1 := by simp
    have hidx : (((d' ++ [p]).length : Int) - 1).toNat = d'.length := by omega
    have hr : ((d' ++ [p]).map prow)[(((d' ++ [p]).length : Int) - 1).toNat]? = some [.int .i64 p.1, .int .i64 p.2] := by rw [hidx]; simp [prow]
    have hsum := sumB_append d' [p]
    refine wo_some (by (repeat (first | apply sel_here | apply sel_there)); done) (by omega) (fun b o hao => ?_)
    subst hao
    have hgl : (d' ++ [p]).getLast? = some p := by simp
    have hdl : (d' ++ [p]).dropLast = d' := by simp
    by_cases hc : p.1 = now
    · (repeat (first | ((first | (apply wo_v; rfl) ); (· first | (apply pv_ev; rfl) | (apply pv_fld; rfl) | (apply g_load; first | (apply pv_ld; rfl; (· (repeat (first | apply sel_here | apply sel_there))); rfl) | (apply pv_ld_ownf; rfl; (· (repeat (first | apply sel_here | apply sel_there))); (· assumption); rfl) ) | (apply g_pick; first | (apply pv_pick_t; rfl; rfl) ) | (apply g_bin; first | (apply a_add; rfl; rfl; infer_instance; omega) | (apply a_sub; rfl; rfl; infer_instance; omega) ) | (apply g_idx; first | (apply pv_idx; rfl; rfl; omega) | (apply (pv_idx_e 0); rfl; rfl; rfl; omega) | (apply pv_idx_n; rfl; rfl; omega) ) )) | apply wo_nil | apply wc_seq | apply wc_region | apply wc_ret | (apply wc_true; rfl) | (apply wc_false; rfl) | (apply a_dec_t; rfl; (· first | assumption | omega)) | (apply wo_run; rfl; rfl) | (apply wo_skip; rfl; rfl; rfl; rfl) | (apply wo_skip_u; rfl; rfl; rfl) | (apply a_gt; rfl; rfl; (· first | assumption | omega)) | (apply wo_st; rfl; rfl; rfl; (· (repeat (first | apply sel_there))); (· (repeat (first | fail ))); rfl) | (apply wo_st_ownf; rfl; rfl; rfl; (· (repeat (first | apply sel_here | apply sel_there))); (· assumption); (· (repeat (first | apply SetAt.here | apply SetAt.there))); rfl) ))
      have hA : addL (d' ++ [p]) now (min (max by_ 0) 1073741824) = d' ++ [(now, p.2 + min (max by_ 0) 1073741824)] := by unfold addL; rw [hgl]; simp only; rw [if_pos hc, hdl]
      have e1 : sumB (d' ++ [p]) + min (max by_ 0) 1073741824 = sumB (d' ++ [(now, p.2 + min (max by_ 0) 1073741824)]) := by simp [sumB]; omega
      have e2 : (d' ++ [p]).length = (d' ++ [(now, p.2 + min (max by_ 0) 1073741824)]).length := by simp
      have e3 : ((d' ++ [p]).map prow).set (((d' ++ [p]).length : Int) - 1).toNat [.int .i64 p.1, .int .i64 (p.2 + min (max by_ 0) 1073741824)] = (d' ++ [(now, p.2 + min (max by_ 0) 1073741824)]).map prow := by
        rw [hidx, hc]; simp [prow]
      exact ret0 rfl ⟨_, c1, rfl, by rw [hA], rfl⟩ (by rw [e3, e1, e2]; exact (by (repeat (first | apply sub_nil | (apply sub_cons; (· (repeat (first | apply sel_here | apply sel_there)))))); done)) (by first | exact fun _ h => h | (intro r hr; cases hr; done) | (simp; done) | exact fun _ h => List.mem_append_left _ h | (intro r hr; simp [hr]; done))
    · (repeat (first | ((first | (apply wo_v; rfl) ); (· first | (apply pv_ev; rfl) | (apply pv_fld; rfl) | (apply g_load; first | (apply pv_ld; rfl; (· (repeat (first | apply sel_here | apply sel_there))); rfl) | (apply pv_ld_ownf; rfl; (· (repeat (first | apply sel_here | apply sel_there))); (· assumption); rfl) ) | (apply g_pick; first | (apply pv_pick_t; rfl; rfl) ) | (apply g_bin; first | (apply a_sub; rfl; rfl; infer_instance; omega) ) | (apply g_bi; first | fail ) | (apply g_idx; first | (apply pv_idx; rfl; rfl; omega) | (apply (pv_idx_e 0); rfl; rfl; rfl; omega) | (apply pv_idx_n; rfl; rfl; omega) ) | (apply g_build; apply pv_build; (· (repeat (first | apply Bld.nil | (apply Bld.one; rfl; rfl; (· (repeat (first | apply SetAt.here | apply SetAt.there)))) )))) )) | apply wo_nil | apply wc_region | apply wc_skip | (apply wc_true; rfl) | (apply wc_false; rfl) | (apply a_dec_t; rfl; (· first | assumption | omega)) | (apply a_dec_f; rfl; (· first | assumption | omega)) | (apply wo_run; rfl; rfl) | (apply wo_skip; rfl; rfl; rfl; rfl) | (apply wo_skip_u; rfl; rfl; rfl) | (apply a_gt; rfl; rfl; (· first | assumption | omega)) | (apply wo_bsl; (· (repeat (first | apply Rws'.nil | (apply Rws'.one; rfl; rfl; rfl) | (apply Rws'.agg; rfl; rfl; rfl)))); rfl; rfl; rfl; rfl; intro bx) ))
      have hA : addL (d' ++ [p]) now (min (max by_ 0) 1073741824) = d' ++ [p] ++ [(now, min (max by_ 0) 1073741824)] := by unfold addL; rw [hgl]; simp only; rw [if_neg hc]
      have e1 : sumB (d' ++ [p]) + min (max by_ 0) 1073741824 = sumB (d' ++ [p] ++ [(now, min (max by_ 0) 1073741824)]) := by simp [sumB]; omega
      have e2 : (d' ++ [p]).length + 1 = (d' ++ [p] ++ [(now, min (max by_ 0) 1073741824)]).length := by simp
      have e3 : (d' ++ [p]).map prow ++ [[.int .i64 now, .int .i64 (min (max by_ 0) 1073741824)]] = (d' ++ [p] ++ [(now, min (max by_ 0) 1073741824)]).map prow := by simp [prow]
      refine wo_app rfl rfl (by (repeat (first | apply sel_here | apply sel_there)); done) (by (repeat (first | apply sel_here )); done) (by unfold maxLen; omega) (by omega) rfl (fun ao2 c2 => ?_)
      (repeat (first | ((first | (apply wo_v; rfl) ); (· first | (apply pv_ev; rfl) | (apply pv_fld; rfl) )) | apply wo_nil | (apply wo_st; rfl; rfl; rfl; (· (repeat (first | apply sel_here | apply sel_there))); (· (repeat (first | apply SetAt.here | apply SetAt.there))); rfl) ))
      exact ret0 rfl ⟨ao2, c2, rfl, by rw [hA], rfl⟩ (by rw [e3, e1, e2]; exact (by (repeat (first | apply sub_nil )); done)) (by first | exact fun _ h => h | (intro r hr; cases hr; done) | (simp; done) | exact fun _ h => List.mem_append_left _ h | (intro r hr; simp [hr]; done))
set_option maxHeartbeats 1000000 in
theorem meterRate (w : Int) (l0 d : List (Int × Int)) (tt cp : Int) (g c : Nat) (ao : Option Addr) (now : Int) (hd : dropOld w now l0 = d) (hl : LOk l0) (hn : 0 ≤ now ∧ now ≤ 1099511627776) (hw : 1 ≤ w ∧ w ≤ 1048576) :
    Fn Try.prog 83 #[.pointer (some ⟨g, 0, none⟩), .int .i64 now] (mtH g ao c w l0 tt cp) [] (fun v L' R' => ∃ ao' c', v = .int .i64 (sumB d * 1000 / w) ∧ L' = mtH g ao' c' w d tt cp ∧ R' = []) := by
  have hold := meterOldV w l0 d tt cp g c ao now hd hl hn hw
  have hdk : LOk d := hd ▸ hl.old w now
  have hs := hdk.sum
  clear hd hl
  refine fn_intro Try.func83 rfl Try.ntmps83 rfl (fun E => ?_)
  (repeat (first | ((first | (apply wo_v; rfl) ); (· first | (apply pv_ev; rfl) )) | apply wo_nil | apply wc_seq | apply wc_region ))
  (refine wo_call (hold) rfl (by (repeat (first | apply sub_nil )); done) (by first | exact fun _ h => h | (intro r hr; cases hr; done) | (simp; done) | exact fun _ h => List.mem_append_left _ h | (intro r hr; simp [hr]; done)) rfl ?_; rintro v L' R' ⟨ao1, c1, rfl, rfl, rfl⟩ H' hH RR hR; simp only [List.cons_append, List.nil_append] at hH hR; subst hH; have hR := hR.symm; subst hR)
  clear hold ao c
  (repeat (first | apply wo_nil | apply wc_seq ))
  (refine wc_quiet mixed (by kernel_rfl) ?_; (repeat (first | ((first | (apply hd_v; rfl) ); (· first | (apply pv_ev; rfl) | (apply pv_fld; rfl) | (apply g_load; first | (apply pv_ld; rfl; (· (repeat (first | apply sel_here ))); rfl) ) | (apply g_bin; first | (apply a_mul; rfl; rfl; infer_instance; omega) | (apply a_quo; rfl; rfl; infer_instance; omega) ) )) | apply Hd.nil | apply wc_ret )))
  exact ret1 rfl rfl ⟨ao1, c1, rfl, rfl, rfl⟩ (by (repeat (first | apply sub_nil )); done) (by first | exact fun _ h => h | (intro r hr; cases hr; done) | (simp; done) | exact fun _ h => List.mem_append_left _ h | (intro r hr; simp [hr]; done))
def guessV (r cp : Int) (waits : Bool) : Int :=
  let n := if waits then r else max (2 * r) 1
  if 0 < cp then min n cp else n

theorem meterGuess (w : Int) (l0 d : List (Int × Int)) (tt cp : Int) (g c : Nat) (ao : Option Addr) (now : Int) (waits : Bool) (hd : dropOld w now l0 = d) (hl : LOk l0) (hn : 0 ≤ now ∧ now ≤ 1099511627776) (hw : 1 ≤ w ∧ w ≤ 1048576) :
    Fn Try.prog 32 #[.pointer (some ⟨g, 0, none⟩), .int .i64 now, .bool waits] (mtH g ao c w l0 tt cp) [] (fun v L' R' => ∃ ao' c', v = .int .i64 (guessV (sumB d * 1000 / w) cp waits) ∧ L' = mtH g ao' c' w d tt cp ∧ R' = []) := by
  have hold := meterRate w l0 d tt cp g c ao now hd hl hn hw
  have hdk : LOk d := hd ▸ hl.old w now
  have hs := hdk.sum
  have hr0 : 0 ≤ sumB d * 1000 / w := Int.ediv_nonneg (by omega) (by omega)
  have hr1 : sumB d * 1000 / w ≤ sumB d * 1000 := Int.ediv_le_self _ (by omega)
  obtain ⟨r, hr⟩ : ∃ r, sumB d * 1000 / w = r := ⟨_, rfl⟩
  rw [hr] at hold hr0 hr1 ⊢
  clear hd hl hr
  refine fn_intro Try.func32 rfl Try.ntmps32 rfl (fun E => ?_)
  (repeat (first | ((first | (apply wo_v; rfl) ); (· first | (apply pv_ev; rfl) )) | apply wo_nil | apply wc_seq | apply wc_region ))
  (refine wo_call (hold) rfl (by (repeat (first | apply sub_nil )); done) (by first | exact fun _ h => h | (intro r hr; cases hr; done) | (simp; done) | exact fun _ h => List.mem_append_left _ h | (intro r hr; simp [hr]; done)) rfl ?_; rintro v L' R' ⟨ao1, c1, rfl, rfl, rfl⟩ H' hH RR hR; simp only [List.cons_append, List.nil_append] at hH hR; subst hH; have hR := hR.symm; subst hR)
  clear hold ao c
  cases waits
  · (repeat (first | ((first | (apply wo_v; rfl) ); (· first | (apply pv_ev; rfl) | (apply pv_fld; rfl) | (apply g_load; first | (apply pv_ld; rfl; (· (repeat (first | apply sel_here ))); rfl) ) | (apply g_bin; first | (apply a_mul; rfl; rfl; infer_instance; omega) ) | (apply g_bi; first | (apply pv_max; rfl; rfl)) | (apply g_un; first | (apply pv_not_t; rfl) | (apply pv_not_f; rfl) ) )) | apply wo_nil | apply wc_seq | apply wc_region | (apply wc_true; rfl) | (apply wc_false; rfl) | (apply a_dec_t; rfl; (· first | assumption | omega)) | (apply a_dec_f; rfl; (· first | assumption | omega)) | (apply a_dec_t; rfl; (· first | (simp; done) | (simp; omega))) | (apply a_dec_f; rfl; (· first | (simp; done) | (simp; omega))) ))
    by_cases hc : 0 < cp
    · (repeat (first | ((first | (apply wo_v; rfl) ); (· first | (apply pv_ev; rfl) | (apply pv_fld; rfl) | (apply g_load; first | (apply pv_ld; rfl; (· (repeat (first | apply sel_here ))); rfl) ) | (apply g_bi; first | (apply pv_min; rfl; rfl) ) )) | apply wo_nil | apply wc_seq | apply wc_region | apply wc_ret | (apply wc_true; rfl) | (apply wc_false; rfl) | (apply a_dec_t; rfl; (· first | assumption | omega)) ))
      exact ret1 rfl rfl ⟨ao1, c1, by simp [guessV, hc], rfl, rfl⟩ (by (repeat (first | apply sub_nil )); done) (by first | exact fun _ h => h | (intro r hr; cases hr; done) | (simp; done) | exact fun _ h => List.mem_append_left _ h | (intro r hr; simp [hr]; done))
    · (repeat (first | ((first | (apply wo_v; rfl) ); (· first | (apply pv_ev; rfl) )) | apply wo_nil | apply wc_seq | apply wc_region | apply wc_skip | apply wc_ret | (apply wc_true; rfl) | (apply wc_false; rfl) | (apply a_dec_t; rfl; (· first | assumption | omega)) | (apply a_dec_f; rfl; (· first | assumption | omega)) ))
      exact ret1 rfl rfl ⟨ao1, c1, by simp [guessV, hc], rfl, rfl⟩ (by (repeat (first | apply sub_nil )); done) (by first | exact fun _ h => h | (intro r hr; cases hr; done) | (simp; done) | exact fun _ h => List.mem_append_left _ h | (intro r hr; simp [hr]; done))
  · (repeat (first | ((first | (apply wo_v; rfl) ); (· first | (apply pv_ev; rfl) | (apply pv_fld; rfl) | (apply g_load; first | (apply pv_ld; rfl; (· (repeat (first | apply sel_here ))); rfl) ) | (apply g_un; first | (apply pv_not_t; rfl) ) )) | apply wo_nil | apply wc_seq | apply wc_region | apply wc_skip | (apply wc_true; rfl) | (apply wc_false; rfl) | (apply a_dec_t; rfl; (· first | assumption | omega)) | (apply a_dec_f; rfl; (· first | assumption | omega)) | (apply a_dec_t; rfl; (· first | (simp; done) | (simp; omega))) | (apply a_dec_f; rfl; (· first | (simp; done) | (simp; omega))) ))
    by_cases hc : 0 < cp
    · (repeat (first | ((first | (apply wo_v; rfl) ); (· first | (apply pv_ev; rfl) | (apply pv_fld; rfl) | (apply g_load; first | (apply pv_ld; rfl; (· (repeat (first | apply sel_here ))); rfl) ) | (apply g_bi; first | (apply pv_min; rfl; rfl) ) )) | apply wo_nil | apply wc_seq | apply wc_region | apply wc_ret | (apply wc_true; rfl) | (apply wc_false; rfl) | (apply a_dec_t; rfl; (· first | assumption | omega)) ))
      exact ret1 rfl rfl ⟨ao1, c1, by simp [guessV, hc], rfl, rfl⟩ (by (repeat (first | apply sub_nil )); done) (by first | exact fun _ h => h | (intro r hr; cases hr; done) | (simp; done) | exact fun _ h => List.mem_append_left _ h | (intro r hr; simp [hr]; done))
    · (repeat (first | ((first | (apply wo_v; rfl) ); (· first | (apply pv_ev; rfl) )) | apply wo_nil | apply wc_seq | apply wc_region | apply wc_skip | apply wc_ret | (apply wc_true; rfl) | (apply wc_false; rfl) | (apply a_dec_t; rfl; (· first | assumption | omega)) | (apply a_dec_f; rfl; (· first | assumption | omega)) ))
      exact ret1 rfl rfl ⟨ao1, c1, by simp [guessV, hc], rfl, rfl⟩ (by (repeat (first | apply sub_nil )); done) (by first | exact fun _ h => h | (intro r hr; cases hr; done) | (simp; done) | exact fun _ h => List.mem_append_left _ h | (intro r hr; simp [hr]; done))
end Go.Proofs.Ytlhlidmhlhodiaa

/-
  Package rate, the plain law: a meter's list tells as much as all that went.
-/
namespace Go.Proofs.Ytlhlidmhlhodiaa
set_option linter.unusedSimpArgs false
set_option linter.unusedVariables false

def sumIn (w t : Int) (l : List (Int × Int)) : Int := sumB (l.filter fun p => decide (t - p.1 < w))
theorem sumIn_nil (w t : Int) : sumIn w t [] = 0 := rfl
theorem sumIn_append (w t : Int) (a b : List (Int × Int)) : sumIn w t (a ++ b) = sumIn w t a + sumIn w t b := by simp [sumIn, sumB]
theorem sumIn_one (w t : Int) (p : Int × Int) : sumIn w t [p] = if t - p.1 < w then p.2 else 0 := by
  unfold sumIn; by_cases h : t - p.1 < w <;> simp [h, sumB, List.filter_cons]
theorem sumIn_cons (w t : Int) (p : Int × Int) (l : List (Int × Int)) : sumIn w t (p :: l) = (if t - p.1 < w then p.2 else 0) + sumIn w t l := by
  rw [show p :: l = [p] ++ l from rfl, sumIn_append, sumIn_one]
theorem sumIn_old (w now t : Int) (h : now ≤ t) (l : List (Int × Int)) : sumIn w t (dropOld w now l) = sumIn w t l := by
  induction l with
  | nil => rfl
  | cons p l ih =>
    unfold dropOld
    rw [List.dropWhile_cons]
    by_cases hc : w ≤ now - p.1
    · rw [if_pos (by simpa using hc), sumIn_cons, if_neg (by omega), Int.zero_add]; exact ih
    · rw [if_neg (by simpa using hc)]
structure Acc (w : Int) (l ref : List (Int × Int)) (now : Int) (k : Nat) : Prop where
  each : ∀ p ∈ l, 0 ≤ p.1 ∧ p.1 ≤ now ∧ 0 ≤ p.2 ∧ p.2 ≤ k * 1073741824
  len : l.length ≤ k
  sorted : l.Pairwise (fun p q => p.1 ≤ q.1)
  same : ∀ t, now ≤ t → sumIn w t l = sumIn w t ref
theorem Acc.lok {w : Int} {l ref : List (Int × Int)} {now : Int} {k : Nat} (h : Acc w l ref now k) (hk : k ≤ 1000) (hn : now ≤ 1099511627776) : LOk l :=
  ⟨fun p hp => by have := h.each p hp; omega, by have := h.len; omega⟩
theorem Acc.later {w : Int} {l ref : List (Int × Int)} {now t : Int} {k : Nat} (h : Acc w l ref now k) (ht : now ≤ t) : Acc w l ref t k :=
  ⟨fun p hp => by have := h.each p hp; omega, h.len, h.sorted, fun u hu => h.same u (by omega)⟩
theorem old_sub (w now : Int) (l : List (Int × Int)) : (dropOld w now l).Sublist l := List.dropWhile_sublist _
theorem Acc.old {w : Int} {l ref : List (Int × Int)} {now : Int} {k : Nat} (h : Acc w l ref now k) : Acc w (dropOld w now l) ref now k :=
  ⟨fun p hp => h.each p ((old_sub w now l).mem hp), Nat.le_trans (old_sub w now l).length_le h.len, h.sorted.sublist (old_sub w now l), fun t ht => by rw [sumIn_old w now t ht, h.same t ht]⟩
theorem old_all {w now : Int} : ∀ {l : List (Int × Int)}, l.Pairwise (fun p q => p.1 ≤ q.1) → sumB (dropOld w now l) = sumIn w now l
  | [], _ => rfl
  | p :: l, h => by
    have hp := List.pairwise_cons.1 h
    rw [sumIn_cons]
    unfold dropOld
    rw [List.dropWhile_cons]
    by_cases hc : w ≤ now - p.1
    · rw [if_pos (by simpa using hc), if_neg (by omega), Int.zero_add]; exact old_all hp.2
    · rw [if_neg (by simpa using hc), if_pos (by omega), sumB_cons]
      congr 1
      unfold sumIn
      rw [List.filter_eq_self.2]
      intro q hq
      have := hp.1 q hq
      simp; omega
theorem Acc.sum {w : Int} {l ref : List (Int × Int)} {now : Int} {k : Nat} (h : Acc w l ref now k) : sumB (dropOld w now l) = sumIn w now ref := by
  rw [old_all h.sorted, h.same now (Int.le_refl _)]
theorem old_idem (w now : Int) (l : List (Int × Int)) : dropOld w now (dropOld w now l) = dropOld w now l := by
  induction l with
  | nil => rfl
  | cons p l ih =>
    unfold dropOld at ih ⊢
    rw [List.dropWhile_cons]
    split
    · exact ih
    · rename_i hc
      rw [List.dropWhile_cons, if_neg hc]
theorem Acc.add {w : Int} {d ref : List (Int × Int)} {now b : Int} {k : Nat} (h : Acc w d ref now k) (hb : 0 ≤ b ∧ b ≤ 1073741824) (hn : 0 ≤ now) : Acc w (addL d now b) (ref ++ [(now, b)]) now (k + 1) := by
  have happ : ∀ t, sumIn w t (addL d now b) = sumIn w t d + sumIn w t [(now, b)] := by
    intro t
    unfold addL
    rcases List.eq_nil_or_concat d with rfl | ⟨d', p, rfl⟩
    · simp [sumIn_nil]
    · rw [List.concat_eq_append]
      simp only [List.getLast?_append, List.getLast?_singleton, Option.some_or, List.dropLast_concat]
      split
      · rename_i hc
        rw [sumIn_append, sumIn_append, sumIn_one, sumIn_one, sumIn_one, hc]
        simp only
        split <;> omega
      · rw [sumIn_append]
  have hmem : ∀ q ∈ addL d now b, 0 ≤ q.1 ∧ q.1 ≤ now ∧ 0 ≤ q.2 ∧ q.2 ≤ (k + 1 : Nat) * 1073741824 := by
    intro q hq
    unfold addL at hq
    split at hq
    · rename_i p hp
      have hpm := h.each p (List.mem_of_getLast? hp)
      split at hq
      · rcases List.mem_append.1 hq with hq | hq
        · have := h.each q ((List.dropLast_sublist _).mem hq); omega
        · have := List.mem_singleton.1 hq; subst this; simp only; omega
      · rcases List.mem_append.1 hq with hq | hq
        · have := h.each q hq; omega
        · have := List.mem_singleton.1 hq; subst this; simp only; omega
    · have := List.mem_singleton.1 hq; subst this; simp only; omega
  refine ⟨hmem, ?_, ?_, fun t ht => ?_⟩
  · have := h.len
    unfold addL
    split
    · split <;> simp <;> omega
    · simp
  · unfold addL
    split
    · rename_i p hp
      split
      · refine List.pairwise_append.2 ⟨h.sorted.sublist (List.dropLast_sublist _), List.pairwise_singleton _ _, fun x hx y hy => ?_⟩
        have := List.mem_singleton.1 hy; subst this
        exact (h.each x ((List.dropLast_sublist _).mem hx)).2.1
      · refine List.pairwise_append.2 ⟨h.sorted, List.pairwise_singleton _ _, fun x hx y hy => ?_⟩
        have := List.mem_singleton.1 hy; subst this
        exact (h.each x hx).2.1
    · exact List.pairwise_singleton _ _
  · rw [happ, sumIn_append, h.same t ht]
theorem Acc.nil (w now : Int) (k : Nat) : Acc w [] [] now k := ⟨by simp, by simp, .nil, fun _ _ => rfl⟩
/-- the same each tick -/
def steady (b : Int) (k : Nat) : List (Int × Int) := (List.range k).map fun (i : Nat) => ((i : Int), b)
theorem steady_succ (b : Int) (k : Nat) : steady b (k + 1) = steady b k ++ [((k : Int), b)] := by simp [steady, List.range_succ]
theorem steady_sum (w n : Nat) (b : Int) (hw : w ≤ n) : ∀ k, k ≤ n → sumIn w ((n : Int) - 1) (steady b k) = b * ((k - (n - w) : Nat) : Int)
  | 0, _ => by simp [steady, sumIn_nil]
  | k + 1, hk => by
    rw [steady_succ, sumIn_append, steady_sum w n b hw k (by omega), sumIn_one]
    simp only
    by_cases hc : n ≤ w + k
    · rw [if_pos (by omega), show k + 1 - (n - w) = (k - (n - w)) + 1 by omega]
      simp [Int.mul_add]
    · rw [if_neg (by omega), show k + 1 - (n - w) = 0 by omega, show k - (n - w) = 0 by omega]
      simp
end Go.Proofs.Ytlhlidmhlhodiaa

/-
  Package ladder: three layers, nothing over.
-/
namespace Go.Proofs.Ytlhlidmhlhodiaa
set_option linter.unusedSimpArgs false
set_option linter.unusedVariables false
open Go.RowKit
set_option maxRecDepth 100000

section
variable {P : Program} {fr : List (Nat × Value)} {hp : List It} {ro : List Ro} {x y : Operand} {t t' : TypeId}
theorem pv_eql_sl {e sz by_ b n c : Nat} {o : Nat} [h : TSl P t e sz by_] (hx : opd fr x = some (.slice (some ⟨b, o, none⟩) n c)) (hy : opd fr y = some (.slice none 0 0)) : Pv P ⟨fr, hp, ro⟩ (.binOp .eql t x y t') (.bool false) := fun N E ac w dst ty pos af g ok => by
  obtain ⟨_, _, h1, _⟩ := sl_und h.h
  have e1 : (Op.equal t (.slice (some ⟨b, o, none⟩) n c) (.slice none 0 0)).run P w = .ok false w := by
    show Sem.run P (Op.equalIn (9999 + 1) t _ _) w = _
    rw [Op.equalIn]
    simp only [Sem.run_bind, run_underlying h1, Result.andThen_ok]
    rfl
  have e2 : (binOp .eql t (.slice (some ⟨b, o, none⟩) n c) (.slice none 0 0)).run P w = .ok (.bool false) w := by
    simp only [binOp, Sem.run_bind, e1]; rfl
  simp only [execOp, ok.h.eval hx, ok.h.eval hy]
  simp [eqGuard, e2]
theorem outc_box {N : Nat} {E : Env} {B0 : List It} {T : TypeId} {l : List Value} {dst : Option Tmp} {ty : TypeId} {pos : String} {af : Array Edge} {g : Option (Nat × Bool)} (hx : opd fr x = some (.agg l.toArray)) :
    ∀ a, Holds N fr a → Outc P E B0 ro ⟨dst, .box T x, ty, pos, af, g⟩ a [] (fun v M => ∃ b, v = .pointer (some ⟨b, 0, none⟩) ∧ M = [.ob b (.cells l.toArray T (0, 0))]) := fun a hh F w hw => by
  have e : (execOp a.eval ⟨dst, .box T x, ty, pos, af, g⟩).run P w = .ok (.value (.pointer (some ⟨w.heap.size, 0, none⟩))) (w.alloc (.cells l.toArray T)) := by
    simp only [execOp, hh.eval hx, Instr.box, newVar, newRow, newObj]; rfl
  rw [e]
  exact ⟨_, ⟨_, rfl, rfl⟩, (hw.step (L := []) (T' := []) (.refl _) (by simp) (Sat.fresh _)).some_ro (fun r hr => by simpa using hr)⟩
end
attribute [local irreducible] Pv WO WC Fn
instance : HasBody Try.prog 78 := ⟨by kernel_rfl⟩
instance : HasBody Try.prog 79 := ⟨by kernel_rfl⟩
instance : HasBody Try.prog 123 := ⟨by kernel_rfl⟩
instance : HasBody Try.prog 150 := ⟨by kernel_rfl⟩
abbrev ndR (x y z : Int) : List (List Value) := [[.int .i64 x], [.int .i64 y], [.int .i64 z]]
abbrev ndO (b c : Nat) (x y z : Int) : It := .own 3 1 (some ⟨b, 0, none⟩) 3 c (ndR x y z)
abbrev ndP (ao : Option Addr) (c : Nat) (x y z : Int) : It := .own 3 1 ao 3 c (ndR x y z)
theorem cNaN (a : Int) : Fn Try.prog 150 #[.int .i64 a] [] [] (fun v L' R' => v = .bool false ∧ L' = [] ∧ R' = []) := by
  refine fn_intro Try.func150 rfl Try.ntmps150 rfl (fun E => ?_)
  (repeat (first | ((first | (apply wo_v; rfl) ); (· first | (apply pv_ev; rfl) )) | apply wo_nil | apply wc_seq | apply wc_region | apply wc_ret ))
  exact ret1 rfl rfl ⟨by simp, rfl, rfl⟩ ((by (repeat (first | apply sub_nil )); done) : List.Perm _ ([] ++ _)) (by first | exact fun _ h => h | (intro r hr; cases hr; done) | (simp; done) | exact fun _ h => List.mem_append_left _ h | (intro r hr; simp [hr]; done))
theorem cLess (a b : Int) : Fn Try.prog 123 #[.int .i64 a, .int .i64 b] [] [] (fun v L' R' => v = .bool (decide (a < b)) ∧ L' = [] ∧ R' = []) := by
  refine fn_intro Try.func123 rfl Try.ntmps123 rfl (fun E => ?_)
  (repeat (first | ((first | (apply wo_v; rfl) ); (· first | (apply pv_ev; rfl) )) | apply wo_nil | apply wc_seq | apply wc_region ))
  (refine wo_call (cNaN a) rfl (by (repeat (first | apply sub_nil )); done) (by first | exact fun _ h => h | (intro r hr; cases hr; done) | (simp; done) | exact fun _ h => List.mem_append_left _ h | (intro r hr; simp [hr]; done)) rfl ?_; rintro v L' R' ⟨rfl, rfl, rfl⟩ H' hH RR hR; simp only [List.cons_append, List.nil_append] at hH hR; subst hH; have hR := hR.symm; subst hR)
  (repeat (first | ((first | (apply wo_v; rfl) ); (· first | (apply pv_ev; rfl) | (apply g_pick; first | (apply pv_pick_t; rfl; rfl) | (apply pv_pick_f; rfl; rfl)) )) | apply wo_nil | apply wc_ret | (apply wo_run; rfl; rfl) | (apply wo_skip; rfl; rfl; rfl; rfl) ))
  exact ret1 rfl rfl ⟨rfl, rfl, rfl⟩ ((by (repeat (first | apply sub_nil )); done) : List.Perm _ ([] ++ _)) (by first | exact fun _ h => h | (intro r hr; cases hr; done) | (simp; done) | exact fun _ h => List.mem_append_left _ h | (intro r hr; simp [hr]; done))
theorem cSorted (b c : Nat) (x y z : Int) (h1 : x ≤ y) (h2 : y ≤ z) : Fn Try.prog 78 #[.slice (some ⟨b, 0, none⟩) 3 c] [ndO b c x y z] [] (fun v L' R' => v = .bool true ∧ L' = [ndO b c x y z] ∧ R' = []) := by
  refine fn_intro Try.func78 rfl Try.ntmps78 rfl (fun E => ?_)
  (repeat (first | ((first | (apply wo_v; rfl) ); (· first | (apply pv_ev; rfl) | (apply g_bin; first | (apply a_sub; rfl; rfl; infer_instance; omega) ) | (apply g_bi; first | (apply pv_len_sl; rfl) ) )) | apply wo_nil | apply wc_seq | apply wc_region ))
  refine wc_block ?_
  refine wc_loop' (fun q st => ∃ (i : Int), (q = 0 ∧ i = 0 ∨ q = 1 ∧ i = 1 ∨ q = 2 ∧ i = 2) ∧ st = ⟨[(0, .slice (some ⟨b, 0, none⟩) 3 c), (3, .int .i64 i)], [ndO b c x y z], []⟩) ⟨2, .inr (.inr ⟨rfl, rfl⟩), rfl⟩ (wk_mk (by (repeat (first | apply wkf_nil | (apply wkf_cons; rfl))); done) (by (repeat (first | apply sub_nil )); done) (by first | exact fun _ h => h | (intro r hr; cases hr; done) | (simp; done) | exact fun _ h => List.mem_append_left _ h | (intro r hr; simp [hr]; done))) ?_
  have l1 := cLess z y
  have l2 := cLess y x
  have hz1 : ¬ z < y := by omega
  have hz2 : ¬ y < x := by omega
  rintro q st ⟨i, ⟨rfl, rfl⟩ | ⟨rfl, rfl⟩ | ⟨rfl, rfl⟩, rfl⟩
  · (repeat (first | ((first | (apply wo_v; rfl) ); (· first | (apply pv_ev; rfl) )) | apply wo_nil | apply wc_seq | apply wc_region | (apply wc_exit; rfl) | apply wc_ret | (apply wc_true; rfl) | (apply wc_false; rfl) ))
    exact ret1 rfl rfl ⟨rfl, rfl, rfl⟩ ((by (repeat (first | apply sub_nil )); done) : List.Perm _ ([_] ++ _)) (by first | exact fun _ h => h | (intro r hr; cases hr; done) | (simp; done) | exact fun _ h => List.mem_append_left _ h | (intro r hr; simp [hr]; done))
  · have r1 : (ndR x y z)[(1 : Int).toNat]? = some [.int .i64 y] := rfl
    have r0 : (ndR x y z)[(1 - 1 : Int).toNat]? = some [.int .i64 x] := rfl
    (repeat (first | ((first | (apply wo_v; rfl) ); (· first | (apply pv_ev; rfl) )) | apply wo_nil | apply wc_seq | apply wc_region | apply wc_skip | (apply wc_true; rfl) ))
    refine wc_block ?_
    (repeat (first | apply wc_seq ))
    (refine wc_quiet mixed (by kernel_rfl) ?_; (repeat (first | ((first | (apply hd_v; rfl) ); (· first | (apply pv_ev; rfl) | (apply g_load; first | (apply pv_ld; rfl; (· (repeat (first | apply sel_there))); rfl) | (apply pv_ld_ownf; rfl; (· (repeat (first | fail ))); (· assumption); rfl) | (apply pv_ld_own1; rfl; (· (repeat (first | apply sel_here ))); (· assumption)) ) | (apply g_bin; first | (apply a_sub; rfl; rfl; infer_instance; omega) ) | (apply g_idx; first | (apply pv_idx; rfl; rfl; omega) | (apply (pv_idx_e 0); rfl; rfl; rfl; omega) | (apply pv_idx_n; rfl; rfl; omega) ) )) )))
    (refine Hd.call rfl inferInstance (Fn.mono (l2) (fun _ _ _ h => ⟨h.1, h.2.1⟩)) rfl (by (repeat (first | apply sub_nil )); done) (by first | exact fun _ h => h | (intro r hr; cases hr; done) | (simp; done) | exact fun _ h => List.mem_append_left _ h | (intro r hr; simp [hr]; done)) rfl ?_; (repeat (first | ((first | (apply wo_v; rfl) ); (· first | (apply pv_ev; rfl) | (apply g_bin; first | (apply a_sub; rfl; rfl; infer_instance; omega) ) )) | apply wo_nil | apply Hd.nil | apply wc_region | apply wc_skip | (apply wc_true; rfl) | (apply wc_false; rfl) | (apply a_dec_t; rfl; (· first | assumption | omega)) | (apply a_dec_f; rfl; (· first | assumption | omega)) )))
    exact loop_end ⟨0, .inl ⟨rfl, rfl⟩, rfl⟩ (by omega) (wk_mk (by (repeat (first | apply wkf_nil | (apply wkf_cons; rfl))); done) (by (repeat (first | apply sub_nil )); done) (by first | exact fun _ h => h | (intro r hr; cases hr; done) | (simp; done) | exact fun _ h => List.mem_append_left _ h | (intro r hr; simp [hr]; done)))
  · have r1 : (ndR x y z)[(2 : Int).toNat]? = some [.int .i64 z] := rfl
    have r0 : (ndR x y z)[(2 - 1 : Int).toNat]? = some [.int .i64 y] := rfl
    (repeat (first | ((first | (apply wo_v; rfl) ); (· first | (apply pv_ev; rfl) )) | apply wo_nil | apply wc_seq | apply wc_region | apply wc_skip | (apply wc_true; rfl) ))
    refine wc_block ?_
    (repeat (first | apply wc_seq ))
    (refine wc_quiet mixed (by kernel_rfl) ?_; (repeat (first | ((first | (apply hd_v; rfl) ); (· first | (apply pv_ev; rfl) | (apply g_load; first | (apply pv_ld; rfl; (· (repeat (first | apply sel_there))); rfl) | (apply pv_ld_ownf; rfl; (· (repeat (first | fail ))); (· assumption); rfl) | (apply pv_ld_own1; rfl; (· (repeat (first | apply sel_here ))); (· assumption)) ) | (apply g_bin; first | (apply a_sub; rfl; rfl; infer_instance; omega) ) | (apply g_idx; first | (apply pv_idx; rfl; rfl; omega) | (apply (pv_idx_e 0); rfl; rfl; rfl; omega) | (apply pv_idx_n; rfl; rfl; omega) ) )) )))
    (refine Hd.call rfl inferInstance (Fn.mono (l1) (fun _ _ _ h => ⟨h.1, h.2.1⟩)) rfl (by (repeat (first | apply sub_nil )); done) (by first | exact fun _ h => h | (intro r hr; cases hr; done) | (simp; done) | exact fun _ h => List.mem_append_left _ h | (intro r hr; simp [hr]; done)) rfl ?_; (repeat (first | ((first | (apply wo_v; rfl) ); (· first | (apply pv_ev; rfl) | (apply g_bin; first | (apply a_sub; rfl; rfl; infer_instance; omega) ) )) | apply wo_nil | apply Hd.nil | apply wc_region | apply wc_skip | (apply wc_true; rfl) | (apply wc_false; rfl) | (apply a_dec_t; rfl; (· first | assumption | omega)) | (apply a_dec_f; rfl; (· first | assumption | omega)) )))
    exact loop_end ⟨1, .inr (.inl ⟨rfl, rfl⟩), rfl⟩ (by omega) (wk_mk (by (repeat (first | apply wkf_nil | (apply wkf_cons; rfl))); done) (by (repeat (first | apply sub_nil )); done) (by first | exact fun _ h => h | (intro r hr; cases hr; done) | (simp; done) | exact fun _ h => List.mem_append_left _ h | (intro r hr; simp [hr]; done)))
theorem cClone (b c : Nat) (x y z : Int) : Fn Try.prog 79 #[.slice (some ⟨b, 0, none⟩) 3 c] [ndO b c x y z] [] (fun v L' R' => ∃ ao c', v = .slice ao 3 c' ∧ L' = [ndP ao c' x y z, ndO b c x y z] ∧ R' = []) := by
  refine fn_intro Try.func79 rfl Try.ntmps79 rfl (fun E => ?_)
  (repeat (first | ((first | (apply wo_v; rfl) ); (· first | (apply pv_ev; rfl) | (apply g_bin; first | (apply pv_eql_s; rfl; rfl) | (apply pv_eql_a; rfl; rfl; infer_instance; rfl; rfl) ) )) | apply wo_nil | apply wc_seq | apply wc_region ))
  apply wo_v
  · rfl
  · exact pv_eql_sl rfl rfl
  (repeat (first | ((first | (apply wo_v; rfl) ); (· first | (apply pv_ev; rfl) | (apply g_bi; first | fail ) )) | apply wo_nil | apply wc_seq | apply wc_region | apply wc_skip | (apply wc_true; rfl) | (apply wc_false; rfl) | (apply wo_bsl; (· (repeat (first | apply Rws'.nil ))); rfl; rfl; rfl; rfl; intro bx) ))
  refine wo_app (ao := some ⟨bx, 0, none⟩) (n := 0) rfl rfl (by (repeat (first | apply sel_here )); done) (by (repeat (first | apply sel_here | apply sel_there)); done) (by unfold maxLen; omega) (by omega) rfl (fun ao2 c2 => ?_)
  (repeat (first | ((first | (apply wo_v; rfl) ); (· first | (apply pv_ev; rfl) )) | apply wo_nil | apply wc_ret ))
  exact ret1 rfl rfl ⟨ao2, c2, rfl, rfl, rfl⟩ ((by (repeat (first | apply sub_nil )); done) : List.Perm _ ([_, _] ++ _)) (by first | exact fun _ h => h | (intro r hr; cases hr; done) | (simp; done) | exact fun _ h => List.mem_append_left _ h | (intro r hr; simp [hr]; done))
abbrev ldO (g : Nat) (u : Int) (v : Value) (at_ most bad good mv : Int) : It := .ob g (.cells #[.int .i64 3, .int .i64 u, .int .i64 0, v, .int .i64 at_, .int .i64 most, .int .i64 bad, .int .i64 good, .int .i64 mv] 173 (0, 0))
theorem ldCheck (u : Int) (hu : 1 ≤ u ∧ u ≤ 8) : Fn Try.prog 77 #[.agg #[.int .i64 3, .int .i64 u, .int .i64 0]] [] [] (fun v L' R' => v = .int .i64 0 ∧ L' = [] ∧ R' = []) := by
  refine fn_intro Try.func77 rfl Try.ntmps77 rfl (fun E => ?_)
  (repeat (first | ((first | (apply wo_v; rfl) ); (· first | (apply pv_ev; rfl) | (apply pv_fld; rfl) | (apply g_load; first | (apply pv_ld; rfl; (· (repeat (first | apply sel_here ))); rfl) ) | (apply g_pick; first | (apply pv_pick_t; rfl; rfl) | (apply pv_pick_f; rfl; rfl)) )) | apply wo_nil | apply wc_seq | apply wc_region | apply wc_skip | apply wc_ret | (apply wc_true; rfl) | (apply wc_false; rfl) | (apply wo_run; rfl; rfl) | (apply wo_skip; rfl; rfl; rfl; rfl) | (apply wo_skip_u; rfl; rfl; rfl) | (apply a_gt; rfl; rfl; (· first | assumption | omega)) | (apply a_gf; rfl; rfl; (· first | assumption | omega)) | (apply wo_box1; rfl; rfl; rfl; intro bx) | (apply wo_boxa; rfl; rfl; intro bx) ))
  exact ret1 rfl rfl ⟨rfl, rfl, rfl⟩ ((by (repeat (first | apply sub_nil )); done) : List.Perm _ ([] ++ _)) (by first | exact fun _ h => h | (intro r hr; cases hr; done) | (simp; done) | exact fun _ h => List.mem_append_left _ h | (intro r hr; simp [hr]; done))
theorem ldStep (g c : Nat) (ao : Option Addr) (u a m bd gd mv to : Int) (hm : 0 ≤ mv ∧ mv ≤ 1000000) : Fn Try.prog 80 #[.pointer (some ⟨g, 0, none⟩), .int .i64 to] [ldO g u (.slice ao 3 c) a m bd gd mv] [] (fun v L' R' => v = .tuple #[] ∧ L' = [ldO g u (.slice ao 3 c) to m 0 0 (mv + 1)] ∧ R' = []) := by
  refine fn_intro Try.func80 rfl Try.ntmps80 rfl (fun E => ?_)
  (repeat (first | ((first | (apply wo_v; rfl) ); (· first | (apply pv_ev; rfl) | (apply pv_fld; rfl) | (apply g_load; first | (apply pv_ld; rfl; (· (repeat (first | apply sel_here ))); rfl) ) | (apply g_bin; first | (apply a_add; rfl; rfl; infer_instance; omega) ) )) | apply wo_nil | apply wc_seq | apply wc_region | (apply wo_st; rfl; rfl; rfl; (· (repeat (first | apply sel_here ))); (· (repeat (first | apply SetAt.here | apply SetAt.there))); rfl) ))
  exact ret0 rfl ⟨rfl, rfl, rfl⟩ ((by (repeat (first | apply sub_nil )); done) : List.Perm _ ([_] ++ _)) (by first | exact fun _ h => h | (intro r hr; cases hr; done) | (simp; done) | exact fun _ h => List.mem_append_left _ h | (intro r hr; simp [hr]; done))
theorem ldWant (g c : Nat) (ao : Option Addr) (u a m bd gd mv w : Int) (hm : 0 ≤ mv ∧ mv ≤ 1000000) (ha : 0 ≤ a) : Fn Try.prog 29 #[.pointer (some ⟨g, 0, none⟩), .int .i64 w] [ldO g u (.slice ao 3 c) a m bd gd mv] []
    (fun v L' R' => v = .bool (decide (min (max w 0) 2 < a)) ∧ L' = [if a ≤ min (max w 0) 2 then ldO g u (.slice ao 3 c) a (min (max w 0) 2) bd gd mv else ldO g u (.slice ao 3 c) (min (max w 0) 2) (min (max w 0) 2) 0 0 (mv + 1)] ∧ R' = []) := by
  have e2 : (((3 : Nat) : Int) - 1) = 2 := rfl
  have hs := ldStep g c ao u a (min (max w 0) 2) bd gd mv (min (max w 0) 2) hm
  by_cases h : a ≤ min (max w 0) 2
  · rw [if_pos h]
    refine fn_intro Try.func29 rfl Try.ntmps29 rfl (fun E => ?_)
    (repeat (first | ((first | (apply wo_v; rfl) ); (· first | (apply pv_ev; rfl) | (apply pv_fld; rfl) | (apply g_load; first | (apply pv_ld; rfl; (· (repeat (first | apply sel_here ))); rfl) ) | (apply g_bin; first | (apply a_sub; rfl; rfl; infer_instance; omega) ) | (apply g_bi; first | (apply pv_len_sl; rfl) | (apply pv_min; rfl; rfl) | (apply pv_max; rfl; rfl)) )) | apply wo_nil | apply wc_seq | apply wc_region | (apply wo_st; rfl; rfl; rfl; (· (repeat (first | apply sel_here ))); (· (repeat (first | apply SetAt.here | apply SetAt.there))); rfl) ))
    (refine wc_quiet mixed (by kernel_rfl) ?_; (repeat (first | ((first | (apply wo_v; rfl) | (apply hd_v; rfl) ); (· first | (apply pv_ev; rfl) | (apply pv_fld; rfl) | (apply g_load; first | (apply pv_ld; rfl; (· (repeat (first | apply sel_here ))); rfl) ) )) | apply wo_nil | apply Hd.nil | apply wc_seq | apply wc_region | apply wc_ret | (apply wc_true; rfl) | (apply wc_false; rfl) | (apply a_dec_t; rfl; (· first | assumption | omega)) )))
    exact ret1 rfl rfl ⟨congrArg Value.bool (decide_eq_false (by omega)).symm, rfl, rfl⟩ ((by (repeat (first | apply sub_nil )); done) : List.Perm _ ([_] ++ _)) (by first | exact fun _ h => h | (intro r hr; cases hr; done) | (simp; done) | exact fun _ h => List.mem_append_left _ h | (intro r hr; simp [hr]; done))
  · rw [if_neg h]
    refine fn_intro Try.func29 rfl Try.ntmps29 rfl (fun E => ?_)
    (repeat (first | ((first | (apply wo_v; rfl) ); (· first | (apply pv_ev; rfl) | (apply pv_fld; rfl) | (apply g_load; first | (apply pv_ld; rfl; (· (repeat (first | apply sel_here ))); rfl) ) | (apply g_bin; first | (apply a_sub; rfl; rfl; infer_instance; omega) ) | (apply g_bi; first | (apply pv_len_sl; rfl) | (apply pv_min; rfl; rfl) | (apply pv_max; rfl; rfl)) )) | apply wo_nil | apply wc_seq | apply wc_region | (apply wo_st; rfl; rfl; rfl; (· (repeat (first | apply sel_here ))); (· (repeat (first | apply SetAt.here | apply SetAt.there))); rfl) ))
    (refine wc_quiet mixed (by kernel_rfl) ?_; (repeat (first | ((first | (apply wo_v; rfl) | (apply hd_v; rfl) ); (· first | (apply pv_ev; rfl) | (apply pv_fld; rfl) | (apply g_load; first | (apply pv_ld; rfl; (· (repeat (first | apply sel_here ))); rfl) ) )) | apply Hd.nil | apply wc_seq | apply wc_region | apply wc_skip | (apply wc_true; rfl) | (apply wc_false; rfl) | (apply a_dec_t; rfl; (· first | assumption | omega)) | (apply a_dec_f; rfl; (· first | assumption | omega)) )))
    rw [e2]
    (refine wo_call (hs) rfl (by (repeat (first | apply sub_nil )); done) (by first | exact fun _ h => h | (intro r hr; cases hr; done) | (simp; done) | exact fun _ h => List.mem_append_left _ h | (intro r hr; simp [hr]; done)) rfl ?_; rintro v L' R' ⟨rfl, rfl, rfl⟩ H' hH RR hR; simp only [List.cons_append, List.nil_append] at hH hR; subst hH; have hR := hR.symm; subst hR)
    (repeat (first | ((first | (apply wo_v; rfl) ); (· first | (apply pv_ev; rfl) )) | apply wo_nil | apply wc_seq | apply wc_region | apply wc_ret ))
    exact ret1 rfl rfl ⟨congrArg Value.bool (decide_eq_true (by omega)).symm, rfl, rfl⟩ ((by (repeat (first | apply sub_nil )); done) : List.Perm _ ([_] ++ _)) (by first | exact fun _ h => h | (intro r hr; cases hr; done) | (simp; done) | exact fun _ h => List.mem_append_left _ h | (intro r hr; simp [hr]; done))
abbrev cfO (b : Nat) (u : Int) : It := .ob b (.cells #[.int .i64 3, .int .i64 u, .int .i64 0] 61 (0, 0))
def tblW (b c : Nat) (x y z u : Int) : Nat → List (List It) → Value → List (List It) → Prop := fun k Ls v Ms => match k, Ls with
  | 0, [q] => v = .agg #[.int .i64 3, .int .i64 u, .int .i64 0] ∧ Ms = [q]
  | 2, _ => ∃ ao c2, v = .slice ao 3 c2 ∧ Ms = [[ndP ao c2 x y z, ndO b c x y z]]
  | 4, [[.own T2 sz ao n2 c2 xs, q], _] => ∃ g, v = .pointer (some ⟨g, 0, none⟩) ∧ Ms = [[.own T2 sz ao n2 c2 xs, q], [ldO g u (.slice ao n2 c2) 0 0 0 0 0]]
  | _, _ => False
theorem ldNew (b c : Nat) (x y z u w : Int) (hu : 1 ≤ u ∧ u ≤ 8) (h0 : 0 ≤ x) (h1 : x ≤ y) (h2 : y ≤ z) (h3 : z ≤ 1099511627776) : Fn Try.prog 28 #[.agg #[.int .i64 3, .int .i64 u, .int .i64 0], .int .i64 w, .slice (some ⟨b, 0, none⟩) 3 c] [ndO b c x y z] []
    (fun v L' R' => ∃ g ao c', v = .tuple #[.pointer (some ⟨g, 0, none⟩), .int .i64 0] ∧ L' = [ldO g u (.slice ao 3 c') (min (max w 0) 2) (min (max w 0) 2) 0 0 0, ndP ao c' x y z] ∧ R' = []) := by
  have r0 : (ndR x y z)[(0 : Int).toNat]? = some [.int .i64 x] := rfl
  have r2 : (ndR x y z)[(((3 : Nat) : Int) - 1).toNat]? = some [.int .i64 z] := rfl
  refine fn_intro Try.func28 rfl Try.ntmps28 rfl (fun E => ?_)
  (repeat (first | ((first | (apply wo_v; rfl) ); (· first | (apply pv_ev; rfl) | (apply g_load; first | (apply pv_lda; rfl; (· (repeat (first | apply sel_here ))); (· (repeat (first | apply Cut.here0 | apply Cut.here )))) ) )) | apply wo_nil | apply wc_seq | apply wc_region | (apply wo_box1; rfl; rfl; rfl; intro bx) | (apply wo_boxa; rfl; rfl; intro bx) ))
  obtain ⟨bc, hbc⟩ : ∃ g, g = bx := ⟨_, rfl⟩
  subst hbc
  (refine wo_call (ldCheck u hu) rfl (by (repeat (first | apply sub_nil )); done) (by first | exact fun _ h => h | (intro r hr; cases hr; done) | (simp; done) | exact fun _ h => List.mem_append_left _ h | (intro r hr; simp [hr]; done)) rfl ?_; rintro v L' R' ⟨rfl, rfl, rfl⟩ H' hH RR hR; simp only [List.cons_append, List.nil_append] at hH hR; subst hH; have hR := hR.symm; subst hR)
  (repeat (first | ((first | (apply wo_v; rfl) ); (· first | (apply pv_ev; rfl) | (apply g_pick; first | (apply pv_pick_t; rfl; rfl) | (apply pv_pick_f; rfl; rfl)) | (apply g_bi; first | (apply pv_len_sl; rfl) ) )) | apply wo_nil | apply wc_seq | apply wc_region | apply wc_skip | (apply wc_true; rfl) | (apply wc_false; rfl) | (apply wo_run; rfl; rfl) ))
  (refine wo_call (cSorted b c x y z h1 h2) rfl (by (repeat (first | apply sub_nil | (apply sub_cons; (· (repeat (first | apply sel_here | apply sel_there)))))); done) (by first | exact fun _ h => h | (intro r hr; cases hr; done) | (simp; done) | exact fun _ h => List.mem_append_left _ h | (intro r hr; simp [hr]; done)) rfl ?_; rintro v L' R' ⟨rfl, rfl, rfl⟩ H' hH RR hR; simp only [List.cons_append, List.nil_append] at hH hR; subst hH; have hR := hR.symm; subst hR)
  (repeat (first | ((first | (apply wo_v; rfl) ); (· first | (apply pv_ev; rfl) | (apply g_load; first | (apply pv_ld; rfl; (· (repeat (first | apply sel_there))); rfl) | (apply pv_ld_ownf; rfl; (· (repeat (first | fail ))); (· assumption); rfl) | (apply pv_ld_own1; rfl; (· (repeat (first | apply sel_here ))); (· assumption)) ) | (apply g_pick; first | (apply pv_pick_t; rfl; rfl) | (apply pv_pick_f; rfl; rfl)) | (apply g_bin; first | (apply a_sub; rfl; rfl; infer_instance; omega) ) | (apply g_bi; first | (apply pv_len_sl; rfl) ) | (apply g_un; first | (apply pv_not_t; rfl) ) | (apply g_idx; first | (apply pv_idx; rfl; rfl; omega) | (apply (pv_idx_e 0); rfl; rfl; rfl; omega) ) )) | apply wo_nil | apply wc_seq | apply wc_skip | (apply wc_true; rfl) | (apply wc_false; rfl) | (apply a_dec_t; rfl; (· first | assumption | omega)) | (apply a_dec_f; rfl; (· first | assumption | omega)) | (apply wo_run; rfl; rfl) | (apply wo_skip; rfl; rfl; rfl; rfl) | (apply wo_skip_u; rfl; rfl; rfl) | (apply a_gt; rfl; rfl; (· first | assumption | omega)) | (apply a_gf; rfl; rfl; (· first | assumption | omega)) ))
  (refine wc_regM [0, 1, 2] (aslL [(0, [0]), (2, [1]), (4, [1, 2])]) (tblW b c x y z u) ([]) (fm [(0, [cfO bc u]), (1, [ndO b c x y z]), (2, [])]) mixed (by kernel_rfl) (by kernel_rfl) (by decide) (aslL_ok (by decide)) (by (repeat (first | (apply prm_cons; (· (repeat (first | apply sel_here | apply sel_there)))) | apply List.Perm.nil )); done) ?_; (repeat (first | (apply HdM.val; rfl; rfl; (· first | fail ); (· first | fail )) )))
  (refine hm_eff (cs := [0]) rfl (by decide) rfl rfl (by first | exact gok_none | exact gok_run rfl rfl) (fun a ha => outc_mono (outc_ld (L := [cfO bc u]) (pv_lda rfl (by (repeat (first | apply sel_here )); done) (by (repeat (first | apply Cut.here0 | apply Cut.here )); done)) a ha) (fun v M h => ⟨[M], And.intro h.1 (congrArg (fun x => [x]) h.2), rfl, by simp⟩)) (⟨_, _, And.intro rfl rfl, rfl⟩) ?_; rintro v Ms ⟨rfl, rfl⟩ _; simp only [setls, setl, reduceIte, Nat.reduceEqDiff]; (repeat (first | (apply HdM.val; rfl; rfl; (· first | apply gok_none ); (· first | (apply pv_ev; rfl) )) )))
  (refine hm_eff (cs := [1]) rfl (by decide) rfl rfl (by first | exact gok_none | exact gok_run rfl rfl) (fun a ha => outc_mono (outc_call (F1 := _) (T := fun v M => ∃ ao c2, v = .slice ao 3 c2 ∧ M = [ndP ao c2 x y z, ndO b c x y z]) (cClone b c x y z) rfl (by (repeat (first | apply sub_nil )); done) (by first | exact fun _ h => h | (intro r hr; cases hr; done) | (simp; done) | exact fun _ h => List.mem_append_left _ h | (intro r hr; simp [hr]; done)) (by rintro v L' R' ⟨ai, ci, rfl, rfl, _⟩; exact ⟨_, ⟨ai, ci, rfl, rfl⟩, (by (repeat (first | (apply prm_cons; (· (repeat (first | apply sel_here )))) | apply List.Perm.nil )); done)⟩) a ha) (fun v M h => ⟨[M], by obtain ⟨ai, ci, h1, h2⟩ := h; exact ⟨ai, ci, h1, by rw [h2]⟩, rfl, by simp⟩)) (⟨_, _, ⟨none, 0, rfl, rfl⟩, rfl⟩) ?_; rintro v Ms ⟨ao, c2, rfl, rfl⟩ _; simp only [setls, setl, reduceIte, Nat.reduceEqDiff]; (repeat (first | (apply HdM.val; rfl; rfl; (· first | apply gok_none ); (· first | (apply pv_ev; rfl) | (apply g_build; apply pv_build; (· (repeat (first | apply Bld.nil | (apply Bld.one; rfl; rfl; (· (repeat (first | apply SetAt.here | apply SetAt.there)))) | (apply Bld.agg; rfl; rfl; (· (repeat (first | apply LayAt.nil | apply LayAt.here )))))))) )) )))
  (refine hm_eff (cs := [1, 2]) rfl (by decide) rfl rfl (by first | exact gok_none | exact gok_run rfl rfl) (fun a ha => outc_mono (outc_frA (X := [ndP ao c2 x y z, ndO b c x y z]) (L := []) (outc_box (l := [.int .i64 3, .int .i64 u, .int .i64 0, .slice ao 3 c2, .int .i64 0, .int .i64 0, .int .i64 0, .int .i64 0, .int .i64 0]) rfl) a ha) (fun v M h => by obtain ⟨M0, ⟨b, h1, h2⟩, h3⟩ := h; exact ⟨[[_, _], [_]], ⟨b, h1, rfl⟩, rfl, by rw [h3, h2]; rfl⟩)) (⟨_, _, ⟨0, rfl, rfl⟩, rfl⟩) ?_; rintro v Ms ⟨g, rfl, rfl⟩ _; simp only [setls, setl, reduceIte, Nat.reduceEqDiff]; (repeat (first | (apply HdM.val; rfl; rfl; (· first | apply gok_none ); (· first | (apply pv_ev; rfl) )) )))
  (refine HdM.nil ?_; intro H hH; simp only [Hp, fm, look, setl, List.flatMap_cons, List.flatMap_nil, reduceIte, Nat.reduceEqDiff, Option.getD_some, List.append_nil, List.cons_append, List.nil_append] at hH; subst hH)
  (repeat (first | ((first | (apply wo_v; rfl) ); (· first | (apply pv_ev; rfl) )) | apply wc_seq | apply wc_region ))
  have hw := ldWant g c2 ao u 0 0 0 0 0 w (by omega) (by omega)
  rw [if_pos (by omega)] at hw
  (refine wo_call (hw) rfl (by (repeat (first | apply sub_nil | (apply sub_cons; (· (repeat (first | apply sel_here | apply sel_there)))))); done) (by first | exact fun _ h => h | (intro r hr; cases hr; done) | (simp; done) | exact fun _ h => List.mem_append_left _ h | (intro r hr; simp [hr]; done)) rfl ?_; rintro v L' R' ⟨rfl, rfl, rfl⟩ H' hH RR hR; simp only [List.cons_append, List.nil_append] at hH hR; subst hH; have hR := hR.symm; subst hR)
  (repeat (first | ((first | (apply wo_v; rfl) ); (· first | (apply pv_ev; rfl) | (apply pv_fld; rfl) | (apply g_load; first | (apply pv_ld; rfl; (· (repeat (first | apply sel_here ))); rfl) ) )) | apply wo_nil | apply wc_seq | apply wc_region | apply wc_ret | (apply wo_st; rfl; rfl; rfl; (· (repeat (first | apply sel_here ))); (· (repeat (first | apply SetAt.here | apply SetAt.there))); rfl) ))
  exact ret2 rfl rfl rfl ⟨g, ao, c2, rfl, rfl, rfl⟩ ((by (repeat (first | apply sub_nil | (apply sub_cons; (· (repeat (first | apply sel_here | apply sel_there)))))); done) : List.Perm _ ([_, _] ++ _)) (by first | exact fun _ h => h | (intro r hr; cases hr; done) | (simp; done) | exact fun _ h => List.mem_append_left _ h | (intro r hr; simp [hr]; done))
theorem ldAt (g : Nat) (u : Int) (v : Value) (a m bd gd mv : Int) : Fn Try.prog 33 #[.pointer (some ⟨g, 0, none⟩)] [ldO g u v a m bd gd mv] [] (fun r L' R' => r = .int .i64 a ∧ L' = [ldO g u v a m bd gd mv] ∧ R' = []) := by
  refine fn_intro Try.func33 rfl Try.ntmps33 rfl (fun E => ?_)
  (repeat (first | ((first | (apply wo_v; rfl) ); (· first | (apply pv_ev; rfl) | (apply pv_fld; rfl) | (apply g_load; first | (apply pv_ld; rfl; (· (repeat (first | apply sel_here ))); rfl) ) )) | apply wo_nil | apply wc_seq | apply wc_region | apply wc_ret ))
  exact ret1 rfl rfl ⟨rfl, rfl, rfl⟩ ((by (repeat (first | apply sub_nil )); done) : List.Perm _ ([_] ++ _)) (by first | exact fun _ h => h | (intro r hr; cases hr; done) | (simp; done) | exact fun _ h => List.mem_append_left _ h | (intro r hr; simp [hr]; done))
abbrev ldI (g b o c : Nat) (u a m gd mv x y z : Int) : List It := [ldO g u (.slice (some ⟨b, o, none⟩) 3 c) a m 0 gd mv, ndP (some ⟨b, o, none⟩) c x y z]
theorem ldEnough (g b o c : Nat) (u a m gd mv x y z r k q : Int) (hk : 0 ≤ k ∧ k ≤ 2) (hq : (ndR x y z)[k.toNat]? = some [.int .i64 q]) (hb : 0 ≤ q ∧ q ≤ 1099511627776) : Fn Try.prog 82 #[.pointer (some ⟨g, 0, none⟩), .int .i64 r, .int .i64 k] (ldI g b o c u a m gd mv x y z) []
    (fun v L' R' => v = .bool (decide (q ≤ r)) ∧ L' = ldI g b o c u a m gd mv x y z ∧ R' = []) := by
  refine fn_intro Try.func82 rfl Try.ntmps82 rfl (fun E => ?_)
  (repeat (first | ((first | (apply wo_v; rfl) ); (· first | (apply pv_ev; rfl) )) | apply wo_nil | apply wc_seq | apply wc_region ))
  (refine wc_quiet mixed (by kernel_rfl) ?_; (repeat (first | ((first | (apply hd_v; rfl) ); (· first | (apply pv_ev; rfl) | (apply pv_fld; rfl) | (apply g_load; first | (apply pv_ld; rfl; (· (repeat (first | apply sel_here | apply sel_there))); rfl) | (apply pv_ld_ownf; rfl; (· (repeat (first | fail ))); (· assumption); rfl) | (apply pv_ld_own1; rfl; (· (repeat (first | apply sel_here | apply sel_there))); (· assumption)) ) | (apply g_bin; first | (apply a_add; rfl; rfl; infer_instance; omega) | (apply a_mul; rfl; rfl; infer_instance; omega) | (apply a_quo; rfl; rfl; infer_instance; omega) ) | (apply g_idx; first | (apply pv_idx; rfl; rfl; omega) | (apply (pv_idx_e 0); rfl; rfl; rfl; omega) | (apply pv_idx_n; rfl; rfl; omega) ) )) | apply Hd.nil | apply wc_ret )))
  exact ret1 rfl rfl ⟨by rw [Int.mul_zero, Int.add_zero], rfl, rfl⟩ ((by (repeat (first | apply sub_nil )); done) : List.Perm _ ([_, _] ++ _)) (by first | exact fun _ h => h | (intro r hr; cases hr; done) | (simp; done) | exact fun _ h => List.mem_append_left _ h | (intro r hr; simp [hr]; done))
set_option maxHeartbeats 4000000 in
theorem ldTickTop (g b o c : Nat) (u a m gd mv x y z r p : Int) (hk : 0 ≤ a ∧ a ≤ 2) (hp : (ndR x y z)[a.toNat]? = some [.int .i64 p]) (hr : p ≤ r) (hm : m ≤ a) : Fn Try.prog 31 #[.pointer (some ⟨g, 0, none⟩), .int .i64 r] (ldI g b o c u a m gd mv x y z) []
    (fun v L' R' => v = .bool false ∧ L' = ldI g b o c u a m 0 mv x y z ∧ R' = []) := by
  have h1 : ¬ r < p := by omega
  have h2 : ¬ a < m := by omega
  refine fn_intro Try.func31 rfl Try.ntmps31 rfl (fun E => ?_)
  (repeat (first | ((first | (apply wo_v; rfl) ); (· first | (apply pv_ev; rfl) )) | apply wo_nil | apply wc_seq | apply wc_region | apply wc_block ))
  (refine wc_quiet mixed (by kernel_rfl) ?_; (repeat (first | ((first | (apply hd_v; rfl) ); (· first | (apply pv_ev; rfl) | (apply pv_fld; rfl) | (apply g_load; first | (apply pv_ld; rfl; (· (repeat (first | apply sel_here | apply sel_there))); rfl) | (apply pv_ld_ownf; rfl; (· (repeat (first | fail ))); (· assumption); rfl) | (apply pv_ld_own1; rfl; (· (repeat (first | apply sel_here | apply sel_there))); (· assumption)) ) | (apply g_pick; first | (apply pv_pick_t; rfl; rfl) | (apply pv_pick_f; rfl; rfl)) | (apply g_idx; first | (apply pv_idx; rfl; rfl; omega) | (apply (pv_idx_e 0); rfl; rfl; rfl; omega) | (apply pv_idx_n; rfl; rfl; omega) ) )) | apply Hd.nil | apply wc_seq | (apply wc_true; rfl) | (apply wc_false; rfl) | (apply Hd.run; rfl; rfl) | (apply Hd.skip; rfl; rfl; rfl; rfl) | (apply Hd.skipu; rfl; rfl; rfl) | (apply ah_gt; rfl; rfl; (· first | assumption | omega)) | (apply ah_gf; rfl; rfl; (· first | assumption | omega)) )))
  (refine wc_quiet mixed (by kernel_rfl) ?_; (repeat (first | ((first | (apply wo_v; rfl) | (apply hd_v; rfl) ); (· first | (apply pv_ev; rfl) | (apply pv_fld; rfl) | (apply g_load; first | (apply pv_ld; rfl; (· (repeat (first | apply sel_here ))); rfl) ) | (apply g_pick; first | (apply pv_pick_t; rfl; rfl) | (apply pv_pick_f; rfl; rfl)) )) | apply wo_nil | apply Hd.nil | apply wc_seq | apply wc_region | apply wc_ret | (apply wc_true; rfl) | (apply wc_false; rfl) | (apply wo_st; rfl; rfl; rfl; (· (repeat (first | apply sel_here ))); (· (repeat (first | apply SetAt.here | apply SetAt.there))); rfl) | (apply Hd.run; rfl; rfl) | (apply Hd.skip; rfl; rfl; rfl; rfl) | (apply Hd.skipu; rfl; rfl; rfl) | (apply ah_gt; rfl; rfl; (· first | assumption | omega)) | (apply ah_gf; rfl; rfl; (· first | assumption | omega)) )))
  exact ret1 rfl rfl ⟨rfl, rfl, rfl⟩ ((by (repeat (first | apply sub_nil )); done) : List.Perm _ ([_, _] ++ _)) (by first | exact fun _ h => h | (intro r hr; cases hr; done) | (simp; done) | exact fun _ h => List.mem_append_left _ h | (intro r hr; simp [hr]; done))
set_option maxHeartbeats 4000000 in
theorem ldTickLow (g b o c : Nat) (u a m gd mv x y z r p q : Int) (hk : 0 ≤ a ∧ a < m ∧ m ≤ 2) (hp : (ndR x y z)[a.toNat]? = some [.int .i64 p]) (hr : p ≤ r) (hq : (ndR x y z)[(a + 1).toNat]? = some [.int .i64 q]) (hb : 0 ≤ q ∧ q ≤ 1099511627776) (hrq : ¬ q ≤ r) : Fn Try.prog 31 #[.pointer (some ⟨g, 0, none⟩), .int .i64 r] (ldI g b o c u a m gd mv x y z) []
    (fun v L' R' => v = .bool false ∧ L' = ldI g b o c u a m 0 mv x y z ∧ R' = []) := by
  have h1 : ¬ r < p := by omega
  have h2 : a < m := by omega
  have he := ldEnough g b o c u a m gd mv x y z r (a + 1) q (by omega) hq hb
  refine fn_intro Try.func31 rfl Try.ntmps31 rfl (fun E => ?_)
  (repeat (first | ((first | (apply wo_v; rfl) ); (· first | (apply pv_ev; rfl) )) | apply wo_nil | apply wc_seq | apply wc_region | apply wc_block ))
  (refine wc_quiet mixed (by kernel_rfl) ?_; (repeat (first | ((first | (apply hd_v; rfl) ); (· first | (apply pv_ev; rfl) | (apply pv_fld; rfl) | (apply g_load; first | (apply pv_ld; rfl; (· (repeat (first | apply sel_here | apply sel_there))); rfl) | (apply pv_ld_ownf; rfl; (· (repeat (first | fail ))); (· assumption); rfl) | (apply pv_ld_own1; rfl; (· (repeat (first | apply sel_here | apply sel_there))); (· assumption)) ) | (apply g_pick; first | (apply pv_pick_t; rfl; rfl) | (apply pv_pick_f; rfl; rfl)) | (apply g_idx; first | (apply pv_idx; rfl; rfl; omega) | (apply (pv_idx_e 0); rfl; rfl; rfl; omega) | (apply pv_idx_n; rfl; rfl; omega) ) )) | apply Hd.nil | apply wc_seq | (apply wc_true; rfl) | (apply wc_false; rfl) | (apply Hd.run; rfl; rfl) | (apply Hd.skip; rfl; rfl; rfl; rfl) | (apply Hd.skipu; rfl; rfl; rfl) | (apply ah_gt; rfl; rfl; (· first | assumption | omega)) | (apply ah_gf; rfl; rfl; (· first | assumption | omega)) )))
  (refine wc_quiet mixed (by kernel_rfl) ?_; (repeat (first | ((first | (apply hd_v; rfl) ); (· first | (apply pv_ev; rfl) | (apply pv_fld; rfl) | (apply g_load; first | (apply pv_ld; rfl; (· (repeat (first | apply sel_here ))); rfl) ) | (apply g_bin; first | (apply a_add; rfl; rfl; infer_instance; omega) ) )) | (apply Hd.run; rfl; rfl) | (apply Hd.skip; rfl; rfl; rfl; rfl) | (apply Hd.skipu; rfl; rfl; rfl) | (apply ah_gt; rfl; rfl; (· first | assumption | omega)) )))
  (refine Hd.call rfl inferInstance (Fn.mono (he) (fun _ _ _ h => ⟨h.1, h.2.1⟩)) rfl (by (repeat (first | apply sub_nil )); done) (by first | exact fun _ h => h | (intro r hr; cases hr; done) | (simp; done) | exact fun _ h => List.mem_append_left _ h | (intro r hr; simp [hr]; done)) rfl ?_; (repeat (first | ((first | (apply wo_v; rfl) | (apply hd_v; rfl) ); (· first | (apply pv_ev; rfl) | (apply pv_fld; rfl) | (apply g_pick; first | (apply pv_pick_t; rfl; rfl) ) )) | apply wo_nil | apply Hd.nil | apply wc_seq | apply wc_region | apply wc_ret | (apply wc_true; rfl) | (apply wc_false; rfl) | (apply a_dec_t; rfl; (· first | assumption | omega)) | (apply a_dec_f; rfl; (· first | assumption | omega)) | (apply wo_st; rfl; rfl; rfl; (· (repeat (first | apply sel_here ))); (· (repeat (first | apply SetAt.here | apply SetAt.there))); rfl) )))
  exact ret1 rfl rfl ⟨rfl, rfl, rfl⟩ ((by (repeat (first | apply sub_nil )); done) : List.Perm _ ([_, _] ++ _)) (by first | exact fun _ h => h | (intro r hr; cases hr; done) | (simp; done) | exact fun _ h => List.mem_append_left _ h | (intro r hr; simp [hr]; done))
set_option maxHeartbeats 4000000 in
theorem ldTickUp (g b o c : Nat) (u a m gd mv x y z r p q : Int) (hk : 0 ≤ a ∧ a < m ∧ m ≤ 2) (hp : (ndR x y z)[a.toNat]? = some [.int .i64 p]) (hr : p ≤ r) (hq : (ndR x y z)[(a + 1).toNat]? = some [.int .i64 q]) (hb : 0 ≤ q ∧ q ≤ 1099511627776) (hrq : q ≤ r) (hg : 0 ≤ gd ∧ gd + 1 < u ∧ u ≤ 8) : Fn Try.prog 31 #[.pointer (some ⟨g, 0, none⟩), .int .i64 r] (ldI g b o c u a m gd mv x y z) []
    (fun v L' R' => v = .bool false ∧ L' = ldI g b o c u a m (gd + 1) mv x y z ∧ R' = []) := by
  have h1 : ¬ r < p := by omega
  have h2 : a < m := by omega
  have he := ldEnough g b o c u a m gd mv x y z r (a + 1) q (by omega) hq hb
  refine fn_intro Try.func31 rfl Try.ntmps31 rfl (fun E => ?_)
  (repeat (first | ((first | (apply wo_v; rfl) ); (· first | (apply pv_ev; rfl) )) | apply wo_nil | apply wc_seq | apply wc_region | apply wc_block ))
  (refine wc_quiet mixed (by kernel_rfl) ?_; (repeat (first | ((first | (apply hd_v; rfl) ); (· first | (apply pv_ev; rfl) | (apply pv_fld; rfl) | (apply g_load; first | (apply pv_ld; rfl; (· (repeat (first | apply sel_here | apply sel_there))); rfl) | (apply pv_ld_ownf; rfl; (· (repeat (first | fail ))); (· assumption); rfl) | (apply pv_ld_own1; rfl; (· (repeat (first | apply sel_here | apply sel_there))); (· assumption)) ) | (apply g_pick; first | (apply pv_pick_t; rfl; rfl) | (apply pv_pick_f; rfl; rfl)) | (apply g_idx; first | (apply pv_idx; rfl; rfl; omega) | (apply (pv_idx_e 0); rfl; rfl; rfl; omega) | (apply pv_idx_n; rfl; rfl; omega) ) )) | apply Hd.nil | apply wc_seq | (apply wc_true; rfl) | (apply wc_false; rfl) | (apply Hd.run; rfl; rfl) | (apply Hd.skip; rfl; rfl; rfl; rfl) | (apply Hd.skipu; rfl; rfl; rfl) | (apply ah_gt; rfl; rfl; (· first | assumption | omega)) | (apply ah_gf; rfl; rfl; (· first | assumption | omega)) )))
  (refine wc_quiet mixed (by kernel_rfl) ?_; (repeat (first | ((first | (apply hd_v; rfl) ); (· first | (apply pv_ev; rfl) | (apply pv_fld; rfl) | (apply g_load; first | (apply pv_ld; rfl; (· (repeat (first | apply sel_here ))); rfl) ) | (apply g_bin; first | (apply a_add; rfl; rfl; infer_instance; omega) ) )) | (apply Hd.run; rfl; rfl) | (apply Hd.skip; rfl; rfl; rfl; rfl) | (apply Hd.skipu; rfl; rfl; rfl) | (apply ah_gt; rfl; rfl; (· first | assumption | omega)) )))
  (refine Hd.call rfl inferInstance (Fn.mono (he) (fun _ _ _ h => ⟨h.1, h.2.1⟩)) rfl (by (repeat (first | apply sub_nil )); done) (by first | exact fun _ h => h | (intro r hr; cases hr; done) | (simp; done) | exact fun _ h => List.mem_append_left _ h | (intro r hr; simp [hr]; done)) rfl ?_; (repeat (first | ((first | (apply wo_v; rfl) | (apply hd_v; rfl) ); (· first | (apply pv_ev; rfl) | (apply pv_fld; rfl) | (apply g_load; first | (apply pv_ld; rfl; (· (repeat (first | apply sel_here ))); rfl) ) | (apply g_pick; first | (apply pv_pick_t; rfl; rfl) ) | (apply g_bin; first | (apply a_add; rfl; rfl; infer_instance; omega) ) )) | apply wo_nil | apply Hd.nil | apply wc_seq | apply wc_region | (apply wc_true; rfl) | (apply wc_false; rfl) | (apply a_dec_t; rfl; (· first | assumption | omega)) | (apply wo_st; rfl; rfl; rfl; (· (repeat (first | apply sel_here ))); (· (repeat (first | apply SetAt.here | apply SetAt.there))); rfl) )))
  (refine wc_quiet mixed (by kernel_rfl) ?_; (repeat (first | ((first | (apply wo_v; rfl) | (apply hd_v; rfl) ); (· first | (apply pv_ev; rfl) | (apply pv_fld; rfl) | (apply g_load; first | (apply pv_ld; rfl; (· (repeat (first | apply sel_here ))); rfl) ) )) | apply wo_nil | apply Hd.nil | apply wc_seq | apply wc_region | apply wc_skip | apply wc_ret | (apply wc_true; rfl) | (apply wc_false; rfl) | (apply a_dec_t; rfl; (· first | assumption | omega)) | (apply a_dec_f; rfl; (· first | assumption | omega)) )))
  exact ret1 rfl rfl ⟨rfl, rfl, rfl⟩ ((by (repeat (first | apply sub_nil )); done) : List.Perm _ ([_, _] ++ _)) (by first | exact fun _ h => h | (intro r hr; cases hr; done) | (simp; done) | exact fun _ h => List.mem_append_left _ h | (intro r hr; simp [hr]; done))
set_option maxHeartbeats 4000000 in
theorem ldTickStep (g b o c : Nat) (u a m gd mv x y z r p q : Int) (hk : 0 ≤ a ∧ a < m ∧ m ≤ 2) (hp : (ndR x y z)[a.toNat]? = some [.int .i64 p]) (hr : p ≤ r) (hq : (ndR x y z)[(a + 1).toNat]? = some [.int .i64 q]) (hb : 0 ≤ q ∧ q ≤ 1099511627776) (hrq : q ≤ r) (hg : 0 ≤ gd ∧ u ≤ gd + 1 ∧ gd ≤ 8) (hm : 0 ≤ mv ∧ mv ≤ 1000000) : Fn Try.prog 31 #[.pointer (some ⟨g, 0, none⟩), .int .i64 r] (ldI g b o c u a m gd mv x y z) []
    (fun v L' R' => v = .bool true ∧ L' = ldI g b o c u (a + 1) m 0 (mv + 1) x y z ∧ R' = []) := by
  have h1 : ¬ r < p := by omega
  have h2 : a < m := by omega
  have he := ldEnough g b o c u a m gd mv x y z r (a + 1) q (by omega) hq hb
  have hs := ldStep g c (some ⟨b, o, none⟩) u a m 0 (gd + 1) mv (a + 1) hm
  refine fn_intro Try.func31 rfl Try.ntmps31 rfl (fun E => ?_)
  (repeat (first | ((first | (apply wo_v; rfl) ); (· first | (apply pv_ev; rfl) )) | apply wo_nil | apply wc_seq | apply wc_region | apply wc_block ))
  (refine wc_quiet mixed (by kernel_rfl) ?_; (repeat (first | ((first | (apply hd_v; rfl) ); (· first | (apply pv_ev; rfl) | (apply pv_fld; rfl) | (apply g_load; first | (apply pv_ld; rfl; (· (repeat (first | apply sel_here | apply sel_there))); rfl) | (apply pv_ld_ownf; rfl; (· (repeat (first | fail ))); (· assumption); rfl) | (apply pv_ld_own1; rfl; (· (repeat (first | apply sel_here | apply sel_there))); (· assumption)) ) | (apply g_pick; first | (apply pv_pick_t; rfl; rfl) | (apply pv_pick_f; rfl; rfl)) | (apply g_idx; first | (apply pv_idx; rfl; rfl; omega) | (apply (pv_idx_e 0); rfl; rfl; rfl; omega) | (apply pv_idx_n; rfl; rfl; omega) ) )) | apply Hd.nil | apply wc_seq | (apply wc_true; rfl) | (apply wc_false; rfl) | (apply Hd.run; rfl; rfl) | (apply Hd.skip; rfl; rfl; rfl; rfl) | (apply Hd.skipu; rfl; rfl; rfl) | (apply ah_gt; rfl; rfl; (· first | assumption | omega)) | (apply ah_gf; rfl; rfl; (· first | assumption | omega)) )))
  (refine wc_quiet mixed (by kernel_rfl) ?_; (repeat (first | ((first | (apply hd_v; rfl) ); (· first | (apply pv_ev; rfl) | (apply pv_fld; rfl) | (apply g_load; first | (apply pv_ld; rfl; (· (repeat (first | apply sel_here ))); rfl) ) | (apply g_bin; first | (apply a_add; rfl; rfl; infer_instance; omega) ) )) | (apply Hd.run; rfl; rfl) | (apply Hd.skip; rfl; rfl; rfl; rfl) | (apply Hd.skipu; rfl; rfl; rfl) | (apply ah_gt; rfl; rfl; (· first | assumption | omega)) )))
  (refine Hd.call rfl inferInstance (Fn.mono (he) (fun _ _ _ h => ⟨h.1, h.2.1⟩)) rfl (by (repeat (first | apply sub_nil )); done) (by first | exact fun _ h => h | (intro r hr; cases hr; done) | (simp; done) | exact fun _ h => List.mem_append_left _ h | (intro r hr; simp [hr]; done)) rfl ?_; (repeat (first | ((first | (apply wo_v; rfl) | (apply hd_v; rfl) ); (· first | (apply pv_ev; rfl) | (apply pv_fld; rfl) | (apply g_load; first | (apply pv_ld; rfl; (· (repeat (first | apply sel_here ))); rfl) ) | (apply g_pick; first | (apply pv_pick_t; rfl; rfl) ) | (apply g_bin; first | (apply a_add; rfl; rfl; infer_instance; omega) ) )) | apply wo_nil | apply Hd.nil | apply wc_seq | apply wc_region | (apply wc_true; rfl) | (apply wc_false; rfl) | (apply a_dec_t; rfl; (· first | assumption | omega)) | (apply wo_st; rfl; rfl; rfl; (· (repeat (first | apply sel_here ))); (· (repeat (first | apply SetAt.here | apply SetAt.there))); rfl) )))
  (refine wc_quiet mixed (by kernel_rfl) ?_; (repeat (first | ((first | (apply wo_v; rfl) | (apply hd_v; rfl) ); (· first | (apply pv_ev; rfl) | (apply pv_fld; rfl) | (apply g_load; first | (apply pv_ld; rfl; (· (repeat (first | apply sel_here ))); rfl) ) | (apply g_bin; first | (apply a_add; rfl; rfl; infer_instance; omega) ) )) | apply Hd.nil | apply wc_seq | apply wc_region | (apply wc_true; rfl) | (apply wc_false; rfl) | (apply a_dec_t; rfl; (· first | assumption | omega)) )))
  (refine wo_call (hs) rfl (by (repeat (first | apply sub_nil )); done) (by first | exact fun _ h => h | (intro r hr; cases hr; done) | (simp; done) | exact fun _ h => List.mem_append_left _ h | (intro r hr; simp [hr]; done)) rfl ?_; rintro v L' R' ⟨rfl, rfl, rfl⟩ H' hH RR hR; simp only [List.cons_append, List.nil_append] at hH hR; subst hH; have hR := hR.symm; subst hR)
  (repeat (first | ((first | (apply wo_v; rfl) ); (· first | (apply pv_ev; rfl) )) | apply wo_nil | apply wc_seq | apply wc_region | apply wc_ret ))
  exact ret1 rfl rfl ⟨rfl, rfl, rfl⟩ ((by (repeat (first | apply sub_nil )); done) : List.Perm _ ([_, _] ++ _)) (by first | exact fun _ h => h | (intro r hr; cases hr; done) | (simp; done) | exact fun _ h => List.mem_append_left _ h | (intro r hr; simp [hr]; done))
end Go.Proofs.Ytlhlidmhlhodiaa

/-
  AntiphonClimbs: who takes all that is sent climbs to the layer that is wanted.
-/
namespace Go.Proofs.Ytlhlidmhlhodiaa
set_option linter.unusedSimpArgs false
set_option linter.unusedVariables false
open Go.RowKit
attribute [local irreducible] Pv WO WC Fn
set_option maxRecDepth 100000

theorem and_7' (x : Int) : bits .and .i64 x 7 = x % 8 := and_ones x 3 (by omega)
theorem and_3' (x : Int) : bits .and .i64 x 3 = x % 4 := and_ones x 2 (by omega)
theorem and_1023' (x : Int) : bits .and .i64 x 1023 = x % 1024 := and_ones x 10 (by omega)
/-- where one stands ahead of a tick -/
def CI (M u t a gd : Int) : Prop :=
  (M = 0 ∧ a = 0 ∧ gd = 0) ∨ (1 ≤ M ∧ t < 2 + u ∧ a = 0 ∧ gd = max (t - 2) 0) ∨ (M = 1 ∧ 2 + u ≤ t ∧ a = 1 ∧ gd = 0) ∨
  (M = 2 ∧ 2 + u ≤ t ∧ t < max 4 (2 + u) + u ∧ a = 1 ∧ gd = max (t - max 4 (2 + u)) 0) ∨ (M = 2 ∧ max 4 (2 + u) + u ≤ t ∧ a = 2 ∧ gd = 0)
theorem ldTickAll (g bs o c : Nat) (u M t a gd mv b r : Int) (hu : 1 ≤ u ∧ u ≤ 8) (hM : 0 ≤ M ∧ M ≤ 2) (ht : 0 ≤ t ∧ t ≤ 1000) (hb : 1 ≤ b ∧ b ≤ 1024) (hI : CI M u t a gd) (hm : 0 ≤ mv ∧ mv ≤ t + 1)
    (r1 : t < 2 → r ≤ 400 * b) (r2 : 2 ≤ t → 600 * b ≤ r) (r3 : t < 4 → r ≤ 800 * b) (r4 : 4 ≤ t → 1000 * b ≤ r) (r0 : 0 ≤ r) :
    Fn Try.prog 31 #[.pointer (some ⟨g, 0, none⟩), .int .i64 r] (ldI g bs o c u a M gd mv 0 (b * 500) (b * 900)) []
      (fun v L' R' => ∃ a' gd' mv', L' = ldI g bs o c u a' M gd' mv' 0 (b * 500) (b * 900) ∧ R' = [] ∧ CI M u (t + 1) a' gd' ∧ 0 ≤ mv' ∧ mv' ≤ t + 2) := by
  have y0 : (ndR 0 (b * 500) (b * 900))[(0 : Int).toNat]? = some [.int .i64 0] := rfl
  have y1 : (ndR 0 (b * 500) (b * 900))[(1 : Int).toNat]? = some [.int .i64 (b * 500)] := rfl
  have y2 : (ndR 0 (b * 500) (b * 900))[(2 : Int).toNat]? = some [.int .i64 (b * 900)] := rfl
  have z1 : (ndR 0 (b * 500) (b * 900))[(0 + 1 : Int).toNat]? = some [.int .i64 (b * 500)] := rfl
  have z2 : (ndR 0 (b * 500) (b * 900))[(1 + 1 : Int).toNat]? = some [.int .i64 (b * 900)] := rfl
  unfold CI at hI
  rcases hI with ⟨h1, rfl, rfl⟩ | ⟨h1, h2, rfl, h3⟩ | ⟨h1, h2, rfl, rfl⟩ | ⟨h1, h2, h4, rfl, h3⟩ | ⟨h1, h2, rfl, rfl⟩
  · refine (ldTickTop g bs o c u 0 M 0 mv 0 (b * 500) (b * 900) r 0 (by omega) y0 r0 (by omega)).mono ?_
    rintro v L' R' ⟨_, h5, h6⟩
    exact ⟨0, 0, mv, h5, h6, by unfold CI; omega, by omega, by omega⟩
  · by_cases h5 : t < 2
    · refine (ldTickLow g bs o c u 0 M gd mv 0 (b * 500) (b * 900) r 0 (b * 500) (by omega) y0 r0 z1 (by omega) (by have := r1 h5; omega)).mono ?_
      rintro v L' R' ⟨_, h6, h7⟩
      exact ⟨0, 0, mv, h6, h7, by unfold CI; omega, by omega, by omega⟩
    · by_cases h6 : t < u + 1
      · refine (ldTickUp g bs o c u 0 M gd mv 0 (b * 500) (b * 900) r 0 (b * 500) (by omega) y0 r0 z1 (by omega) (by have := r2 (by omega); omega) (by omega)).mono ?_
        rintro v L' R' ⟨_, h7, h8⟩
        exact ⟨0, gd + 1, mv, h7, h8, by unfold CI; omega, by omega, by omega⟩
      · refine (ldTickStep g bs o c u 0 M gd mv 0 (b * 500) (b * 900) r 0 (b * 500) (by omega) y0 r0 z1 (by omega) (by have := r2 (by omega); omega) (by omega) (by omega)).mono ?_
        rintro v L' R' ⟨_, h7, h8⟩
        exact ⟨1, 0, mv + 1, h7, h8, by unfold CI; omega, by omega, by omega⟩
  · refine (ldTickTop g bs o c u 1 M 0 mv 0 (b * 500) (b * 900) r (b * 500) (by omega) y1 (by have := r2 (by omega); omega) (by omega)).mono ?_
    rintro v L' R' ⟨_, h5, h6⟩
    exact ⟨1, 0, mv, h5, h6, by unfold CI; omega, by omega, by omega⟩
  · by_cases h5 : t < 4
    · refine (ldTickLow g bs o c u 1 M gd mv 0 (b * 500) (b * 900) r (b * 500) (b * 900) (by omega) y1 (by have := r2 (by omega); omega) z2 (by omega) (by have := r3 h5; omega)).mono ?_
      rintro v L' R' ⟨_, h6, h7⟩
      exact ⟨1, 0, mv, h6, h7, by unfold CI; omega, by omega, by omega⟩
    · by_cases h6 : gd + 1 < u
      · refine (ldTickUp g bs o c u 1 M gd mv 0 (b * 500) (b * 900) r (b * 500) (b * 900) (by omega) y1 (by have := r2 (by omega); omega) z2 (by omega) (by have := r4 (by omega); omega) (by omega)).mono ?_
        rintro v L' R' ⟨_, h7, h8⟩
        exact ⟨1, gd + 1, mv, h7, h8, by unfold CI; omega, by omega, by omega⟩
      · refine (ldTickStep g bs o c u 1 M gd mv 0 (b * 500) (b * 900) r (b * 500) (b * 900) (by omega) y1 (by have := r2 (by omega); omega) z2 (by omega) (by have := r4 (by omega); omega) (by omega) (by omega)).mono ?_
        rintro v L' R' ⟨_, h7, h8⟩
        exact ⟨2, 0, mv + 1, h7, h8, by unfold CI; omega, by omega, by omega⟩
  · refine (ldTickTop g bs o c u 2 M 0 mv 0 (b * 500) (b * 900) r (b * 900) (by omega) y2 (by have := r4 (by omega); omega) (by omega)).mono ?_
    rintro v L' R' ⟨_, h5, h6⟩
    exact ⟨2, 0, mv, h5, h6, by unfold CI; omega, by omega, by omega⟩
theorem steady_all (w t : Int) (b : Int) (h : t < w) : ∀ k, sumIn w t (steady b k) = b * (k : Int)
  | 0 => by simp [steady, sumIn_nil]
  | k + 1 => by
    rw [steady_succ, sumIn_append, steady_all w t b h k, sumIn_one, if_pos (by simp only; omega)]
    simp [Int.mul_add]
theorem steady_at (b : Int) (k : Nat) : sumIn 10 (k : Int) (steady b (k + 1)) = b * min ((k : Int) + 1) 10 := by
  by_cases h : (k : Int) < 10
  · rw [steady_all 10 k b h (k + 1), show ((k + 1 : Nat) : Int) = min ((k : Int) + 1) 10 by omega]
  · have := steady_sum 10 (k + 1) b (by omega) (k + 1) (Nat.le_refl _)
    rw [show ((k + 1 : Nat) : Int) - 1 = k by omega] at this
    rw [show ((10 : Nat) : Int) = 10 from rfl] at this
    rw [this, show ((k + 1 - (k + 1 - 10) : Nat) : Int) = min ((k : Int) + 1) 10 by omega]
set_option maxHeartbeats 8000000 in
theorem antiphonClimbs_fn (p q s : Int) : Fn Try.prog 5 #[.int .i64 p, .int .i64 q, .int .i64 s] [] [] (fun v _ _ => v = .bool true) := by
  have q1 := and_7' p
  have q2 := and_3' q
  have q3 := and_1023' s
  refine fn_intro Try.func5 rfl Try.ntmps5 rfl (fun E => ?_)
  (repeat (first | ((first | (apply wo_v; rfl) ); (· first | (apply pv_ev; rfl) )) | apply wo_nil | apply wc_seq | apply wc_region ))
  (refine wo_call (alive) rfl (by (repeat (first | apply sub_nil )); done) (by first | exact fun _ h => h | (intro r hr; cases hr; done) | (simp; done) | exact fun _ h => List.mem_append_left _ h | (intro r hr; simp [hr]; done)) rfl ?_; rintro v L' R' ⟨rfl, rfl, rfl⟩ H' hH RR hR; simp only [List.cons_append, List.nil_append] at hH hR; subst hH; have hR := hR.symm; subst hR)
  (repeat (first | ((first | (apply wo_v; rfl) ); (· first | (apply pv_ev; rfl) | (apply g_bin; first | (apply a_add; rfl; rfl; infer_instance; omega) | (apply pv_and; rfl; rfl) ) | (apply g_un; first | (apply pv_not_t; rfl) ) )) | apply wo_nil | apply wc_seq | apply wc_region | apply wc_skip | (apply wc_true; rfl) | (apply wc_false; rfl) ))
  have hu : 1 ≤ 1 + bits .and .i64 p 7 ∧ 1 + bits .and .i64 p 7 ≤ 8 := by omega
  have hm : 0 ≤ bits .and .i64 q 3 ∧ bits .and .i64 q 3 ≤ 3 := by omega
  have hb : 1 ≤ 1 + bits .and .i64 s 1023 ∧ 1 + bits .and .i64 s 1023 ≤ 1024 := by omega
  clear q1 q2 q3
  generalize 1 + bits .and .i64 p 7 = u at *
  generalize bits .and .i64 q 3 = m at *
  generalize 1 + bits .and .i64 s 1023 = b at *
  (refine wo_call (rateNew_ok 10 (by omega)) rfl (by (repeat (first | apply sub_nil )); done) (by first | exact fun _ h => h | (intro r hr; cases hr; done) | (simp; done) | exact fun _ h => List.mem_append_left _ h | (intro r hr; simp [hr]; done)) rfl ?_; rintro v L' R' ⟨g, rfl, rfl, rfl⟩ H' hH RR hR; simp only [List.cons_append, List.nil_append] at hH hR; subst hH; have hR := hR.symm; subst hR)
  (repeat (first | ((first | (apply wo_v; rfl) ); (· first | (apply pv_ev; rfl) | (apply g_bin; first | (apply a_mul; rfl; rfl; infer_instance; omega) ) | (apply g_build; apply pv_build; (· (repeat (first | apply Bld.nil | (apply Bld.one; rfl; rfl; (· (repeat (first | apply SetAt.here | apply SetAt.there)))) )))) )) | apply wo_nil | apply wc_seq | apply wc_region | (apply wo_bsl; (· (repeat (first | apply Rws'.nil | (apply Rws'.one; rfl; rfl; rfl) ))); rfl; rfl; rfl; rfl; intro bx) ))
  have hN := ldNew bx 3 0 (b * 500) (b * 900) u m hu (by omega) (by omega) (by omega) (by omega)
  (refine wo_call (hN) rfl (by (repeat (first | apply sub_nil )); done) (by first | exact fun _ h => h | (intro r hr; cases hr; done) | (simp; done) | exact fun _ h => List.mem_append_left _ h | (intro r hr; simp [hr]; done)) rfl ?_; rintro v L' R' ⟨gl, ao, c, rfl, rfl, rfl⟩ H' hH RR hR; simp only [List.cons_append, List.nil_append] at hH hR; subst hH; have hR := hR.symm; subst hR)
  have eM : min (max m 0) 2 = min m 2 := by omega
  rw [eM]
  have hM : 0 ≤ min m 2 ∧ min m 2 ≤ 2 := by omega
  refine wo_some (ao := ao) (n := 3) (by (repeat (first | apply sel_here | apply sel_there)); done) (by omega) ?_
  rintro bs o rfl
  have w1 := ldWant gl c (some ⟨bs, o, none⟩) u (min m 2) (min m 2) 0 0 0 0 (by omega) (by omega)
  rw [show min (max (0 : Int) 0) 2 = 0 by omega] at w1
  obtain ⟨mv, e1, hmv⟩ : ∃ mv : Int, (if min m 2 ≤ 0 then ldO gl u (.slice (some ⟨bs, o, none⟩) 3 c) (min m 2) 0 0 0 0 else ldO gl u (.slice (some ⟨bs, o, none⟩) 3 c) 0 0 0 0 (0 + 1)) = ldO gl u (.slice (some ⟨bs, o, none⟩) 3 c) 0 0 0 0 mv ∧ (0 ≤ mv ∧ mv ≤ 1) := by
    by_cases h0 : min m 2 ≤ 0
    · rw [if_pos h0, show min m 2 = 0 by omega]; exact ⟨0, rfl, by omega⟩
    · rw [if_neg h0]; exact ⟨0 + 1, rfl, by omega⟩
  rw [e1] at w1
  have w2 := ldWant gl c (some ⟨bs, o, none⟩) u 0 0 0 0 mv m (by omega) (by omega)
  rw [eM, if_pos (by omega)] at w2
  (repeat (first | ((first | (apply wo_v; rfl) ); (· first | (apply pv_ev; rfl) | (apply g_pick; first | (apply pv_pick_t; rfl; rfl) | (apply pv_pick_f; rfl; rfl)) )) | apply wo_nil | apply wc_seq | apply wc_region | apply wc_skip | (apply wc_true; rfl) | (apply wc_false; rfl) | (apply wo_run; rfl; rfl) ))
  (refine wo_call (w1) rfl (by (repeat (first | apply sub_nil )); done) (by first | exact fun _ h => h | (intro r hr; cases hr; done) | (simp; done) | exact fun _ h => List.mem_append_left _ h | (intro r hr; simp [hr]; done)) rfl ?_; rintro v L' R' ⟨rfl, rfl, rfl⟩ H' hH RR hR; simp only [List.cons_append, List.nil_append] at hH hR; subst hH; have hR := hR.symm; subst hR)
  (repeat (first | ((first | (apply wo_v; rfl) ); (· first | (apply pv_ev; rfl) )) | apply wo_nil | apply wc_seq | apply wc_region ))
  (refine wo_call (w2) rfl (by (repeat (first | apply sub_nil )); done) (by first | exact fun _ h => h | (intro r hr; cases hr; done) | (simp; done) | exact fun _ h => List.mem_append_left _ h | (intro r hr; simp [hr]; done)) rfl ?_; rintro v L' R' ⟨rfl, rfl, rfl⟩ H' hH RR hR; simp only [List.cons_append, List.nil_append] at hH hR; subst hH; have hR := hR.symm; subst hR)
  refine wo_own0 175 2 ?_
  (repeat (first | ((first | (apply wo_v; rfl) ); (· first | (apply pv_ev; rfl) | (apply g_bin; first | (apply a_add; rfl; rfl; infer_instance; omega) | (apply a_mul; rfl; rfl; infer_instance; omega) ) )) | apply wo_nil | apply wc_seq | apply wc_region ))
  obtain ⟨M, hMm⟩ : ∃ M, min m 2 = M := ⟨_, rfl⟩
  rw [hMm] at hM ⊢
  clear w1 w2 hN e1
  obtain ⟨n, hn⟩ : ∃ n : Nat, 12 + 3 * u = (n : Int) := ⟨(12 + 3 * u).toNat, by omega⟩
  rw [hn]
  refine wc_join0 (fun st => ∃ mv, st = ⟨[(1, .int .i64 m), (9, .pointer (some ⟨gl, 0, none⟩))], ldI gl bs o c u M M 0 mv 0 (b * 500) (b * 900), []⟩) ?_ ?_
  · refine wc_block ?_
    refine wc_loop' (fun z st => ∃ (k : Nat) (ao2 : Option Addr) (c2 : Nat) (l : List (Int × Int)) (a gd mv tt : Int), z = n - k ∧ k ≤ n ∧ CI M u k a gd ∧ (0 ≤ mv ∧ mv ≤ k + 1) ∧ (0 ≤ tt ∧ tt ≤ k * 1024) ∧ Acc 10 l (steady b k) ((k : Int) - 1) k ∧ st = ⟨[(1, .int .i64 m), (2, .int .i64 b), (7, .pointer (some ⟨g, 0, none⟩)), (9, .pointer (some ⟨gl, 0, none⟩)), (51, .int .i64 n), (52, .int .i64 k)], mtH g ao2 c2 10 l tt 0 ++ ldI gl bs o c u a M gd mv 0 (b * 500) (b * 900), []⟩)
      ⟨0, none, 0, [], 0, 0, mv, 0, rfl, Nat.zero_le _, by unfold CI; omega, by omega, by omega, Acc.nil _ _ _, rfl⟩ (wk_mk (by (repeat (first | apply wkf_nil | (apply wkf_cons; rfl))); done) (by (repeat (first | apply sub_nil | (apply sub_cons; (· (repeat (first | apply sel_here | apply sel_there)))))); done) (by first | exact fun _ h => h | (intro r hr; cases hr; done) | (simp; done) | exact fun _ h => List.mem_append_left _ h | (intro r hr; simp [hr]; done))) ?_
    rintro z st ⟨k, ao2, c2, l, a, gd, mv, tt, rfl, hk, hI, hmv, htt, hA, rfl⟩
    by_cases hlt : k < n
    · have hA2 := hA.later (t := k) (by omega)
      have hadd := meterAdd 10 l (dropOld 10 k l) tt 0 g c2 ao2 k b rfl (hA.lok (by omega) (by omega)) (by omega) (by omega) (by omega) b (by omega)
      have hA3 := (hA2.old).add (b := b) (by omega) (by omega)
      rw [← steady_succ] at hA3
      generalize addL (dropOld 10 k l) k b = l2 at hadd hA3
      have hg := fun ao c => meterGuess 10 l2 (dropOld 10 k l2) (tt + b) 0 g c ao k false rfl (hA3.lok (by omega) (by omega)) (by omega) (by omega)
      have hsum := hA3.sum
      rw [steady_at] at hsum
      have hA4 := hA3.old
      have hA5 := hA4.later (t := ((k + 1 : Nat) : Int) - 1) (by omega)
      generalize dropOld 10 k l2 = l3 at hg hsum hA5
      rw [hsum] at hg
      have er : b * min ((k : Int) + 1) 10 * 1000 / 10 = 100 * (b * min ((k : Int) + 1) 10) := by omega
      rw [er] at hg
      obtain ⟨z, hz⟩ : ∃ z, b * min ((k : Int) + 1) 10 = z := ⟨_, rfl⟩
      rw [hz] at hg
      have g1 : (k : Int) < 2 → z ≤ 2 * b := fun h => by
        have := Int.mul_le_mul_of_nonneg_left (show min ((k : Int) + 1) 10 ≤ 2 by omega) (show 0 ≤ b by omega); omega
      have g2 : 2 ≤ (k : Int) → 3 * b ≤ z := fun h => by
        have := Int.mul_le_mul_of_nonneg_left (show 3 ≤ min ((k : Int) + 1) 10 by omega) (show 0 ≤ b by omega); omega
      have g3 : (k : Int) < 4 → z ≤ 4 * b := fun h => by
        have := Int.mul_le_mul_of_nonneg_left (show min ((k : Int) + 1) 10 ≤ 4 by omega) (show 0 ≤ b by omega); omega
      have g4 : 4 ≤ (k : Int) → 5 * b ≤ z := fun h => by
        have := Int.mul_le_mul_of_nonneg_left (show 5 ≤ min ((k : Int) + 1) 10 by omega) (show 0 ≤ b by omega); omega
      have g0 : b ≤ z := by
        have := Int.mul_le_mul_of_nonneg_left (show 1 ≤ min ((k : Int) + 1) 10 by omega) (show 0 ≤ b by omega); omega
      have eg : guessV (100 * z) 0 false = 200 * z := by
        unfold guessV; simp; omega
      rw [eg] at hg
      have ht := ldTickAll gl bs o c u M k a gd mv b (200 * z) hu hM (by omega) hb hI hmv (fun h => by have := g1 h; omega) (fun h => by have := g2 h; omega) (fun h => by have := g3 h; omega) (fun h => by have := g4 h; omega) (by omega)
      clear hA hA2 hA3 hA4 hsum er hz
      (repeat (first | ((first | (apply wo_v; rfl) ); (· first | (apply pv_ev; rfl) )) | apply wo_nil | apply wc_seq | apply wc_region | apply wc_skip | (apply wc_true; rfl) | (apply wc_false; rfl) | (apply a_dec_t; rfl; (· first | assumption | omega)) ))
      refine wc_block ?_
      (repeat (first | ((first | (apply wo_v; rfl) ); (· first | (apply pv_ev; rfl) )) | apply wo_nil | apply wc_seq | apply wc_region ))
      (refine wo_call (hadd) rfl (by (repeat (first | apply sub_nil )); done) (by first | exact fun _ h => h | (intro r hr; cases hr; done) | (simp; done) | exact fun _ h => List.mem_append_left _ h | (intro r hr; simp [hr]; done)) rfl ?_; rintro v L' R' ⟨ao3, c3, rfl, rfl, rfl⟩ H' hH RR hR; simp only [List.cons_append, List.nil_append] at hH hR; subst hH; have hR := hR.symm; subst hR)
      (repeat (first | ((first | (apply wo_v; rfl) ); (· first | (apply pv_ev; rfl) )) | apply wo_nil | apply wc_region ))
      (refine wo_call (hg ao3 c3) rfl (by (repeat (first | apply sub_nil )); done) (by first | exact fun _ h => h | (intro r hr; cases hr; done) | (simp; done) | exact fun _ h => List.mem_append_left _ h | (intro r hr; simp [hr]; done)) rfl ?_; rintro v L' R' ⟨ao4, c4, rfl, rfl, rfl⟩ H' hH RR hR; simp only [List.cons_append, List.nil_append] at hH hR; subst hH; have hR := hR.symm; subst hR)
      (repeat (first | ((first | (apply wo_v; rfl) ); (· first | (apply pv_ev; rfl) )) ))
      (refine wo_call (ht) rfl (by (repeat (first | apply sub_nil | (apply sub_cons; (· (repeat (first | apply sel_here | apply sel_there)))))); done) (by first | exact fun _ h => h | (intro r hr; cases hr; done) | (simp; done) | exact fun _ h => List.mem_append_left _ h | (intro r hr; simp [hr]; done)) rfl ?_; rintro v L' R' ⟨a', gd', mv', rfl, rfl, hI', hmv1, hmv2⟩ H' hH RR hR; simp only [List.cons_append, List.nil_append] at hH hR; subst hH; have hR := hR.symm; subst hR)
      (repeat (first | ((first | (apply wo_v; rfl) ); (· first | (apply pv_ev; rfl) | (apply g_bin; first | (apply a_add; rfl; rfl; infer_instance; omega) ) )) | apply wo_nil | apply wc_region ))
      exact loop_end ⟨k + 1, ao4, c4, l3, a', gd', mv', tt + b, rfl, by omega, by rw [show ((k + 1 : Nat) : Int) = (k : Int) + 1 by omega]; exact hI', by omega, by omega, hA5, rfl⟩ (by omega) (wk_mk (by (repeat (first | apply wkf_nil | (apply wkf_cons; rfl))); done) (by (repeat (first | apply sub_nil | (apply sub_cons; (· (repeat (first | apply sel_here | apply sel_there)))))); done) (by first | exact fun _ h => h | (intro r hr; cases hr; done) | (simp; done) | exact fun _ h => List.mem_append_left _ h | (intro r hr; simp [hr]; done)))
    · have e : k = n := by omega
      subst e
      have ha : a = M ∧ gd = 0 := by unfold CI at hI; omega
      obtain ⟨rfl, rfl⟩ := ha
      (repeat (first | ((first | (apply wo_v; rfl) ); (· first | (apply pv_ev; rfl) )) | apply wo_nil | apply wc_seq | apply wc_region | (apply wc_exit; rfl) | (apply wc_true; rfl) | (apply wc_false; rfl) | (apply a_dec_t; rfl; (· first | assumption | omega)) | (apply a_dec_f; rfl; (· first | assumption | omega)) ))
      exact cut_end ⟨mv, rfl⟩ (wk_mk (by (repeat (first | apply wkf_nil | (apply wkf_cons; rfl))); done) (by (repeat (first | apply sub_nil | (apply sub_cons; (· (repeat (first | apply sel_here | apply sel_there)))))); done) (by first | exact fun _ h => h | (intro r hr; cases hr; done) | (simp; done) | exact fun _ h => List.mem_append_left _ h | (intro r hr; simp [hr]; done)))
  rintro st ⟨mv, rfl⟩
  (repeat (first | ((first | (apply wo_v; rfl) ); (· first | (apply pv_ev; rfl) )) | apply wc_seq | apply wc_region ))
  (refine wo_call (ldAt gl u _ M M 0 0 mv) rfl (by (repeat (first | apply sub_nil )); done) (by first | exact fun _ h => h | (intro r hr; cases hr; done) | (simp; done) | exact fun _ h => List.mem_append_left _ h | (intro r hr; simp [hr]; done)) rfl ?_; rintro v L' R' ⟨rfl, rfl, rfl⟩ H' hH RR hR; simp only [List.cons_append, List.nil_append] at hH hR; subst hH; have hR := hR.symm; subst hR)
  (repeat (first | ((first | (apply wo_v; rfl) ); (· first | (apply pv_ev; rfl) | (apply g_bi; first | (apply pv_min; rfl; rfl) ) )) | apply wo_nil | apply wc_ret ))
  exact ret1 rfl rfl (by simp; omega) ((by (repeat (first | apply sub_nil )); done) : List.Perm _ ([] ++ _)) (by first | exact fun _ h => h | (intro r hr; cases hr; done) | (simp; done) | exact fun _ h => List.mem_append_left _ h | (intro r hr; simp [hr]; done))
theorem antiphonClimbs_walk (a : Int) (ha : -9223372036854775808 ≤ a ∧ a ≤ 9223372036854775807) (b : Int) (hb : -9223372036854775808 ≤ b ∧ b ≤ 9223372036854775807) (c : Int) (hc : -9223372036854775808 ≤ c ∧ c ≤ 9223372036854775807) (w : World) :
    Calls Try.prog 5 #[.int .i64 a, .int .i64 b, .int .i64 c] w fun e w' => e = .returned (.bool true) ∧ Below w.heap.size w w' := walk_of (antiphonClimbs_fn a b c) (by intro r hr; cases hr)
end Go.Proofs.Ytlhlidmhlhodiaa
