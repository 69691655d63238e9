/-
  The reference of rtp: Check.
-/
import Derived.Test.YtabdikemijihjaaRtpH
namespace Go.Proofs.Ytabdikemijihjaa
set_option linter.unusedSimpArgs false
set_option linter.unusedVariables false
open Go.RowKit
attribute [local irreducible] Pv WO WC Fn
set_option maxRecDepth 100000
attribute [local irreducible] ByteArray.extract

theorem csT_size (cs : List Int) : ∀ i, i ≤ cs.length → (csT cs i).size = 4 * i
  | 0, _ => rfl
  | i + 1, h => by
    rw [csT, List.getElem?_eq_getElem (show i < cs.length by omega)]
    simp only
    rw [ByteArray.size_append, numS_size, csT_size cs i (by omega)]; omega
theorem txR_size (mrk : Bool) (kd sq t ss : Int) (cs : List Int) (ex : Bool) (pf : Int) (dt pl : ByteArray) (pd : Int) (hp : 0 ≤ pd) : ((txR mrk kd sq t ss cs ex pf dt pl pd).size : Int) = lenM cs.length ex dt pl pd := by
  have h := csT_size cs cs.length (Nat.le_refl _)
  have e0 : E0.size = 0 := rfl
  unfold txR hdT lenM
  cases ex with
  | true =>
    rw [if_pos rfl, if_pos rfl]
    by_cases h0 : 0 < pd
    · rw [if_pos h0]; simp only [ByteArray.size_append, numS_size, zrT_size, h]; omega
    · rw [if_neg h0]; simp only [ByteArray.size_append, numS_size, h, e0]; omega
  | false =>
    simp only [Bool.false_eq_true, if_false]
    by_cases h0 : 0 < pd
    · rw [if_pos h0]; simp only [ByteArray.size_append, numS_size, zrT_size, h, e0]; omega
    · rw [if_neg h0]; simp only [ByteArray.size_append, numS_size, h, e0]; omega
set_option maxHeartbeats 8000000 in
theorem qCheck (mrk : Bool) (kd sq t ss : Int) (cs : List Int) (ex : Bool) (pf : Int) (dt pl : ByteArray) (pd : Int) (ao : Option Addr) (n c : Nat) (R : List Ro) (hS : SQ R 1 ao n c (crs cs)) (hb : cs.length ≤ 1000 ∧ dt.size ≤ 100000) (hp : pl.size ≤ 100000) (hpd : -1000 ≤ pd ∧ pd ≤ 1000)
    (h1 : 0 ≤ kd ∧ kd ≤ 255) (h2 : 0 ≤ sq ∧ sq ≤ 65535) (h3 : 0 ≤ t ∧ t ≤ 4294967295) (h4 : 0 ≤ ss ∧ ss ≤ 4294967295) (h5 : 0 ≤ pf ∧ pf ≤ 65535) (h6 : ∀ z ∈ cs, 0 ≤ z ∧ z ≤ 4294967295) :
    Fn Try.prog 29 #[.agg (rpR mrk kd sq t ss (.slice ao n c) ex pf dt pl pd).toArray] [] R (fun v L' R' => v = .int .i64 (chkR kd cs.length ex pf dt pl pd) ∧ L' = [] ∧ R' = []) := by
  have hT := qText mrk kd sq t ss cs ex pf dt pl pd ao n c R hS hb hp hpd.2 h1 h2 h3 h4 h5 h6
  have hn : n = cs.length := by rw [← hS.len]; simp
  subst hn
  unfold chkR
  have a1 : 127 < kd ∨ (¬ 127 < kd ∧ pd < 0) ∨ (¬ 127 < kd ∧ ¬ pd < 0 ∧ 255 < pd) ∨ (¬ 127 < kd ∧ ¬ pd < 0 ∧ ¬ 255 < pd) := by omega
  rcases a1 with a1 | ⟨a1, a2⟩ | ⟨a1, a2, a3⟩ | ⟨a1, a2, a3⟩
  case inr.inr.inr =>
    rw [if_neg (by omega)]
    have a9 : dt.size / 4 ≤ 65535 := by omega
    by_cases a4 : 15 < cs.length
    · rw [if_pos a4]
      refine fn_intro Try.func29 rfl Try.ntmps29 rfl (fun E => ?_)
      (repeat (first | ((first | (apply wo_v; rfl) ); (· first | (apply pv_ev; rfl) | (apply pv_fld; rfl) | (apply g_load; first | (apply pv_ld; rfl; (· (repeat (first | apply sel_here ))); rfl) ) | (apply g_pick; first | (apply pv_pick_t; rfl; rfl) | (apply pv_pick_f; rfl; rfl)) | (apply g_bi; first | (apply pv_len_sl; rfl) ) )) | apply wo_nil | apply wc_seq | apply wc_region | apply wc_skip | apply wc_ret | (apply wc_true; rfl) | (apply wc_false; rfl) | (apply a_dec_t; rfl; (· first | assumption | omega)) | (apply a_dec_f; rfl; (· first | assumption | omega)) | (apply wo_run; rfl; rfl) | (apply wo_skip; rfl; rfl; rfl; rfl) | (apply wo_skip_u; rfl; rfl; rfl) | (apply a_gt; rfl; rfl; (· first | assumption | omega)) | (apply a_gf; rfl; rfl; (· first | assumption | omega)) | (apply wo_box1; rfl; rfl; rfl; intro bx) | (apply wo_boxa; rfl; rfl; intro bx) ))
      exact ret1 rfl rfl ⟨rfl, rfl, rfl⟩ ((by (repeat (first | apply sub_nil )); done) : List.Perm _ ([] ++ _)) (by first | exact fun _ h => h | (intro r hr; cases hr; done) | (simp; done) | exact fun _ h => List.mem_append_left _ h | (intro r hr; simp [hr]; done))
    rw [if_neg a4]
    by_cases a5 : dt.size % 4 = 0
    case neg =>
      rw [if_pos (.inl a5)]
      refine fn_intro Try.func29 rfl Try.ntmps29 rfl (fun E => ?_)
      (repeat (first | ((first | (apply wo_v; rfl) ); (· first | (apply pv_ev; rfl) | (apply pv_fld; rfl) | (apply g_load; first | (apply pv_ld; rfl; (· (repeat (first | apply sel_here ))); rfl) ) | (apply g_pick; first | (apply pv_pick_t; rfl; rfl) | (apply pv_pick_f; rfl; rfl)) | (apply g_bin; first | (apply a_quo; rfl; rfl; infer_instance; omega) | (apply pv_rem; rfl; rfl; omega) ) | (apply g_bi; first | (apply pv_len_sl; rfl) | (apply pv_len_str; rfl) ) )) | apply wo_nil | apply wc_seq | apply wc_region | apply wc_skip | apply wc_ret | (apply wc_true; rfl) | (apply wc_false; rfl) | (apply a_dec_t; rfl; (· first | assumption | omega)) | (apply a_dec_f; rfl; (· first | assumption | omega)) | (apply wo_run; rfl; rfl) | (apply wo_skip; rfl; rfl; rfl; rfl) | (apply wo_skip_u; rfl; rfl; rfl) | (apply a_gt; rfl; rfl; (· first | assumption | omega)) | (apply a_gf; rfl; rfl; (· first | assumption | omega)) | (apply wo_box1; rfl; rfl; rfl; intro bx) | (apply wo_boxa; rfl; rfl; intro bx) ))
      exact ret1 rfl rfl ⟨rfl, rfl, rfl⟩ ((by (repeat (first | apply sub_nil )); done) : List.Perm _ ([] ++ _)) (by first | exact fun _ h => h | (intro r hr; cases hr; done) | (simp; done) | exact fun _ h => List.mem_append_left _ h | (intro r hr; simp [hr]; done))
    have hsz := txR_size mrk kd sq t ss cs ex pf dt pl pd (by omega)
    generalize txR mrk kd sq t ss cs ex pf dt pl pd = x at hT hsz
    rw [← hsz]
    have tail : ∀ r : Int, r = (if 1500 < (x.size : Int) then 4 else 0) → ∀ y : Bool, y = ex → (y = true ∨ (y = false ∧ pf = 0 ∧ dt = E0)) →
        Fn Try.prog 29 #[.agg (rpR mrk kd sq t ss (.slice ao cs.length c) y pf dt pl pd).toArray] [] R (fun v L' R' => v = .int .i64 r ∧ L' = [] ∧ R' = []) := by
      intro r hr y hy hx2
      subst hy
      by_cases hz : 1500 < (x.size : Int)
      · rw [if_pos hz] at hr
        subst hr
        rcases hx2 with rfl | ⟨rfl, rfl, rfl⟩
        all_goals
          refine fn_intro Try.func29 rfl Try.ntmps29 rfl (fun E => ?_)
          (repeat (first | ((first | (apply wo_v; rfl) ); (· first | (apply pv_ev; rfl) | (apply pv_fld; rfl) | (apply g_load; first | (apply pv_ld; rfl; (· (repeat (first | apply sel_here ))); rfl) | (apply pv_lda; rfl; (· (repeat (first | apply sel_here ))); (· (repeat (first | apply Cut.here0 | apply Cut.here )))) ) | (apply g_pick; first | (apply pv_pick_t; rfl; rfl) | (apply pv_pick_f; rfl; rfl)) | (apply g_bin; first | (apply a_quo; rfl; rfl; infer_instance; omega) | (apply pv_rem; rfl; rfl; omega) | (apply pv_neq_s; rfl; rfl) ) | (apply g_bi; first | (apply pv_len_sl; rfl) | (apply pv_len_str; rfl) ) | (apply g_un; first | (apply pv_not_t; rfl) | (apply pv_not_f; rfl) ) )) | apply wo_nil | apply wc_seq | apply wc_region | apply wc_skip | (apply wc_true; rfl) | (apply wc_false; rfl) | (apply a_dec_t; rfl; (· first | assumption | omega)) | (apply a_dec_f; rfl; (· first | assumption | omega)) | (apply wo_run; rfl; rfl) | (apply wo_skip; rfl; rfl; rfl; rfl) | (apply wo_skip_u; rfl; rfl; rfl) | (apply a_gt; rfl; rfl; (· first | assumption | omega)) | (apply a_gf; rfl; rfl; (· first | assumption | omega)) | (apply wo_box1; rfl; rfl; rfl; intro bx) | (apply wo_boxa; rfl; rfl; intro bx) ))
          (refine wo_call (hT) rfl (by (repeat (first | apply sub_nil )); done) (by first | exact fun _ h => h | (intro r hr; cases hr; done) | (simp; done) | exact fun _ h => List.mem_append_left _ h | (intro r hr; simp [hr]; done)) rfl ?_; rintro v L' R' ⟨rfl, rfl, rfl⟩ H' hH RR hR; simp only [List.cons_append, List.nil_append] at hH hR; subst hH; have hR := hR.symm; subst hR)
          (repeat (first | ((first | (apply wo_v; rfl) ); (· first | (apply pv_ev; rfl) | (apply g_bi; first | (apply pv_len_str; rfl) ) )) | apply wo_nil | apply wc_seq | apply wc_region | apply wc_ret | (apply wc_true; rfl) | (apply wc_false; rfl) | (apply a_dec_t; rfl; (· first | assumption | omega)) ))
          exact ret1 rfl rfl ⟨rfl, rfl, rfl⟩ ((by (repeat (first | apply sub_nil )); done) : List.Perm _ ([] ++ _)) (by first | exact fun _ h => h | (intro r hr; cases hr; done) | (simp; done) | exact fun _ h => List.mem_append_left _ h | (intro r hr; simp [hr]; done))
      · rw [if_neg hz] at hr
        subst hr
        rcases hx2 with rfl | ⟨rfl, rfl, rfl⟩
        all_goals
          refine fn_intro Try.func29 rfl Try.ntmps29 rfl (fun E => ?_)
          (repeat (first | ((first | (apply wo_v; rfl) ); (· first | (apply pv_ev; rfl) | (apply pv_fld; rfl) | (apply g_load; first | (apply pv_ld; rfl; (· (repeat (first | apply sel_here ))); rfl) | (apply pv_lda; rfl; (· (repeat (first | apply sel_here ))); (· (repeat (first | apply Cut.here0 | apply Cut.here )))) ) | (apply g_pick; first | (apply pv_pick_t; rfl; rfl) | (apply pv_pick_f; rfl; rfl)) | (apply g_bin; first | (apply a_quo; rfl; rfl; infer_instance; omega) | (apply pv_rem; rfl; rfl; omega) | (apply pv_neq_s; rfl; rfl) ) | (apply g_bi; first | (apply pv_len_sl; rfl) | (apply pv_len_str; rfl) ) | (apply g_un; first | (apply pv_not_t; rfl) | (apply pv_not_f; rfl) ) )) | apply wo_nil | apply wc_seq | apply wc_region | apply wc_skip | (apply wc_true; rfl) | (apply wc_false; rfl) | (apply a_dec_t; rfl; (· first | assumption | omega)) | (apply a_dec_f; rfl; (· first | assumption | omega)) | (apply wo_run; rfl; rfl) | (apply wo_skip; rfl; rfl; rfl; rfl) | (apply wo_skip_u; rfl; rfl; rfl) | (apply a_gt; rfl; rfl; (· first | assumption | omega)) | (apply a_gf; rfl; rfl; (· first | assumption | omega)) | (apply wo_box1; rfl; rfl; rfl; intro bx) | (apply wo_boxa; rfl; rfl; intro bx) ))
          (refine wo_call (hT) rfl (by (repeat (first | apply sub_nil )); done) (by first | exact fun _ h => h | (intro r hr; cases hr; done) | (simp; done) | exact fun _ h => List.mem_append_left _ h | (intro r hr; simp [hr]; done)) rfl ?_; rintro v L' R' ⟨rfl, rfl, rfl⟩ H' hH RR hR; simp only [List.cons_append, List.nil_append] at hH hR; subst hH; have hR := hR.symm; subst hR)
          (repeat (first | ((first | (apply wo_v; rfl) ); (· first | (apply pv_ev; rfl) | (apply g_bi; first | (apply pv_len_str; rfl) ) )) | apply wo_nil | apply wc_seq | apply wc_region | apply wc_skip | apply wc_ret | (apply wc_true; rfl) | (apply wc_false; rfl) | (apply a_dec_t; rfl; (· first | assumption | omega)) | (apply a_dec_f; rfl; (· first | assumption | omega)) ))
          exact ret1 rfl rfl ⟨rfl, rfl, rfl⟩ ((by (repeat (first | apply sub_nil )); done) : List.Perm _ ([] ++ _)) (by first | exact fun _ h => h | (intro r hr; cases hr; done) | (simp; done) | exact fun _ h => List.mem_append_left _ h | (intro r hr; simp [hr]; done))
    by_cases a6 : ex = false ∧ (pf ≠ 0 ∨ dt ≠ E0)
    · rw [if_pos (.inr a6)]
      obtain ⟨rfl, a6⟩ := a6
      have a7 : pf ≠ 0 ∨ (pf = 0 ∧ dt ≠ E0) := by
        by_cases h : pf = 0
        · exact .inr ⟨h, a6.resolve_left (fun h' => h' h)⟩
        · exact .inl h
      rcases a7 with a7 | ⟨a7, a8⟩
      all_goals
        refine fn_intro Try.func29 rfl Try.ntmps29 rfl (fun E => ?_)
        (repeat (first | ((first | (apply wo_v; rfl) ); (· first | (apply pv_ev; rfl) | (apply pv_fld; rfl) | (apply g_load; first | (apply pv_ld; rfl; (· (repeat (first | apply sel_here ))); rfl) ) | (apply g_pick; first | (apply pv_pick_t; rfl; rfl) | (apply pv_pick_f; rfl; rfl)) | (apply g_bin; first | (apply a_quo; rfl; rfl; infer_instance; omega) | (apply pv_rem; rfl; rfl; omega) | (apply pv_neq_s; rfl; rfl) ) | (apply g_bi; first | (apply pv_len_sl; rfl) | (apply pv_len_str; rfl) ) | (apply g_un; first | (apply pv_not_t; rfl) | (apply pv_not_f; rfl) ) )) | apply wo_nil | apply wc_seq | apply wc_region | apply wc_skip | apply wc_ret | (apply wc_true; rfl) | (apply wc_false; rfl) | (apply a_dec_t; rfl; (· first | assumption | omega)) | (apply a_dec_f; rfl; (· first | assumption | omega)) | (apply wo_run; rfl; rfl) | (apply wo_skip; rfl; rfl; rfl; rfl) | (apply wo_skip_u; rfl; rfl; rfl) | (apply a_gt; rfl; rfl; (· first | assumption | omega)) | (apply a_gf; rfl; rfl; (· first | assumption | omega)) | (apply wo_box1; rfl; rfl; rfl; intro bx) | (apply wo_boxa; rfl; rfl; intro bx) ))
        exact ret1 rfl rfl ⟨rfl, rfl, rfl⟩ ((by (repeat (first | apply sub_nil )); done) : List.Perm _ ([] ++ _)) (by first | exact fun _ h => h | (intro r hr; cases hr; done) | (simp; done) | exact fun _ h => List.mem_append_left _ h | (intro r hr; simp [hr]; done))
    · rw [if_neg (fun h => h.elim (fun h => h a5) a6)]
      refine tail _ rfl ex rfl ?_
      cases ex with
      | true => exact .inl rfl
      | false =>
        refine .inr ⟨rfl, ?_, ?_⟩
        · exact Classical.not_not.1 fun h => a6 ⟨rfl, .inl h⟩
        · exact Classical.not_not.1 fun h => a6 ⟨rfl, .inr h⟩
  all_goals
    rw [if_pos (by omega)]
    refine fn_intro Try.func29 rfl Try.ntmps29 rfl (fun E => ?_)
    (repeat (first | ((first | (apply wo_v; rfl) ); (· first | (apply pv_ev; rfl) | (apply pv_fld; rfl) | (apply g_load; first | (apply pv_ld; rfl; (· (repeat (first | apply sel_here ))); rfl) ) | (apply g_pick; first | (apply pv_pick_t; rfl; rfl) | (apply pv_pick_f; rfl; rfl)) )) | apply wo_nil | apply wc_seq | apply wc_region | apply wc_ret | (apply wc_true; rfl) | (apply wc_false; rfl) | (apply a_dec_t; rfl; (· first | assumption | omega)) | (apply wo_run; rfl; rfl) | (apply wo_skip; rfl; rfl; rfl; rfl) | (apply wo_skip_u; rfl; rfl; rfl) | (apply a_gt; rfl; rfl; (· first | assumption | omega)) | (apply a_gf; rfl; rfl; (· first | assumption | omega)) | (apply wo_box1; rfl; rfl; rfl; intro bx) | (apply wo_boxa; rfl; rfl; intro bx) ))
    exact ret1 rfl rfl ⟨rfl, rfl, rfl⟩ ((by (repeat (first | apply sub_nil )); done) : List.Perm _ ([] ++ _)) (by first | exact fun _ h => h | (intro r hr; cases hr; done) | (simp; done) | exact fun _ h => List.mem_append_left _ h | (intro r hr; simp [hr]; done))
end Go.Proofs.Ytabdikemijihjaa
