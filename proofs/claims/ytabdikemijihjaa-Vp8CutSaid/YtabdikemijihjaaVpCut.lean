/-
  Vp8Cut: a proper prefix is not a descriptor.
-/
import Derived.Test.YtabdikemijihjaaVpWith
namespace Go.Proofs.Ytabdikemijihjaa
set_option linter.unusedSimpArgs false
set_option linter.unusedVariables false
open Go.RowKit
attribute [local irreducible] Pv WO WC Fn
attribute [local irreducible] ByteArray.extract
set_option maxRecDepth 100000
theorem ext_join (s : ByteArray) {k : Nat} (hk : k ≤ s.size) : s.extract 0 k ++ s.extract k s.size = s := by
  apply ByteArray.ext
  simp only [ByteArray.data_append, ByteArray.data_extract]
  apply Array.ext'
  simp
  rw [List.take_of_length_le]
  simp; omega
theorem ext_size0 (s : ByteArray) {k : Nat} (hk : k ≤ s.size) : (s.extract 0 k).size = k := by simp; omega
theorem txt_pos (d : Dc) : 1 ≤ (txt d).size ∧ (txt d).size ≤ 10 := by
  unfold txt
  rw [ByteArray.size_append, b1_size]
  split
  · rw [ByteArray.size_append, ByteArray.size_append, ByteArray.size_append, b1_size, tPic_size]
    have l1 : (tLv d).size ≤ 1 := by
      unfold tLv; split
      · exact Nat.le_refl _
      · exact Nat.zero_le _
    have l2 : (tLast d).size ≤ 1 := by
      unfold tLast; split
      · exact Nat.le_refl _
      · exact Nat.zero_le _
    split
    · split <;> omega
    · omega
  · have : E0.size = 0 := rfl
    omega
set_option maxHeartbeats 64000000 in
theorem vp8Cut_fn (nr st : Bool) (pt pic : Int) (wd : Bool) (lv ly : Int) (sy : Bool) (ky : Int) (n0 : Int) :
    Fn Try.prog 5 #[.agg (dL nr st pt pic wd lv ly sy ky).toArray, .int .i64 n0] [] [] (fun v _ _ => v = .bool true) := by
  obtain ⟨r, hr⟩ : ∃ r, chk ⟨nr, st, pt, pic, wd, lv, ly, sy, ky⟩ = r := ⟨_, rfl⟩
  have qc := vCheck nr st pt pic wd lv ly sy ky r hr
  by_cases h0 : r = 0
  case neg =>
    refine fn_intro Try.func5 rfl Try.ntmps5 rfl (fun E => ?_)
    (repeat (first | ((first | (apply wo_v; rfl) ); (· first | (apply pv_ev; rfl) )) | apply wo_nil | apply wc_seq | apply wc_region | (apply wo_box1; rfl; rfl; rfl; intro bx) | (apply wo_boxa; rfl; rfl; intro bx) ))
    (refine wo_call (awake04) rfl (by (repeat (first | apply sub_nil )); done) (by first | exact fun _ h => h | (intro r hr; cases hr; done) | (simp; done) | exact fun _ h => List.mem_append_left _ h | (intro r hr; simp [hr]; done)) rfl ?_; rintro v L' R' ⟨rfl, rfl, rfl⟩ H' hH RR hR; simp only [List.cons_append, List.nil_append] at hH hR; subst hH; have hR := hR.symm; subst hR)
    (repeat (first | ((first | (apply wo_v; rfl) ); (· first | (apply pv_ev; rfl) | (apply g_load; first | (apply pv_lda; rfl; (· (repeat (first | apply sel_here ))); (· (repeat (first | apply Cut.here0 | apply Cut.here )))) ) | (apply g_un; first | (apply pv_not_t; rfl) ) )) | (apply wo_run; rfl; rfl) ))
    (refine wo_call (qc) rfl (by (repeat (first | apply sub_nil )); done) (by first | exact fun _ h => h | (intro r hr; cases hr; done) | (simp; done) | exact fun _ h => List.mem_append_left _ h | (intro r hr; simp [hr]; done)) rfl ?_; rintro v L' R' ⟨rfl, rfl, rfl⟩ H' hH RR hR; simp only [List.cons_append, List.nil_append] at hH hR; subst hH; have hR := hR.symm; subst hR)
    (repeat (first | ((first | (apply wo_v; rfl) ); (· first | (apply pv_ev; rfl) | (apply g_pick; first | (apply pv_pick_t; rfl; rfl) | (apply pv_pick_f; rfl; rfl)) )) | apply wo_nil | apply wc_seq | apply wc_region | (apply wc_true; rfl) | (apply wc_false; rfl) | (apply a_dec_t; rfl; (· first | assumption | omega)) | (apply wo_run; rfl; rfl) ))
    (refine wo_call (awake04) rfl (by (repeat (first | apply sub_nil )); done) (by first | exact fun _ h => h | (intro r hr; cases hr; done) | (simp; done) | exact fun _ h => List.mem_append_left _ h | (intro r hr; simp [hr]; done)) rfl ?_; rintro v L' R' ⟨rfl, rfl, rfl⟩ H' hH RR hR; simp only [List.cons_append, List.nil_append] at hH hR; subst hH; have hR := hR.symm; subst hR)
    (repeat (first | ((first | (apply wo_v; rfl) ); (· first | (apply pv_ev; rfl) )) | apply wo_nil | apply wc_ret ))
    exact ret1 rfl rfl rfl ((by (repeat (first | apply sub_nil )); done) : List.Perm _ ([] ++ _)) (by first | exact fun _ h => h | (intro r hr; cases hr; done) | (simp; done) | exact fun _ h => List.mem_append_left _ h | (intro r hr; simp [hr]; done))
  subst h0
  have hA : okA ⟨nr, st, pt, pic, wd, lv, ly, sy, ky⟩ := by
    unfold chk at hr; split at hr
    · omega
    · rename_i h; exact Classical.not_not.1 h
  have hF : okF ⟨nr, st, pt, pic, wd, lv, ly, sy, ky⟩ := by
    unfold chk at hr; rw [if_neg (Classical.not_not.2 hA)] at hr; split at hr
    · omega
    · rename_i h; exact Classical.not_not.1 h
  have qt := vText nr st pt pic wd lv ly sy ky hA hF
  have hz := txt_pos ⟨nr, st, pt, pic, wd, lv, ly, sy, ky⟩
  have hcut := fun s z h1 h2 => prs_cut hA hF (s := s) (z := z) h1 h2
  generalize txt ⟨nr, st, pt, pic, wd, lv, ly, sy, ky⟩ = t at qt hz hcut
  have e255 := and_255v n0
  obtain ⟨m, hm⟩ : ∃ m, n0 % 256 % ((t.size : Int) + 1) - 1 = m := ⟨_, rfl⟩
  have hm1 := Int.emod_nonneg (n0 % 256) (show (t.size : Int) + 1 ≠ 0 by omega)
  have hm2 := Int.emod_lt_of_pos (n0 % 256) (show 0 < (t.size : Int) + 1 by omega)
  have hmb : -1 ≤ m ∧ m < t.size := by omega
  obtain ⟨k, hk, hkk⟩ : ∃ k : Nat, (k : Int) = (if m < 0 then (t.size : Int) - 1 else m) ∧ k < t.size := ⟨(if m < 0 then (t.size : Int) - 1 else m).toNat, by split <;> omega, by split <;> omega⟩
  have h3 := hcut (t.extract 0 k) (t.extract k t.size) (ext_join t (by omega)) (by
    have h4 := congrArg ByteArray.size (ext_join t (k := k) (by omega))
    rw [ByteArray.size_append, ext_size0 t (by omega)] at h4
    omega)
  have hk2 := ext_size0 t (k := k) (by omega)
  have qp := vParse (t.extract 0 k) (by omega)
  rw [h3] at qp
  dsimp only [dv, Dc0] at qp
  have he : EqRow (dL false false 0 0 false 0 0 false 0) (dL false false 0 0 false 0 0 false 0) := eqD Dc0
  refine fn_intro Try.func5 rfl Try.ntmps5 rfl (fun E => ?_)
  (repeat (first | ((first | (apply wo_v; rfl) ); (· first | (apply pv_ev; rfl) )) | apply wo_nil | apply wc_seq | apply wc_region | (apply wo_box1; rfl; rfl; rfl; intro bx) | (apply wo_boxa; rfl; rfl; intro bx) ))
  (refine wo_call (awake04) rfl (by (repeat (first | apply sub_nil )); done) (by first | exact fun _ h => h | (intro r hr; cases hr; done) | (simp; done) | exact fun _ h => List.mem_append_left _ h | (intro r hr; simp [hr]; done)) rfl ?_; rintro v L' R' ⟨rfl, rfl, rfl⟩ H' hH RR hR; simp only [List.cons_append, List.nil_append] at hH hR; subst hH; have hR := hR.symm; subst hR)
  (repeat (first | ((first | (apply wo_v; rfl) ); (· first | (apply pv_ev; rfl) | (apply g_load; first | (apply pv_lda; rfl; (· (repeat (first | apply sel_here ))); (· (repeat (first | apply Cut.here0 | apply Cut.here )))) ) | (apply g_un; first | (apply pv_not_t; rfl) ) )) | (apply wo_run; rfl; rfl) ))
  (refine wo_call (qc) rfl (by (repeat (first | apply sub_nil )); done) (by first | exact fun _ h => h | (intro r hr; cases hr; done) | (simp; done) | exact fun _ h => List.mem_append_left _ h | (intro r hr; simp [hr]; done)) rfl ?_; rintro v L' R' ⟨rfl, rfl, rfl⟩ H' hH RR hR; simp only [List.cons_append, List.nil_append] at hH hR; subst hH; have hR := hR.symm; subst hR)
  (repeat (first | ((first | (apply wo_v; rfl) ); (· first | (apply pv_ev; rfl) | (apply g_load; first | (apply pv_lda; rfl; (· (repeat (first | apply sel_here ))); (· (repeat (first | apply Cut.here0 | apply Cut.here )))) ) | (apply g_pick; first | (apply pv_pick_t; rfl; rfl) | (apply pv_pick_f; rfl; rfl)) )) | apply wo_nil | apply wc_seq | apply wc_region | apply wc_skip | (apply wc_true; rfl) | (apply wc_false; rfl) | (apply wo_run; rfl; rfl) ))
  (refine wo_call (qt) rfl (by (repeat (first | apply sub_nil )); done) (by first | exact fun _ h => h | (intro r hr; cases hr; done) | (simp; done) | exact fun _ h => List.mem_append_left _ h | (intro r hr; simp [hr]; done)) rfl ?_; rintro v L' R' ⟨rfl, rfl, rfl⟩ H' hH RR hR; simp only [List.cons_append, List.nil_append] at hH hR; subst hH; have hR := hR.symm; subst hR)
  (repeat (first | ((first | (apply wo_v; rfl) ); (· first | (apply pv_ev; rfl) | (apply g_bin; first | (apply a_add; rfl; rfl; infer_instance; omega) | (apply a_sub; rfl; rfl; infer_instance; omega) | (apply pv_rem; rfl; rfl; omega) | (apply pv_and; rfl; rfl) | (apply a_sub_u; rfl; rfl; infer_instance) | (apply pv_sub_w; rfl; rfl) ) | (apply g_bi; first | (apply pv_len_str; rfl) ) )) | apply wo_nil | apply wc_seq | apply wc_region | (apply wc_true; rfl) | (apply wc_false; rfl) | (apply a_dec_t; rfl; (· first | assumption | omega)) | (apply a_dec_f; rfl; (· first | assumption | omega)) | (apply a_dec_t; rfl; (· first | (simp; done) | (simp; omega))) | (apply a_dec_f; rfl; (· first | (simp; done) | (simp; omega))) ))
  rw [e255]
  (repeat (first | (apply wc_true; rfl) | (apply wc_false; rfl) | (apply a_dec_t; rfl; (· first | assumption | omega)) | (apply a_dec_f; rfl; (· first | assumption | omega)) | (apply a_dec_t; rfl; (· first | (simp; done) | (simp; omega))) | (apply a_dec_f; rfl; (· first | (simp; done) | (simp; omega))) ))
  rw [hm, show IntKind.i64.wrap m = m from IntWalk.i64_in _ (by omega)]
  obtain ⟨bd, hbd⟩ : ∃ bd, bd = bx := ⟨_, rfl⟩
  subst hbd
  refine wc_join0 (fun st' => st' = ⟨[(1, .int .i64 k), (2, .pointer (some ⟨bd, 0, none⟩)), (5, .string t)], [dO bd nr st pt pic wd lv ly sy ky], []⟩) ?_ ?_
  · by_cases hc : m < 0
    · rw [if_pos hc] at hk
      rw [hk]
      (repeat (first | ((first | (apply wo_v; rfl) ); (· first | (apply pv_ev; rfl) | (apply g_bin; first | (apply a_sub; rfl; rfl; infer_instance; omega) ) | (apply g_bi; first | (apply pv_len_str; rfl) ) )) | apply wo_nil | apply wc_region | (apply wc_true; rfl) | (apply wc_false; rfl) | (apply a_dec_t; rfl; (· first | assumption | omega)) ))
      exact cut_end rfl (wk_mk (by (repeat (first | apply wkf_nil | (apply wkf_cons; rfl))); done) (by (repeat (first | apply sub_nil )); done) (by first | exact fun _ h => h | (intro r hr; cases hr; done) | (simp; done) | exact fun _ h => List.mem_append_left _ h | (intro r hr; simp [hr]; done)))
    · rw [if_neg hc] at hk
      rw [← hk] at hc ⊢
      (repeat (first | apply wc_skip | (apply wc_true; rfl) | (apply wc_false; rfl) ))
      exact cut_end rfl (wk_mk (by (repeat (first | apply wkf_nil | (apply wkf_cons; rfl))); done) (by (repeat (first | apply sub_nil )); done) (by first | exact fun _ h => h | (intro r hr; cases hr; done) | (simp; done) | exact fun _ h => List.mem_append_left _ h | (intro r hr; simp [hr]; done)))
  rintro st' rfl
  (repeat (first | ((first | (apply wo_v; rfl) ); (· first | (apply pv_ev; rfl) | (apply pv_cs_hi; rfl; rfl; omega) )) | apply wc_seq | apply wc_region ))
  rw [Int.toNat_natCast]
  (refine wo_call (qp) rfl (by (repeat (first | apply sub_nil )); done) (by first | exact fun _ h => h | (intro r hr; cases hr; done) | (simp; done) | exact fun _ h => List.mem_append_left _ h | (intro r hr; simp [hr]; done)) rfl ?_; rintro v L' R' ⟨rfl, rfl, rfl⟩ H' hH RR hR; simp only [List.cons_append, List.nil_append] at hH hR; subst hH; have hR := hR.symm; subst hR)
  (repeat (first | ((first | (apply wo_v; rfl) ); (· first | (apply pv_ev; rfl) | (apply g_load; first | (apply pv_lda; rfl; (· (repeat (first | apply sel_here ))); (· (repeat (first | apply Cut.here0 | apply Cut.here )))) ) | (apply g_pick; first | (apply pv_pick_t; rfl; rfl) ) | (apply g_bin; first | (apply pv_eql_s; rfl; rfl) | (apply pv_eql_a; rfl; rfl; infer_instance; rfl; rfl) ) | (apply g_bi; first | (apply pv_len_str; rfl) ) | (apply g_build; apply pv_build; (· (repeat (first | apply Bld.nil )))) )) | apply wo_nil | apply wc_seq | apply wc_region | apply wc_skip | apply wc_ret | (apply wc_true; rfl) | (apply wc_false; rfl) | (apply a_dec_t; rfl; (· first | assumption | omega)) | (apply a_dec_f; rfl; (· first | assumption | omega)) | (apply wo_run; rfl; rfl) | (apply wo_alloc; rfl; intro bx) | (apply wo_sta; rfl; rfl; rfl; rfl; (· (repeat (first | apply sel_here ))); (· (repeat (first | apply LayAt.nil | apply LayAt.here ))); rfl) ))
  exact ret1 rfl rfl (by first | rfl | (simp; done)) ((by (repeat (first | apply sub_nil )); done) : List.Perm _ ([] ++ _)) (by first | exact fun _ h => h | (intro r hr; cases hr; done) | (simp; done) | exact fun _ h => List.mem_append_left _ h | (intro r hr; simp [hr]; done))
theorem vp8Cut_walk {w : World} (row : List Value) (R : List Ro) (hR : ∀ r ∈ R, r.sat w) (h : FV1s R dFd row) (n : Int) (hn : -9223372036854775808 ≤ n ∧ n ≤ 9223372036854775807) :
    Calls Try.prog 5 #[.agg row.toArray, .int .i64 n] w fun e w' => e = .returned (.bool true) ∧ Below w.heap.size w w' := by
  obtain ⟨nr, st, pt, pic, wd, lv, ly, sy, ky, rfl⟩ := row_d h
  exact walk_of (vp8Cut_fn nr st pt pic wd lv ly sy ky n) (fun r hr => by cases hr)
end Go.Proofs.Ytabdikemijihjaa
