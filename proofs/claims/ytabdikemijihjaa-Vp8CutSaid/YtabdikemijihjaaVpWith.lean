/-
  Vp8With: replacing the picture number.
-/
import Derived.Test.YtabdikemijihjaaVpC
import Derived.Test.YtabdikemijihjaaDeep
namespace Go.Proofs.Ytabdikemijihjaa
set_option linter.unusedSimpArgs false
set_option linter.unusedVariables false
open Go.RowKit
attribute [local irreducible] Pv WO WC Fn
attribute [local irreducible] ByteArray.extract
set_option maxRecDepth 100000
abbrev dFd : List Fd1 := [.one .bool, .one .bool, .one (.int .i64), .one (.int .i64), .one .bool, .one (.int .i64), .one (.int .i64), .one .bool, .one (.int .i64)]
theorem fk_i64 {R : List Ro} {v : Value} (h : FV1 R (.one (.int .i64)) v) : ∃ z, v = .int .i64 z := by obtain ⟨z, h, _⟩ := h; exact ⟨z, h⟩
theorem row_d {R : List Ro} {row : List Value} (h : FV1s R dFd row) : ∃ nr st pt pic wd lv ly sy ky, row = dL nr st pt pic wd lv ly sy ky := by
  obtain ⟨hl, h⟩ := h
  obtain ⟨v0, e0, nr, rfl⟩ := h 0 _ rfl
  obtain ⟨v1, e1, st, rfl⟩ := h 1 _ rfl
  obtain ⟨v2, e2, h2⟩ := h 2 _ rfl
  obtain ⟨v3, e3, h3⟩ := h 3 _ rfl
  obtain ⟨v4, e4, wd, rfl⟩ := h 4 _ rfl
  obtain ⟨v5, e5, h5⟩ := h 5 _ rfl
  obtain ⟨v6, e6, h6⟩ := h 6 _ rfl
  obtain ⟨v7, e7, sy, rfl⟩ := h 7 _ rfl
  obtain ⟨v8, e8, h8⟩ := h 8 _ rfl
  obtain ⟨pt, rfl⟩ := fk_i64 h2
  obtain ⟨pic, rfl⟩ := fk_i64 h3
  obtain ⟨lv, rfl⟩ := fk_i64 h5
  obtain ⟨ly, rfl⟩ := fk_i64 h6
  obtain ⟨ky, rfl⟩ := fk_i64 h8
  refine ⟨nr, st, pt, pic, wd, lv, ly, sy, ky, ?_⟩
  match row, hl, e0, e1, e2, e3, e4, e5, e6, e7, e8 with
  | [a0, a1, a2, a3, a4, a5, a6, a7, a8], _, e0, e1, e2, e3, e4, e5, e6, e7, e8 =>
    simp at e0 e1 e2 e3 e4 e5 e6 e7 e8
    subst e0 e1 e2 e3 e4 e5 e6 e7 e8
    rfl
theorem tmod_mod (p : Int) (m : Nat) (hm : 0 < m) : -(m : Int) < p.tmod m ∧ p.tmod m < m := ⟨Int.lt_tmod_of_pos p (by omega), Int.tmod_lt_of_pos p (by omega)⟩
set_option maxHeartbeats 64000000 in
theorem vp8With_fn (nr st : Bool) (pt pic : Int) (wd : Bool) (lv ly : Int) (sy : Bool) (ky : Int) (pp ll : Int) (s0 : ByteArray) :
    Fn Try.prog 6 #[.agg (dL nr st pt pic wd lv ly sy ky).toArray, .int .i64 pp, .int .i64 ll, .string s0] [] [] (fun v _ _ => v = .bool true) := by
  have hC := octCut s0 20
  generalize cutS s0 20 = s at hC
  obtain ⟨r, hr⟩ : ∃ r, chk ⟨nr, st, pt, pic, wd, lv, ly, sy, ky⟩ = r := ⟨_, rfl⟩
  have qc := vCheck nr st pt pic wd lv ly sy ky r hr
  by_cases h0 : r = 0
  case neg =>
    refine fn_intro Try.func6 rfl Try.ntmps6 rfl (fun E => ?_)
    (repeat (first | ((first | (apply wo_v; rfl) ); (· first | (apply pv_ev; rfl) )) | apply wo_nil | apply wc_seq | apply wc_region | (apply wo_box1; rfl; rfl; rfl; intro bx) | (apply wo_boxa; rfl; rfl; intro bx) ))
    (refine wo_call (hC) rfl (by (repeat (first | apply sub_nil )); done) (by first | exact fun _ h => h | (intro r hr; cases hr; done) | (simp; done) | exact fun _ h => List.mem_append_left _ h | (intro r hr; simp [hr]; done)) rfl ?_; rintro v L' R' ⟨rfl, rfl, rfl⟩ H' hH RR hR; simp only [List.cons_append, List.nil_append] at hH hR; subst hH; have hR := hR.symm; subst hR)
    (repeat (first | ((first | (apply wo_v; rfl) ); (· first | (apply pv_ev; rfl) )) | apply wo_nil | apply wc_seq | apply wc_region ))
    (refine wo_call (awake04) rfl (by (repeat (first | apply sub_nil )); done) (by first | exact fun _ h => h | (intro r hr; cases hr; done) | (simp; done) | exact fun _ h => List.mem_append_left _ h | (intro r hr; simp [hr]; done)) rfl ?_; rintro v L' R' ⟨rfl, rfl, rfl⟩ H' hH RR hR; simp only [List.cons_append, List.nil_append] at hH hR; subst hH; have hR := hR.symm; subst hR)
    (repeat (first | ((first | (apply wo_v; rfl) ); (· first | (apply pv_ev; rfl) | (apply g_load; first | (apply pv_lda; rfl; (· (repeat (first | apply sel_here ))); (· (repeat (first | apply Cut.here0 | apply Cut.here )))) ) | (apply g_un; first | (apply pv_not_t; rfl) ) )) | (apply wo_run; rfl; rfl) ))
    (refine wo_call (qc) rfl (by (repeat (first | apply sub_nil )); done) (by first | exact fun _ h => h | (intro r hr; cases hr; done) | (simp; done) | exact fun _ h => List.mem_append_left _ h | (intro r hr; simp [hr]; done)) rfl ?_; rintro v L' R' ⟨rfl, rfl, rfl⟩ H' hH RR hR; simp only [List.cons_append, List.nil_append] at hH hR; subst hH; have hR := hR.symm; subst hR)
    (repeat (first | ((first | (apply wo_v; rfl) ); (· first | (apply pv_ev; rfl) | (apply g_pick; first | (apply pv_pick_t; rfl; rfl) | (apply pv_pick_f; rfl; rfl)) )) | apply wo_nil | apply wc_seq | apply wc_region | (apply wc_true; rfl) | (apply wc_false; rfl) | (apply a_dec_t; rfl; (· first | assumption | omega)) | (apply wo_run; rfl; rfl) ))
    (refine wo_call (awake04) rfl (by (repeat (first | apply sub_nil )); done) (by first | exact fun _ h => h | (intro r hr; cases hr; done) | (simp; done) | exact fun _ h => List.mem_append_left _ h | (intro r hr; simp [hr]; done)) rfl ?_; rintro v L' R' ⟨rfl, rfl, rfl⟩ H' hH RR hR; simp only [List.cons_append, List.nil_append] at hH hR; subst hH; have hR := hR.symm; subst hR)
    (repeat (first | ((first | (apply wo_v; rfl) ); (· first | (apply pv_ev; rfl) )) | apply wo_nil | apply wc_ret ))
    exact ret1 rfl rfl rfl ((by (repeat (first | apply sub_nil )); done) : List.Perm _ ([] ++ _)) (by first | exact fun _ h => h | (intro r hr; cases hr; done) | (simp; done) | exact fun _ h => List.mem_append_left _ h | (intro r hr; simp [hr]; done))
  subst h0
  have hA : okA ⟨nr, st, pt, pic, wd, lv, ly, sy, ky⟩ := by
    unfold chk at hr; split at hr
    · omega
    · rename_i h; exact Classical.not_not.1 h
  have hF : okF ⟨nr, st, pt, pic, wd, lv, ly, sy, ky⟩ := by
    unfold chk at hr; rw [if_neg (Classical.not_not.2 hA)] at hr; split at hr
    · omega
    · rename_i h; exact Classical.not_not.1 h
  have qw := vWith nr st pt pic wd lv ly sy ky pp ll
  have t1' : -32768 < pp.tmod 32768 ∧ pp.tmod 32768 < 32768 := tmod_mod pp 32768 (by omega)
  have t2' : -256 < ll.tmod 256 ∧ ll.tmod 256 < 256 := tmod_mod ll 256 (by omega)
  have u1 := Int.tmod_def pp 32768
  have u2 := Int.tmod_def ll 256
  have w1 : (pp.tmod 32768 + 32768) % 32768 = pp % 32768 := by generalize pp.tdiv 32768 = q at u1; omega
  have w2 : (ll.tmod 256 + 256) % 256 = ll % 256 := by generalize ll.tdiv 256 = q at u2; omega
  obtain ⟨p2, hp2⟩ : ∃ x, (if 0 ≤ pic then pp % 32768 else pic) = x := ⟨_, rfl⟩
  obtain ⟨wd2, hwd2⟩ : ∃ x, (if 0 ≤ pic then true else wd) = x := ⟨_, rfl⟩
  obtain ⟨l2, hl2⟩ : ∃ x, (if 0 ≤ lv then ll % 256 else lv) = x := ⟨_, rfl⟩
  rw [hp2, hwd2, hl2] at qw
  have hA2 : okA ⟨nr, st, pt, p2, wd2, l2, ly, sy, ky⟩ := by
    obtain ⟨a1, a2, a3, a4, a5, a6, a7, a8, a9, a10⟩ := hA
    dsimp only at *
    refine ⟨a1, a2, ?_, ?_, ?_, ?_, a7, a8, a9, a10⟩ <;> simp only
    · rw [← hp2]; split <;> omega
    · rw [← hp2]; split <;> omega
    · rw [← hl2]; split <;> omega
    · rw [← hl2]; split <;> omega
  have hF2 : okF ⟨nr, st, pt, p2, wd2, l2, ly, sy, ky⟩ := by
    obtain ⟨f1, f2, f3⟩ := hF
    dsimp only at *
    by_cases hp : 0 ≤ pic
    · rw [if_pos hp] at hp2 hwd2
      subst hwd2
      exact ⟨(by rintro ⟨h, _⟩; simp only at h; omega), (by rintro ⟨_, h⟩; cases h), f3⟩
    · rw [if_neg hp] at hp2 hwd2
      subst hp2 hwd2
      exact ⟨f1, f2, f3⟩
  have qc2 := vCheck nr st pt p2 wd2 l2 ly sy ky 0 (by unfold chk; rw [if_neg (Classical.not_not.2 hA2), if_neg (Classical.not_not.2 hF2)])
  have qk1 := vKey nr st pt p2 wd2 l2 ly sy ky s _ rfl
  have qk2 := vKey nr st pt pic wd lv ly sy ky s _ rfl
  generalize keyB st pt s = kb at qk1 qk2
  have he : EqRow (dL nr st pt p2 wd2 l2 ly sy ky) (dL nr st pt p2 wd2 l2 ly sy ky) := eqD ⟨nr, st, pt, p2, wd2, l2, ly, sy, ky⟩
  refine fn_intro Try.func6 rfl Try.ntmps6 rfl (fun E => ?_)
  (repeat (first | ((first | (apply wo_v; rfl) ); (· first | (apply pv_ev; rfl) )) | apply wo_nil | apply wc_seq | apply wc_region | (apply wo_box1; rfl; rfl; rfl; intro bx) | (apply wo_boxa; rfl; rfl; intro bx) ))
  (refine wo_call (hC) rfl (by (repeat (first | apply sub_nil )); done) (by first | exact fun _ h => h | (intro r hr; cases hr; done) | (simp; done) | exact fun _ h => List.mem_append_left _ h | (intro r hr; simp [hr]; done)) rfl ?_; rintro v L' R' ⟨rfl, rfl, rfl⟩ H' hH RR hR; simp only [List.cons_append, List.nil_append] at hH hR; subst hH; have hR := hR.symm; subst hR)
  (repeat (first | ((first | (apply wo_v; rfl) ); (· first | (apply pv_ev; rfl) )) | apply wo_nil | apply wc_seq | apply wc_region ))
  (refine wo_call (awake04) rfl (by (repeat (first | apply sub_nil )); done) (by first | exact fun _ h => h | (intro r hr; cases hr; done) | (simp; done) | exact fun _ h => List.mem_append_left _ h | (intro r hr; simp [hr]; done)) rfl ?_; rintro v L' R' ⟨rfl, rfl, rfl⟩ H' hH RR hR; simp only [List.cons_append, List.nil_append] at hH hR; subst hH; have hR := hR.symm; subst hR)
  (repeat (first | ((first | (apply wo_v; rfl) ); (· first | (apply pv_ev; rfl) | (apply g_load; first | (apply pv_lda; rfl; (· (repeat (first | apply sel_here ))); (· (repeat (first | apply Cut.here0 | apply Cut.here )))) ) | (apply g_un; first | (apply pv_not_t; rfl) ) )) | (apply wo_run; rfl; rfl) ))
  (refine wo_call (qc) rfl (by (repeat (first | apply sub_nil )); done) (by first | exact fun _ h => h | (intro r hr; cases hr; done) | (simp; done) | exact fun _ h => List.mem_append_left _ h | (intro r hr; simp [hr]; done)) rfl ?_; rintro v L' R' ⟨rfl, rfl, rfl⟩ H' hH RR hR; simp only [List.cons_append, List.nil_append] at hH hR; subst hH; have hR := hR.symm; subst hR)
  (repeat (first | ((first | (apply wo_v; rfl) ); (· first | (apply pv_ev; rfl) | (apply g_load; first | (apply pv_lda; rfl; (· (repeat (first | apply sel_here ))); (· (repeat (first | apply Cut.here0 | apply Cut.here )))) ) | (apply g_pick; first | (apply pv_pick_t; rfl; rfl) | (apply pv_pick_f; rfl; rfl)) )) | apply wo_nil | apply wc_seq | apply wc_region | apply wc_skip | (apply wc_true; rfl) | (apply wc_false; rfl) | (apply wo_run; rfl; rfl) ))
  (refine wo_call (qw) rfl (by (repeat (first | apply sub_nil )); done) (by first | exact fun _ h => h | (intro r hr; cases hr; done) | (simp; done) | exact fun _ h => List.mem_append_left _ h | (intro r hr; simp [hr]; done)) rfl ?_; rintro v L' R' ⟨rfl, rfl, rfl⟩ H' hH RR hR; simp only [List.cons_append, List.nil_append] at hH hR; subst hH; have hR := hR.symm; subst hR)
  (repeat (first | ((first | (apply wo_v; rfl) ); (· first | (apply pv_ev; rfl) | (apply pv_fld; rfl) | (apply g_load; first | (apply pv_ld; rfl; (· (repeat (first | apply sel_here | apply sel_there))); rfl) | (apply pv_lda; rfl; (· (repeat (first | apply sel_here | apply sel_there))); (· (repeat (first | apply Cut.here0 | apply Cut.here )))) ) )) | apply wo_nil | apply wc_seq | apply wc_region | (apply wc_true; rfl) | (apply wc_false; rfl) | (apply a_dec_t; rfl; (· first | assumption | omega)) | (apply a_dec_f; rfl; (· first | assumption | omega)) | (apply a_dec_t; rfl; (· first | (simp; done) | (simp; omega))) | (apply a_dec_f; rfl; (· first | (simp; done) | (simp; omega))) | (apply wo_alloc; rfl; intro bx) | (apply wo_sta; rfl; rfl; rfl; rfl; (· (repeat (first | apply sel_here ))); (· (repeat (first | apply LayAt.nil | apply LayAt.here ))); rfl) ))
  by_cases c1 : 0 ≤ pic <;> by_cases c2 : 0 ≤ lv
  · rw [if_pos c1] at hp2 hwd2
    rw [if_pos c2] at hl2
    (repeat (first | ((first | (apply wo_v; rfl) ); (· first | (apply pv_ev; rfl) | (apply pv_fld; rfl) | (apply g_load; first | (apply pv_ld; rfl; (· (repeat (first | apply sel_here | apply sel_there))); rfl) ) | (apply g_bin; first | (apply a_add; rfl; rfl; infer_instance; omega) | (apply pv_rem; rfl; rfl; omega) | (apply pv_rem_t; rfl; rfl; omega) ) )) | apply wo_nil | apply wc_seq | apply wc_region | (apply wc_true; rfl) | (apply wc_false; rfl) | (apply a_dec_t; rfl; (· first | assumption | omega)) | (apply wo_st; rfl; rfl; rfl; (· (repeat (first | apply sel_here ))); (· (repeat (first | apply SetAt.here | apply SetAt.there))); rfl) ))
    rw [w1, hp2]
    subst hwd2
    (repeat (first | fail ))
    rw [w2, hl2]
    (repeat (first | fail ))
    (refine wc_quiet mixed (by kernel_rfl) ?_; (repeat (first | ((first | (apply hd_v; rfl) ); (· first | (apply pv_ev; rfl) | (apply g_load; first | (apply pv_lda; rfl; (· (repeat (first | apply sel_here | apply sel_there))); (· (repeat (first | apply Cut.here0 | apply Cut.here )))) ) | (apply g_bin; first | (apply pv_eql_s; rfl; rfl) | (apply pv_eql_a; rfl; rfl; infer_instance; rfl; rfl) ) )) | (apply Hd.run; rfl; rfl) | (apply Hd.skip; rfl; rfl; rfl; rfl) | (apply Hd.skipu; rfl; rfl; rfl) | (apply ah_gt; rfl; rfl; (· first | assumption | omega)) )))
    (refine Hd.call rfl inferInstance (Fn.mono (qc2) (fun _ _ _ h => ⟨h.1, h.2.1⟩)) rfl (by (repeat (first | apply sub_nil )); done) (by first | exact fun _ h => h | (intro r hr; cases hr; done) | (simp; done) | exact fun _ h => List.mem_append_left _ h | (intro r hr; simp [hr]; done)) rfl ?_; (repeat (first | ((first | (apply hd_v; rfl) ); (· first | (apply pv_ev; rfl) | (apply g_load; first | (apply pv_lda; rfl; (· (repeat (first | apply sel_here | apply sel_there))); (· (repeat (first | apply Cut.here0 | apply Cut.here )))) ) | (apply g_pick; first | (apply pv_pick_t; rfl; rfl) ) )) | (apply Hd.run; rfl; rfl) )))
    (refine Hd.call rfl inferInstance (Fn.mono (qk1) (fun _ _ _ h => ⟨h.1, h.2.1⟩)) rfl (by (repeat (first | apply sub_nil )); done) (by first | exact fun _ h => h | (intro r hr; cases hr; done) | (simp; done) | exact fun _ h => List.mem_append_left _ h | (intro r hr; simp [hr]; done)) rfl ?_; (repeat (first | ((first | (apply hd_v; rfl) ); (· first | (apply pv_ev; rfl) | (apply g_load; first | (apply pv_lda; rfl; (· (repeat (first | apply sel_here | apply sel_there))); (· (repeat (first | apply Cut.here0 | apply Cut.here )))) ) )) | (apply Hd.run; rfl; rfl) )))
    (refine Hd.call rfl inferInstance (Fn.mono (qk2) (fun _ _ _ h => ⟨h.1, h.2.1⟩)) rfl (by (repeat (first | apply sub_nil )); done) (by first | exact fun _ h => h | (intro r hr; cases hr; done) | (simp; done) | exact fun _ h => List.mem_append_left _ h | (intro r hr; simp [hr]; done)) rfl ?_; (repeat (first | ((first | (apply hd_v; rfl) ); (· first | (apply pv_ev; rfl) | (apply g_pick; first | (apply pv_pick_t; rfl; rfl) ) | (apply g_bin; first | (apply pv_eql_b; rfl; rfl) ) )) | apply Hd.nil | apply wc_ret | (apply Hd.run; rfl; rfl) )))
    exact ret1 rfl rfl (by simp) ((by (repeat (first | apply sub_nil )); done) : List.Perm _ ([] ++ _)) (by first | exact fun _ h => h | (intro r hr; cases hr; done) | (simp; done) | exact fun _ h => List.mem_append_left _ h | (intro r hr; simp [hr]; done))
  · rw [if_pos c1] at hp2 hwd2
    rw [if_neg c2] at hl2
    (repeat (first | ((first | (apply wo_v; rfl) ); (· first | (apply pv_ev; rfl) | (apply pv_fld; rfl) | (apply g_load; first | (apply pv_ld; rfl; (· (repeat (first | apply sel_here | apply sel_there))); rfl) ) | (apply g_bin; first | (apply a_add; rfl; rfl; infer_instance; omega) | (apply pv_rem; rfl; rfl; omega) | (apply pv_rem_t; rfl; rfl; omega) ) )) | apply wo_nil | apply wc_seq | apply wc_region | apply wc_skip | (apply wc_true; rfl) | (apply wc_false; rfl) | (apply a_dec_t; rfl; (· first | assumption | omega)) | (apply a_dec_f; rfl; (· first | assumption | omega)) | (apply wo_st; rfl; rfl; rfl; (· (repeat (first | apply sel_here ))); (· (repeat (first | apply SetAt.here | apply SetAt.there))); rfl) ))
    rw [w1, hp2]
    subst hwd2
    (repeat (first | fail ))
    subst hl2
    (refine wc_quiet mixed (by kernel_rfl) ?_; (repeat (first | ((first | (apply hd_v; rfl) ); (· first | (apply pv_ev; rfl) | (apply g_load; first | (apply pv_lda; rfl; (· (repeat (first | apply sel_here | apply sel_there))); (· (repeat (first | apply Cut.here0 | apply Cut.here )))) ) | (apply g_bin; first | (apply pv_eql_s; rfl; rfl) | (apply pv_eql_a; rfl; rfl; infer_instance; rfl; rfl) ) )) | (apply Hd.run; rfl; rfl) | (apply Hd.skip; rfl; rfl; rfl; rfl) | (apply Hd.skipu; rfl; rfl; rfl) | (apply ah_gt; rfl; rfl; (· first | assumption | omega)) )))
    (refine Hd.call rfl inferInstance (Fn.mono (qc2) (fun _ _ _ h => ⟨h.1, h.2.1⟩)) rfl (by (repeat (first | apply sub_nil )); done) (by first | exact fun _ h => h | (intro r hr; cases hr; done) | (simp; done) | exact fun _ h => List.mem_append_left _ h | (intro r hr; simp [hr]; done)) rfl ?_; (repeat (first | ((first | (apply hd_v; rfl) ); (· first | (apply pv_ev; rfl) | (apply g_load; first | (apply pv_lda; rfl; (· (repeat (first | apply sel_here | apply sel_there))); (· (repeat (first | apply Cut.here0 | apply Cut.here )))) ) | (apply g_pick; first | (apply pv_pick_t; rfl; rfl) ) )) | (apply Hd.run; rfl; rfl) )))
    (refine Hd.call rfl inferInstance (Fn.mono (qk1) (fun _ _ _ h => ⟨h.1, h.2.1⟩)) rfl (by (repeat (first | apply sub_nil )); done) (by first | exact fun _ h => h | (intro r hr; cases hr; done) | (simp; done) | exact fun _ h => List.mem_append_left _ h | (intro r hr; simp [hr]; done)) rfl ?_; (repeat (first | ((first | (apply hd_v; rfl) ); (· first | (apply pv_ev; rfl) | (apply g_load; first | (apply pv_lda; rfl; (· (repeat (first | apply sel_here | apply sel_there))); (· (repeat (first | apply Cut.here0 | apply Cut.here )))) ) )) | (apply Hd.run; rfl; rfl) )))
    (refine Hd.call rfl inferInstance (Fn.mono (qk2) (fun _ _ _ h => ⟨h.1, h.2.1⟩)) rfl (by (repeat (first | apply sub_nil )); done) (by first | exact fun _ h => h | (intro r hr; cases hr; done) | (simp; done) | exact fun _ h => List.mem_append_left _ h | (intro r hr; simp [hr]; done)) rfl ?_; (repeat (first | ((first | (apply hd_v; rfl) ); (· first | (apply pv_ev; rfl) | (apply g_pick; first | (apply pv_pick_t; rfl; rfl) ) | (apply g_bin; first | (apply pv_eql_b; rfl; rfl) ) )) | apply Hd.nil | apply wc_ret | (apply Hd.run; rfl; rfl) )))
    exact ret1 rfl rfl (by simp) ((by (repeat (first | apply sub_nil )); done) : List.Perm _ ([] ++ _)) (by first | exact fun _ h => h | (intro r hr; cases hr; done) | (simp; done) | exact fun _ h => List.mem_append_left _ h | (intro r hr; simp [hr]; done))
  · rw [if_neg c1] at hp2 hwd2
    rw [if_pos c2] at hl2
    (repeat (first | ((first | (apply wo_v; rfl) ); (· first | (apply pv_ev; rfl) | (apply pv_fld; rfl) | (apply g_load; first | (apply pv_ld; rfl; (· (repeat (first | apply sel_here | apply sel_there))); rfl) ) | (apply g_bin; first | (apply a_add; rfl; rfl; infer_instance; omega) | (apply pv_rem; rfl; rfl; omega) | (apply pv_rem_t; rfl; rfl; omega) ) )) | apply wo_nil | apply wc_seq | apply wc_region | apply wc_skip | (apply wc_true; rfl) | (apply wc_false; rfl) | (apply a_dec_t; rfl; (· first | assumption | omega)) | (apply a_dec_f; rfl; (· first | assumption | omega)) | (apply wo_st; rfl; rfl; rfl; (· (repeat (first | apply sel_here ))); (· (repeat (first | apply SetAt.here | apply SetAt.there))); rfl) ))
    subst hp2 hwd2
    rw [w2, hl2]
    (repeat (first | fail ))
    (refine wc_quiet mixed (by kernel_rfl) ?_; (repeat (first | ((first | (apply hd_v; rfl) ); (· first | (apply pv_ev; rfl) | (apply g_load; first | (apply pv_lda; rfl; (· (repeat (first | apply sel_here | apply sel_there))); (· (repeat (first | apply Cut.here0 | apply Cut.here )))) ) | (apply g_bin; first | (apply pv_eql_s; rfl; rfl) | (apply pv_eql_a; rfl; rfl; infer_instance; rfl; rfl) ) )) | (apply Hd.run; rfl; rfl) | (apply Hd.skip; rfl; rfl; rfl; rfl) | (apply Hd.skipu; rfl; rfl; rfl) | (apply ah_gt; rfl; rfl; (· first | assumption | omega)) )))
    (refine Hd.call rfl inferInstance (Fn.mono (qc2) (fun _ _ _ h => ⟨h.1, h.2.1⟩)) rfl (by (repeat (first | apply sub_nil )); done) (by first | exact fun _ h => h | (intro r hr; cases hr; done) | (simp; done) | exact fun _ h => List.mem_append_left _ h | (intro r hr; simp [hr]; done)) rfl ?_; (repeat (first | ((first | (apply hd_v; rfl) ); (· first | (apply pv_ev; rfl) | (apply g_load; first | (apply pv_lda; rfl; (· (repeat (first | apply sel_here | apply sel_there))); (· (repeat (first | apply Cut.here0 | apply Cut.here )))) ) | (apply g_pick; first | (apply pv_pick_t; rfl; rfl) ) )) | (apply Hd.run; rfl; rfl) )))
    (refine Hd.call rfl inferInstance (Fn.mono (qk1) (fun _ _ _ h => ⟨h.1, h.2.1⟩)) rfl (by (repeat (first | apply sub_nil )); done) (by first | exact fun _ h => h | (intro r hr; cases hr; done) | (simp; done) | exact fun _ h => List.mem_append_left _ h | (intro r hr; simp [hr]; done)) rfl ?_; (repeat (first | ((first | (apply hd_v; rfl) ); (· first | (apply pv_ev; rfl) | (apply g_load; first | (apply pv_lda; rfl; (· (repeat (first | apply sel_here | apply sel_there))); (· (repeat (first | apply Cut.here0 | apply Cut.here )))) ) )) | (apply Hd.run; rfl; rfl) )))
    (refine Hd.call rfl inferInstance (Fn.mono (qk2) (fun _ _ _ h => ⟨h.1, h.2.1⟩)) rfl (by (repeat (first | apply sub_nil )); done) (by first | exact fun _ h => h | (intro r hr; cases hr; done) | (simp; done) | exact fun _ h => List.mem_append_left _ h | (intro r hr; simp [hr]; done)) rfl ?_; (repeat (first | ((first | (apply hd_v; rfl) ); (· first | (apply pv_ev; rfl) | (apply g_pick; first | (apply pv_pick_t; rfl; rfl) ) | (apply g_bin; first | (apply pv_eql_b; rfl; rfl) ) )) | apply Hd.nil | apply wc_ret | (apply Hd.run; rfl; rfl) )))
    exact ret1 rfl rfl (by simp) ((by (repeat (first | apply sub_nil )); done) : List.Perm _ ([] ++ _)) (by first | exact fun _ h => h | (intro r hr; cases hr; done) | (simp; done) | exact fun _ h => List.mem_append_left _ h | (intro r hr; simp [hr]; done))
  · rw [if_neg c1] at hp2 hwd2
    rw [if_neg c2] at hl2
    (repeat (first | ((first | (apply wo_v; rfl) ); (· first | (apply pv_ev; rfl) | (apply pv_fld; rfl) | (apply g_load; first | (apply pv_ld; rfl; (· (repeat (first | apply sel_here | apply sel_there))); rfl) ) )) | apply wo_nil | apply wc_seq | apply wc_region | apply wc_skip | (apply wc_true; rfl) | (apply wc_false; rfl) | (apply a_dec_t; rfl; (· first | assumption | omega)) | (apply a_dec_f; rfl; (· first | assumption | omega)) ))
    subst hp2 hwd2
    subst hl2
    (refine wc_quiet mixed (by kernel_rfl) ?_; (repeat (first | ((first | (apply hd_v; rfl) ); (· first | (apply pv_ev; rfl) | (apply g_load; first | (apply pv_lda; rfl; (· (repeat (first | apply sel_here | apply sel_there))); (· (repeat (first | apply Cut.here0 | apply Cut.here )))) ) | (apply g_bin; first | (apply pv_eql_s; rfl; rfl) | (apply pv_eql_a; rfl; rfl; infer_instance; rfl; rfl) ) )) | (apply Hd.run; rfl; rfl) | (apply Hd.skip; rfl; rfl; rfl; rfl) | (apply Hd.skipu; rfl; rfl; rfl) | (apply ah_gt; rfl; rfl; (· first | assumption | omega)) )))
    (refine Hd.call rfl inferInstance (Fn.mono (qc2) (fun _ _ _ h => ⟨h.1, h.2.1⟩)) rfl (by (repeat (first | apply sub_nil )); done) (by first | exact fun _ h => h | (intro r hr; cases hr; done) | (simp; done) | exact fun _ h => List.mem_append_left _ h | (intro r hr; simp [hr]; done)) rfl ?_; (repeat (first | ((first | (apply hd_v; rfl) ); (· first | (apply pv_ev; rfl) | (apply g_load; first | (apply pv_lda; rfl; (· (repeat (first | apply sel_here | apply sel_there))); (· (repeat (first | apply Cut.here0 | apply Cut.here )))) ) | (apply g_pick; first | (apply pv_pick_t; rfl; rfl) ) )) | (apply Hd.run; rfl; rfl) )))
    (refine Hd.call rfl inferInstance (Fn.mono (qk1) (fun _ _ _ h => ⟨h.1, h.2.1⟩)) rfl (by (repeat (first | apply sub_nil )); done) (by first | exact fun _ h => h | (intro r hr; cases hr; done) | (simp; done) | exact fun _ h => List.mem_append_left _ h | (intro r hr; simp [hr]; done)) rfl ?_; (repeat (first | ((first | (apply hd_v; rfl) ); (· first | (apply pv_ev; rfl) | (apply g_load; first | (apply pv_lda; rfl; (· (repeat (first | apply sel_here | apply sel_there))); (· (repeat (first | apply Cut.here0 | apply Cut.here )))) ) )) | (apply Hd.run; rfl; rfl) )))
    (refine Hd.call rfl inferInstance (Fn.mono (qk2) (fun _ _ _ h => ⟨h.1, h.2.1⟩)) rfl (by (repeat (first | apply sub_nil )); done) (by first | exact fun _ h => h | (intro r hr; cases hr; done) | (simp; done) | exact fun _ h => List.mem_append_left _ h | (intro r hr; simp [hr]; done)) rfl ?_; (repeat (first | ((first | (apply hd_v; rfl) ); (· first | (apply pv_ev; rfl) | (apply g_pick; first | (apply pv_pick_t; rfl; rfl) ) | (apply g_bin; first | (apply pv_eql_b; rfl; rfl) ) )) | apply Hd.nil | apply wc_ret | (apply Hd.run; rfl; rfl) )))
    exact ret1 rfl rfl (by simp) ((by (repeat (first | apply sub_nil )); done) : List.Perm _ ([] ++ _)) (by first | exact fun _ h => h | (intro r hr; cases hr; done) | (simp; done) | exact fun _ h => List.mem_append_left _ h | (intro r hr; simp [hr]; done))
theorem vp8With_walk {w : World} (row : List Value) (R : List Ro) (hR : ∀ r ∈ R, r.sat w) (h : FV1s R dFd row) (p : Int) (hp : -9223372036854775808 ≤ p ∧ p ≤ 9223372036854775807) (l : Int) (hl : -9223372036854775808 ≤ l ∧ l ≤ 9223372036854775807) (s : ByteArray) (hs : s.size ≤ maxLen) :
    Calls Try.prog 6 #[.agg row.toArray, .int .i64 p, .int .i64 l, .string s] w fun e w' => e = .returned (.bool true) ∧ Below w.heap.size w w' := by
  obtain ⟨nr, st, pt, pic, wd, lv, ly, sy, ky, rfl⟩ := row_d h
  exact walk_of (vp8With_fn nr st pt pic wd lv ly sy ky p l s) (fun r hr => by cases hr)
end Go.Proofs.Ytabdikemijihjaa
