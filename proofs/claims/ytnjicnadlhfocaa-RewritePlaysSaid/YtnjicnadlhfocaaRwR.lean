/-
  The reference of rewrite (ref15), and of a descriptor's text (ref04).
-/
import Derived.Test.YtnjicnadlhfocaaRwM
import Derived.Test.YtnjicnadlhfocaaVpR
namespace Go.Proofs.Ytnjicnadlhfocaa
set_option linter.unusedSimpArgs false
set_option linter.unusedVariables false
open Go.RowKit
attribute [local irreducible] Pv WO WC Fn
set_option maxRecDepth 100000
attribute [local irreducible] ByteArray.extract

theorem eBit (c : Bool) (n r : Int) (h : bt c n = r) : Fn Try.prog 94 #[.bool c, .int .i64 n] [] [] (fun v L' R' => v = .int .i64 r ∧ L' = [] ∧ R' = []) := by
  subst h
  cases c with
  | true =>
    refine fn_intro Try.func94 rfl Try.ntmps94 rfl (fun E => ?_)
    (repeat (first | ((first | (apply wo_v; rfl) ); (· first | (apply pv_ev; rfl) )) | apply wo_nil | apply wc_seq | apply wc_region | apply wc_ret | (apply wc_true; rfl) ))
    exact ret1 rfl rfl ⟨rfl, rfl, rfl⟩ ((by (repeat (first | apply sub_nil )); done) : List.Perm _ ([] ++ _)) (by first | exact fun _ h => h | (intro r hr; cases hr; done) | (simp; done) | exact fun _ h => List.mem_append_left _ h | (intro r hr; simp [hr]; done))
  | false =>
    refine fn_intro Try.func94 rfl Try.ntmps94 rfl (fun E => ?_)
    (repeat (first | ((first | (apply wo_v; rfl) ); (· first | (apply pv_ev; rfl) )) | apply wo_nil | apply wc_seq | apply wc_region | apply wc_skip | apply wc_ret | (apply wc_true; rfl) | (apply wc_false; rfl) ))
    exact ret1 rfl rfl ⟨rfl, rfl, rfl⟩ ((by (repeat (first | apply sub_nil )); done) : List.Perm _ ([] ++ _)) (by first | exact fun _ h => h | (intro r hr; cases hr; done) | (simp; done) | exact fun _ h => List.mem_append_left _ h | (intro r hr; simp [hr]; done))
theorem numS1 {x : Int} (h : 0 ≤ x ∧ x ≤ 255) : numS 1 x = b1 x := by
  have e : numS 1 x = b1 (x % 256) := by
    show E0 ++ b1 (x % 256) = b1 (x % 256)
    rw [E0_append]
  rw [e]; congr 1; omega
theorem rN1 (x : Int) (h : 0 ≤ x ∧ x ≤ 255) : Fn Try.prog 79 #[.int .i64 1, .int .u64 x] [] [] (fun v L' R' => v = .string (b1 x) ∧ L' = [] ∧ R' = []) := by
  rw [← numS1 h]; exact rNum 1 x 1 rfl (by omega)
set_option maxHeartbeats 16000000 in
theorem rText04 (nr st : Bool) (pt pic : Int) (wd : Bool) (lv ly : Int) (sy : Bool) (ky : Int) (hA : okA ⟨nr, st, pt, pic, wd, lv, ly, sy, ky⟩) (hF : okF ⟨nr, st, pt, pic, wd, lv, ly, sy, ky⟩) :
    Fn Try.prog 82 #[.agg (dL nr st pt pic wd lv ly sy ky).toArray] [] [] (fun v L' R' => v = .string (txt ⟨nr, st, pt, pic, wd, lv, ly, sy, ky⟩) ∧ L' = [] ∧ R' = []) := by
  obtain ⟨a1, a2, a3, a4, a5, a6, a7, a8, a9, a10⟩ := hA
  obtain ⟨f1, f2, f3⟩ := hF
  dsimp only at a1 a2 a3 a4 a5 a6 a7 a8 a9 a10 f1 f2 f3
  have w1 := bt_or (decide (0 ≤ pic)) 128
  have w2 := bt_or (decide (0 ≤ lv)) 64
  have w3 := bt_or (decide (0 ≤ ly)) 32
  have w4 := bt_or (decide (0 ≤ ky)) 16
  have w5 := bt_or nr 32
  have w6 := bt_or st 16
  have q1 := eBit (decide (0 ≤ pic)) 128 _ rfl
  have q2 := eBit (decide (0 ≤ lv)) 64 _ rfl
  have q3 := eBit (decide (0 ≤ ly)) 32 _ rfl
  have q4 := eBit (decide (0 ≤ ky)) 16 _ rfl
  have q5 := eBit nr 32 _ rfl
  have q6 := eBit st 16 _ rfl
  obtain ⟨fl, hfl⟩ : ∃ fl, bt (decide (0 ≤ pic)) 128 + bt (decide (0 ≤ lv)) 64 + bt (decide (0 ≤ ly)) 32 + bt (decide (0 ≤ ky)) 16 = fl := ⟨_, rfl⟩
  have hmore : moreB ⟨nr, st, pt, pic, wd, lv, ly, sy, ky⟩ = decide (0 < fl) := by
    unfold moreB
    dsimp only
    rw [← hfl]
    by_cases c1 : 0 ≤ pic <;> by_cases c2 : 0 ≤ lv <;> by_cases c3 : 0 ≤ ly <;> by_cases c4 : 0 ≤ ky <;> simp [c1, c2, c3, c4, bt]
  have q7 := eBit (decide (0 < fl)) 128 _ rfl
  have w7 := bt_or (decide (0 < fl)) 128
  have hfls : fls ⟨nr, st, pt, pic, wd, lv, ly, sy, ky⟩ = fl := hfl
  unfold txt
  rw [hmore, hfls]
  dsimp only
  have hflb : 0 ≤ fl ∧ fl ≤ 240 := by omega
  refine fn_intro Try.func82 rfl Try.ntmps82 rfl (fun E => ?_)
  (repeat (first | ((first | (apply wo_v; rfl) ); (· first | (apply pv_ev; rfl) )) | apply wo_nil | apply wc_seq | apply wc_region | (apply wo_box1; rfl; rfl; rfl; intro bx) | (apply wo_boxa; rfl; rfl; intro bx) ))
  (refine wc_quiet mixed (by kernel_rfl) ?_; (repeat (first | ((first | (apply hd_v; rfl) ); (· first | (apply pv_ev; rfl) | (apply pv_fld; rfl) | (apply g_load; first | (apply pv_ld; rfl; (· (repeat (first | apply sel_here ))); rfl) ) )) )))
  (refine Hd.call rfl inferInstance (Fn.mono (q1) (fun _ _ _ h => ⟨h.1, h.2.1⟩)) rfl (by (repeat (first | apply sub_nil )); done) (by first | exact fun _ h => h | (intro r hr; cases hr; done) | (simp; done) | exact fun _ h => List.mem_append_left _ h | (intro r hr; simp [hr]; done)) rfl ?_; (repeat (first | ((first | (apply hd_v; rfl) ); (· first | (apply pv_ev; rfl) | (apply pv_fld; rfl) | (apply g_load; first | (apply pv_ld; rfl; (· (repeat (first | apply sel_here ))); rfl) ) )) )))
  (refine Hd.call rfl inferInstance (Fn.mono (q2) (fun _ _ _ h => ⟨h.1, h.2.1⟩)) rfl (by (repeat (first | apply sub_nil )); done) (by first | exact fun _ h => h | (intro r hr; cases hr; done) | (simp; done) | exact fun _ h => List.mem_append_left _ h | (intro r hr; simp [hr]; done)) rfl ?_; (repeat (first | ((first | (apply hd_v; rfl) ); (· first | (apply pv_ev; rfl) | (apply pv_fld; rfl) | (apply g_load; first | (apply pv_ld; rfl; (· (repeat (first | apply sel_here ))); rfl) ) | (apply g_bin; first | (apply a_add; rfl; rfl; infer_instance; omega) ) )) )))
  (refine Hd.call rfl inferInstance (Fn.mono (q3) (fun _ _ _ h => ⟨h.1, h.2.1⟩)) rfl (by (repeat (first | apply sub_nil )); done) (by first | exact fun _ h => h | (intro r hr; cases hr; done) | (simp; done) | exact fun _ h => List.mem_append_left _ h | (intro r hr; simp [hr]; done)) rfl ?_; (repeat (first | ((first | (apply hd_v; rfl) ); (· first | (apply pv_ev; rfl) | (apply pv_fld; rfl) | (apply g_load; first | (apply pv_ld; rfl; (· (repeat (first | apply sel_here ))); rfl) ) | (apply g_bin; first | (apply a_add; rfl; rfl; infer_instance; omega) ) )) )))
  (refine Hd.call rfl inferInstance (Fn.mono (q4) (fun _ _ _ h => ⟨h.1, h.2.1⟩)) rfl (by (repeat (first | apply sub_nil )); done) (by first | exact fun _ h => h | (intro r hr; cases hr; done) | (simp; done) | exact fun _ h => List.mem_append_left _ h | (intro r hr; simp [hr]; done)) rfl ?_; (repeat (first | ((first | (apply hd_v; rfl) ); (· first | (apply pv_ev; rfl) | (apply g_bin; first | (apply a_add; rfl; rfl; infer_instance; omega) ) )) | apply Hd.nil | apply wc_seq )))
  rw [hfl]
  have e9 : (b1 (bt (decide (0 < fl)) 128 + bt nr 32 + bt st 16 + pt)).size = 1 := b1_size _
  have q9 := rN1 (bt (decide (0 < fl)) 128 + bt nr 32 + bt st 16 + pt) (by omega)
  (refine wc_quiet mixed (by kernel_rfl) ?_; (repeat (first | ((first | (apply hd_v; rfl) ); (· first | (apply pv_ev; rfl) )) )))
  (refine Hd.call rfl inferInstance (Fn.mono (q7) (fun _ _ _ h => ⟨h.1, h.2.1⟩)) rfl (by (repeat (first | apply sub_nil )); done) (by first | exact fun _ h => h | (intro r hr; cases hr; done) | (simp; done) | exact fun _ h => List.mem_append_left _ h | (intro r hr; simp [hr]; done)) rfl ?_; (repeat (first | ((first | (apply hd_v; rfl) ); (· first | (apply pv_ev; rfl) | (apply pv_fld; rfl) | (apply g_load; first | (apply pv_ld; rfl; (· (repeat (first | apply sel_here ))); rfl) ) )) )))
  (refine Hd.call rfl inferInstance (Fn.mono (q5) (fun _ _ _ h => ⟨h.1, h.2.1⟩)) rfl (by (repeat (first | apply sub_nil )); done) (by first | exact fun _ h => h | (intro r hr; cases hr; done) | (simp; done) | exact fun _ h => List.mem_append_left _ h | (intro r hr; simp [hr]; done)) rfl ?_; (repeat (first | ((first | (apply hd_v; rfl) ); (· first | (apply pv_ev; rfl) | (apply pv_fld; rfl) | (apply g_load; first | (apply pv_ld; rfl; (· (repeat (first | apply sel_here ))); rfl) ) | (apply g_bin; first | (apply a_add; rfl; rfl; infer_instance; omega) ) )) )))
  (refine Hd.call rfl inferInstance (Fn.mono (q6) (fun _ _ _ h => ⟨h.1, h.2.1⟩)) rfl (by (repeat (first | apply sub_nil )); done) (by first | exact fun _ h => h | (intro r hr; cases hr; done) | (simp; done) | exact fun _ h => List.mem_append_left _ h | (intro r hr; simp [hr]; done)) rfl ?_; (repeat (first | ((first | (apply hd_v; rfl) ); (· first | (apply pv_ev; rfl) | (apply pv_fld; rfl) | (apply g_load; first | (apply pv_ld; rfl; (· (repeat (first | apply sel_here ))); rfl) ) | (apply g_bin; first | (apply a_add; rfl; rfl; infer_instance; omega) ) | (apply g_conv; first | (apply a_conv; rfl; infer_instance; infer_instance; infer_instance; omega) ) )) )))
  (refine Hd.call rfl inferInstance (Fn.mono (q9) (fun _ _ _ h => ⟨h.1, h.2.1⟩)) rfl (by (repeat (first | apply sub_nil )); done) (by first | exact fun _ h => h | (intro r hr; cases hr; done) | (simp; done) | exact fun _ h => List.mem_append_left _ h | (intro r hr; simp [hr]; done)) rfl ?_; (repeat (first | ((first | (apply wo_v; rfl) | (apply hd_v; rfl) ); (· first | (apply pv_ev; rfl) )) | apply wo_nil | apply Hd.nil | apply wc_seq | apply wc_region | (apply wc_true; rfl) | (apply wc_false; rfl) | (apply a_dec_t; rfl; (· first | assumption | omega)) | (apply a_dec_f; rfl; (· first | assumption | omega)) | (apply a_dec_t; rfl; (· first | (simp; done) | (simp; omega))) | (apply a_dec_f; rfl; (· first | (simp; done) | (simp; omega))) )))
  clear q1 q2 q3 q4 q5 q6 q7 q9 hfl hmore hfls
  generalize b1 (bt (decide (0 < fl)) 128 + bt nr 32 + bt st 16 + pt) = s1 at e9 ⊢
  by_cases hf0 : 0 < fl
  · rw [if_pos (decide_eq_true hf0)]
    have q10 := rN1 fl (by omega)
    have e10 : (s1 ++ b1 fl).size = 2 := by rw [ByteArray.size_append, e9, b1_size]
    have h10 : (b1 fl).size = 1 := b1_size _
    have hP : (tPic ⟨nr, st, pt, pic, wd, lv, ly, sy, ky⟩).size ≤ 2 := by unfold tPic; dsimp only; split <;> (try split) <;> simp [b1_size, numS_size, show E0.size = 0 from rfl]
    have hL : (tLv ⟨nr, st, pt, pic, wd, lv, ly, sy, ky⟩).size ≤ 1 := by unfold tLv; dsimp only; split <;> simp [b1_size, show E0.size = 0 from rfl]
    have eA : s1 ++ (b1 fl ++ (tPic ⟨nr, st, pt, pic, wd, lv, ly, sy, ky⟩ ++ (tLv ⟨nr, st, pt, pic, wd, lv, ly, sy, ky⟩ ++ tLast ⟨nr, st, pt, pic, wd, lv, ly, sy, ky⟩))) = s1 ++ b1 fl ++ tPic ⟨nr, st, pt, pic, wd, lv, ly, sy, ky⟩ ++ tLv ⟨nr, st, pt, pic, wd, lv, ly, sy, ky⟩ ++ tLast ⟨nr, st, pt, pic, wd, lv, ly, sy, ky⟩ := by simp only [ByteArray.append_assoc]
    rw [eA]
    clear eA
    obtain ⟨P, hPe⟩ : ∃ P, tPic ⟨nr, st, pt, pic, wd, lv, ly, sy, ky⟩ = P := ⟨_, rfl⟩
    obtain ⟨L, hLe⟩ : ∃ L, tLv ⟨nr, st, pt, pic, wd, lv, ly, sy, ky⟩ = L := ⟨_, rfl⟩
    obtain ⟨T, hTe⟩ : ∃ T, tLast ⟨nr, st, pt, pic, wd, lv, ly, sy, ky⟩ = T := ⟨_, rfl⟩
    rw [hPe] at hP ⊢
    rw [hLe] at hL ⊢
    rw [hTe]
    unfold tPic at hPe
    unfold tLv at hLe
    unfold tLast at hTe
    dsimp only at hPe hLe hTe
    (repeat (first | ((first | (apply wo_v; rfl) ); (· first | (apply pv_ev; rfl) | (apply g_conv; first | (apply a_conv; rfl; infer_instance; infer_instance; infer_instance; omega) ) )) | apply wc_seq | apply wc_region | apply wc_skip | (apply wc_true; rfl) | (apply wc_false; rfl) | (apply a_dec_t; rfl; (· first | assumption | omega)) | (apply a_dec_f; rfl; (· first | assumption | omega)) ))
    (refine wo_call (q10) rfl (by (repeat (first | apply sub_nil )); done) (by first | exact fun _ h => h | (intro r hr; cases hr; done) | (simp; done) | exact fun _ h => List.mem_append_left _ h | (intro r hr; simp [hr]; done)) rfl ?_; rintro v L' R' ⟨rfl, rfl, rfl⟩ H' hH RR hR; simp only [List.cons_append, List.nil_append] at hH hR; subst hH; have hR := hR.symm; subst hR)
    (repeat (first | ((first | (apply wo_v; rfl) ); (· first | (apply pv_ev; rfl) | (apply pv_fld; rfl) | (apply g_load; first | (apply pv_ld; rfl; (· (repeat (first | apply sel_here ))); rfl) ) | (apply g_bin; first | (apply a_add; rfl; rfl; infer_instance; omega) | (apply pv_add_s; rfl; rfl; omega) ) )) | apply wo_nil | apply wc_seq | apply wc_region | (apply wc_true; rfl) | (apply wc_false; rfl) | (apply a_dec_t; rfl; (· first | assumption | omega)) | (apply a_dec_f; rfl; (· first | assumption | omega)) | (apply a_dec_t; rfl; (· first | (simp; done) | (simp; omega))) | (apply a_dec_f; rfl; (· first | (simp; done) | (simp; omega))) ))
    generalize s1 ++ b1 fl = s2 at e10 ⊢
    refine wc_join0 (fun sx => ∃ z4, sx = ⟨[(1, .pointer (some ⟨bx, 0, none⟩)), (4, .string z4)], [eO bx nr st pt pic wd lv ly sy ky], []⟩ ∧ (wd = true → z4 = s2 ++ P) ∧ (wd = false → z4 = s2)) ?_ ?_
    · cases wd with
      | true =>
        have hp : 0 ≤ pic := by
          have : ¬ pic < 0 := fun h => f1 ⟨h, rfl⟩
          omega
        rw [if_pos hp, if_pos rfl] at hPe
        have q11 := rNum 2 (32768 + pic) 2 rfl (by omega)
        rw [show 32768 + pic = pic + 32768 by omega, hPe, show pic + 32768 = 32768 + pic by omega] at q11
        (repeat (first | ((first | (apply wo_v; rfl) ); (· first | (apply pv_ev; rfl) | (apply pv_fld; rfl) | (apply g_load; first | (apply pv_ld; rfl; (· (repeat (first | apply sel_here ))); rfl) ) | (apply g_bin; first | (apply a_add; rfl; rfl; infer_instance; omega) ) | (apply g_conv; first | (apply a_conv; rfl; infer_instance; infer_instance; infer_instance; omega) ) )) | apply wc_region | (apply wc_true; rfl) ))
        (refine wo_call (q11) rfl (by (repeat (first | apply sub_nil )); done) (by first | exact fun _ h => h | (intro r hr; cases hr; done) | (simp; done) | exact fun _ h => List.mem_append_left _ h | (intro r hr; simp [hr]; done)) rfl ?_; rintro v L' R' ⟨rfl, rfl, rfl⟩ H' hH RR hR; simp only [List.cons_append, List.nil_append] at hH hR; subst hH; have hR := hR.symm; subst hR)
        (repeat (first | ((first | (apply wo_v; rfl) ); (· first | (apply pv_ev; rfl) | (apply g_bin; first | (apply a_add; rfl; rfl; infer_instance; omega) | (apply pv_add_s; rfl; rfl; omega) ) )) | apply wo_nil ))
        exact cut_end ⟨_, rfl, fun _ => rfl, fun e => (by cases e)⟩ (wk_mk (by (repeat (first | apply wkf_nil | (apply wkf_cons; rfl))); done) (by (repeat (first | apply sub_nil )); done) (by first | exact fun _ h => h | (intro r hr; cases hr; done) | (simp; done) | exact fun _ h => List.mem_append_left _ h | (intro r hr; simp [hr]; done)))
      | false =>
        (repeat (first | apply wc_skip | (apply wc_true; rfl) | (apply wc_false; rfl) ))
        exact cut_end ⟨_, rfl, fun e => (by cases e), fun _ => rfl⟩ (wk_mk (by (repeat (first | apply wkf_nil | (apply wkf_cons; rfl))); done) (by (repeat (first | apply sub_nil )); done) (by first | exact fun _ h => h | (intro r hr; cases hr; done) | (simp; done) | exact fun _ h => List.mem_append_left _ h | (intro r hr; simp [hr]; done)))
    rintro sx ⟨z4, rfl, z41, z42⟩
    apply wc_seq
    refine wc_join0 (fun sx => sx = ⟨[(1, .pointer (some ⟨bx, 0, none⟩)), (4, .string (s2 ++ P))], [eO bx nr st pt pic wd lv ly sy ky], []⟩) ?_ ?_
    · cases wd with
      | true =>
        by_cases hp : 0 ≤ pic
        · rw [z41 rfl]
          (repeat (first | ((first | (apply wo_v; rfl) ); (· first | (apply pv_ev; rfl) | (apply pv_fld; rfl) | (apply g_load; first | (apply pv_ld; rfl; (· (repeat (first | apply sel_here ))); rfl) ) | (apply g_pick; first | (apply pv_pick_t; rfl; rfl) ) | (apply g_un; first | (apply pv_not_t; rfl) ) )) | apply wo_nil | apply wc_seq | apply wc_region | apply wc_skip | (apply wc_true; rfl) | (apply wc_false; rfl) | (apply wo_run; rfl; rfl) | (apply wo_skip; rfl; rfl; rfl; rfl) | (apply wo_skip_u; rfl; rfl; rfl) | (apply a_gt; rfl; rfl; (· first | assumption | omega)) ))
          exact cut_end rfl (wk_mk (by (repeat (first | apply wkf_nil | (apply wkf_cons; rfl))); done) (by (repeat (first | apply sub_nil )); done) (by first | exact fun _ h => h | (intro r hr; cases hr; done) | (simp; done) | exact fun _ h => List.mem_append_left _ h | (intro r hr; simp [hr]; done)))
        · exact absurd ⟨by omega, rfl⟩ f1
      | false =>
        rw [z42 rfl]
        by_cases hp : 0 ≤ pic
        · have hp2 : pic ≤ 127 := by
            have : ¬ 127 < pic := fun h => f2 ⟨h, rfl⟩
            omega
          rw [if_pos hp, if_neg (by simp), show pic % 128 = pic by omega] at hPe
          have q11 := rN1 pic (by omega)
          rw [hPe] at q11
          (repeat (first | ((first | (apply wo_v; rfl) ); (· first | (apply pv_ev; rfl) | (apply pv_fld; rfl) | (apply g_load; first | (apply pv_ld; rfl; (· (repeat (first | apply sel_here ))); rfl) ) | (apply g_pick; first | (apply pv_pick_t; rfl; rfl) ) | (apply g_un; first | (apply pv_not_t; rfl) | (apply pv_not_f; rfl) ) | (apply g_conv; first | (apply a_conv; rfl; infer_instance; infer_instance; infer_instance; omega) ) )) | apply wo_nil | apply wc_seq | apply wc_region | (apply wc_true; rfl) | (apply wo_run; rfl; rfl) | (apply wo_skip; rfl; rfl; rfl; rfl) | (apply wo_skip_u; rfl; rfl; rfl) | (apply a_gt; rfl; rfl; (· first | assumption | omega)) ))
          (refine wo_call (q11) rfl (by (repeat (first | apply sub_nil )); done) (by first | exact fun _ h => h | (intro r hr; cases hr; done) | (simp; done) | exact fun _ h => List.mem_append_left _ h | (intro r hr; simp [hr]; done)) rfl ?_; rintro v L' R' ⟨rfl, rfl, rfl⟩ H' hH RR hR; simp only [List.cons_append, List.nil_append] at hH hR; subst hH; have hR := hR.symm; subst hR)
          (repeat (first | ((first | (apply wo_v; rfl) ); (· first | (apply pv_ev; rfl) | (apply g_bin; first | (apply a_add; rfl; rfl; infer_instance; omega) | (apply pv_add_s; rfl; rfl; omega) ) )) | apply wo_nil ))
          exact cut_end rfl (wk_mk (by (repeat (first | apply wkf_nil | (apply wkf_cons; rfl))); done) (by (repeat (first | apply sub_nil )); done) (by first | exact fun _ h => h | (intro r hr; cases hr; done) | (simp; done) | exact fun _ h => List.mem_append_left _ h | (intro r hr; simp [hr]; done)))
        · rw [if_neg hp] at hPe
          subst hPe
          rw [append_E0]
          (repeat (first | ((first | (apply wo_v; rfl) ); (· first | (apply pv_ev; rfl) | (apply pv_fld; rfl) | (apply g_load; first | (apply pv_ld; rfl; (· (repeat (first | apply sel_here ))); rfl) ) | (apply g_pick; first | (apply pv_pick_t; rfl; rfl) | (apply pv_pick_f; rfl; rfl)) )) | apply wo_nil | apply wc_seq | apply wc_region | apply wc_skip | (apply wc_true; rfl) | (apply wc_false; rfl) | (apply wo_run; rfl; rfl) | (apply wo_skip; rfl; rfl; rfl; rfl) | (apply wo_skip_u; rfl; rfl; rfl) | (apply a_gt; rfl; rfl; (· first | assumption | omega)) | (apply a_gf; rfl; rfl; (· first | assumption | omega)) ))
          exact cut_end rfl (wk_mk (by (repeat (first | apply wkf_nil | (apply wkf_cons; rfl))); done) (by (repeat (first | apply sub_nil )); done) (by first | exact fun _ h => h | (intro r hr; cases hr; done) | (simp; done) | exact fun _ h => List.mem_append_left _ h | (intro r hr; simp [hr]; done)))
    rintro sx rfl
    have e11 : (s2 ++ P).size ≤ 4 := by rw [ByteArray.size_append]; omega
    generalize s2 ++ P = s3 at e11 ⊢
    (repeat (first | ((first | (apply wo_v; rfl) ); (· first | (apply pv_ev; rfl) | (apply pv_fld; rfl) | (apply g_load; first | (apply pv_ld; rfl; (· (repeat (first | apply sel_here ))); rfl) ) )) | apply wo_nil | apply wc_seq | apply wc_region | (apply wc_true; rfl) | (apply wc_false; rfl) | (apply a_dec_t; rfl; (· first | assumption | omega)) | (apply a_dec_f; rfl; (· first | assumption | omega)) | (apply a_dec_t; rfl; (· first | (simp; done) | (simp; omega))) | (apply a_dec_f; rfl; (· first | (simp; done) | (simp; omega))) ))
    refine wc_join0 (fun sx => sx = ⟨[(1, .pointer (some ⟨bx, 0, none⟩)), (4, .string (s3 ++ L))], [eO bx nr st pt pic wd lv ly sy ky], []⟩) ?_ ?_
    · by_cases hp : 0 ≤ lv
      · rw [if_pos hp] at hLe
        have q11 := rN1 lv (by omega)
        rw [hLe] at q11
        (repeat (first | ((first | (apply wo_v; rfl) ); (· first | (apply pv_ev; rfl) | (apply pv_fld; rfl) | (apply g_load; first | (apply pv_ld; rfl; (· (repeat (first | apply sel_here ))); rfl) ) | (apply g_conv; first | (apply a_conv; rfl; infer_instance; infer_instance; infer_instance; omega) ) )) | apply wc_region | (apply wc_true; rfl) | (apply wc_false; rfl) | (apply a_dec_t; rfl; (· first | assumption | omega)) ))
        (refine wo_call (q11) rfl (by (repeat (first | apply sub_nil )); done) (by first | exact fun _ h => h | (intro r hr; cases hr; done) | (simp; done) | exact fun _ h => List.mem_append_left _ h | (intro r hr; simp [hr]; done)) rfl ?_; rintro v L' R' ⟨rfl, rfl, rfl⟩ H' hH RR hR; simp only [List.cons_append, List.nil_append] at hH hR; subst hH; have hR := hR.symm; subst hR)
        (repeat (first | ((first | (apply wo_v; rfl) ); (· first | (apply pv_ev; rfl) | (apply g_bin; first | (apply a_add; rfl; rfl; infer_instance; omega) | (apply pv_add_s; rfl; rfl; omega) ) )) | apply wo_nil ))
        exact cut_end rfl (wk_mk (by (repeat (first | apply wkf_nil | (apply wkf_cons; rfl))); done) (by (repeat (first | apply sub_nil )); done) (by first | exact fun _ h => h | (intro r hr; cases hr; done) | (simp; done) | exact fun _ h => List.mem_append_left _ h | (intro r hr; simp [hr]; done)))
      · rw [if_neg hp] at hLe
        subst hLe
        rw [append_E0]
        (repeat (first | apply wc_skip | (apply wc_true; rfl) | (apply wc_false; rfl) | (apply a_dec_t; rfl; (· first | assumption | omega)) | (apply a_dec_f; rfl; (· first | assumption | omega)) ))
        exact cut_end rfl (wk_mk (by (repeat (first | apply wkf_nil | (apply wkf_cons; rfl))); done) (by (repeat (first | apply sub_nil )); done) (by first | exact fun _ h => h | (intro r hr; cases hr; done) | (simp; done) | exact fun _ h => List.mem_append_left _ h | (intro r hr; simp [hr]; done)))
    rintro sx rfl
    have e12 : (s3 ++ L).size ≤ 5 := by rw [ByteArray.size_append]; omega
    generalize s3 ++ L = s4 at e12 ⊢
    by_cases hp : 0 ≤ ly ∨ 0 ≤ ky
    · rw [if_pos hp] at hTe
      have q11 := rN1 (max ly 0 * 64 + bt sy 32 + max ky 0) (by have := bt_or sy 32; omega)
      rw [hTe] at q11
      have q12 := eBit sy 32 _ rfl
      have w8 := bt_or sy 32
      have hTs : T.size = 1 := by rw [← hTe]; exact b1_size _
      have hp2 : 0 ≤ ly ∨ (¬ 0 ≤ ly ∧ 0 ≤ ky) := by omega
      rcases hp2 with c1 | ⟨c1, c2⟩
      all_goals
        (repeat (first | ((first | (apply wo_v; rfl) ); (· first | (apply pv_ev; rfl) | (apply pv_fld; rfl) | (apply g_load; first | (apply pv_ld; rfl; (· (repeat (first | apply sel_here ))); rfl) ) | (apply g_pick; first | (apply pv_pick_t; rfl; rfl) | (apply pv_pick_f; rfl; rfl)) )) | apply wo_nil | apply wc_seq | apply wc_region | (apply wc_true; rfl) | (apply wc_false; rfl) | (apply a_dec_t; rfl; (· first | assumption | omega)) | (apply wo_run; rfl; rfl) | (apply wo_skip; rfl; rfl; rfl; rfl) | (apply wo_skip_u; rfl; rfl; rfl) | (apply a_gt; rfl; rfl; (· first | assumption | omega)) | (apply a_gf; rfl; rfl; (· first | assumption | omega)) ))
        (refine wc_quiet mixed (by kernel_rfl) ?_; (repeat (first | ((first | (apply hd_v; rfl) ); (· first | (apply pv_ev; rfl) | (apply pv_fld; rfl) | (apply g_load; first | (apply pv_ld; rfl; (· (repeat (first | apply sel_here ))); rfl) ) | (apply g_bin; first | (apply a_mul; rfl; rfl; infer_instance; omega) ) | (apply g_bi; first | (apply pv_max; rfl; rfl)) )) )))
        (refine Hd.call rfl inferInstance (Fn.mono (q12) (fun _ _ _ h => ⟨h.1, h.2.1⟩)) rfl (by (repeat (first | apply sub_nil )); done) (by first | exact fun _ h => h | (intro r hr; cases hr; done) | (simp; done) | exact fun _ h => List.mem_append_left _ h | (intro r hr; simp [hr]; done)) rfl ?_; (repeat (first | ((first | (apply hd_v; rfl) ); (· first | (apply pv_ev; rfl) | (apply pv_fld; rfl) | (apply g_load; first | (apply pv_ld; rfl; (· (repeat (first | apply sel_here ))); rfl) ) | (apply g_bin; first | (apply a_add; rfl; rfl; infer_instance; omega) ) | (apply g_bi; first | (apply pv_max; rfl; rfl)) | (apply g_conv; first | (apply a_conv; rfl; infer_instance; infer_instance; infer_instance; omega) ) )) )))
        (refine Hd.call rfl inferInstance (Fn.mono (q11) (fun _ _ _ h => ⟨h.1, h.2.1⟩)) rfl (by (repeat (first | apply sub_nil )); done) (by first | exact fun _ h => h | (intro r hr; cases hr; done) | (simp; done) | exact fun _ h => List.mem_append_left _ h | (intro r hr; simp [hr]; done)) rfl ?_; (repeat (first | ((first | (apply wo_v; rfl) | (apply hd_v; rfl) ); (· first | (apply pv_ev; rfl) | (apply g_bin; first | (apply a_add; rfl; rfl; infer_instance; omega) | (apply pv_add_s; rfl; rfl; omega) ) )) | apply wo_nil | apply Hd.nil | apply wc_seq | apply wc_region | apply wc_ret )))
        exact ret1 rfl rfl ⟨rfl, rfl, rfl⟩ ((by (repeat (first | apply sub_nil )); done) : List.Perm _ ([] ++ _)) (by first | exact fun _ h => h | (intro r hr; cases hr; done) | (simp; done) | exact fun _ h => List.mem_append_left _ h | (intro r hr; simp [hr]; done))
    · rw [if_neg hp] at hTe
      have c1 : ¬ 0 ≤ ly := by omega
      have c2 : ¬ 0 ≤ ky := by omega
      subst hTe
      rw [append_E0]
      (repeat (first | ((first | (apply wo_v; rfl) ); (· first | (apply pv_ev; rfl) | (apply pv_fld; rfl) | (apply g_load; first | (apply pv_ld; rfl; (· (repeat (first | apply sel_here ))); rfl) ) | (apply g_pick; first | (apply pv_pick_t; rfl; rfl) | (apply pv_pick_f; rfl; rfl)) )) | apply wo_nil | apply wc_seq | apply wc_region | apply wc_skip | apply wc_ret | (apply wc_true; rfl) | (apply wc_false; rfl) | (apply a_dec_t; rfl; (· first | assumption | omega)) | (apply a_dec_f; rfl; (· first | assumption | omega)) | (apply wo_run; rfl; rfl) | (apply wo_skip; rfl; rfl; rfl; rfl) | (apply wo_skip_u; rfl; rfl; rfl) | (apply a_gt; rfl; rfl; (· first | assumption | omega)) | (apply a_gf; rfl; rfl; (· first | assumption | omega)) ))
      exact ret1 rfl rfl ⟨rfl, rfl, rfl⟩ ((by (repeat (first | apply sub_nil )); done) : List.Perm _ ([] ++ _)) (by first | exact fun _ h => h | (intro r hr; cases hr; done) | (simp; done) | exact fun _ h => List.mem_append_left _ h | (intro r hr; simp [hr]; done))
  · have e0 : fl = 0 := by omega
    subst e0
    rw [if_neg (by simp)]
    (repeat (first | ((first | (apply wo_v; rfl) ); (· first | (apply pv_ev; rfl) )) | apply wo_nil | apply wc_seq | apply wc_region | apply wc_ret | (apply wc_true; rfl) ))
    exact ret1 rfl rfl ⟨by rw [append_E0], rfl, rfl⟩ ((by (repeat (first | apply sub_nil )); done) : List.Perm _ ([] ++ _)) (by first | exact fun _ h => h | (intro r hr; cases hr; done) | (simp; done) | exact fun _ h => List.mem_append_left _ h | (intro r hr; simp [hr]; done))
end Go.Proofs.Ytnjicnadlhfocaa
