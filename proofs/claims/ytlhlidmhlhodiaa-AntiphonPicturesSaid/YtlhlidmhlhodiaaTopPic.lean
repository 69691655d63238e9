/-
  AntiphonPictures: rewriting changes nothing else.
-/
import Derived.Test.YtlhlidmhlhodiaaLive
import Derived.Test.YtlhlidmhlhodiaaDeep
namespace Go.Proofs.Ytlhlidmhlhodiaa
set_option linter.unusedSimpArgs false
set_option linter.unusedVariables false
open Go.RowKit
attribute [local irreducible] Pv WO WC Fn
attribute [local irreducible] ByteArray.extract
set_option maxRecDepth 100000
abbrev dFd : List Fd1 := [.one .bool, .one .bool, .one (.int .i64), .one (.int .i64), .one .bool, .one (.int .i64), .one (.int .i64), .one .bool, .one (.int .i64)]
theorem fk_i64 {R : List Ro} {v : Value} (h : FV1 R (.one (.int .i64)) v) : ∃ z, v = .int .i64 z := by obtain ⟨z, h, _⟩ := h; exact ⟨z, h⟩
theorem row_d {R : List Ro} {row : List Value} (h : FV1s R dFd row) : ∃ nr st pt pic wd lv ly sy ky, row = dL nr st pt pic wd lv ly sy ky := by
  obtain ⟨hl, h⟩ := h
  obtain ⟨v0, e0, nr, rfl⟩ := h 0 _ rfl
  obtain ⟨v1, e1, st, rfl⟩ := h 1 _ rfl
  obtain ⟨v2, e2, h2⟩ := h 2 _ rfl
  obtain ⟨v3, e3, h3⟩ := h 3 _ rfl
  obtain ⟨v4, e4, wd, rfl⟩ := h 4 _ rfl
  obtain ⟨v5, e5, h5⟩ := h 5 _ rfl
  obtain ⟨v6, e6, h6⟩ := h 6 _ rfl
  obtain ⟨v7, e7, sy, rfl⟩ := h 7 _ rfl
  obtain ⟨v8, e8, h8⟩ := h 8 _ rfl
  obtain ⟨pt, rfl⟩ := fk_i64 h2
  obtain ⟨pic, rfl⟩ := fk_i64 h3
  obtain ⟨lv, rfl⟩ := fk_i64 h5
  obtain ⟨ly, rfl⟩ := fk_i64 h6
  obtain ⟨ky, rfl⟩ := fk_i64 h8
  refine ⟨nr, st, pt, pic, wd, lv, ly, sy, ky, ?_⟩
  match row, hl, e0, e1, e2, e3, e4, e5, e6, e7, e8 with
  | [a0, a1, a2, a3, a4, a5, a6, a7, a8], _, e0, e1, e2, e3, e4, e5, e6, e7, e8 =>
    simp at e0 e1 e2 e3 e4 e5 e6 e7 e8
    subst e0 e1 e2 e3 e4 e5 e6 e7 e8
    rfl
theorem txt_size (d : Dc) : (txt d).size ≤ 6 := by
  have h1 := tPic_size d
  have h2 : (tLv d).size ≤ 1 := by
    unfold tLv; split
    · exact Nat.le_refl _
    · exact Nat.zero_le _
  have h3 : (tLast d).size ≤ 1 := by
    unfold tLast; split
    · exact Nat.le_refl _
    · exact Nat.zero_le _
  have h4 : (tPic d).size ≤ 2 := by 
    rw [h1]
    split
    · split <;> omega
    · omega
  unfold txt
  have e0 : E0.size = 0 := rfl
  split
  · simp only [ByteArray.size_append, b1_size]; omega
  · simp only [ByteArray.size_append, b1_size, e0]; omega
/-- a packet of a payload, there and back -/
theorem pk_back (sq : Int) (h2 : 0 ≤ sq ∧ sq ≤ 65535) (pl : ByteArray) (hp : pl.size ≤ 1000) (ao : Option Addr) (c : Nat) (R : List Ro) : ∃ x : ByteArray, x.size ≤ 1500 ∧ prR x = (⟨false, 96, sq, 0, 0, [], false, 0, E0, pl, 0⟩, 0) ∧
    Fn Try.prog 16 #[.agg (rpR false 96 sq 0 0 (.slice ao 0 c) false 0 E0 pl 0).toArray] [] R (fun v L' R' => v = .string x ∧ L' = [] ∧ R' = []) := by
  have hck : Ck ⟨false, 96, sq, 0, 0, [], false, 0, E0, pl, 0⟩ := ⟨by dsimp only; omega, by dsimp only; omega, Nat.zero_le _, rfl, (fun _ => ⟨rfl, rfl⟩), by unfold lenM; simp only [List.length_nil, Bool.false_eq_true, if_false]; omega⟩
  have hokr : okR ⟨false, 96, sq, 0, 0, [], false, 0, E0, pl, 0⟩ := ⟨by dsimp only; omega, h2, by dsimp only; omega, by dsimp only; omega, by dsimp only; omega, (fun z hz => by cases hz)⟩
  have hx := prR_txP hokr hck
  have hz := txP_size hck
  have hl := hck.len
  refine ⟨_, ?_, hx, gText false 96 sq 0 0 [] false 0 E0 pl 0 ao 0 c R (SQ.nil _ _ _ _) (by decide) (by decide) (by omega) (by decide) (by decide) h2 (by decide) (by decide) (by decide) (fun z hz => by cases hz)⟩
  omega
set_option maxHeartbeats 64000000 in
theorem antiphonPictures_fn (nr st : Bool) (pt pic : Int) (wd : Bool) (lv ly : Int) (sy : Bool) (ky : Int) (s0 : ByteArray) (sq : Int) (hsq : 0 ≤ sq ∧ sq ≤ 65535) (pp ll : Int) :
    Fn Try.prog 3 #[.agg (dL nr st pt pic wd lv ly sy ky).toArray, .string s0, .int .u16 sq, .int .i64 pp, .int .i64 ll] [] [] (fun v _ _ => v = .bool true) := by
  have hC := octCut s0 60
  have hs := cutS_size s0 60
  generalize cutS s0 60 = s at hC hs
  obtain ⟨r, hr⟩ : ∃ r, chk ⟨nr, st, pt, pic, wd, lv, ly, sy, ky⟩ = r := ⟨_, rfl⟩
  have qc := vCheck nr st pt pic wd lv ly sy ky r hr
  by_cases h0 : r = 0
  case neg =>
    refine fn_intro Try.func3 rfl Try.ntmps3 rfl (fun E => ?_)
    (repeat (first | ((first | (apply wo_v; rfl) ); (· first | (apply pv_ev; rfl) )) | apply wo_nil | apply wc_seq | apply wc_region | (apply wo_box1; rfl; rfl; rfl; intro bx) | (apply wo_boxa; rfl; rfl; intro bx) ))
    (refine wo_call (hC) rfl (by (repeat (first | apply sub_nil )); done) (by first | exact fun _ h => h | (intro r hr; cases hr; done) | (simp; done) | exact fun _ h => List.mem_append_left _ h | (intro r hr; simp [hr]; done)) rfl ?_; rintro v L' R' ⟨rfl, rfl, rfl⟩ H' hH RR hR; simp only [List.cons_append, List.nil_append] at hH hR; subst hH; have hR := hR.symm; subst hR)
    (repeat (first | ((first | (apply wo_v; rfl) ); (· first | (apply pv_ev; rfl) )) | apply wo_nil | apply wc_seq | apply wc_region ))
    (refine wo_call (alive) rfl (by (repeat (first | apply sub_nil )); done) (by first | exact fun _ h => h | (intro r hr; cases hr; done) | (simp; done) | exact fun _ h => List.mem_append_left _ h | (intro r hr; simp [hr]; done)) rfl ?_; rintro v L' R' ⟨rfl, rfl, rfl⟩ H' hH RR hR; simp only [List.cons_append, List.nil_append] at hH hR; subst hH; have hR := hR.symm; subst hR)
    (repeat (first | ((first | (apply wo_v; rfl) ); (· first | (apply pv_ev; rfl) | (apply g_load; first | (apply pv_lda; rfl; (· (repeat (first | apply sel_here ))); (· (repeat (first | apply Cut.here0 | apply Cut.here )))) ) | (apply g_un; first | (apply pv_not_t; rfl) ) )) | (apply wo_run; rfl; rfl) ))
    (refine wo_call (qc) rfl (by (repeat (first | apply sub_nil )); done) (by first | exact fun _ h => h | (intro r hr; cases hr; done) | (simp; done) | exact fun _ h => List.mem_append_left _ h | (intro r hr; simp [hr]; done)) rfl ?_; rintro v L' R' ⟨rfl, rfl, rfl⟩ H' hH RR hR; simp only [List.cons_append, List.nil_append] at hH hR; subst hH; have hR := hR.symm; subst hR)
    (repeat (first | ((first | (apply wo_v; rfl) ); (· first | (apply pv_ev; rfl) | (apply g_pick; first | (apply pv_pick_t; rfl; rfl) | (apply pv_pick_f; rfl; rfl)) )) | apply wo_nil | apply wc_seq | apply wc_region | (apply wc_true; rfl) | (apply wc_false; rfl) | (apply a_dec_t; rfl; (· first | assumption | omega)) | (apply wo_run; rfl; rfl) ))
    (refine wo_call (alive) rfl (by (repeat (first | apply sub_nil )); done) (by first | exact fun _ h => h | (intro r hr; cases hr; done) | (simp; done) | exact fun _ h => List.mem_append_left _ h | (intro r hr; simp [hr]; done)) rfl ?_; rintro v L' R' ⟨rfl, rfl, rfl⟩ H' hH RR hR; simp only [List.cons_append, List.nil_append] at hH hR; subst hH; have hR := hR.symm; subst hR)
    (repeat (first | ((first | (apply wo_v; rfl) ); (· first | (apply pv_ev; rfl) )) | apply wo_nil | apply wc_ret ))
    exact ret1 rfl rfl rfl ((by (repeat (first | apply sub_nil )); done) : List.Perm _ ([] ++ _)) (by first | exact fun _ h => h | (intro r hr; cases hr; done) | (simp; done) | exact fun _ h => List.mem_append_left _ h | (intro r hr; simp [hr]; done))
  subst h0
  have hA : okA ⟨nr, st, pt, pic, wd, lv, ly, sy, ky⟩ := by
    unfold chk at hr; split at hr
    · omega
    · rename_i h; exact Classical.not_not.1 h
  have hF : okF ⟨nr, st, pt, pic, wd, lv, ly, sy, ky⟩ := by
    unfold chk at hr; split at hr
    · omega
    · split at hr
      · omega
      · rename_i h; exact Classical.not_not.1 h
  have qt := vText nr st pt pic wd lv ly sy ky hA hF
  have hz := txt_size ⟨nr, st, pt, pic, wd, lv, ly, sy, ky⟩
  have hb := prs_txt hA hF s
  have qw := vWith nr st pt pic wd lv ly sy ky pp ll
  have e1 : decide (0 ≤ (if 0 ≤ pic then pp % 32768 else pic)) = decide (0 ≤ pic) := by
    split
    · rename_i h; rw [decide_eq_true h, decide_eq_true (by omega)]
    · rfl
  have e2 : decide (0 ≤ (if 0 ≤ lv then ll % 256 else lv)) = decide (0 ≤ lv) := by
    split
    · rename_i h; rw [decide_eq_true h, decide_eq_true (by omega)]
    · rfl
  have hA2 : okA ⟨nr, st, pt, if 0 ≤ pic then pp % 32768 else pic, if 0 ≤ pic then true else wd, if 0 ≤ lv then ll % 256 else lv, ly, sy, ky⟩ := by
    unfold okA at hA ⊢
    dsimp only at hA ⊢
    refine ⟨hA.1, hA.2.1, ?_, ?_, ?_, ?_, hA.2.2.2.2.2.2⟩ <;> split <;> omega
  have hF2 : okF ⟨nr, st, pt, if 0 ≤ pic then pp % 32768 else pic, if 0 ≤ pic then true else wd, if 0 ≤ lv then ll % 256 else lv, ly, sy, ky⟩ := by
    unfold okF at hF ⊢
    dsimp only at hF ⊢
    obtain ⟨f1, f2, f3⟩ := hF
    by_cases h : 0 ≤ pic
    · rw [if_pos h, if_pos h]
      exact ⟨(by rintro ⟨h1, _⟩; omega), (by rintro ⟨_, h2⟩; cases h2), f3⟩
    · rw [if_neg h, if_neg h]
      exact ⟨f1, f2, f3⟩
  generalize (if 0 ≤ pic then pp % 32768 else pic) = pic2 at e1 hA2 hF2 qw
  generalize (if 0 ≤ pic then true else wd) = wd2 at hA2 hF2 qw
  generalize (if 0 ≤ lv then ll % 256 else lv) = lv2 at e2 hA2 hF2 qw
  have qt2 := vText nr st pt pic2 wd2 lv2 ly sy ky hA2 hF2
  have hz2 := txt_size ⟨nr, st, pt, pic2, wd2, lv2, ly, sy, ky⟩
  have hb2 := prs_txt hA2 hF2 s
  generalize txt ⟨nr, st, pt, pic, wd, lv, ly, sy, ky⟩ = t1 at qt hz hb
  generalize txt ⟨nr, st, pt, pic2, wd2, lv2, ly, sy, ky⟩ = t2 at qt2 hz2 hb2
  have z1 : (t1 ++ s).size ≤ 66 := by rw [ByteArray.size_append]; omega
  have z2 : (t2 ++ s).size ≤ 66 := by rw [ByteArray.size_append]; omega
  have qp := vParse (t1 ++ s) (by omega)
  rw [hb] at qp
  have qp2 := vParse (t2 ++ s) (by omega)
  rw [hb2] at qp2
  dsimp only [dv] at qp qp2
  obtain ⟨x1, hx1, hy1, w1⟩ := pk_back sq hsq (t1 ++ s) (by omega) none 0 []
  have wP1 := pParse x1 (by omega)
  rw [hy1] at wP1
  dsimp only [List.length_nil] at wP1
  have w2 := fun ao c => pk_back sq hsq (t2 ++ s) (by omega) ao c []
  have he : ¬ ¬ EqRow (dL nr st pt pic wd lv ly sy ky) (dL nr st pt pic wd lv ly sy ky) := Classical.not_not.2 (eqD ⟨nr, st, pt, pic, wd, lv, ly, sy, ky⟩)
  refine fn_intro Try.func3 rfl Try.ntmps3 rfl (fun E => ?_)
  (repeat (first | ((first | (apply wo_v; rfl) ); (· first | (apply pv_ev; rfl) )) | apply wo_nil | apply wc_seq | apply wc_region | (apply wo_box1; rfl; rfl; rfl; intro bx) | (apply wo_boxa; rfl; rfl; intro bx) ))
  (refine wo_call (hC) rfl (by (repeat (first | apply sub_nil )); done) (by first | exact fun _ h => h | (intro r hr; cases hr; done) | (simp; done) | exact fun _ h => List.mem_append_left _ h | (intro r hr; simp [hr]; done)) rfl ?_; rintro v L' R' ⟨rfl, rfl, rfl⟩ H' hH RR hR; simp only [List.cons_append, List.nil_append] at hH hR; subst hH; have hR := hR.symm; subst hR)
  (repeat (first | ((first | (apply wo_v; rfl) ); (· first | (apply pv_ev; rfl) )) | apply wo_nil | apply wc_seq | apply wc_region ))
  (refine wo_call (alive) rfl (by (repeat (first | apply sub_nil )); done) (by first | exact fun _ h => h | (intro r hr; cases hr; done) | (simp; done) | exact fun _ h => List.mem_append_left _ h | (intro r hr; simp [hr]; done)) rfl ?_; rintro v L' R' ⟨rfl, rfl, rfl⟩ H' hH RR hR; simp only [List.cons_append, List.nil_append] at hH hR; subst hH; have hR := hR.symm; subst hR)
  (repeat (first | ((first | (apply wo_v; rfl) ); (· first | (apply pv_ev; rfl) | (apply g_load; first | (apply pv_lda; rfl; (· (repeat (first | apply sel_here ))); (· (repeat (first | apply Cut.here0 | apply Cut.here )))) ) | (apply g_un; first | (apply pv_not_t; rfl) ) )) | (apply wo_run; rfl; rfl) ))
  (refine wo_call (qc) rfl (by (repeat (first | apply sub_nil )); done) (by first | exact fun _ h => h | (intro r hr; cases hr; done) | (simp; done) | exact fun _ h => List.mem_append_left _ h | (intro r hr; simp [hr]; done)) rfl ?_; rintro v L' R' ⟨rfl, rfl, rfl⟩ H' hH RR hR; simp only [List.cons_append, List.nil_append] at hH hR; subst hH; have hR := hR.symm; subst hR)
  (repeat (first | ((first | (apply wo_v; rfl) ); (· first | (apply pv_ev; rfl) | (apply g_load; first | (apply pv_lda; rfl; (· (repeat (first | apply sel_here ))); (· (repeat (first | apply Cut.here0 | apply Cut.here )))) ) | (apply g_pick; first | (apply pv_pick_t; rfl; rfl) | (apply pv_pick_f; rfl; rfl)) )) | apply wo_nil | apply wc_seq | apply wc_region | apply wc_skip | (apply wc_true; rfl) | (apply wc_false; rfl) | (apply wo_run; rfl; rfl) ))
  (refine wo_call (qt) rfl (by (repeat (first | apply sub_nil )); done) (by first | exact fun _ h => h | (intro r hr; cases hr; done) | (simp; done) | exact fun _ h => List.mem_append_left _ h | (intro r hr; simp [hr]; done)) rfl ?_; rintro v L' R' ⟨rfl, rfl, rfl⟩ H' hH RR hR; simp only [List.cons_append, List.nil_append] at hH hR; subst hH; have hR := hR.symm; subst hR)
  (repeat (first | ((first | (apply wo_v; rfl) ); (· first | (apply pv_ev; rfl) | (apply g_load; first | (apply pv_lda; rfl; (· (repeat (first | apply sel_here ))); (· (repeat (first | apply Cut.here0 | apply Cut.here )))) ) | (apply g_bin; first | (apply a_add; rfl; rfl; infer_instance; omega) | (apply pv_add_s; rfl; rfl; omega) ) | (apply g_build; apply pv_build; (· (repeat (first | apply Bld.nil | (apply Bld.one; rfl; rfl; (· (repeat (first | apply SetAt.here | apply SetAt.there)))) )))) )) | apply wo_nil | apply wc_seq | apply wc_region | (apply wo_alloc; rfl; intro bx) | (apply wo_sta; rfl; rfl; rfl; rfl; (· (repeat (first | apply sel_here ))); (· (repeat (first | apply LayAt.nil | apply LayAt.here ))); rfl) ))
  (refine wo_call (w1) rfl (by (repeat (first | apply sub_nil )); done) (by first | exact fun _ h => h | (intro r hr; cases hr; done) | (simp; done) | exact fun _ h => List.mem_append_left _ h | (intro r hr; simp [hr]; done)) rfl ?_; rintro v L' R' ⟨rfl, rfl, rfl⟩ H' hH RR hR; simp only [List.cons_append, List.nil_append] at hH hR; subst hH; have hR := hR.symm; subst hR)
  (repeat (first | ((first | (apply wo_v; rfl) ); (· first | (apply pv_ev; rfl) )) ))
  (refine wo_call (wP1) rfl (by (repeat (first | apply sub_nil )); done) (by first | exact fun _ h => h | (intro r hr; cases hr; done) | (simp; done) | exact fun _ h => List.mem_append_left _ h | (intro r hr; simp [hr]; done)) rfl ?_; rintro v L' R' ⟨ao, c, rfl, rfl, rfl⟩ H' hH RR hR; simp only [List.cons_append, List.nil_append] at hH hR; subst hH; have hR := hR.symm; subst hR)
  (repeat (first | ((first | (apply wo_v; rfl) ); (· first | (apply pv_ev; rfl) | (apply pv_fld; rfl) | (apply g_load; first | (apply pv_ld; rfl; (· (repeat (first | apply sel_here ))); rfl) ) )) | apply wo_nil | apply wc_seq | apply wc_region | (apply wo_alloc; rfl; intro bx) | (apply wo_sta; rfl; rfl; rfl; rfl; (· (repeat (first | apply sel_here ))); (· (repeat (first | apply LayAt.nil | apply LayAt.here ))); rfl) ))
  (refine wo_call (qp) rfl (by (repeat (first | apply sub_nil )); done) (by first | exact fun _ h => h | (intro r hr; cases hr; done) | (simp; done) | exact fun _ h => List.mem_append_left _ h | (intro r hr; simp [hr]; done)) rfl ?_; rintro v L' R' ⟨rfl, rfl, rfl⟩ H' hH RR hR; simp only [List.cons_append, List.nil_append] at hH hR; subst hH; have hR := hR.symm; subst hR)
  (repeat (first | ((first | (apply wo_v; rfl) ); (· first | (apply pv_ev; rfl) | (apply g_load; first | (apply pv_lda; rfl; (· (repeat (first | apply sel_here | apply sel_there))); (· (repeat (first | apply Cut.here0 | apply Cut.here )))) ) | (apply g_pick; first | (apply pv_pick_t; rfl; rfl) | (apply pv_pick_f; rfl; rfl)) | (apply g_bin; first | (apply pv_neq_s; rfl; rfl) | (apply pv_neq_a; rfl; rfl; infer_instance; rfl; rfl)) )) | apply wo_nil | apply wc_seq | apply wc_region | apply wc_skip | (apply wc_true; rfl) | (apply wc_false; rfl) | (apply a_dec_t; rfl; (· first | assumption | omega)) | (apply a_dec_f; rfl; (· first | assumption | omega)) | (apply a_dec_t; rfl; (· first | (simp; done) | (simp; omega))) | (apply a_dec_f; rfl; (· first | (simp; done) | (simp; omega))) | (apply wo_run; rfl; rfl) | (apply wo_skip; rfl; rfl; rfl; rfl) | (apply wo_skip_u; rfl; rfl; rfl) | (apply a_gt; rfl; rfl; (· first | assumption | omega)) | (apply a_gf; rfl; rfl; (· first | assumption | omega)) | (apply wo_alloc; rfl; intro bx) | (apply wo_sta; rfl; rfl; rfl; rfl; (· (repeat (first | apply sel_here ))); (· (repeat (first | apply LayAt.nil | apply LayAt.here ))); rfl) ))
  (refine wo_call (qw) rfl (by (repeat (first | apply sub_nil )); done) (by first | exact fun _ h => h | (intro r hr; cases hr; done) | (simp; done) | exact fun _ h => List.mem_append_left _ h | (intro r hr; simp [hr]; done)) rfl ?_; rintro v L' R' ⟨rfl, rfl, rfl⟩ H' hH RR hR; simp only [List.cons_append, List.nil_append] at hH hR; subst hH; have hR := hR.symm; subst hR)
  (repeat (first | ((first | (apply wo_v; rfl) ); (· first | (apply pv_ev; rfl) )) ))
  (refine wo_call (qt2) rfl (by (repeat (first | apply sub_nil )); done) (by first | exact fun _ h => h | (intro r hr; cases hr; done) | (simp; done) | exact fun _ h => List.mem_append_left _ h | (intro r hr; simp [hr]; done)) rfl ?_; rintro v L' R' ⟨rfl, rfl, rfl⟩ H' hH RR hR; simp only [List.cons_append, List.nil_append] at hH hR; subst hH; have hR := hR.symm; subst hR)
  (repeat (first | ((first | (apply wo_v; rfl) ); (· first | (apply pv_ev; rfl) | (apply pv_fld; rfl) | (apply g_load; first | (apply pv_lda; rfl; (· (repeat (first | apply sel_here ))); (· (repeat (first | apply Cut.here0 | apply Cut.here )))) ) | (apply g_bin; first | (apply a_add; rfl; rfl; infer_instance; omega) | (apply pv_add_s; rfl; rfl; omega) ) )) | apply wo_nil | apply wc_seq | apply wc_region | (apply wo_st; rfl; rfl; rfl; (· (repeat (first | apply sel_here | apply sel_there))); (· (repeat (first | apply SetAt.here | apply SetAt.there))); rfl) ))
  obtain ⟨x2, hx2, hy2, w2⟩ := w2 ao c
  have wP2 := pParse x2 (by omega)
  rw [hy2] at wP2
  dsimp only [List.length_nil] at wP2
  (refine wo_call (w2) rfl (by (repeat (first | apply sub_nil )); done) (by first | exact fun _ h => h | (intro r hr; cases hr; done) | (simp; done) | exact fun _ h => List.mem_append_left _ h | (intro r hr; simp [hr]; done)) rfl ?_; rintro v L' R' ⟨rfl, rfl, rfl⟩ H' hH RR hR; simp only [List.cons_append, List.nil_append] at hH hR; subst hH; have hR := hR.symm; subst hR)
  (repeat (first | ((first | (apply wo_v; rfl) ); (· first | (apply pv_ev; rfl) )) ))
  (refine wo_call (wP2) rfl (by (repeat (first | apply sub_nil )); done) (by first | exact fun _ h => h | (intro r hr; cases hr; done) | (simp; done) | exact fun _ h => List.mem_append_left _ h | (intro r hr; simp [hr]; done)) rfl ?_; rintro v L' R' ⟨ao2, c2, rfl, rfl, rfl⟩ H' hH RR hR; simp only [List.cons_append, List.nil_append] at hH hR; subst hH; have hR := hR.symm; subst hR)
  (repeat (first | ((first | (apply wo_v; rfl) ); (· first | (apply pv_ev; rfl) | (apply pv_fld; rfl) | (apply g_load; first | (apply pv_ld; rfl; (· (repeat (first | apply sel_here ))); rfl) ) )) | apply wo_nil | apply wc_seq | apply wc_region | (apply wo_alloc; rfl; intro bx) | (apply wo_sta; rfl; rfl; rfl; rfl; (· (repeat (first | apply sel_here ))); (· (repeat (first | apply LayAt.nil | apply LayAt.here ))); rfl) ))
  (refine wo_call (qp2) rfl (by (repeat (first | apply sub_nil )); done) (by first | exact fun _ h => h | (intro r hr; cases hr; done) | (simp; done) | exact fun _ h => List.mem_append_left _ h | (intro r hr; simp [hr]; done)) rfl ?_; rintro v L' R' ⟨rfl, rfl, rfl⟩ H' hH RR hR; simp only [List.cons_append, List.nil_append] at hH hR; subst hH; have hR := hR.symm; subst hR)
  (repeat (first | ((first | (apply wo_v; rfl) ); (· first | (apply pv_ev; rfl) | (apply pv_fld; rfl) | (apply g_load; first | (apply pv_ld; rfl; (· (repeat (first | apply sel_here | apply sel_there))); rfl) ) | (apply g_pick; first | (apply pv_pick_t; rfl; rfl) ) | (apply g_bin; first | (apply pv_eql_b; rfl; rfl) | (apply pv_eql_s; rfl; rfl) ) )) | apply wo_nil | apply wc_seq | apply wc_region | apply wc_ret | (apply wo_run; rfl; rfl) | (apply wo_skip; rfl; rfl; rfl; rfl) | (apply wo_skip_u; rfl; rfl; rfl) | (apply a_gt; rfl; rfl; (· first | assumption | omega)) | (apply a_gf; rfl; rfl; (· first | assumption | omega)) | (apply a_gt; rfl; rfl; (· first | (simp; done) | (simp; omega))) | (apply wo_alloc; rfl; intro bx) | (apply wo_sta; rfl; rfl; rfl; rfl; (· (repeat (first | apply sel_here ))); (· (repeat (first | apply LayAt.nil | apply LayAt.here ))); rfl) ))
  exact ret1 rfl rfl (by simp [e1, e2]) ((by (repeat (first | apply sub_nil )); done) : List.Perm _ ([] ++ _)) (by first | exact fun _ h => h | (intro r hr; cases hr; done) | (simp; done) | exact fun _ h => List.mem_append_left _ h | (intro r hr; simp [hr]; done))
theorem antiphonPictures_walk {w : World} (row : List Value) (R : List Ro) (hR : ∀ r ∈ R, r.sat w) (h : FV1s R dFd row) (s : ByteArray) (hs : s.size ≤ maxLen) (a : Int) (ha : 0 ≤ a ∧ a ≤ 65535) (p : Int) (hp : -9223372036854775808 ≤ p ∧ p ≤ 9223372036854775807) (l : Int) (hl : -9223372036854775808 ≤ l ∧ l ≤ 9223372036854775807) :
    Calls Try.prog 3 #[.agg row.toArray, .string s, .int .u16 a, .int .i64 p, .int .i64 l] w fun e w' => e = .returned (.bool true) ∧ Below w.heap.size w w' := by
  obtain ⟨nr, st, pt, pic, wd, lv, ly, sy, ky, rfl⟩ := row_d h
  exact walk_of (antiphonPictures_fn nr st pt pic wd lv ly sy ky s a ha p l) (fun r hr => by cases hr)
end Go.Proofs.Ytlhlidmhlhodiaa
