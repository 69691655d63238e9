/-
  The reference of rewrite: payload, time, Frame.
-/
import Derived.Test.YtnjicnadlhfocaaRwR
namespace Go.Proofs.Ytnjicnadlhfocaa
set_option linter.unusedSimpArgs false
set_option linter.unusedVariables false
open Go.RowKit
attribute [local irreducible] Pv WO WC Fn
set_option maxRecDepth 100000
attribute [local irreducible] ByteArray.extract

abbrev orL (vi : Bool) (ss kd sq pic lv src sh la fr pk by_ : Int) : List Value := [.bool vi, .int .u32 ss, .int .u8 kd, .int .i64 sq, .int .i64 pic, .int .i64 lv, .int .i64 src, .int .i64 sh, .int .i64 la, .int .i64 fr, .int .i64 pk, .int .i64 by_]
abbrev orI (b : Nat) (vi : Bool) (ss kd sq pic lv src sh la fr pk by_ : Int) : It := .ob b (.cells (orL vi ss kd sq pic lv src sh la fr pk by_).toArray 124 (0, 0))
set_option maxHeartbeats 8000000 in
theorem rPayload (vi : Bool) (ss kd sq pic lv src sh la fr pk by_ : Int) (s : ByteArray) (hs : s.size ≤ 1000000) (hb : vi = true → 0 ≤ pic ∧ pic ≤ 32767 ∧ -1 ≤ lv ∧ lv ≤ 255) :
    Fn Try.prog 68 #[.agg (orL vi ss kd sq pic lv src sh la fr pk by_).toArray, .string s] [] [] (fun v L' R' => v = .string (payM vi pic lv s) ∧ L' = [] ∧ R' = []) := by
  have hp := rParse s (by omega)
  unfold payM
  cases vi with
  | false =>
    rw [if_neg (by simp)]
    generalize prs s = q at hp
    obtain ⟨⟨nr, st, pt, dpic, wd, dlv, ly, sy, ky⟩, r, e⟩ := q
    dsimp only [dv] at hp
    refine fn_intro Try.func68 rfl Try.ntmps68 rfl (fun E => ?_)
    (repeat (first | ((first | (apply wo_v; rfl) ); (· first | (apply pv_ev; rfl) )) | apply wo_nil | apply wc_seq | apply wc_region | (apply wo_box1; rfl; rfl; rfl; intro bx) | (apply wo_boxa; rfl; rfl; intro bx) ))
    (refine wo_call (hp) rfl (by (repeat (first | apply sub_nil )); done) (by first | exact fun _ h => h | (intro r hr; cases hr; done) | (simp; done) | exact fun _ h => List.mem_append_left _ h | (intro r hr; simp [hr]; done)) rfl ?_; rintro v L' R' ⟨rfl, rfl, rfl⟩ H' hH RR hR; simp only [List.cons_append, List.nil_append] at hH hR; subst hH; have hR := hR.symm; subst hR)
    (repeat (first | ((first | (apply wo_v; rfl) ); (· first | (apply pv_ev; rfl) | (apply pv_fld; rfl) | (apply g_load; first | (apply pv_ld; rfl; (· (repeat (first | apply sel_here | apply sel_there))); rfl) ) | (apply g_pick; first | (apply pv_pick_t; rfl; rfl) ) | (apply g_un; first | (apply pv_not_t; rfl) | (apply pv_not_f; rfl) ) )) | apply wo_nil | apply wc_seq | apply wc_region | apply wc_ret | (apply wc_true; rfl) | (apply wo_run; rfl; rfl) | (apply wo_skip; rfl; rfl; rfl; rfl) | (apply wo_alloc; rfl; intro bx) | (apply wo_sta; rfl; rfl; rfl; rfl; (· (repeat (first | apply sel_here ))); (· (repeat (first | apply LayAt.nil | apply LayAt.here ))); rfl) ))
    exact ret1 rfl rfl ⟨rfl, rfl, rfl⟩ ((by (repeat (first | apply sub_nil )); done) : List.Perm _ ([] ++ _)) (by first | exact fun _ h => h | (intro r hr; cases hr; done) | (simp; done) | exact fun _ h => List.mem_append_left _ h | (intro r hr; simp [hr]; done))
  | true =>
    have hb := hb rfl
    by_cases he : (prs s).2.2 = 0
    · rw [if_pos ⟨rfl, he⟩]
      obtain ⟨hA, hF, hrs⟩ := prs_ok he
      have hA2 := withM_ok hA hF pic (max lv 0)
      have htl := txt_le (withM (prs s).1 pic (max lv 0))
      generalize prs s = q at hp he hA2 hrs htl ⊢
      obtain ⟨⟨nr, st, pt, dpic, wd, dlv, ly, sy, ky⟩, r, e⟩ := q
      dsimp only [dv, withM] at hp he hA2 hrs htl ⊢
      rw [show pic % 32768 = pic by omega, show max lv 0 % 256 = max lv 0 by omega] at hA2 htl ⊢
      subst he
      clear hA hF
      obtain ⟨hA, hF⟩ := hA2
      have ht := rText04 nr st pt _ _ _ ly sy ky hA hF
      clear hA hF
      by_cases c1 : 0 ≤ dpic
      all_goals by_cases c2 : 0 ≤ dlv
      all_goals simp only [c1, c2, if_true, if_false] at ht htl ⊢
      all_goals
        generalize txt _ = tt at ht htl ⊢
        refine fn_intro Try.func68 rfl Try.ntmps68 rfl (fun E => ?_)
        (repeat (first | ((first | (apply wo_v; rfl) ); (· first | (apply pv_ev; rfl) )) | apply wo_nil | apply wc_seq | apply wc_region | (apply wo_box1; rfl; rfl; rfl; intro bx) | (apply wo_boxa; rfl; rfl; intro bx) ))
        (refine wo_call (hp) rfl (by (repeat (first | apply sub_nil )); done) (by first | exact fun _ h => h | (intro r hr; cases hr; done) | (simp; done) | exact fun _ h => List.mem_append_left _ h | (intro r hr; simp [hr]; done)) rfl ?_; rintro v L' R' ⟨rfl, rfl, rfl⟩ H' hH RR hR; simp only [List.cons_append, List.nil_append] at hH hR; subst hH; have hR := hR.symm; subst hR)
        (repeat (first | ((first | (apply wo_v; rfl) ); (· first | (apply pv_ev; rfl) | (apply pv_fld; rfl) | (apply g_load; first | (apply pv_ld; rfl; (· (repeat (first | apply sel_here | apply sel_there))); rfl) | (apply pv_lda; rfl; (· (repeat (first | apply sel_here ))); (· (repeat (first | apply Cut.here0 | apply Cut.here )))) ) | (apply g_pick; first | (apply pv_pick_t; rfl; rfl) | (apply pv_pick_f; rfl; rfl)) | (apply g_bi; first | (apply pv_max; rfl; rfl)) | (apply g_un; first | (apply pv_not_t; rfl) ) )) | apply wo_nil | apply wc_seq | apply wc_region | apply wc_skip | (apply wc_true; rfl) | (apply wc_false; rfl) | (apply a_dec_t; rfl; (· first | assumption | omega)) | (apply a_dec_f; rfl; (· first | assumption | omega)) | (apply wo_run; rfl; rfl) | (apply wo_st; rfl; rfl; rfl; (· (repeat (first | apply sel_here ))); (· (repeat (first | apply SetAt.here | apply SetAt.there))); rfl) | (apply wo_alloc; rfl; intro bx) | (apply wo_sta; rfl; rfl; rfl; rfl; (· (repeat (first | apply sel_here ))); (· (repeat (first | apply LayAt.nil | apply LayAt.here ))); rfl) ))
        (refine wo_call (ht) rfl (by (repeat (first | apply sub_nil )); done) (by first | exact fun _ h => h | (intro r hr; cases hr; done) | (simp; done) | exact fun _ h => List.mem_append_left _ h | (intro r hr; simp [hr]; done)) rfl ?_; rintro v L' R' ⟨rfl, rfl, rfl⟩ H' hH RR hR; simp only [List.cons_append, List.nil_append] at hH hR; subst hH; have hR := hR.symm; subst hR)
        (repeat (first | ((first | (apply wo_v; rfl) ); (· first | (apply pv_ev; rfl) | (apply g_bin; first | (apply a_add; rfl; rfl; infer_instance; omega) | (apply pv_add_s; rfl; rfl; omega) ) )) | apply wo_nil | apply wc_ret ))
        exact ret1 rfl rfl ⟨rfl, rfl, rfl⟩ ((by (repeat (first | apply sub_nil )); done) : List.Perm _ ([] ++ _)) (by first | exact fun _ h => h | (intro r hr; cases hr; done) | (simp; done) | exact fun _ h => List.mem_append_left _ h | (intro r hr; simp [hr]; done))
    · rw [if_neg (fun h => he h.2)]
      generalize prs s = q at hp he
      obtain ⟨⟨nr, st, pt, dpic, wd, dlv, ly, sy, ky⟩, r, e⟩ := q
      dsimp only [dv] at hp he
      refine fn_intro Try.func68 rfl Try.ntmps68 rfl (fun E => ?_)
      (repeat (first | ((first | (apply wo_v; rfl) ); (· first | (apply pv_ev; rfl) )) | apply wo_nil | apply wc_seq | apply wc_region | (apply wo_box1; rfl; rfl; rfl; intro bx) | (apply wo_boxa; rfl; rfl; intro bx) ))
      (refine wo_call (hp) rfl (by (repeat (first | apply sub_nil )); done) (by first | exact fun _ h => h | (intro r hr; cases hr; done) | (simp; done) | exact fun _ h => List.mem_append_left _ h | (intro r hr; simp [hr]; done)) rfl ?_; rintro v L' R' ⟨rfl, rfl, rfl⟩ H' hH RR hR; simp only [List.cons_append, List.nil_append] at hH hR; subst hH; have hR := hR.symm; subst hR)
      (repeat (first | ((first | (apply wo_v; rfl) ); (· first | (apply pv_ev; rfl) | (apply pv_fld; rfl) | (apply g_load; first | (apply pv_ld; rfl; (· (repeat (first | apply sel_here | apply sel_there))); rfl) ) | (apply g_pick; first | (apply pv_pick_t; rfl; rfl) | (apply pv_pick_f; rfl; rfl)) | (apply g_un; first | (apply pv_not_t; rfl) ) )) | apply wo_nil | apply wc_seq | apply wc_region | apply wc_ret | (apply wc_true; rfl) | (apply wc_false; rfl) | (apply a_dec_t; rfl; (· first | assumption | omega)) | (apply wo_run; rfl; rfl) | (apply wo_alloc; rfl; intro bx) | (apply wo_sta; rfl; rfl; rfl; rfl; (· (repeat (first | apply sel_here ))); (· (repeat (first | apply LayAt.nil | apply LayAt.here ))); rfl) ))
      exact ret1 rfl rfl ⟨rfl, rfl, rfl⟩ ((by (repeat (first | apply sub_nil )); done) : List.Perm _ ([] ++ _)) (by first | exact fun _ h => h | (intro r hr; cases hr; done) | (simp; done) | exact fun _ h => List.mem_append_left _ h | (intro r hr; simp [hr]; done))
theorem rTime (vi : Bool) (ss kd sq pic lv src sh la fr pk by_ : Int) (s t : Int) (be : Bool) (hbe : be = decide (0 < fr)) (hfr : 0 ≤ fr) (hb : 0 ≤ t ∧ t ≤ 1099511627776 ∧ 0 ≤ la ∧ la ≤ 1099511627776 ∧ -1099511627776 ≤ sh ∧ sh ≤ 1099511627776) :
    Fn Try.prog 66 #[.agg (orL vi ss kd sq pic lv src sh la fr pk by_).toArray, .int .i64 s, .int .i64 t] [] []
      (fun v L' R' => v = .agg (orL vi ss kd sq pic lv s (shM src sh la be s t) (laM src sh la be s t) fr pk by_).toArray ∧ L' = [] ∧ R' = []) := by
  unfold laM shM
  cases be with
  | false =>
    have hf : fr = 0 := by have := of_decide_eq_false hbe.symm; omega
    subst hf
    rw [if_pos rfl, if_pos rfl]
    refine fn_intro Try.func66 rfl Try.ntmps66 rfl (fun E => ?_)
    (repeat (first | ((first | (apply wo_v; rfl) ); (· first | (apply pv_ev; rfl) | (apply pv_fld; rfl) | (apply g_load; first | (apply pv_ld; rfl; (· (repeat (first | apply sel_here | apply sel_there))); rfl) | (apply pv_lda; rfl; (· (repeat (first | apply sel_here ))); (· (repeat (first | apply Cut.here0 | apply Cut.here )))) ) | (apply g_bin; first | (apply a_add; rfl; rfl; infer_instance; omega) ) | (apply g_bi; first | (apply pv_max; rfl; rfl)) )) | apply wo_nil | apply wc_seq | apply wc_region | apply wc_ret | (apply wc_true; rfl) | (apply wo_st; rfl; rfl; rfl; (· (repeat (first | apply sel_here | apply sel_there))); (· (repeat (first | apply SetAt.here | apply SetAt.there))); rfl) | (apply wo_box1; rfl; rfl; rfl; intro bx) | (apply wo_boxa; rfl; rfl; intro bx) | (apply wo_alloc; rfl; intro bx) | (apply wo_sta; rfl; rfl; rfl; rfl; (· (repeat (first | apply sel_here | apply sel_there))); (· (repeat (first | apply LayAt.nil | apply LayAt.here ))); rfl) ))
    exact retv rfl (by (repeat (first | apply RV.nil | (apply RV.agg; rfl; (· (repeat (first | apply sel_here ))); infer_instance; (· (repeat (first | apply Cut.here0 | apply Cut.here )))) )); done) (⟨rfl, rfl, rfl⟩) (by (repeat (first | apply sub_nil )); done) (by first | exact fun _ h => h | (intro r hr; cases hr; done) | (simp; done) | exact fun _ h => List.mem_append_left _ h | (intro r hr; simp [hr]; done))
  | true =>
    have hf : ¬ fr = 0 := by have := of_decide_eq_true hbe.symm; omega
    simp only [Bool.true_eq_false, if_false]
    by_cases h : s = src
    · subst h
      rw [if_neg (by simp)]
      refine fn_intro Try.func66 rfl Try.ntmps66 rfl (fun E => ?_)
      (repeat (first | ((first | (apply wo_v; rfl) ); (· first | (apply pv_ev; rfl) | (apply pv_fld; rfl) | (apply g_load; first | (apply pv_ld; rfl; (· (repeat (first | apply sel_here | apply sel_there))); rfl) | (apply pv_lda; rfl; (· (repeat (first | apply sel_here ))); (· (repeat (first | apply Cut.here0 | apply Cut.here )))) ) | (apply g_bin; first | (apply a_add; rfl; rfl; infer_instance; omega) ) | (apply g_bi; first | (apply pv_max; rfl; rfl)) )) | apply wo_nil | apply wc_seq | apply wc_region | apply wc_skip | apply wc_ret | (apply wc_true; rfl) | (apply wc_false; rfl) | (apply a_dec_t; rfl; (· first | assumption | omega)) | (apply a_dec_f; rfl; (· first | assumption | omega)) | (apply wo_st; rfl; rfl; rfl; (· (repeat (first | apply sel_here | apply sel_there))); (· (repeat (first | apply SetAt.here | apply SetAt.there))); rfl) | (apply wo_box1; rfl; rfl; rfl; intro bx) | (apply wo_boxa; rfl; rfl; intro bx) | (apply wo_alloc; rfl; intro bx) | (apply wo_sta; rfl; rfl; rfl; rfl; (· (repeat (first | apply sel_here | apply sel_there))); (· (repeat (first | apply LayAt.nil | apply LayAt.here ))); rfl) ))
      exact retv rfl (by (repeat (first | apply RV.nil | (apply RV.agg; rfl; (· (repeat (first | apply sel_here ))); infer_instance; (· (repeat (first | apply Cut.here0 | apply Cut.here )))) )); done) (⟨rfl, rfl, rfl⟩) (by (repeat (first | apply sub_nil )); done) (by first | exact fun _ h => h | (intro r hr; cases hr; done) | (simp; done) | exact fun _ h => List.mem_append_left _ h | (intro r hr; simp [hr]; done))
    · rw [if_pos h]
      refine fn_intro Try.func66 rfl Try.ntmps66 rfl (fun E => ?_)
      (repeat (first | ((first | (apply wo_v; rfl) ); (· first | (apply pv_ev; rfl) | (apply pv_fld; rfl) | (apply g_load; first | (apply pv_ld; rfl; (· (repeat (first | apply sel_here | apply sel_there))); rfl) | (apply pv_lda; rfl; (· (repeat (first | apply sel_here ))); (· (repeat (first | apply Cut.here0 | apply Cut.here )))) ) | (apply g_bin; first | (apply a_add; rfl; rfl; infer_instance; omega) | (apply a_sub; rfl; rfl; infer_instance; omega) ) | (apply g_bi; first | (apply pv_max; rfl; rfl)) )) | apply wo_nil | apply wc_seq | apply wc_region | apply wc_ret | (apply wc_true; rfl) | (apply wc_false; rfl) | (apply a_dec_t; rfl; (· first | assumption | omega)) | (apply a_dec_f; rfl; (· first | assumption | omega)) | (apply wo_st; rfl; rfl; rfl; (· (repeat (first | apply sel_here | apply sel_there))); (· (repeat (first | apply SetAt.here | apply SetAt.there))); rfl) | (apply wo_box1; rfl; rfl; rfl; intro bx) | (apply wo_boxa; rfl; rfl; intro bx) | (apply wo_alloc; rfl; intro bx) | (apply wo_sta; rfl; rfl; rfl; rfl; (· (repeat (first | apply sel_here | apply sel_there))); (· (repeat (first | apply LayAt.nil | apply LayAt.here ))); rfl) ))
      exact retv rfl (by (repeat (first | apply RV.nil | (apply RV.agg; rfl; (· (repeat (first | apply sel_here ))); infer_instance; (· (repeat (first | apply Cut.here0 | apply Cut.here )))) )); done) (⟨rfl, rfl, rfl⟩) (by (repeat (first | apply sub_nil )); done) (by first | exact fun _ h => h | (intro r hr; cases hr; done) | (simp; done) | exact fun _ h => List.mem_append_left _ h | (intro r hr; simp [hr]; done))
theorem sqI_b {sq : Int} (h : 0 ≤ sq ∧ sq ≤ 65535) : ∀ i, 0 ≤ sqI sq i ∧ sqI sq i ≤ 65535
  | 0 => h
  | i + 1 => by rw [sqI]; omega
abbrev rkT : TypeId := 115
abbrev rkO (ao : Option Addr) (c : Nat) (P : List Pm) : It := .own rkT 11 ao P.length c (prs' P)
abbrev ruI (bx : Nat) (x : Un) : It := .ob bx (.cells #[.int .i64 x.at_, .int .i64 x.ti, .bool x.mrk, .bool x.st, .bool x.ky, .string x.tx, .int .i64 x.tk] 165 (0, 0))
def tblFR (p : ByteArray) (r : List Value) : Nat → List It → Value → List It → Prop := fun k L v M => match k, L with
  | 15, _ => v = .string p ∧ M = []
  | 17, _ => ∃ b, v = .pointer (some ⟨b, 0, none⟩) ∧ M = [.ob b (.cells (pkR false 0 0 0 0 ByteArray.empty).toArray rkT (0, 0))]
  | _, [.ob b _] => v = undef ∧ M = [.ob b (.cells r.toArray rkT (0, 0))]
  | _, _ => False
theorem rFrame0 (vi : Bool) (ss kd sq pic lv src sh la fr pk by_ : Int) (s : Int) (ao : Option Addr) (c : Nat) (R : List Ro) :
    Fn Try.prog 37 #[.agg (orL vi ss kd sq pic lv src sh la fr pk by_).toArray, .int .i64 s, .slice ao 0 c] [] R
      (fun v L' R' => ∃ ao' c', v = .tuple #[.agg (orL vi ss kd sq pic lv src sh la fr pk by_).toArray, .slice ao' 0 c'] ∧ L' = [rkO ao' c' []]) := by
  refine fn_intro Try.func37 rfl Try.ntmps37 rfl (fun E => ?_)
  (repeat (first | ((first | (apply wo_v; rfl) ); (· first | (apply pv_ev; rfl) | (apply g_load; first | (apply pv_lda; rfl; (· (repeat (first | apply sel_here | apply sel_there))); (· (repeat (first | apply Cut.here0 | apply Cut.here )))) ) | (apply g_bi; first | (apply pv_len_sl; rfl) ) )) | apply wo_nil | apply wc_seq | apply wc_region | apply wc_ret | (apply wc_true; rfl) | (apply wo_box1; rfl; rfl; rfl; intro bx) | (apply wo_boxa; rfl; rfl; intro bx) | (apply wo_alloc; rfl; intro bx) | (apply wo_bsl; (· (repeat (first | apply Rws'.nil ))); rfl; rfl; rfl; rfl; intro bx) | (apply wo_sta; rfl; rfl; rfl; rfl; (· (repeat (first | apply sel_here | apply sel_there))); (· (repeat (first | apply LayAt.nil | apply LayAt.here ))); rfl) ))
  exact retv rfl (by (repeat (first | apply RV.nil | (apply RV.tmp; rfl) | (apply RV.agg; rfl; (· (repeat (first | apply sel_here ))); infer_instance; (· (repeat (first | apply Cut.here0 | apply Cut.here )))) )); done) (⟨_, _, rfl, rfl⟩) (by (repeat (first | apply sub_nil | (apply sub_cons; (· (repeat (first | apply sel_here | apply sel_there)))))); done) (by first | exact fun _ h => h | (intro r hr; cases hr; done) | (simp; done) | exact fun _ h => List.mem_append_left _ h | (intro r hr; simp [hr]; done))
set_option maxHeartbeats 16000000 in
theorem rFrame (vi : Bool) (ss kd sq pic lv src sh la fr pk by_ : Int) (s : Int) (ao : Option Addr) (n c : Nat) (u : Un) (U : List Un) (R : List Ro) (be : Bool) (hbe : be = decide (0 < fr)) (hS : SR R 7 ao n c (urs (u :: U)))
    (hb : 0 ≤ u.ti ∧ u.ti ≤ 1099511627776 ∧ 0 ≤ la ∧ la ≤ 1099511627776 ∧ -1099511627776 ≤ sh ∧ sh ≤ 1099511627776) (hb2 : -1 ≤ pic ∧ pic ≤ 32767 ∧ -1 ≤ lv ∧ lv ≤ 255) (hb3 : 0 ≤ fr ∧ fr ≤ 1000000 ∧ 0 ≤ pk ∧ pk ≤ 1000000 ∧ 0 ≤ by_ ∧ by_ ≤ 1000000000) (hsq : 0 ≤ sq ∧ sq ≤ 65535) (ht : ∀ x ∈ u :: U, x.tx.size ≤ 1000) (hl : U.length ≤ 1000) :
    Fn Try.prog 37 #[.agg (orL vi ss kd sq pic lv src sh la fr pk by_).toArray, .int .i64 s, .slice ao n c] [] R
      (fun v L' R' => ∃ ao' c', v = .tuple #[.agg (orL vi ss kd (sqI sq n) (picM vi pic) (lvM vi lv u.tx) s (shM src sh la be s u.ti) (laM src sh la be s u.ti) (fr + 1) (pk + n) (by_ + byN vi (picM vi pic) (lvM vi lv u.tx) (u :: U) n)).toArray, .slice ao' (pkN vi kd sq (laM src sh la be s u.ti % 4294967296) ss (picM vi pic) (lvM vi lv u.tx) (u :: U) n).length c']
        ∧ L' = [rkO ao' c' (pkN vi kd sq (laM src sh la be s u.ti % 4294967296) ss (picM vi pic) (lvM vi lv u.tx) (u :: U) n)]) := by
  have hn : n = U.length + 1 := by rw [← hS.len]; simp
  obtain ⟨b, o, rfl, hmem⟩ := hS.pos (by omega)
  have hr0 := urs_at (U := u :: U) (j := 0) (u := u) rfl
  have hM := rTime vi ss kd sq pic lv src sh la fr pk by_ s u.ti be hbe hb3.1 hb
  have hu := ht u (.head _)
  have hp := rParse u.tx (by omega)
  generalize shM src sh la be s u.ti = sh2 at hM ⊢
  generalize laM src sh la be s u.ti = la2 at hM ⊢
  refine fn_intro Try.func37 rfl Try.ntmps37 rfl (fun E => ?_)
  (repeat (first | ((first | (apply wo_v; rfl) ); (· first | (apply pv_ev; rfl) | (apply g_bi; first | (apply pv_len_sl; rfl) ) )) | apply wo_nil | apply wc_seq | apply wc_region | apply wc_skip | (apply wc_true; rfl) | (apply wc_false; rfl) | (apply a_dec_t; rfl; (· first | assumption | omega)) | (apply a_dec_f; rfl; (· first | assumption | omega)) | (apply wo_box1; rfl; rfl; rfl; intro bx) | (apply wo_boxa; rfl; rfl; intro bx) | (apply wo_alloc; rfl; intro bx) | (apply wo_bsl; (· (repeat (first | apply Rws'.nil ))); rfl; rfl; rfl; rfl; intro bx) ))
  rename_i bo br
  (refine wc_tail 6 mixed (by kernel_rfl) ?_; (repeat (first | ((first | (apply wo_v; rfl) | (apply hd_v; rfl) ); (· first | (apply pv_ev; rfl) | (apply pv_fld; rfl) | (apply g_load; first | (apply pv_ld; rfl; (· (repeat (first | apply sel_there))); rfl) | (apply pv_lda; rfl; (· (repeat (first | apply sel_here | apply sel_there))); (· (repeat (first | apply Cut.here0 | apply Cut.here )))) | (apply pv_ld_ownf; rfl; (· (repeat (first | apply sel_there))); (· assumption); rfl) | (apply pv_ld_own1; rfl; (· (repeat (first | fail ))); (· assumption)) | (apply pv_ld_rof; rfl; (· (first | assumption )); (· assumption); rfl) ) | (apply g_idx; first | (apply pv_idx; rfl; rfl; omega) | (apply (pv_idx_e 0); rfl; rfl; rfl; omega) ) )) | apply Hd.nil )))
  (refine wo_call (hM) rfl (by (repeat (first | apply sub_nil )); done) (by first | exact fun _ h => h | (intro r hr; cases hr; done) | (simp; done) | exact fun _ h => List.mem_append_left _ h | (intro r hr; simp [hr]; done)) rfl ?_; rintro v L' R' ⟨rfl, rfl, rfl⟩ H' hH RR hR; simp only [List.cons_append, List.nil_append] at hH hR; subst hH; have hR := hR.symm; subst hR)
  (repeat (first | ((first | (apply wo_v; rfl) ); (· first | (apply pv_ev; rfl) | (apply pv_fld; rfl) | (apply g_load; first | (apply pv_ld; rfl; (· (repeat (first | apply sel_here ))); rfl) ) )) | apply wo_nil | apply wc_seq | apply wc_region | (apply wc_true; rfl) | (apply wc_false; rfl) | (apply a_dec_t; rfl; (· first | assumption | omega)) | (apply a_dec_f; rfl; (· first | assumption | omega)) | (apply a_dec_t; rfl; (· first | (simp; done) | (simp; omega))) | (apply a_dec_f; rfl; (· first | (simp; done) | (simp; omega))) | (apply wo_sta; rfl; rfl; rfl; rfl; (· (repeat (first | apply sel_here | apply sel_there))); (· (repeat (first | apply LayAt.nil | apply LayAt.here ))); rfl) ))
  clear hM hb
  refine wc_join0 (fun st => st = ⟨[(2, .slice (some ⟨b, o, none⟩) n c), (3, .pointer (some ⟨bo, 0, none⟩)), (6, .pointer (some ⟨br, 0, none⟩)), (8, .slice (some ⟨bx, 0, none⟩) 0 0)], [rkO (some ⟨bx, 0, none⟩) 0 [], orI br false 0 0 0 0 0 0 0 0 0 0 0, orI bo vi ss kd sq (picM vi pic) (lvM vi lv u.tx) s sh2 la2 fr pk by_], R⟩) ?_ ?_
  · cases vi with
    | true =>
      have e1 : picM true pic = (pic + 1) % 32768 := rfl
      have e2 : lvM true lv u.tx = nlM lv u.tx := rfl
      rw [e1, e2]
      by_cases he : (prs u.tx).2.2 = 0 ∧ (prs u.tx).1.ly ≤ 0
      · rw [show nlM lv u.tx = (lv + 1) % 256 from if_pos he]
        obtain ⟨he, hy⟩ := he
        generalize prs u.tx = q at hp he hy
        obtain ⟨⟨nr, st, pt, dpic, wd, dlv, ly, sy, ky⟩, r, e⟩ := q
        dsimp only [dv] at hp he hy
        subst he
        (repeat (first | ((first | (apply wo_v; rfl) ); (· first | (apply pv_ev; rfl) | (apply pv_fld; rfl) | (apply g_load; first | (apply pv_ld; rfl; (· (repeat (first | apply sel_here | apply sel_there))); rfl) | (apply pv_ld_ownf; rfl; (· (repeat (first | apply sel_there))); (· assumption); rfl) | (apply pv_ld_own1; rfl; (· (repeat (first | fail ))); (· assumption)) | (apply pv_ld_rof; rfl; (· (first | assumption )); (· assumption); rfl) ) | (apply g_bin; first | (apply a_add; rfl; rfl; infer_instance; omega) | (apply pv_rem; rfl; rfl; omega) ) | (apply g_idx; first | (apply pv_idx; rfl; rfl; omega) | (apply (pv_idx_e 0); rfl; rfl; rfl; omega) ) )) | apply wo_nil | apply wc_seq | apply wc_region | (apply wc_true; rfl) | (apply wo_st; rfl; rfl; rfl; (· (repeat (first | apply sel_here ))); (· (repeat (first | apply SetAt.here | apply SetAt.there))); rfl) ))
        (refine wo_call (hp) rfl (by (repeat (first | apply sub_nil )); done) (by first | exact fun _ h => h | (intro r hr; cases hr; done) | (simp; done) | exact fun _ h => List.mem_append_left _ h | (intro r hr; simp [hr]; done)) rfl ?_; rintro v L' R' ⟨rfl, rfl, rfl⟩ H' hH RR hR; simp only [List.cons_append, List.nil_append] at hH hR; subst hH; have hR := hR.symm; subst hR)
        (repeat (first | ((first | (apply wo_v; rfl) ); (· first | (apply pv_ev; rfl) | (apply pv_fld; rfl) | (apply g_load; first | (apply pv_ld; rfl; (· (repeat (first | apply sel_here | apply sel_there))); rfl) ) | (apply g_pick; first | (apply pv_pick_t; rfl; rfl) ) | (apply g_bin; first | (apply a_add; rfl; rfl; infer_instance; omega) | (apply pv_rem; rfl; rfl; omega) ) )) | apply wo_nil | apply wc_seq | apply wc_region | (apply wc_true; rfl) | (apply wc_false; rfl) | (apply a_dec_t; rfl; (· first | assumption | omega)) | (apply wo_run; rfl; rfl) | (apply wo_st; rfl; rfl; rfl; (· (repeat (first | apply sel_here | apply sel_there))); (· (repeat (first | apply SetAt.here | apply SetAt.there))); rfl) | (apply wo_alloc; rfl; intro bx) | (apply wo_sta; rfl; rfl; rfl; rfl; (· (repeat (first | apply sel_here ))); (· (repeat (first | apply LayAt.nil | apply LayAt.here ))); rfl) ))
        exact cut_end rfl (wk_mk (by (repeat (first | apply wkf_nil | (apply wkf_cons; rfl))); done) (by (repeat (first | apply sub_nil | (apply sub_cons; (· (repeat (first | apply sel_here | apply sel_there)))))); done) (by first | exact fun _ h => h | (intro r hr; cases hr; done) | (simp; done) | exact fun _ h => List.mem_append_left _ h | (intro r hr; simp [hr]; done)))
      · rw [show nlM lv u.tx = lv from if_neg he]
        have he2 : ¬ (prs u.tx).2.2 = 0 ∨ ((prs u.tx).2.2 = 0 ∧ ¬ (prs u.tx).1.ly ≤ 0) := by omega
        clear he
        generalize prs u.tx = q at hp he2
        obtain ⟨⟨nr, st, pt, dpic, wd, dlv, ly, sy, ky⟩, r, e⟩ := q
        dsimp only [dv] at hp he2
        rcases he2 with he | ⟨he, hy⟩
        · (repeat (first | ((first | (apply wo_v; rfl) ); (· first | (apply pv_ev; rfl) | (apply pv_fld; rfl) | (apply g_load; first | (apply pv_ld; rfl; (· (repeat (first | apply sel_here | apply sel_there))); rfl) | (apply pv_ld_ownf; rfl; (· (repeat (first | apply sel_there))); (· assumption); rfl) | (apply pv_ld_own1; rfl; (· (repeat (first | fail ))); (· assumption)) | (apply pv_ld_rof; rfl; (· (first | assumption )); (· assumption); rfl) ) | (apply g_bin; first | (apply a_add; rfl; rfl; infer_instance; omega) | (apply pv_rem; rfl; rfl; omega) ) | (apply g_idx; first | (apply pv_idx; rfl; rfl; omega) | (apply (pv_idx_e 0); rfl; rfl; rfl; omega) ) )) | apply wo_nil | apply wc_seq | apply wc_region | (apply wc_true; rfl) | (apply wo_st; rfl; rfl; rfl; (· (repeat (first | apply sel_here ))); (· (repeat (first | apply SetAt.here | apply SetAt.there))); rfl) ))
          (refine wo_call (hp) rfl (by (repeat (first | apply sub_nil )); done) (by first | exact fun _ h => h | (intro r hr; cases hr; done) | (simp; done) | exact fun _ h => List.mem_append_left _ h | (intro r hr; simp [hr]; done)) rfl ?_; rintro v L' R' ⟨rfl, rfl, rfl⟩ H' hH RR hR; simp only [List.cons_append, List.nil_append] at hH hR; subst hH; have hR := hR.symm; subst hR)
          (repeat (first | ((first | (apply wo_v; rfl) ); (· first | (apply pv_ev; rfl) | (apply g_pick; first | (apply pv_pick_t; rfl; rfl) | (apply pv_pick_f; rfl; rfl)) )) | apply wo_nil | apply wc_seq | apply wc_region | apply wc_skip | (apply wc_true; rfl) | (apply wc_false; rfl) | (apply wo_run; rfl; rfl) | (apply wo_skip; rfl; rfl; rfl; rfl) | (apply wo_skip_u; rfl; rfl; rfl) | (apply a_gt; rfl; rfl; (· first | assumption | omega)) | (apply a_gf; rfl; rfl; (· first | assumption | omega)) | (apply wo_alloc; rfl; intro bx) | (apply wo_sta; rfl; rfl; rfl; rfl; (· (repeat (first | apply sel_here ))); (· (repeat (first | apply LayAt.nil | apply LayAt.here ))); rfl) ))
          exact cut_end rfl (wk_mk (by (repeat (first | apply wkf_nil | (apply wkf_cons; rfl))); done) (by (repeat (first | apply sub_nil | (apply sub_cons; (· (repeat (first | apply sel_here | apply sel_there)))))); done) (by first | exact fun _ h => h | (intro r hr; cases hr; done) | (simp; done) | exact fun _ h => List.mem_append_left _ h | (intro r hr; simp [hr]; done)))
        · subst he
          (repeat (first | ((first | (apply wo_v; rfl) ); (· first | (apply pv_ev; rfl) | (apply pv_fld; rfl) | (apply g_load; first | (apply pv_ld; rfl; (· (repeat (first | apply sel_here | apply sel_there))); rfl) | (apply pv_ld_ownf; rfl; (· (repeat (first | apply sel_there))); (· assumption); rfl) | (apply pv_ld_own1; rfl; (· (repeat (first | fail ))); (· assumption)) | (apply pv_ld_rof; rfl; (· (first | assumption )); (· assumption); rfl) ) | (apply g_bin; first | (apply a_add; rfl; rfl; infer_instance; omega) | (apply pv_rem; rfl; rfl; omega) ) | (apply g_idx; first | (apply pv_idx; rfl; rfl; omega) | (apply (pv_idx_e 0); rfl; rfl; rfl; omega) ) )) | apply wo_nil | apply wc_seq | apply wc_region | (apply wc_true; rfl) | (apply wo_st; rfl; rfl; rfl; (· (repeat (first | apply sel_here ))); (· (repeat (first | apply SetAt.here | apply SetAt.there))); rfl) ))
          (refine wo_call (hp) rfl (by (repeat (first | apply sub_nil )); done) (by first | exact fun _ h => h | (intro r hr; cases hr; done) | (simp; done) | exact fun _ h => List.mem_append_left _ h | (intro r hr; simp [hr]; done)) rfl ?_; rintro v L' R' ⟨rfl, rfl, rfl⟩ H' hH RR hR; simp only [List.cons_append, List.nil_append] at hH hR; subst hH; have hR := hR.symm; subst hR)
          (repeat (first | ((first | (apply wo_v; rfl) ); (· first | (apply pv_ev; rfl) | (apply pv_fld; rfl) | (apply g_load; first | (apply pv_ld; rfl; (· (repeat (first | apply sel_here ))); rfl) ) | (apply g_pick; first | (apply pv_pick_t; rfl; rfl) ) )) | apply wo_nil | apply wc_seq | apply wc_region | apply wc_skip | (apply wc_true; rfl) | (apply wc_false; rfl) | (apply a_dec_t; rfl; (· first | assumption | omega)) | (apply a_dec_f; rfl; (· first | assumption | omega)) | (apply wo_run; rfl; rfl) | (apply wo_alloc; rfl; intro bx) | (apply wo_sta; rfl; rfl; rfl; rfl; (· (repeat (first | apply sel_here ))); (· (repeat (first | apply LayAt.nil | apply LayAt.here ))); rfl) ))
          exact cut_end rfl (wk_mk (by (repeat (first | apply wkf_nil | (apply wkf_cons; rfl))); done) (by (repeat (first | apply sub_nil | (apply sub_cons; (· (repeat (first | apply sel_here | apply sel_there)))))); done) (by first | exact fun _ h => h | (intro r hr; cases hr; done) | (simp; done) | exact fun _ h => List.mem_append_left _ h | (intro r hr; simp [hr]; done)))
    | false =>
      (repeat (first | apply wc_skip | (apply wc_true; rfl) | (apply wc_false; rfl) ))
      exact cut_end rfl (wk_mk (by (repeat (first | apply wkf_nil | (apply wkf_cons; rfl))); done) (by (repeat (first | apply sub_nil | (apply sub_cons; (· (repeat (first | apply sel_here | apply sel_there)))))); done) (by first | exact fun _ h => h | (intro r hr; cases hr; done) | (simp; done) | exact fun _ h => List.mem_append_left _ h | (intro r hr; simp [hr]; done)))
  clear hp hr0
  rintro st rfl
  have hpv : vi = true → 0 ≤ picM vi pic ∧ picM vi pic ≤ 32767 ∧ -1 ≤ lvM vi lv u.tx ∧ lvM vi lv u.tx ≤ 255 := by
    rintro rfl
    have e1 : picM true pic = (pic + 1) % 32768 := rfl
    have e2 : lvM true lv u.tx = nlM lv u.tx := rfl
    rw [e1, e2]; unfold nlM; split <;> omega
  generalize picM vi pic = pic2, lvM vi lv u.tx = lv2 at hpv ⊢
  have hU : (u :: U).length = n := by simp [hn]
  generalize u :: U = V at hS ht hmem hU
  (repeat (first | ((first | (apply wo_v; rfl) ); (· first | (apply pv_ev; rfl) | (apply g_bi; first | (apply pv_len_sl; rfl) ) )) | apply wo_nil | apply wc_seq | apply wc_region ))
  refine wc_join0 (fun st => ∃ ao' c', st = ⟨[(3, .pointer (some ⟨bo, 0, none⟩)), (6, .pointer (some ⟨br, 0, none⟩)), (8, .slice ao' (pkN vi kd sq (la2 % 4294967296) ss pic2 lv2 V n).length c')], [orI br false 0 0 0 0 0 0 0 0 0 0 0, orI bo vi ss kd (sqI sq n) pic2 lv2 s sh2 la2 fr (pk + n) (by_ + byN vi pic2 lv2 V n), rkO ao' c' (pkN vi kd sq (la2 % 4294967296) ss pic2 lv2 V n)], R⟩) ?_ ?_
  · refine wc_block ?_
    refine wc_loop' (fun q st => ∃ (i : Nat) (ao' : Option Addr) (c' : Nat) (l : List Pm) (sq2 b2 pk2 : Int), q = n - i ∧ i ≤ n ∧ l = pkN vi kd sq (la2 % 4294967296) ss pic2 lv2 V i ∧ sq2 = sqI sq i ∧ b2 = by_ + byN vi pic2 lv2 V i ∧ pk2 = pk + i
        ∧ st = ⟨[(3, .pointer (some ⟨bo, 0, none⟩)), (6, .pointer (some ⟨br, 0, none⟩)), (8, .slice ao' l.length c'), (56, .slice (some ⟨b, o, none⟩) n c), (57, .int .i64 n), (58, .int .i64 i)], [orI br false 0 0 0 0 0 0 0 0 0 0 0, orI bo vi ss kd sq2 pic2 lv2 s sh2 la2 fr pk2 b2, rkO ao' c' l], R⟩)
      ⟨0, some ⟨bx, 0, none⟩, 0, [], sq, by_, pk, rfl, Nat.zero_le _, rfl, rfl, by simp [byN], by simp, rfl⟩ (wk_mk (by (repeat (first | apply wkf_nil | (apply wkf_cons; rfl))); done) (by (repeat (first | apply sub_nil | (apply sub_cons; (· (repeat (first | apply sel_here | apply sel_there)))))); done) (by first | exact fun _ h => h | (intro r hr; cases hr; done) | (simp; done) | exact fun _ h => List.mem_append_left _ h | (intro r hr; simp [hr]; done))) ?_
    rintro q st ⟨i, ao', c', l, sq2, b2, pk2, rfl, hi, hl2, hs2, hb2', hpk, rfl⟩
    have hbb := byN_b vi pic2 lv2 V ht i
    have hll : l.length = i := by rw [hl2]; exact pkN_len _ _ _ _ _ _ _ _ _ (by omega)
    have hsb := sqI_b hsq i
    rw [← hs2] at hsb
    by_cases hlt : i < n
    · obtain ⟨x, hx⟩ : ∃ x, V[i]? = some x := ⟨_, List.getElem?_eq_getElem (by omega)⟩
      have hr := urs_at hx
      have hxs := ht x (List.mem_of_getElem? hx)
      have hpl := payM_le vi pic2 lv2 x.tx
      have e1 : pkN vi kd sq (la2 % 4294967296) ss pic2 lv2 V (i + 1) = l ++ [⟨x.mrk, kd, sq2, la2 % 4294967296, ss, payM vi pic2 lv2 x.tx⟩] := by rw [pkN, hx, hl2, hs2]
      have e2 : by_ + byN vi pic2 lv2 V (i + 1) = b2 + (payM vi pic2 lv2 x.tx).size := by rw [byN, hx, hb2']; simp only; omega
      have e3 : sqI sq (i + 1) = (sq2 + 1) % 65536 := by rw [sqI, hs2]
      have hP := rPayload vi ss kd sq2 pic2 lv2 s sh2 la2 fr pk2 b2 x.tx (by omega) hpv
      generalize payM vi pic2 lv2 x.tx = pl at hpl e1 e2 hP
      (repeat (first | ((first | (apply wo_v; rfl) ); (· first | (apply pv_ev; rfl) )) | apply wo_nil | apply wc_seq | apply wc_region | apply wc_skip | (apply wc_true; rfl) | (apply wc_false; rfl) | (apply a_dec_t; rfl; (· first | assumption | omega)) ))
      refine wc_block ?_
      (repeat (first | ((first | (apply wo_v; rfl) ); (· first | (apply pv_ev; rfl) | (apply g_load; first | (apply pv_lda; rfl; (· (repeat (first | apply sel_there))); (· (repeat (first | fail )))) | (apply pv_ld_owna; rfl; (· (repeat (first | apply sel_there))); (· assumption)) | (apply pv_ld_roa; rfl; (· (first | assumption )); (· assumption))) | (apply g_idx; first | (apply pv_idx; rfl; rfl; omega) ) )) | apply wo_nil | apply wc_seq | apply wc_region | (apply wo_alloc; rfl; intro bx) | (apply wo_sta; rfl; rfl; rfl; rfl; (· (repeat (first | apply sel_here ))); (· (repeat (first | apply LayAt.nil | apply LayAt.here ))); rfl) ))
      (refine wc_reg [0, 1] (asl [(15, 1), (17, 0), (18, 0)]) (tblFR pl (pkR x.mrk kd sq2 (la2 % 4294967296) ss pl)) ([ruI bx x, orI br false 0 0 0 0 0 0 0 0 0 0 0, orI bo vi ss kd sq2 pic2 lv2 s sh2 la2 fr pk2 b2, rkO ao' c' l]) (fm [(0, []), (1, [])]) mixed (by kernel_rfl) (by kernel_rfl) (by decide) (asl_mem (by decide)) (by (repeat (first | (apply prm_cons; (· (repeat (first | apply sel_here )))) | apply List.Perm.nil )); done) ?_; (repeat (first | ((first | (apply HdE.val; rfl; rfl; (· first | apply gok_none ))); (· first | (apply pv_ev; rfl) | (apply pv_fld; rfl) | (apply g_load; first | (apply pv_ld; rfl; (· (repeat (first | apply sel_here | apply sel_there))); rfl) | (apply pv_lda; rfl; (· (repeat (first | apply sel_here | apply sel_there))); (· (repeat (first | apply Cut.here0 | apply Cut.here )))) ) | (apply g_conv; first | (apply a_conv; rfl; infer_instance; infer_instance; infer_instance; omega) | (apply a_conv_u; rfl; infer_instance; infer_instance; infer_instance) ) )) )))
      (refine he_eff rfl rfl rfl (by first | exact gok_none | exact gok_run rfl rfl) (outc_call (F1 := _) (hP) rfl (by (repeat (first | apply sub_nil )); done) (by first | exact fun _ h => h | (intro r hr; cases hr; done) | (simp; done) | exact fun _ h => List.mem_append_left _ h | (intro r hr; simp [hr]; done)) ?_) ⟨_, _, rfl, rfl⟩ ?_; (· rintro v L' R' ⟨rfl, rfl, _⟩; exact ⟨_, ⟨rfl, rfl⟩, (by (repeat (first | (apply prm_cons; (· (repeat (first | apply sel_here )))) | apply List.Perm.nil )); done)⟩); rintro v M ⟨rfl, rfl⟩; simp only [setl, reduceIte, Nat.reduceEqDiff]; (repeat (first | ((first | (apply HdE.val; rfl; rfl; (· first | apply gok_none ))); (· first | (apply pv_ev; rfl) | (apply g_build; apply pv_build; (· (repeat (first | apply Bld.nil | (apply Bld.one; rfl; rfl; (· (repeat (first | apply SetAt.here | apply SetAt.there)))) )))) )) )))
      (refine he_eff rfl rfl rfl (by first | exact gok_none | exact gok_run rfl rfl) outc_alloc ⟨_, _, 0, rfl, rfl⟩ ?_; rintro v M ⟨bz, rfl, rfl⟩; simp only [setl, reduceIte, Nat.reduceEqDiff]; (repeat (first | fail )))
      (refine he_eff rfl rfl rfl (by first | exact gok_none | exact gok_run rfl rfl) (outc_sta rfl rfl rfl rfl (by (repeat (first | apply LayAt.nil | apply LayAt.here )); done)) ⟨_, _, rfl, rfl⟩ ?_; rintro v M ⟨rfl, rfl⟩; simp only [setl, reduceIte, Nat.reduceEqDiff]; (repeat (first | fail )))
      (refine HdE.nil ?_; intro H hH; simp only [Hp, fm, look, setl, List.flatMap_cons, List.flatMap_nil, reduceIte, Nat.reduceEqDiff, Option.getD_some, List.append_nil, List.cons_append, List.nil_append] at hH; subst hH)
      (repeat (first | ((first | (apply wo_v; rfl) ); (· first | (apply pv_ev; rfl) | (apply g_load; first | (apply pv_lda; rfl; (· (repeat (first | apply sel_here | apply sel_there))); (· (repeat (first | apply Cut.here0 | apply Cut.here )))) ) | (apply g_bi; first | fail ) )) | apply wc_seq | apply wc_region | (apply wo_bsl; (· (repeat (first | apply Rws'.nil | (apply Rws'.one; rfl; rfl; rfl) | (apply Rws'.agg; rfl; rfl; rfl)))); rfl; rfl; rfl; rfl; intro bx) ))
      refine wo_app rfl rfl (by (repeat (first | apply sel_here | apply sel_there)); done) (by (repeat (first | apply sel_here )); done) (by unfold maxLen; omega) (by omega) rfl (fun ao2 c2 => ?_)
      (repeat (first | ((first | (apply wo_v; rfl) ); (· first | (apply pv_ev; rfl) | (apply pv_fld; rfl) | (apply g_load; first | (apply pv_ld; rfl; (· (repeat (first | apply sel_here | apply sel_there))); rfl) ) | (apply g_bin; first | (apply a_add; rfl; rfl; infer_instance; omega) | (apply pv_rem; rfl; rfl; omega) ) | (apply g_bi; first | (apply pv_len_str; rfl) ) )) | apply wo_nil | apply wc_seq | apply wc_region | (apply wo_st; rfl; rfl; rfl; (· (repeat (first | apply sel_here | apply sel_there))); (· (repeat (first | apply SetAt.here | apply SetAt.there))); rfl) ))
      exact loop_end ⟨i + 1, ao2, c2, l ++ [⟨x.mrk, kd, sq2, la2 % 4294967296, ss, pl⟩], (sq2 + 1) % 65536, b2 + pl.size, pk2 + 1, rfl, by omega, e1.symm, e3.symm, e2.symm, by omega, by rw [show rkO ao2 c2 (l ++ [⟨x.mrk, kd, sq2, la2 % 4294967296, ss, pl⟩]) = .own rkT 11 ao2 (l.length + 1) c2 (prs' l ++ [pkR x.mrk kd sq2 (la2 % 4294967296) ss pl]) by simp [rkO, prow], List.length_append, List.length_singleton]⟩ (by omega) (wk_mk (by (repeat (first | apply wkf_nil | (apply wkf_cons; rfl))); done) (by (repeat (first | apply sub_nil | (apply sub_cons; (· (repeat (first | apply sel_here | apply sel_there)))))); done) (by first | exact fun _ h => h | (intro r hr; cases hr; done) | (simp; done) | exact fun _ h => List.mem_append_left _ h | (intro r hr; simp [hr]; done)))
    · have e : i = n := by omega
      subst e
      subst hl2 hs2 hb2' hpk
      (repeat (first | ((first | (apply wo_v; rfl) ); (· first | (apply pv_ev; rfl) )) | apply wo_nil | apply wc_seq | apply wc_region | (apply wc_exit; rfl) | (apply wc_true; rfl) | (apply wc_false; rfl) | (apply a_dec_t; rfl; (· first | assumption | omega)) | (apply a_dec_f; rfl; (· first | assumption | omega)) ))
      exact cut_end ⟨ao', c', rfl⟩ (wk_mk (by (repeat (first | apply wkf_nil | (apply wkf_cons; rfl))); done) (by (repeat (first | apply sub_nil )); done) (by first | exact fun _ h => h | (intro r hr; cases hr; done) | (simp; done) | exact fun _ h => List.mem_append_left _ h | (intro r hr; simp [hr]; done)))
  rintro st ⟨ao', c', rfl⟩
  have hbb := byN_b vi pic2 lv2 V ht n
  (repeat (first | ((first | (apply wo_v; rfl) ); (· first | (apply pv_ev; rfl) | (apply pv_fld; rfl) | (apply g_load; first | (apply pv_ld; rfl; (· (repeat (first | apply sel_here | apply sel_there))); rfl) | (apply pv_lda; rfl; (· (repeat (first | apply sel_here ))); (· (repeat (first | apply Cut.here0 | apply Cut.here )))) ) | (apply g_bin; first | (apply a_add; rfl; rfl; infer_instance; omega) ) )) | apply wo_nil | apply wc_seq | apply wc_region | apply wc_ret | (apply wo_st; rfl; rfl; rfl; (· (repeat (first | apply sel_here | apply sel_there))); (· (repeat (first | apply SetAt.here | apply SetAt.there))); rfl) | (apply wo_sta; rfl; rfl; rfl; rfl; (· (repeat (first | apply sel_here | apply sel_there))); (· (repeat (first | apply LayAt.nil | apply LayAt.here ))); rfl) ))
  exact retv rfl (by (repeat (first | apply RV.nil | (apply RV.tmp; rfl) | (apply RV.agg; rfl; (· (repeat (first | apply sel_here ))); infer_instance; (· (repeat (first | apply Cut.here0 | apply Cut.here )))) )); done) (⟨ao', c', rfl, rfl⟩) (by (repeat (first | apply sub_nil | (apply sub_cons; (· (repeat (first | apply sel_here | apply sel_there)))))); done) (by first | exact fun _ h => h | (intro r hr; cases hr; done) | (simp; done) | exact fun _ h => List.mem_append_left _ h | (intro r hr; simp [hr]; done))
end Go.Proofs.Ytnjicnadlhfocaa
