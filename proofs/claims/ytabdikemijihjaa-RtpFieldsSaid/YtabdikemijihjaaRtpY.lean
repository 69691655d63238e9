/-
  The laws of rtp: RtpChecks, RtpCut, RtpFields.
-/
import Derived.Test.YtabdikemijihjaaRtpX
namespace Go.Proofs.Ytabdikemijihjaa
set_option linter.unusedSimpArgs false
set_option linter.unusedVariables false
open Go.RowKit
attribute [local irreducible] Pv WO WC Fn
set_option maxRecDepth 100000
attribute [local irreducible] ByteArray.extract

theorem kseg_crs (z : Nat → Int) (n : Nat) : kseg .u32 z n = crs ((List.range n).map z) := by simp [kseg, crs, Function.comp_def]
theorem kFew (mrk : Bool) (kd sq t ss : Int) (ex : Bool) (pf : Int) (dt pl : ByteArray) (pd : Int) (ao : Option Addr) (n c : Nat) (z : Nat → Int) (R : List Ro) (hnc : n ≤ c) (hc : c ≤ 9223372036854775807) (hA : 0 < n → ∃ b o, ao = some ⟨b, o, none⟩ ∧ ⟨b, o, 1, kseg .u32 z n⟩ ∈ R) (hz : ∀ i, i < n → 0 ≤ z i ∧ z i ≤ 4294967295) :
    Fn Try.prog 28 #[.agg (rpR mrk kd sq t ss (.slice ao n c) ex pf dt pl pd).toArray] [] R
      (fun v L' R' => ∃ ao' cs', v = .agg (rpR mrk kd sq t ss (.slice ao' (List.length cs') c) ex pf (cutS dt 60) (cutS pl 1500) (min (max pd (-2)) 300)).toArray ∧ L' = [] ∧ SQ (R' ++ R) 1 ao' cs'.length c (crs cs') ∧ cs'.length ≤ 17 ∧ ∀ y ∈ cs', 0 ≤ y ∧ y ≤ 4294967295) := by
  by_cases hn : n ≤ 17
  · refine (lFew mrk kd sq t ss ex pf dt pl pd ao n c z R hnc hc hA hn).mono ?_
    rintro v L' R' ⟨rfl, rfl, rfl⟩
    refine ⟨ao, (List.range n).map z, by simp, rfl, ⟨by simp, fun h0 => ?_⟩, by simpa using hn, fun y hy => ?_⟩
    · obtain ⟨b, o, h1, h2⟩ := hA (by simpa using h0)
      exact ⟨b, o, h1, by rw [← kseg_crs]; exact h2⟩
    · obtain ⟨i, hi, rfl⟩ := List.mem_map.1 hy
      exact hz i (List.mem_range.1 hi)
  · obtain ⟨b, o, h1, h2⟩ := hA (by omega)
    refine (lFew17 mrk kd sq t ss ex pf dt pl pd ao n c z R hnc hc b o h1 h2 (by omega)).mono ?_
    rintro v L' R' ⟨o', rfl, rfl, hm⟩
    refine ⟨some ⟨b, o', none⟩, (List.range 17).map z, by simp, rfl, ⟨by simp, fun h0 => ⟨b, o', rfl, ?_⟩⟩, by simp, fun y hy => ?_⟩
    · rw [← kseg_crs]; exact List.mem_append_left _ hm
    · obtain ⟨i, hi, rfl⟩ := List.mem_map.1 hy
      exact hz i (by have := List.mem_range.1 hi; omega)
abbrev pkFd : List Fd1 := [.one .bool, .one (.int .u8), .one (.int .u16), .one (.int .u32), .one (.int .u32), .sl [.int .u32], .one .bool, .one (.int .u16), .one .string, .one .string, .one (.int .i64)]
theorem kseg_ofb {R : List Ro} {k : IntKind} {v : Value} (h : FV1 R (.sl [.int k]) v) : ∃ A n c z, v = .slice A n c ∧ n ≤ c ∧ c ≤ maxLen ∧ (0 < n → ∃ b o, A = some ⟨b, o, none⟩ ∧ ⟨b, o, 1, kseg k z n⟩ ∈ R) ∧ (∀ i, i < n → (Lit.int k (z i)).wf = true) := by
  obtain ⟨A, n, c, V, rfl, h1, h2, h3, h4⟩ := h
  refine ⟨A, n, c, fun i => match V i 0 with | .int _ z => z | _ => 0, rfl, h1, h2, fun hn => ?_, fun i hi => ?_⟩
  · obtain ⟨b, o, hA, hm⟩ := h4 hn
    refine ⟨b, o, hA, ?_⟩
    have e : rowsOf [.int k] V n = kseg k (fun i => match V i 0 with | .int _ z => z | _ => 0) n := by
      unfold rowsOf kseg
      refine List.map_congr_left fun i hi => ?_
      obtain ⟨z0, hz0, _⟩ := h3 i 0 _ (List.mem_range.1 hi) rfl
      simp [hz0]
    rw [← e]; exact hm
  · obtain ⟨z0, hz0, hw⟩ := h3 i 0 _ hi rfl
    simp only [hz0]; exact hw
theorem row_pk {R : List Ro} {row : List Value} (h : FV1s R pkFd row) : ∃ mrk kd sq t ss A n c z ex pf dt pl pd, row = rpR mrk kd sq t ss (.slice A n c) ex pf dt pl pd ∧ (0 ≤ kd ∧ kd ≤ 255) ∧ (0 ≤ sq ∧ sq ≤ 65535) ∧ (0 ≤ t ∧ t ≤ 4294967295) ∧ (0 ≤ ss ∧ ss ≤ 4294967295) ∧ (0 ≤ pf ∧ pf ≤ 65535) ∧
    n ≤ c ∧ c ≤ maxLen ∧ (0 < n → ∃ b o, A = some ⟨b, o, none⟩ ∧ ⟨b, o, 1, kseg .u32 z n⟩ ∈ R) ∧ (∀ i, i < n → 0 ≤ z i ∧ z i ≤ 4294967295) := by
  obtain ⟨hl, h⟩ := h
  obtain ⟨v0, e0, mrk, rfl⟩ := h 0 _ rfl
  obtain ⟨v1, e1, kd, rfl, g1⟩ := h 1 _ rfl
  obtain ⟨v2, e2, sq, rfl, g2⟩ := h 2 _ rfl
  obtain ⟨v3, e3, t, rfl, g3⟩ := h 3 _ rfl
  obtain ⟨v4, e4, ss, rfl, g4⟩ := h 4 _ rfl
  obtain ⟨v5, e5, h5⟩ := h 5 _ rfl
  obtain ⟨v6, e6, ex, rfl⟩ := h 6 _ rfl
  obtain ⟨v7, e7, pf, rfl, g7⟩ := h 7 _ rfl
  obtain ⟨v8, e8, dt, rfl, _⟩ := h 8 _ rfl
  obtain ⟨v9, e9, pl, rfl, _⟩ := h 9 _ rfl
  obtain ⟨v10, e10, pd, rfl, _⟩ := h 10 _ rfl
  obtain ⟨A, n, c, z, rfl, k1, k2, k3, k4⟩ := kseg_ofb h5
  refine ⟨mrk, kd, sq, t, ss, A, n, c, z, ex, pf, dt, pl, pd, ?_, bd_u8 g1, bd_u16 g2, bd_u32 g3, bd_u32 g4, bd_u16 g7, k1, k2, k3, fun i hi => bd_u32 (k4 i hi)⟩
  match row, hl with
  | [w0, w1, w2, w3, w4, w5, w6, w7, w8, w9, w10], _ => simp_all
set_option maxHeartbeats 16000000 in
theorem rtpChecks_fn (mrk : Bool) (kd sq t ss : Int) (ex : Bool) (pf : Int) (dt0 pl0 : ByteArray) (pd0 : Int) (ao0 : Option Addr) (n c : Nat) (z : Nat → Int) (R : List Ro) (hnc : n ≤ c) (hc : c ≤ 9223372036854775807) (hA : 0 < n → ∃ b o, ao0 = some ⟨b, o, none⟩ ∧ ⟨b, o, 1, kseg .u32 z n⟩ ∈ R) (hz : ∀ i, i < n → 0 ≤ z i ∧ z i ≤ 4294967295)
    (g1 : 0 ≤ kd ∧ kd ≤ 255) (g2 : 0 ≤ sq ∧ sq ≤ 65535) (g3 : 0 ≤ t ∧ t ≤ 4294967295) (g4 : 0 ≤ ss ∧ ss ≤ 4294967295) (g5 : 0 ≤ pf ∧ pf ≤ 65535) :
    Fn Try.prog 8 #[.agg (rpR mrk kd sq t ss (.slice ao0 n c) ex pf dt0 pl0 pd0).toArray] [] R (fun v _ _ => v = .bool true) := by
  have hF := kFew mrk kd sq t ss ex pf dt0 pl0 pd0 ao0 n c z R hnc hc hA hz
  have hd := cutS_size dt0 60
  have hp := cutS_size pl0 1500
  generalize cutS dt0 60 = dt at hF hd
  generalize cutS pl0 1500 = pl at hF hp
  obtain ⟨pd, hpd⟩ : ∃ pd, min (max pd0 (-2)) 300 = pd := ⟨_, rfl⟩
  have hpd2 : -2 ≤ pd ∧ pd ≤ 300 := by omega
  rw [hpd] at hF
  clear hpd
  refine fn_intro Try.func8 rfl Try.ntmps8 rfl (fun E => ?_)
  (repeat (first | ((first | (apply wo_v; rfl) ); (· first | (apply pv_ev; rfl) | (apply g_load; first | (apply pv_lda; rfl; (· (repeat (first | apply sel_here ))); (· (repeat (first | apply Cut.here0 | apply Cut.here )))) ) )) | apply wo_nil | apply wc_seq | apply wc_region | (apply wo_box1; rfl; rfl; rfl; intro bx) | (apply wo_boxa; rfl; rfl; intro bx) ))
  (refine wo_call (hF) rfl (by (repeat (first | apply sub_nil )); done) (by first | exact fun _ h => h | (intro r hr; cases hr; done) | (simp; done) | exact fun _ h => List.mem_append_left _ h | (intro r hr; simp [hr]; done)) rfl ?_; rintro v L' R' ⟨ao, cs, rfl, rfl, hS, hl, hcs⟩ H' hH RR hR; simp only [List.cons_append, List.nil_append] at hH hR; subst hH; have hR := hR.symm; subst hR)
  generalize R' ++ R = RR at hS ⊢
  clear hF hA hz
  (repeat (first | ((first | (apply wo_v; rfl) ); (· first | (apply pv_ev; rfl) | (apply g_load; first | (apply pv_lda; rfl; (· (repeat (first | apply sel_here ))); (· (repeat (first | apply Cut.here0 | apply Cut.here )))) ) )) | apply wo_nil | apply wc_seq | apply wc_region | (apply wo_sta; rfl; rfl; rfl; rfl; (· (repeat (first | apply sel_here ))); (· (repeat (first | apply LayAt.nil | apply LayAt.here ))); rfl) ))
  have wC := gCheck mrk kd sq t ss cs.length ex pf dt pl pd ao c (by omega)
  have wQ := qCheck mrk kd sq t ss cs ex pf dt pl pd ao cs.length c RR hS (by omega) (by omega) (by omega) g1 g2 g3 g4 g5 hcs
  have wT := lTold mrk kd sq t ss ex pf dt pl pd ao cs.length c
  by_cases hk : chkR kd cs.length ex pf dt pl pd = 0
  case neg =>
    generalize chkR kd cs.length ex pf dt pl pd = e at hk wC wQ
    (refine wo_call (wC) rfl (by (repeat (first | apply sub_nil )); done) (by first | exact fun _ h => h | (intro r hr; cases hr; done) | (simp; done) | exact fun _ h => List.mem_append_left _ h | (intro r hr; simp [hr]; done)) rfl ?_; rintro v L' R' ⟨rfl, rfl, rfl⟩ H' hH RR hR; simp only [List.cons_append, List.nil_append] at hH hR; subst hH; have hR := hR.symm; subst hR)
    (repeat (first | ((first | (apply wo_v; rfl) ); (· first | (apply pv_ev; rfl) )) | apply wo_nil | apply wc_seq | apply wc_region ))
    (refine wo_call (awake03) rfl (by (repeat (first | apply sub_nil )); done) (by first | exact fun _ h => h | (intro r hr; cases hr; done) | (simp; done) | exact fun _ h => List.mem_append_left _ h | (intro r hr; simp [hr]; done)) rfl ?_; rintro v L' R' ⟨rfl, rfl, rfl⟩ H' hH RR hR; simp only [List.cons_append, List.nil_append] at hH hR; subst hH; have hR := hR.symm; subst hR)
    (repeat (first | ((first | (apply wo_v; rfl) ); (· first | (apply pv_ev; rfl) | (apply g_load; first | (apply pv_lda; rfl; (· (repeat (first | apply sel_here ))); (· (repeat (first | apply Cut.here0 | apply Cut.here )))) ) | (apply g_un; first | (apply pv_not_t; rfl) ) )) | (apply wo_run; rfl; rfl) ))
    (refine wo_call (wT) rfl (by (repeat (first | apply sub_nil )); done) (by first | exact fun _ h => h | (intro r hr; cases hr; done) | (simp; done) | exact fun _ h => List.mem_append_left _ h | (intro r hr; simp [hr]; done)) rfl ?_; rintro v L' R' ⟨rfl, rfl, rfl⟩ H' hH RR hR; simp only [List.cons_append, List.nil_append] at hH hR; subst hH; have hR := hR.symm; subst hR)
    (repeat (first | ((first | (apply wo_v; rfl) ); (· first | (apply pv_ev; rfl) )) | (apply wo_run; rfl; rfl) ))
    (refine wo_call (wQ) rfl (by (repeat (first | apply sub_nil )); done) (by first | exact fun _ h => h | (intro r hr; cases hr; done) | (simp; done) | exact fun _ h => List.mem_append_left _ h | (intro r hr; simp [hr]; done)) rfl ?_; rintro v L' R' ⟨rfl, rfl, rfl⟩ H' hH RR hR; simp only [List.cons_append, List.nil_append] at hH hR; subst hH; have hR := hR.symm; subst hR)
    (repeat (first | ((first | (apply wo_v; rfl) ); (· first | (apply pv_ev; rfl) | (apply g_pick; first | (apply pv_pick_t; rfl; rfl) | (apply pv_pick_f; rfl; rfl)) )) | apply wo_nil | apply wc_seq | apply wc_region | apply wc_skip | apply wc_ret | (apply wc_true; rfl) | (apply wc_false; rfl) | (apply a_dec_t; rfl; (· first | assumption | omega)) | (apply a_dec_f; rfl; (· first | assumption | omega)) | (apply wo_run; rfl; rfl) ))
    exact ret1 rfl rfl (by simp) ((by (repeat (first | apply sub_nil )); done) : List.Perm _ ([] ++ _)) (by first | exact fun _ h => h | (intro r hr; cases hr; done) | (simp; done) | exact fun _ h => List.mem_append_left _ h | (intro r hr; simp [hr]; done))
  have hck : Ck ⟨mrk, kd, sq, t, ss, cs, ex, pf, dt, pl, pd⟩ := ck_iff.1 hk
  have hx := prR_txP (p := ⟨mrk, kd, sq, t, ss, cs, ex, pf, dt, pl, pd⟩) ⟨g1, g2, g3, g4, g5, hcs⟩ hck
  have hxs := txP_size hck
  have k1 := hck.kd
  have k2 := hck.pd
  have k3 := hck.cs
  have k4 := hck.len
  rw [hk] at wC wQ
  have wX := gText mrk kd sq t ss cs ex pf dt pl pd ao cs.length c RR hS k3 (by omega) (by omega) k2 ⟨g1.1, k1⟩ g2 g3 g4 g5 hcs
  have wY := fun R hS => qText mrk kd sq t ss cs ex pf dt pl pd ao cs.length c R hS (by omega) (by omega) (by omega) g1 g2 g3 g4 g5 hcs
  have wL := gLen mrk kd sq t ss cs.length ex pf dt pl pd ao c (by omega)
  unfold txP at hx hxs
  dsimp only at hx hxs k1 k2 k3 k4
  rw [← hxs] at wL k4
  generalize txR mrk kd sq t ss cs ex pf dt pl pd = x at hx hxs wX wY wL k4
  have wP := pParse x (by omega)
  rw [hx] at wP
  dsimp only at wP
  (refine wo_call (wC) rfl (by (repeat (first | apply sub_nil )); done) (by first | exact fun _ h => h | (intro r hr; cases hr; done) | (simp; done) | exact fun _ h => List.mem_append_left _ h | (intro r hr; simp [hr]; done)) rfl ?_; rintro v L' R' ⟨rfl, rfl, rfl⟩ H' hH RR hR; simp only [List.cons_append, List.nil_append] at hH hR; subst hH; have hR := hR.symm; subst hR)
  (repeat (first | ((first | (apply wo_v; rfl) ); (· first | (apply pv_ev; rfl) )) | apply wo_nil | apply wc_seq | apply wc_region ))
  (refine wo_call (awake03) rfl (by (repeat (first | apply sub_nil )); done) (by first | exact fun _ h => h | (intro r hr; cases hr; done) | (simp; done) | exact fun _ h => List.mem_append_left _ h | (intro r hr; simp [hr]; done)) rfl ?_; rintro v L' R' ⟨rfl, rfl, rfl⟩ H' hH RR hR; simp only [List.cons_append, List.nil_append] at hH hR; subst hH; have hR := hR.symm; subst hR)
  (repeat (first | ((first | (apply wo_v; rfl) ); (· first | (apply pv_ev; rfl) | (apply g_load; first | (apply pv_lda; rfl; (· (repeat (first | apply sel_here ))); (· (repeat (first | apply Cut.here0 | apply Cut.here )))) ) | (apply g_un; first | (apply pv_not_t; rfl) ) )) | (apply wo_run; rfl; rfl) ))
  (refine wo_call (wT) rfl (by (repeat (first | apply sub_nil )); done) (by first | exact fun _ h => h | (intro r hr; cases hr; done) | (simp; done) | exact fun _ h => List.mem_append_left _ h | (intro r hr; simp [hr]; done)) rfl ?_; rintro v L' R' ⟨rfl, rfl, rfl⟩ H' hH RR hR; simp only [List.cons_append, List.nil_append] at hH hR; subst hH; have hR := hR.symm; subst hR)
  (repeat (first | ((first | (apply wo_v; rfl) ); (· first | (apply pv_ev; rfl) )) | (apply wo_run; rfl; rfl) ))
  (refine wo_call (wQ) rfl (by (repeat (first | apply sub_nil )); done) (by first | exact fun _ h => h | (intro r hr; cases hr; done) | (simp; done) | exact fun _ h => List.mem_append_left _ h | (intro r hr; simp [hr]; done)) rfl ?_; rintro v L' R' ⟨rfl, rfl, rfl⟩ H' hH RR hR; simp only [List.cons_append, List.nil_append] at hH hR; subst hH; have hR := hR.symm; subst hR)
  (repeat (first | ((first | (apply wo_v; rfl) ); (· first | (apply pv_ev; rfl) | (apply g_load; first | (apply pv_lda; rfl; (· (repeat (first | apply sel_here ))); (· (repeat (first | apply Cut.here0 | apply Cut.here )))) ) | (apply g_pick; first | (apply pv_pick_t; rfl; rfl) | (apply pv_pick_f; rfl; rfl)) )) | apply wo_nil | apply wc_seq | apply wc_region | apply wc_skip | (apply wc_true; rfl) | (apply wc_false; rfl) | (apply wo_run; rfl; rfl) ))
  (refine wo_call (wX) rfl (by (repeat (first | apply sub_nil )); done) (by first | exact fun _ h => h | (intro r hr; cases hr; done) | (simp; done) | exact fun _ h => List.mem_append_left _ h | (intro r hr; simp [hr]; done)) rfl ?_; rintro v L' R' ⟨rfl, rfl, rfl⟩ H' hH RR hR; simp only [List.cons_append, List.nil_append] at hH hR; subst hH; have hR := hR.symm; subst hR)
  (repeat (first | ((first | (apply wo_v; rfl) ); (· first | (apply pv_ev; rfl) )) | apply wo_nil | apply wc_seq | apply wc_region ))
  (refine wo_call (wP) rfl (by (repeat (first | apply sub_nil )); done) (by first | exact fun _ h => h | (intro r hr; cases hr; done) | (simp; done) | exact fun _ h => List.mem_append_left _ h | (intro r hr; simp [hr]; done)) rfl ?_; rintro v L' R' ⟨ao2, c2, rfl, rfl, rfl⟩ H' hH RR hR; simp only [List.cons_append, List.nil_append] at hH hR; subst hH; have hR := hR.symm; subst hR)
  (repeat (first | ((first | (apply wo_v; rfl) ); (· first | (apply pv_ev; rfl) )) | apply wo_nil | apply wc_seq | (apply wo_alloc; rfl; intro bx) | (apply wo_sta; rfl; rfl; rfl; rfl; (· (repeat (first | apply sel_here ))); (· (repeat (first | apply LayAt.nil | apply LayAt.here ))); rfl) ))
  refine wc_still (ao := ao2) (c := c2) (by (repeat (first | apply sel_here | apply sel_there)); done) (fun R2 hS2 => ?_)
  have hS := hS.mono (R' := R2 ++ RR) (fun r hr => List.mem_append_right _ hr)
  have hS2 := hS2.sq
  generalize hRG : R2 ++ RR = RG at hS hS2 ⊢
  have wS := sameSR mrk kd sq t ss cs ex pf dt pl pd ao2 ao cs.length cs.length c2 c RG (by omega) hS2 hS
  (refine wc_quiet mixed (by kernel_rfl) ?_; (repeat (first | ((first | (apply hd_v; rfl) ); (· first | (apply pv_ev; rfl) | (apply g_load; first | (apply pv_lda; rfl; (· (repeat (first | apply sel_here | apply sel_there))); (· (repeat (first | apply Cut.here0 | apply Cut.here )))) ) )) )))
  (refine Hd.call rfl inferInstance (Fn.mono (wT) (fun _ _ _ h => ⟨h.1, h.2.1⟩)) rfl (by (repeat (first | apply sub_nil )); done) (by first | exact fun _ h => h | (intro r hr; cases hr; done) | (simp; done) | exact fun _ h => List.mem_append_left _ h | (intro r hr; simp [hr]; done)) rfl ?_; (repeat (first | ((first | (apply hd_v; rfl) ); (· first | (apply pv_ev; rfl) )) )))
  (refine Hd.call rfl inferInstance (Fn.mono (wY RG hS) (fun _ _ _ h => ⟨h.1, h.2.1⟩)) rfl (by (repeat (first | apply sub_nil )); done) (by first | exact fun _ h => h | (intro r hr; cases hr; done) | (simp; done) | exact fun _ h => List.mem_append_left _ h | (intro r hr; simp [hr]; done)) rfl ?_; (repeat (first | ((first | (apply hd_v; rfl) ); (· first | (apply pv_ev; rfl) | (apply g_load; first | (apply pv_lda; rfl; (· (repeat (first | apply sel_here | apply sel_there))); (· (repeat (first | apply Cut.here0 | apply Cut.here )))) ) | (apply g_bin; first | (apply pv_eql_s; rfl; rfl) ) | (apply g_bi; first | (apply pv_len_str; rfl) ) )) | (apply Hd.run; rfl; rfl) | (apply Hd.skip; rfl; rfl; rfl; rfl) | (apply Hd.skipu; rfl; rfl; rfl) | (apply ah_gt; rfl; rfl; (· first | assumption | omega)) | (apply ah_gf; rfl; rfl; (· first | assumption | omega)) | (apply ah_gt; rfl; rfl; (· first | (simp; done) | (simp; omega))) )))
  (refine Hd.call rfl inferInstance (Fn.mono (wL) (fun _ _ _ h => ⟨h.1, h.2.1⟩)) rfl (by (repeat (first | apply sub_nil )); done) (by first | exact fun _ h => h | (intro r hr; cases hr; done) | (simp; done) | exact fun _ h => List.mem_append_left _ h | (intro r hr; simp [hr]; done)) rfl ?_; (repeat (first | ((first | (apply hd_v; rfl) ); (· first | (apply pv_ev; rfl) | (apply g_load; first | (apply pv_lda; rfl; (· (repeat (first | apply sel_here | apply sel_there))); (· (repeat (first | apply Cut.here0 | apply Cut.here )))) ) | (apply g_pick; first | (apply pv_pick_t; rfl; rfl) ) )) | (apply Hd.run; rfl; rfl) | (apply Hd.skip; rfl; rfl; rfl; rfl) | (apply Hd.skipu; rfl; rfl; rfl) | (apply ah_gt; rfl; rfl; (· first | assumption | omega)) )))
  (refine Hd.call rfl inferInstance (Fn.mono (wT) (fun _ _ _ h => ⟨h.1, h.2.1⟩)) rfl (by (repeat (first | apply sub_nil )); done) (by first | exact fun _ h => h | (intro r hr; cases hr; done) | (simp; done) | exact fun _ h => List.mem_append_left _ h | (intro r hr; simp [hr]; done)) rfl ?_; (repeat (first | ((first | (apply hd_v; rfl) ); (· first | (apply pv_ev; rfl) )) | (apply Hd.run; rfl; rfl) )))
  (refine Hd.call rfl inferInstance (Fn.mono (wS) (fun _ _ _ h => ⟨h.1, h.2.1⟩)) rfl (by (repeat (first | apply sub_nil )); done) (by first | exact fun _ h => h | (intro r hr; cases hr; done) | (simp; done) | exact fun _ h => List.mem_append_left _ h | (intro r hr; simp [hr]; done)) rfl ?_; (repeat (first | ((first | (apply hd_v; rfl) ); (· first | (apply pv_ev; rfl) | (apply g_pick; first | (apply pv_pick_t; rfl; rfl) ) )) | apply Hd.nil | apply wc_ret | (apply Hd.run; rfl; rfl) )))
  exact ret1 rfl rfl (by simp) ((by (repeat (first | apply sub_nil )); done) : List.Perm _ ([] ++ _)) (by first | exact fun _ h => h | (intro r hr; cases hr; done) | (simp; done) | exact fun _ h => List.mem_append_left _ h | (intro r hr; simp [hr]; done))
theorem rtpChecks_walk {w : World} (row : List Value) (R : List Ro) (hR : ∀ r ∈ R, r.sat w) (h : FV1s R pkFd row) :
    Calls Try.prog 8 #[.agg row.toArray] w fun e w' => e = .returned (.bool true) ∧ Below w.heap.size w w' := by
  obtain ⟨mrk, kd, sq, t, ss, A, n, c, z, ex, pf, dt, pl, pd, rfl, g1, g2, g3, g4, g5, k1, k2, k3, k4⟩ := row_pk h
  exact walk_of (rtpChecks_fn mrk kd sq t ss ex pf dt pl pd A n c z R k1 (by unfold maxLen at k2; omega) k3 k4 g1 g2 g3 g4 g5) hR
theorem hdZ_lenM (p : Rp) (hp : 0 ≤ p.pd) : ((hdZ p E0).size : Int) = lenM p.cs.length p.ex p.dt p.pl p.pd - p.pl.size - p.pd := by
  rw [hdZ_size]
  have e0 : E0.size = 0 := rfl
  unfold lenM
  cases p.ex
  · simp only [Bool.false_eq_true, if_false, e0]; omega
  · simp only [if_true, e0]; omega
/-- what a beginning of a packet's bytes is -/
theorem prR_prefix {p : Rp} (hr : okR p) (hc : Ck p) (n : Nat) (hn : n ≤ (txP p).size) :
    (n < (hdZ p E0).size → prR ((txP p).extract 0 n) = (Rp0, 1)) ∧ (¬ n < (hdZ p E0).size → p.pd = 0 → prR ((txP p).extract 0 n) = (⟨p.mrk, p.kd, p.sq, p.t, p.ss, p.cs, p.ex, p.pf, p.dt, p.pl.extract 0 (n - (hdZ p E0).size), p.pd⟩, 0)) := by
  refine ⟨fun h => ?_, fun h h0 => ?_⟩
  · exact prR_cut hr hc (ext_all (txP p) n hn) (by rw [ByteArray.size_extract]; omega)
  · have e : tlR p.pd = E0 := by unfold tlR; rw [if_neg (by omega)]
    have e1 : txP p = hdZ p E0 ++ p.pl := by rw [txP_hd, e, append_E0, ← hdZ_E]
    have hz : (hdZ p E0).size + p.pl.size = (txP p).size := by rw [e1, ByteArray.size_append]
    obtain ⟨m, hm⟩ : ∃ m, n - (hdZ p E0).size = m := ⟨_, rfl⟩
    have e2 : (txP p).extract 0 n = txP ⟨p.mrk, p.kd, p.sq, p.t, p.ss, p.cs, p.ex, p.pf, p.dt, p.pl.extract 0 m, p.pd⟩ := by
      have e3 : txP ⟨p.mrk, p.kd, p.sq, p.t, p.ss, p.cs, p.ex, p.pf, p.dt, p.pl.extract 0 m, p.pd⟩ = hdZ p E0 ++ p.pl.extract 0 m := by
        rw [txP_hd]
        dsimp only
        rw [e, append_E0, hdZ_E]; rfl
      have e4 : hdZ p E0 ++ p.pl = (hdZ p E0 ++ p.pl.extract 0 m) ++ p.pl.extract m p.pl.size := by
        rw [ByteArray.append_assoc, ext_all p.pl m (by omega)]
      have e5 : (hdZ p E0 ++ p.pl.extract 0 m).size = n := by rw [ByteArray.size_append, ByteArray.size_extract]; omega
      rw [e3, e1, e4]
      have := ext_head2 (hdZ p E0 ++ p.pl.extract 0 m) (p.pl.extract m p.pl.size)
      rwa [e5] at this
    rw [hm, e2]
    refine prR_txP ⟨hr.kd, hr.sq, hr.t, hr.ss, hr.pf, hr.cs⟩ ⟨hc.kd, hc.pd, hc.cs, hc.dt, hc.ex, ?_⟩
    have := hc.len
    unfold lenM at this ⊢
    dsimp only
    have hx : (p.pl.extract 0 m).size ≤ p.pl.size := by rw [ByteArray.size_extract]; omega
    omega
theorem csN_len16 (s : ByteArray) : (prR s).1.cs.length ≤ 15 := by
  unfold prR
  split
  · exact Nat.zero_le _
  · dsimp only
    split
    · exact Nat.zero_le _
    · unfold enR
      have h : ((tK 1 (s, 0)).1 % 16).toNat ≤ 15 := by omega
      split
      · exact Nat.zero_le _
      · split
        · split
          · exact Nat.zero_le _
          · dsimp only; rw [csN_len]; exact h
        · dsimp only; rw [csN_len]; exact h
set_option maxHeartbeats 16000000 in
theorem rtpCut_fn (mrk : Bool) (kd sq t ss : Int) (ex : Bool) (pf : Int) (dt0 pl0 : ByteArray) (pd0 : Int) (ao0 : Option Addr) (n c : Nat) (z : Nat → Int) (R : List Ro) (k : Int) (hkb : -9223372036854775808 ≤ k ∧ k ≤ 9223372036854775807) (hnc : n ≤ c) (hc : c ≤ 9223372036854775807) (hA : 0 < n → ∃ b o, ao0 = some ⟨b, o, none⟩ ∧ ⟨b, o, 1, kseg .u32 z n⟩ ∈ R) (hz : ∀ i, i < n → 0 ≤ z i ∧ z i ≤ 4294967295)
    (g1 : 0 ≤ kd ∧ kd ≤ 255) (g2 : 0 ≤ sq ∧ sq ≤ 65535) (g3 : 0 ≤ t ∧ t ≤ 4294967295) (g4 : 0 ≤ ss ∧ ss ≤ 4294967295) (g5 : 0 ≤ pf ∧ pf ≤ 65535) :
    Fn Try.prog 9 #[.agg (rpR mrk kd sq t ss (.slice ao0 n c) ex pf dt0 pl0 pd0).toArray, .int .i64 k] [] R (fun v _ _ => v = .bool true) := by
  have hF := kFew mrk kd sq t ss ex pf dt0 pl0 pd0 ao0 n c z R hnc hc hA hz
  have hd := cutS_size dt0 60
  have hp := cutS_size pl0 1500
  generalize cutS dt0 60 = dt at hF hd
  generalize cutS pl0 1500 = pl at hF hp
  obtain ⟨pd, hpd⟩ : ∃ pd, min (max pd0 (-2)) 300 = pd := ⟨_, rfl⟩
  have hpd2 : -2 ≤ pd ∧ pd ≤ 300 := by omega
  rw [hpd] at hF
  clear hpd
  refine fn_intro Try.func9 rfl Try.ntmps9 rfl (fun E => ?_)
  (repeat (first | ((first | (apply wo_v; rfl) ); (· first | (apply pv_ev; rfl) | (apply g_load; first | (apply pv_lda; rfl; (· (repeat (first | apply sel_here ))); (· (repeat (first | apply Cut.here0 | apply Cut.here )))) ) )) | apply wo_nil | apply wc_seq | apply wc_region | (apply wo_box1; rfl; rfl; rfl; intro bx) | (apply wo_boxa; rfl; rfl; intro bx) ))
  (refine wo_call (hF) rfl (by (repeat (first | apply sub_nil )); done) (by first | exact fun _ h => h | (intro r hr; cases hr; done) | (simp; done) | exact fun _ h => List.mem_append_left _ h | (intro r hr; simp [hr]; done)) rfl ?_; rintro v L' R' ⟨ao, cs, rfl, rfl, hS, hl, hcs⟩ H' hH RR hR; simp only [List.cons_append, List.nil_append] at hH hR; subst hH; have hR := hR.symm; subst hR)
  generalize R' ++ R = RR at hS ⊢
  clear hF hA hz
  (repeat (first | ((first | (apply wo_v; rfl) ); (· first | (apply pv_ev; rfl) )) | apply wo_nil | apply wc_seq | apply wc_region | (apply wo_sta; rfl; rfl; rfl; rfl; (· (repeat (first | apply sel_here ))); (· (repeat (first | apply LayAt.nil | apply LayAt.here ))); rfl) ))
  have wC := gCheck mrk kd sq t ss cs.length ex pf dt pl pd ao c (by omega)
  have wT := lTold mrk kd sq t ss ex pf dt pl pd ao cs.length c
  by_cases hk : chkR kd cs.length ex pf dt pl pd = 0
  case neg =>
    generalize chkR kd cs.length ex pf dt pl pd = e at hk wC
    (refine wo_call (awake03) rfl (by (repeat (first | apply sub_nil )); done) (by first | exact fun _ h => h | (intro r hr; cases hr; done) | (simp; done) | exact fun _ h => List.mem_append_left _ h | (intro r hr; simp [hr]; done)) rfl ?_; rintro v L' R' ⟨rfl, rfl, rfl⟩ H' hH RR hR; simp only [List.cons_append, List.nil_append] at hH hR; subst hH; have hR := hR.symm; subst hR)
    (repeat (first | ((first | (apply wo_v; rfl) ); (· first | (apply pv_ev; rfl) | (apply g_load; first | (apply pv_lda; rfl; (· (repeat (first | apply sel_here ))); (· (repeat (first | apply Cut.here0 | apply Cut.here )))) ) | (apply g_un; first | (apply pv_not_t; rfl) ) )) | (apply wo_run; rfl; rfl) ))
    (refine wo_call (wC) rfl (by (repeat (first | apply sub_nil )); done) (by first | exact fun _ h => h | (intro r hr; cases hr; done) | (simp; done) | exact fun _ h => List.mem_append_left _ h | (intro r hr; simp [hr]; done)) rfl ?_; rintro v L' R' ⟨rfl, rfl, rfl⟩ H' hH RR hR; simp only [List.cons_append, List.nil_append] at hH hR; subst hH; have hR := hR.symm; subst hR)
    (repeat (first | ((first | (apply wo_v; rfl) ); (· first | (apply pv_ev; rfl) | (apply g_pick; first | (apply pv_pick_t; rfl; rfl) | (apply pv_pick_f; rfl; rfl)) )) | apply wo_nil | apply wc_seq | apply wc_region | (apply wc_true; rfl) | (apply wc_false; rfl) | (apply a_dec_t; rfl; (· first | assumption | omega)) | (apply wo_run; rfl; rfl) ))
    (refine wo_call (awake03) rfl (by (repeat (first | apply sub_nil )); done) (by first | exact fun _ h => h | (intro r hr; cases hr; done) | (simp; done) | exact fun _ h => List.mem_append_left _ h | (intro r hr; simp [hr]; done)) rfl ?_; rintro v L' R' ⟨rfl, rfl, rfl⟩ H' hH RR hR; simp only [List.cons_append, List.nil_append] at hH hR; subst hH; have hR := hR.symm; subst hR)
    (repeat (first | ((first | (apply wo_v; rfl) ); (· first | (apply pv_ev; rfl) )) | apply wo_nil | apply wc_ret ))
    exact ret1 rfl rfl (by simp) ((by (repeat (first | apply sub_nil )); done) : List.Perm _ ([] ++ _)) (by first | exact fun _ h => h | (intro r hr; cases hr; done) | (simp; done) | exact fun _ h => List.mem_append_left _ h | (intro r hr; simp [hr]; done))
  have hck : Ck ⟨mrk, kd, sq, t, ss, cs, ex, pf, dt, pl, pd⟩ := ck_iff.1 hk
  have hx := prR_prefix (p := ⟨mrk, kd, sq, t, ss, cs, ex, pf, dt, pl, pd⟩) ⟨g1, g2, g3, g4, g5, hcs⟩ hck
  have hxs := txP_size hck
  have hhd := hdZ_lenM ⟨mrk, kd, sq, t, ss, cs, ex, pf, dt, pl, pd⟩ hck.pd.1
  have k1 := hck.kd
  have k2 := hck.pd
  have k3 := hck.cs
  have k4 := hck.len
  rw [hk] at wC
  have wX := gText mrk kd sq t ss cs ex pf dt pl pd ao cs.length c RR hS k3 (by omega) (by omega) k2 ⟨g1.1, k1⟩ g2 g3 g4 g5 hcs
  unfold txP at hx hxs
  dsimp only at hx hxs k1 k2 k3 k4 hhd
  rw [← hxs] at k4 hhd
  generalize txR mrk kd sq t ss cs ex pf dt pl pd = x at hx hxs wX k4 hhd
  generalize (hdZ ⟨mrk, kd, sq, t, ss, cs, ex, pf, dt, pl, pd⟩ E0).size = hd at hx hhd
  have b1 := Int.tmod_lt_of_pos k (b := (x.size : Int) + 1) (by omega)
  have b2 := Int.lt_tmod_of_pos k (b := (x.size : Int) + 1) (by omega)
  (refine wo_call (awake03) rfl (by (repeat (first | apply sub_nil )); done) (by first | exact fun _ h => h | (intro r hr; cases hr; done) | (simp; done) | exact fun _ h => List.mem_append_left _ h | (intro r hr; simp [hr]; done)) rfl ?_; rintro v L' R' ⟨rfl, rfl, rfl⟩ H' hH RR hR; simp only [List.cons_append, List.nil_append] at hH hR; subst hH; have hR := hR.symm; subst hR)
  (repeat (first | ((first | (apply wo_v; rfl) ); (· first | (apply pv_ev; rfl) | (apply g_load; first | (apply pv_lda; rfl; (· (repeat (first | apply sel_here ))); (· (repeat (first | apply Cut.here0 | apply Cut.here )))) ) | (apply g_un; first | (apply pv_not_t; rfl) ) )) | (apply wo_run; rfl; rfl) ))
  (refine wo_call (wC) rfl (by (repeat (first | apply sub_nil )); done) (by first | exact fun _ h => h | (intro r hr; cases hr; done) | (simp; done) | exact fun _ h => List.mem_append_left _ h | (intro r hr; simp [hr]; done)) rfl ?_; rintro v L' R' ⟨rfl, rfl, rfl⟩ H' hH RR hR; simp only [List.cons_append, List.nil_append] at hH hR; subst hH; have hR := hR.symm; subst hR)
  (repeat (first | ((first | (apply wo_v; rfl) ); (· first | (apply pv_ev; rfl) | (apply g_load; first | (apply pv_lda; rfl; (· (repeat (first | apply sel_here ))); (· (repeat (first | apply Cut.here0 | apply Cut.here )))) ) | (apply g_pick; first | (apply pv_pick_t; rfl; rfl) | (apply pv_pick_f; rfl; rfl)) )) | apply wo_nil | apply wc_seq | apply wc_region | apply wc_skip | (apply wc_true; rfl) | (apply wc_false; rfl) | (apply wo_run; rfl; rfl) ))
  (refine wo_call (wX) rfl (by (repeat (first | apply sub_nil )); done) (by first | exact fun _ h => h | (intro r hr; cases hr; done) | (simp; done) | exact fun _ h => List.mem_append_left _ h | (intro r hr; simp [hr]; done)) rfl ?_; rintro v L' R' ⟨rfl, rfl, rfl⟩ H' hH RR hR; simp only [List.cons_append, List.nil_append] at hH hR; subst hH; have hR := hR.symm; subst hR)
  (repeat (first | ((first | (apply wo_v; rfl) ); (· first | (apply pv_ev; rfl) | (apply pv_fld; rfl) | (apply g_load; first | (apply pv_ld; rfl; (· (repeat (first | apply sel_here ))); rfl) ) | (apply g_bin; first | (apply a_add; rfl; rfl; infer_instance; omega) | (apply a_sub; rfl; rfl; infer_instance; omega) | (apply pv_rem; rfl; rfl; omega) | (apply pv_rem_t; rfl; rfl; omega) ) | (apply g_bi; first | (apply pv_len_str; rfl) ) | (apply pv_cs_hi; rfl; rfl; omega) )) | apply wo_nil | apply wc_seq | apply wc_region ))
  obtain ⟨m, hm⟩ : ∃ m : Nat, (k.tmod (↑x.size + 1) + ↑x.size + 1) % (↑x.size + 1) = (m : Int) := ⟨((k.tmod (↑x.size + 1) + ↑x.size + 1) % (↑x.size + 1)).toNat, by have := Int.emod_nonneg (k.tmod (↑x.size + 1) + ↑x.size + 1) (b := (x.size : Int) + 1) (by omega); omega⟩
  have hmx : m ≤ x.size := by
    have := Int.emod_lt_of_pos (k.tmod (↑x.size + 1) + ↑x.size + 1) (b := (x.size : Int) + 1) (by omega)
    omega
  rw [hm]
  clear hm b1 b2
  have hxm : (x.extract 0 m).size ≤ 100000 := by rw [ByteArray.size_extract]; omega
  have wP := pParse (x.extract 0 m) hxm
  by_cases c1 : m < hd
  · rw [(hx m hmx).1 c1] at wP
    unfold Rp0 at wP
    dsimp only [List.length_nil] at wP
    have wS := fun (ao2 : Option Addr) (c2 : Nat) => sameSR false 0 0 0 0 [] false 0 ByteArray.empty ByteArray.empty 0 ao2 none 0 0 c2 0 RR (by decide) (SQ.nil _ _ _ _) (SQ.nil _ _ _ _)
    (repeat (first | ((first | (apply wo_v; rfl) ); (· first | (apply pv_ev; rfl) | (apply pv_cs_hi; rfl; rfl; omega) )) ))
    (refine wo_call (wP) rfl (by (repeat (first | apply sub_nil )); done) (by first | exact fun _ h => h | (intro r hr; cases hr; done) | (simp; done) | exact fun _ h => List.mem_append_left _ h | (intro r hr; simp [hr]; done)) rfl ?_; rintro v L' R' ⟨ao2, c2, rfl, rfl, rfl⟩ H' hH RR hR; simp only [List.cons_append, List.nil_append] at hH hR; subst hH; have hR := hR.symm; subst hR)
    (repeat (first | ((first | (apply wo_v; rfl) ); (· first | (apply pv_ev; rfl) | (apply g_load; first | (apply pv_lda; rfl; (· (repeat (first | apply sel_here ))); (· (repeat (first | apply Cut.here0 | apply Cut.here )))) ) | (apply g_build; apply pv_build; (· (repeat (first | apply Bld.nil )))) )) | apply wo_nil | apply wc_seq | apply wc_region | (apply wc_true; rfl) | (apply wc_false; rfl) | (apply a_dec_t; rfl; (· first | assumption | omega)) | (apply wo_run; rfl; rfl) | (apply wo_alloc; rfl; intro bx) | (apply wo_sta; rfl; rfl; rfl; rfl; (· (repeat (first | apply sel_here ))); (· (repeat (first | apply LayAt.nil | apply LayAt.here ))); rfl) ))
    (refine wo_call (wS ao2 c2) rfl (by (repeat (first | apply sub_nil )); done) (by first | exact fun _ h => h | (intro r hr; cases hr; done) | (simp; done) | exact fun _ h => List.mem_append_left _ h | (intro r hr; simp [hr]; done)) rfl ?_; rintro v L' R' ⟨rfl, rfl, rfl⟩ H' hH RR hR; simp only [List.cons_append, List.nil_append] at hH hR; subst hH; have hR := hR.symm; subst hR)
    (repeat (first | ((first | (apply wo_v; rfl) ); (· first | (apply pv_ev; rfl) | (apply g_pick; first | (apply pv_pick_t; rfl; rfl) ) )) | apply wo_nil | apply wc_ret | (apply wo_run; rfl; rfl) ))
    exact ret1 rfl rfl (by simp) ((by (repeat (first | apply sub_nil )); done) : List.Perm _ ([] ++ _)) (by first | exact fun _ h => h | (intro r hr; cases hr; done) | (simp; done) | exact fun _ h => List.mem_append_left _ h | (intro r hr; simp [hr]; done))
  by_cases c2 : pd = 0
  · rw [(hx m hmx).2 c1 c2] at wP
    dsimp only at wP
    have e1 : ((m : Int) - ((x.size : Int) - (pl.size : Int) - pd)).toNat = m - hd := by omega
    have hmd : (m : Int) - hd ≤ pl.size := by omega
    obtain ⟨pl2, hpl2⟩ : ∃ pl2, pl.extract 0 (m - hd) = pl2 := ⟨_, rfl⟩
    rw [hpl2] at wP
    (repeat (first | ((first | (apply wo_v; rfl) ); (· first | (apply pv_ev; rfl) | (apply pv_cs_hi; rfl; rfl; omega) )) ))
    (refine wo_call (wP) rfl (by (repeat (first | apply sub_nil )); done) (by first | exact fun _ h => h | (intro r hr; cases hr; done) | (simp; done) | exact fun _ h => List.mem_append_left _ h | (intro r hr; simp [hr]; done)) rfl ?_; rintro v L' R' ⟨ao2, c2, rfl, rfl, rfl⟩ H' hH RR hR; simp only [List.cons_append, List.nil_append] at hH hR; subst hH; have hR := hR.symm; subst hR)
    (repeat (first | ((first | (apply wo_v; rfl) ); (· first | (apply pv_ev; rfl) | (apply pv_fld; rfl) | (apply g_load; first | (apply pv_ld; rfl; (· (repeat (first | apply sel_here | apply sel_there))); rfl) | (apply pv_lda; rfl; (· (repeat (first | apply sel_here | apply sel_there))); (· (repeat (first | apply Cut.here0 | apply Cut.here )))) ) )) | apply wo_nil | apply wc_seq | apply wc_region | apply wc_skip | (apply wc_true; rfl) | (apply wc_false; rfl) | (apply a_dec_t; rfl; (· first | assumption | omega)) | (apply a_dec_f; rfl; (· first | assumption | omega)) | (apply wo_alloc; rfl; intro bx) | (apply wo_sta; rfl; rfl; rfl; rfl; (· (repeat (first | apply sel_here ))); (· (repeat (first | apply LayAt.nil | apply LayAt.here ))); rfl) ))
    (refine wo_call (wT) rfl (by (repeat (first | apply sub_nil )); done) (by first | exact fun _ h => h | (intro r hr; cases hr; done) | (simp; done) | exact fun _ h => List.mem_append_left _ h | (intro r hr; simp [hr]; done)) rfl ?_; rintro v L' R' ⟨rfl, rfl, rfl⟩ H' hH RR hR; simp only [List.cons_append, List.nil_append] at hH hR; subst hH; have hR := hR.symm; subst hR)
    (repeat (first | ((first | (apply wo_v; rfl) ); (· first | (apply pv_ev; rfl) | (apply pv_fld; rfl) | (apply g_load; first | (apply pv_ld; rfl; (· (repeat (first | apply sel_here | apply sel_there))); rfl) | (apply pv_lda; rfl; (· (repeat (first | apply sel_here | apply sel_there))); (· (repeat (first | apply Cut.here0 | apply Cut.here )))) ) | (apply g_bin; first | (apply a_sub; rfl; rfl; infer_instance; omega) ) | (apply pv_cs_hi; rfl; rfl; omega) )) | apply wo_nil | apply wc_seq | apply wc_region | (apply wo_run; rfl; rfl) | (apply wo_st; rfl; rfl; rfl; (· (repeat (first | apply sel_here ))); (· (repeat (first | apply SetAt.here | apply SetAt.there))); rfl) | (apply wo_alloc; rfl; intro bx) | (apply wo_sta; rfl; rfl; rfl; rfl; (· (repeat (first | apply sel_here ))); (· (repeat (first | apply LayAt.nil | apply LayAt.here ))); rfl) ))
    rw [e1, hpl2]
    (repeat (first | ((first | (apply wo_v; rfl) ); (· first | (apply pv_ev; rfl) )) ))
    refine wo_still (ao := ao2) (c := c2) (by (repeat (first | apply sel_here | apply sel_there)); done) (fun R2 hS2 => ?_)
    have hS := hS.mono (R' := R2 ++ RR) (fun r hr => List.mem_append_right _ hr)
    have hS2 := hS2.sq
    generalize hRG : R2 ++ RR = RG at hS hS2 ⊢
    have wS := sameSR mrk kd sq t ss cs ex pf dt pl2 pd ao2 ao cs.length cs.length c2 c RG (by omega) hS2 hS
    (repeat (first | ((first | (apply wo_v; rfl) ); (· first | (apply pv_ev; rfl) )) ))
    (refine wo_call (wS) rfl (by (repeat (first | apply sub_nil )); done) (by first | exact fun _ h => h | (intro r hr; cases hr; done) | (simp; done) | exact fun _ h => List.mem_append_left _ h | (intro r hr; simp [hr]; done)) rfl ?_; rintro v L' R' ⟨rfl, rfl, rfl⟩ H' hH RR hR; simp only [List.cons_append, List.nil_append] at hH hR; subst hH; have hR := hR.symm; subst hR)
    (repeat (first | ((first | (apply wo_v; rfl) ); (· first | (apply pv_ev; rfl) | (apply g_pick; first | (apply pv_pick_t; rfl; rfl) ) )) | apply wo_nil | apply wc_ret | (apply wo_run; rfl; rfl) ))
    exact ret1 rfl rfl (by simp) ((by (repeat (first | apply sub_nil )); done) : List.Perm _ ([] ++ _)) (by first | exact fun _ h => h | (intro r hr; cases hr; done) | (simp; done) | exact fun _ h => List.mem_append_left _ h | (intro r hr; simp [hr]; done))
  · generalize prR (x.extract 0 m) = y at wP
    obtain ⟨⟨a1, a2, a3, a4, a5, a6, a7, a8, a9, a10, a11⟩, a12⟩ := y
    dsimp only at wP
    (repeat (first | ((first | (apply wo_v; rfl) ); (· first | (apply pv_ev; rfl) | (apply pv_cs_hi; rfl; rfl; omega) )) ))
    (refine wo_call (wP) rfl (by (repeat (first | apply sub_nil )); done) (by first | exact fun _ h => h | (intro r hr; cases hr; done) | (simp; done) | exact fun _ h => List.mem_append_left _ h | (intro r hr; simp [hr]; done)) rfl ?_; rintro v L' R' ⟨ao2, c2, rfl, rfl, rfl⟩ H' hH RR hR; simp only [List.cons_append, List.nil_append] at hH hR; subst hH; have hR := hR.symm; subst hR)
    (repeat (first | ((first | (apply wo_v; rfl) ); (· first | (apply pv_ev; rfl) | (apply pv_fld; rfl) | (apply g_load; first | (apply pv_ld; rfl; (· (repeat (first | apply sel_here | apply sel_there))); rfl) ) )) | apply wo_nil | apply wc_seq | apply wc_region | apply wc_skip | apply wc_ret | (apply wc_true; rfl) | (apply wc_false; rfl) | (apply a_dec_t; rfl; (· first | assumption | omega)) | (apply a_dec_f; rfl; (· first | assumption | omega)) | (apply wo_alloc; rfl; intro bx) | (apply wo_sta; rfl; rfl; rfl; rfl; (· (repeat (first | apply sel_here ))); (· (repeat (first | apply LayAt.nil | apply LayAt.here ))); rfl) ))
    exact ret1 rfl rfl (by simp) ((by (repeat (first | apply sub_nil )); done) : List.Perm _ ([] ++ _)) (by first | exact fun _ h => h | (intro r hr; cases hr; done) | (simp; done) | exact fun _ h => List.mem_append_left _ h | (intro r hr; simp [hr]; done))
theorem rtpCut_walk {w : World} (row : List Value) (R : List Ro) (hR : ∀ r ∈ R, r.sat w) (h : FV1s R pkFd row) (k : Int) (hk : -9223372036854775808 ≤ k ∧ k ≤ 9223372036854775807) :
    Calls Try.prog 9 #[.agg row.toArray, .int .i64 k] w fun e w' => e = .returned (.bool true) ∧ Below w.heap.size w w' := by
  obtain ⟨mrk, kd, sq, t, ss, A, n, c, z, ex, pf, dt, pl, pd, rfl, g1, g2, g3, g4, g5, k1, k2, k3, k4⟩ := row_pk h
  exact walk_of (rtpCut_fn mrk kd sq t ss ex pf dt pl pd A n c z R k hk k1 (by unfold maxLen at k2; omega) k3 k4 g1 g2 g3 g4 g5) hR
/-- two packets that differ in their heads alone -/
theorem txP_two {p : Rp} (hr : okR p) (hc : Ck p) {sq t ss : Int} {mrk : Bool} (h2 : 0 ≤ sq ∧ sq ≤ 65535) (h3 : 0 ≤ t ∧ t ≤ 4294967295) (h4 : 0 ≤ ss ∧ ss ≤ 4294967295) :
    okR ⟨mrk, p.kd, sq, t, ss, p.cs, p.ex, p.pf, p.dt, p.pl, p.pd⟩ ∧ Ck ⟨mrk, p.kd, sq, t, ss, p.cs, p.ex, p.pf, p.dt, p.pl, p.pd⟩ ∧
    (txP ⟨mrk, p.kd, sq, t, ss, p.cs, p.ex, p.pf, p.dt, p.pl, p.pd⟩).size = (txP p).size ∧ 12 ≤ (txP p).size ∧
    (txP ⟨mrk, p.kd, sq, t, ss, p.cs, p.ex, p.pf, p.dt, p.pl, p.pd⟩).extract 12 (txP p).size = (txP p).extract 12 (txP p).size ∧
    (txP p = txP ⟨mrk, p.kd, sq, t, ss, p.cs, p.ex, p.pf, p.dt, p.pl, p.pd⟩ ↔ p.mrk = mrk ∧ p.sq = sq ∧ p.t = t ∧ p.ss = ss) := by
  have hr2 : okR ⟨mrk, p.kd, sq, t, ss, p.cs, p.ex, p.pf, p.dt, p.pl, p.pd⟩ := ⟨hr.kd, h2, h3, h4, hr.pf, hr.cs⟩
  have hc2 : Ck ⟨mrk, p.kd, sq, t, ss, p.cs, p.ex, p.pf, p.dt, p.pl, p.pd⟩ := ⟨hc.kd, hc.pd, hc.cs, hc.dt, hc.ex, hc.len⟩
  have z1 := txP_size hc
  have z2 := txP_size hc2
  dsimp only at z2
  have key : ∀ q : Rp, ∃ a : ByteArray, a.size = 12 ∧ txP q = a ++ (numsS 4 q.cs ++ (exT q.ex q.pf q.dt ++ (q.pl ++ tlR q.pd))) := fun q => by
    refine ⟨numS 1 (fA q.pd q.ex q.cs.length) ++ (numS 1 (bi q.mrk 128 + q.kd) ++ (numS 2 q.sq ++ (numS 4 q.t ++ numS 4 q.ss))), ?_, ?_⟩
    · simp only [ByteArray.size_append, numS_size]
    · rw [txP_hd]; simp only [hdZ, ByteArray.append_assoc]
  refine ⟨hr2, hc2, by omega, ?_, ?_, fun h => ?_, fun h => ?_⟩
  · obtain ⟨a, ha, h1⟩ := key p
    rw [h1, ByteArray.size_append]; omega
  · obtain ⟨a, ha, h1⟩ := key p
    obtain ⟨b, hb, h2⟩ := key ⟨mrk, p.kd, sq, t, ss, p.cs, p.ex, p.pf, p.dt, p.pl, p.pd⟩
    have e1 := ext_tail2 a (numsS 4 p.cs ++ (exT p.ex p.pf p.dt ++ (p.pl ++ tlR p.pd)))
    have e2 := ext_tail2 b (numsS 4 p.cs ++ (exT p.ex p.pf p.dt ++ (p.pl ++ tlR p.pd)))
    rw [← h1, ha] at e1
    dsimp only at h2
    rw [← h2, hb] at e2
    rw [e1, show (txP p).size = (txP ⟨mrk, p.kd, sq, t, ss, p.cs, p.ex, p.pf, p.dt, p.pl, p.pd⟩).size by omega, e2]
  · have e := prR_txP hr hc
    rw [h, prR_txP hr2 hc2] at e
    have e3 := congrArg (fun x => x.1) e
    dsimp only at e3
    exact ⟨(congrArg Rp.mrk e3).symm, (congrArg Rp.sq e3).symm, (congrArg Rp.t e3).symm, (congrArg Rp.ss e3).symm⟩
  · obtain ⟨e1, e2, e3, e4⟩ := h
    subst e1 e2 e3 e4
    rfl
set_option maxHeartbeats 32000000 in
theorem rtpFields_fn (mrk : Bool) (kd sq t ss : Int) (ex : Bool) (pf : Int) (dt0 pl0 : ByteArray) (pd0 : Int) (ao0 : Option Addr) (n c : Nat) (z : Nat → Int) (R : List Ro) (sq2 t2 ss2 : Int) (mrk2 : Bool) (f2 : 0 ≤ sq2 ∧ sq2 ≤ 65535) (f3 : 0 ≤ t2 ∧ t2 ≤ 4294967295) (f4 : 0 ≤ ss2 ∧ ss2 ≤ 4294967295) (hnc : n ≤ c) (hc : c ≤ 9223372036854775807) (hA : 0 < n → ∃ b o, ao0 = some ⟨b, o, none⟩ ∧ ⟨b, o, 1, kseg .u32 z n⟩ ∈ R) (hz : ∀ i, i < n → 0 ≤ z i ∧ z i ≤ 4294967295)
    (g1 : 0 ≤ kd ∧ kd ≤ 255) (g2 : 0 ≤ sq ∧ sq ≤ 65535) (g3 : 0 ≤ t ∧ t ≤ 4294967295) (g4 : 0 ≤ ss ∧ ss ≤ 4294967295) (g5 : 0 ≤ pf ∧ pf ≤ 65535) :
    Fn Try.prog 10 #[.agg (rpR mrk kd sq t ss (.slice ao0 n c) ex pf dt0 pl0 pd0).toArray, .int .u16 sq2, .int .u32 t2, .int .u32 ss2, .bool mrk2] [] R (fun v _ _ => v = .bool true) := by
  have hF := kFew mrk kd sq t ss ex pf dt0 pl0 pd0 ao0 n c z R hnc hc hA hz
  have hd := cutS_size dt0 60
  have hp := cutS_size pl0 1500
  generalize cutS dt0 60 = dt at hF hd
  generalize cutS pl0 1500 = pl at hF hp
  obtain ⟨pd, hpd⟩ : ∃ pd, min (max pd0 (-2)) 300 = pd := ⟨_, rfl⟩
  have hpd2 : -2 ≤ pd ∧ pd ≤ 300 := by omega
  rw [hpd] at hF
  clear hpd
  refine fn_intro Try.func10 rfl Try.ntmps10 rfl (fun E => ?_)
  (repeat (first | ((first | (apply wo_v; rfl) ); (· first | (apply pv_ev; rfl) | (apply g_load; first | (apply pv_lda; rfl; (· (repeat (first | apply sel_here ))); (· (repeat (first | apply Cut.here0 | apply Cut.here )))) ) )) | apply wo_nil | apply wc_seq | apply wc_region | (apply wo_box1; rfl; rfl; rfl; intro bx) | (apply wo_boxa; rfl; rfl; intro bx) ))
  (refine wo_call (hF) rfl (by (repeat (first | apply sub_nil )); done) (by first | exact fun _ h => h | (intro r hr; cases hr; done) | (simp; done) | exact fun _ h => List.mem_append_left _ h | (intro r hr; simp [hr]; done)) rfl ?_; rintro v L' R' ⟨ao, cs, rfl, rfl, hS, hl, hcs⟩ H' hH RR hR; simp only [List.cons_append, List.nil_append] at hH hR; subst hH; have hR := hR.symm; subst hR)
  generalize R' ++ R = RR at hS ⊢
  clear hF hA hz
  (repeat (first | ((first | (apply wo_v; rfl) ); (· first | (apply pv_ev; rfl) )) | apply wo_nil | apply wc_seq | apply wc_region | (apply wo_sta; rfl; rfl; rfl; rfl; (· (repeat (first | apply sel_here ))); (· (repeat (first | apply LayAt.nil | apply LayAt.here ))); rfl) ))
  have wC := gCheck mrk kd sq t ss cs.length ex pf dt pl pd ao c (by omega)
  by_cases hk : chkR kd cs.length ex pf dt pl pd = 0
  case neg =>
    generalize chkR kd cs.length ex pf dt pl pd = e at hk wC
    (refine wo_call (awake03) rfl (by (repeat (first | apply sub_nil )); done) (by first | exact fun _ h => h | (intro r hr; cases hr; done) | (simp; done) | exact fun _ h => List.mem_append_left _ h | (intro r hr; simp [hr]; done)) rfl ?_; rintro v L' R' ⟨rfl, rfl, rfl⟩ H' hH RR hR; simp only [List.cons_append, List.nil_append] at hH hR; subst hH; have hR := hR.symm; subst hR)
    (repeat (first | ((first | (apply wo_v; rfl) ); (· first | (apply pv_ev; rfl) | (apply g_load; first | (apply pv_lda; rfl; (· (repeat (first | apply sel_here ))); (· (repeat (first | apply Cut.here0 | apply Cut.here )))) ) | (apply g_un; first | (apply pv_not_t; rfl) ) )) | (apply wo_run; rfl; rfl) ))
    (refine wo_call (wC) rfl (by (repeat (first | apply sub_nil )); done) (by first | exact fun _ h => h | (intro r hr; cases hr; done) | (simp; done) | exact fun _ h => List.mem_append_left _ h | (intro r hr; simp [hr]; done)) rfl ?_; rintro v L' R' ⟨rfl, rfl, rfl⟩ H' hH RR hR; simp only [List.cons_append, List.nil_append] at hH hR; subst hH; have hR := hR.symm; subst hR)
    (repeat (first | ((first | (apply wo_v; rfl) ); (· first | (apply pv_ev; rfl) | (apply g_pick; first | (apply pv_pick_t; rfl; rfl) | (apply pv_pick_f; rfl; rfl)) )) | apply wo_nil | apply wc_seq | apply wc_region | (apply wc_true; rfl) | (apply wc_false; rfl) | (apply a_dec_t; rfl; (· first | assumption | omega)) | (apply wo_run; rfl; rfl) ))
    (refine wo_call (awake03) rfl (by (repeat (first | apply sub_nil )); done) (by first | exact fun _ h => h | (intro r hr; cases hr; done) | (simp; done) | exact fun _ h => List.mem_append_left _ h | (intro r hr; simp [hr]; done)) rfl ?_; rintro v L' R' ⟨rfl, rfl, rfl⟩ H' hH RR hR; simp only [List.cons_append, List.nil_append] at hH hR; subst hH; have hR := hR.symm; subst hR)
    (repeat (first | ((first | (apply wo_v; rfl) ); (· first | (apply pv_ev; rfl) )) | apply wo_nil | apply wc_ret ))
    exact ret1 rfl rfl (by simp) ((by (repeat (first | apply sub_nil )); done) : List.Perm _ ([] ++ _)) (by first | exact fun _ h => h | (intro r hr; cases hr; done) | (simp; done) | exact fun _ h => List.mem_append_left _ h | (intro r hr; simp [hr]; done))
  have hck : Ck ⟨mrk, kd, sq, t, ss, cs, ex, pf, dt, pl, pd⟩ := ck_iff.1 hk
  obtain ⟨hr2, hck2, q1, q2, q3, q4⟩ := txP_two (p := ⟨mrk, kd, sq, t, ss, cs, ex, pf, dt, pl, pd⟩) ⟨g1, g2, g3, g4, g5, hcs⟩ hck (mrk := mrk2) f2 f3 f4
  have hx := prR_txP hr2 hck2
  have hxs := txP_size hck
  have k1 := hck.kd
  have k2 := hck.pd
  have k3 := hck.cs
  have k4 := hck.len
  rw [hk] at wC
  have wX := gText mrk kd sq t ss cs ex pf dt pl pd ao cs.length c RR hS k3 (by omega) (by omega) k2 ⟨g1.1, k1⟩ g2 g3 g4 g5 hcs
  have wY := gText mrk2 kd sq2 t2 ss2 cs ex pf dt pl pd ao cs.length c RR hS k3 (by omega) (by omega) k2 ⟨g1.1, k1⟩ f2 f3 f4 g5 hcs
  unfold txP at hx hxs q1 q2 q3 q4
  dsimp only at hx hxs k1 k2 k3 k4 q1 q2 q3 q4
  rw [← hxs] at k4
  generalize txR mrk kd sq t ss cs ex pf dt pl pd = x at hxs wX k4 q1 q2 q3 q4
  generalize txR mrk2 kd sq2 t2 ss2 cs ex pf dt pl pd = y at hx wY q1 q3 q4
  have wP := pParse y (by omega)
  rw [hx] at wP
  dsimp only at wP
  (refine wo_call (awake03) rfl (by (repeat (first | apply sub_nil )); done) (by first | exact fun _ h => h | (intro r hr; cases hr; done) | (simp; done) | exact fun _ h => List.mem_append_left _ h | (intro r hr; simp [hr]; done)) rfl ?_; rintro v L' R' ⟨rfl, rfl, rfl⟩ H' hH RR hR; simp only [List.cons_append, List.nil_append] at hH hR; subst hH; have hR := hR.symm; subst hR)
  (repeat (first | ((first | (apply wo_v; rfl) ); (· first | (apply pv_ev; rfl) | (apply g_load; first | (apply pv_lda; rfl; (· (repeat (first | apply sel_here ))); (· (repeat (first | apply Cut.here0 | apply Cut.here )))) ) | (apply g_un; first | (apply pv_not_t; rfl) ) )) | (apply wo_run; rfl; rfl) ))
  (refine wo_call (wC) rfl (by (repeat (first | apply sub_nil )); done) (by first | exact fun _ h => h | (intro r hr; cases hr; done) | (simp; done) | exact fun _ h => List.mem_append_left _ h | (intro r hr; simp [hr]; done)) rfl ?_; rintro v L' R' ⟨rfl, rfl, rfl⟩ H' hH RR hR; simp only [List.cons_append, List.nil_append] at hH hR; subst hH; have hR := hR.symm; subst hR)
  (repeat (first | ((first | (apply wo_v; rfl) ); (· first | (apply pv_ev; rfl) | (apply pv_fld; rfl) | (apply g_load; first | (apply pv_lda; rfl; (· (repeat (first | apply sel_here ))); (· (repeat (first | apply Cut.here0 | apply Cut.here )))) ) | (apply g_pick; first | (apply pv_pick_t; rfl; rfl) | (apply pv_pick_f; rfl; rfl)) )) | apply wo_nil | apply wc_seq | apply wc_region | apply wc_skip | (apply wc_true; rfl) | (apply wc_false; rfl) | (apply wo_run; rfl; rfl) | (apply wo_st; rfl; rfl; rfl; (· (repeat (first | apply sel_here ))); (· (repeat (first | apply SetAt.here | apply SetAt.there))); rfl) | (apply wo_alloc; rfl; intro bx) | (apply wo_sta; rfl; rfl; rfl; rfl; (· (repeat (first | apply sel_here ))); (· (repeat (first | apply LayAt.nil | apply LayAt.here ))); rfl) ))
  (refine wc_quiet mixed (by kernel_rfl) ?_; (repeat (first | ((first | (apply hd_v; rfl) ); (· first | (apply pv_ev; rfl) | (apply g_load; first | (apply pv_lda; rfl; (· (repeat (first | apply sel_here | apply sel_there))); (· (repeat (first | apply Cut.here0 | apply Cut.here )))) ) )) )))
  (refine Hd.call rfl inferInstance (Fn.mono (wX) (fun _ _ _ h => ⟨h.1, h.2.1⟩)) rfl (by (repeat (first | apply sub_nil )); done) (by first | exact fun _ h => h | (intro r hr; cases hr; done) | (simp; done) | exact fun _ h => List.mem_append_left _ h | (intro r hr; simp [hr]; done)) rfl ?_; (repeat (first | ((first | (apply hd_v; rfl) ); (· first | (apply pv_ev; rfl) | (apply g_load; first | (apply pv_lda; rfl; (· (repeat (first | apply sel_here ))); (· (repeat (first | apply Cut.here0 | apply Cut.here )))) ) )) )))
  (refine Hd.call rfl inferInstance (Fn.mono (wY) (fun _ _ _ h => ⟨h.1, h.2.1⟩)) rfl (by (repeat (first | apply sub_nil )); done) (by first | exact fun _ h => h | (intro r hr; cases hr; done) | (simp; done) | exact fun _ h => List.mem_append_left _ h | (intro r hr; simp [hr]; done)) rfl ?_; (repeat (first | ((first | (apply wo_v; rfl) | (apply hd_v; rfl) ); (· first | (apply pv_ev; rfl) )) | apply Hd.nil | apply wc_seq | apply wc_region )))
  (repeat (first | ((first | (apply wo_v; rfl) ); (· first | (apply pv_ev; rfl) )) ))
  (refine wo_call (wP) rfl (by (repeat (first | apply sub_nil )); done) (by first | exact fun _ h => h | (intro r hr; cases hr; done) | (simp; done) | exact fun _ h => List.mem_append_left _ h | (intro r hr; simp [hr]; done)) rfl ?_; rintro v L' R' ⟨ao2, c2, rfl, rfl, rfl⟩ H' hH RR hR; simp only [List.cons_append, List.nil_append] at hH hR; subst hH; have hR := hR.symm; subst hR)
  (repeat (first | ((first | (apply wo_v; rfl) ); (· first | (apply pv_ev; rfl) | (apply pv_fld; rfl) | (apply g_load; first | (apply pv_ld; rfl; (· (repeat (first | apply sel_here | apply sel_there))); rfl) ) )) | apply wo_nil | apply wc_seq | apply wc_region | (apply wo_run; rfl; rfl) | (apply wo_skip; rfl; rfl; rfl; rfl) | (apply wo_skip_u; rfl; rfl; rfl) | (apply a_gt; rfl; rfl; (· first | assumption | omega)) | (apply a_gf; rfl; rfl; (· first | assumption | omega)) | (apply a_gt; rfl; rfl; (· first | (simp; done) | (simp; omega))) | (apply a_gf; rfl; rfl; (· first | (simp; done) | (simp; omega))) | (apply wo_alloc; rfl; intro bx) | (apply wo_sta; rfl; rfl; rfl; rfl; (· (repeat (first | apply sel_here ))); (· (repeat (first | apply LayAt.nil | apply LayAt.here ))); rfl) ))
  have hq : x.extract 12 x.size = y.extract 12 y.size := by rw [q1]; exact q3.symm
  by_cases d1 : sq = sq2
  case neg =>
    have hb : decide (x = y) = false := by rw [decide_eq_false_iff_not, q4]; rintro ⟨e1, e2, e3, e4⟩; exact d1 e2
    (repeat (first | ((first | (apply wo_v; rfl) ); (· first | (apply pv_ev; rfl) | (apply g_pick; first | (apply pv_pick_t; rfl; rfl) | (apply pv_pick_f; rfl; rfl)) )) | apply wo_nil | apply wc_seq | (apply wo_run; rfl; rfl) | (apply wo_skip; rfl; rfl; rfl; rfl) | (apply wo_skip_u; rfl; rfl; rfl) | (apply a_gt; rfl; rfl; (· first | assumption | omega)) | (apply a_gf; rfl; rfl; (· first | assumption | omega)) ))
    (refine wc_quiet mixed (by kernel_rfl) ?_; (repeat (first | ((first | (apply hd_v; rfl) ); (· first | (apply pv_ev; rfl) | (apply pv_fld; rfl) | (apply g_load; first | (apply pv_ld; rfl; (· (repeat (first | apply sel_here | apply sel_there))); rfl) ) | (apply g_pick; first | (apply pv_pick_t; rfl; rfl) ) | (apply g_bin; first | (apply pv_eql_b; rfl; rfl) | (apply pv_eql_s; rfl; rfl) ) | (apply g_bi; first | (apply pv_len_str; rfl) ) | (apply pv_cs_lo; rfl; rfl; omega) )) | apply Hd.nil | apply wc_ret | (apply Hd.run; rfl; rfl) | (apply Hd.skip; rfl; rfl; rfl; rfl) | (apply Hd.skipu; rfl; rfl; rfl) | (apply ah_gt; rfl; rfl; (· first | assumption | omega)) | (apply ah_gf; rfl; rfl; (· first | assumption | omega)) | (apply ah_gt; rfl; rfl; (· first | (simp; done) | (simp; omega))) )))
    exact ret1 rfl rfl (by simp) ((by (repeat (first | apply sub_nil )); done) : List.Perm _ ([] ++ _)) (by first | exact fun _ h => h | (intro r hr; cases hr; done) | (simp; done) | exact fun _ h => List.mem_append_left _ h | (intro r hr; simp [hr]; done))
  by_cases d2 : t = t2
  case neg =>
    have hb : decide (x = y) = false := by rw [decide_eq_false_iff_not, q4]; rintro ⟨e1, e2, e3, e4⟩; exact d2 e3
    (repeat (first | ((first | (apply wo_v; rfl) ); (· first | (apply pv_ev; rfl) | (apply pv_fld; rfl) | (apply g_load; first | (apply pv_ld; rfl; (· (repeat (first | apply sel_here | apply sel_there))); rfl) ) | (apply g_pick; first | (apply pv_pick_t; rfl; rfl) | (apply pv_pick_f; rfl; rfl)) )) | apply wo_nil | apply wc_seq | (apply wo_run; rfl; rfl) | (apply wo_skip; rfl; rfl; rfl; rfl) | (apply wo_skip_u; rfl; rfl; rfl) | (apply a_gt; rfl; rfl; (· first | assumption | omega)) | (apply a_gf; rfl; rfl; (· first | assumption | omega)) ))
    (refine wc_quiet mixed (by kernel_rfl) ?_; (repeat (first | ((first | (apply hd_v; rfl) ); (· first | (apply pv_ev; rfl) | (apply pv_fld; rfl) | (apply g_load; first | (apply pv_ld; rfl; (· (repeat (first | apply sel_here | apply sel_there))); rfl) ) | (apply g_pick; first | (apply pv_pick_t; rfl; rfl) ) | (apply g_bin; first | (apply pv_eql_b; rfl; rfl) | (apply pv_eql_s; rfl; rfl) ) | (apply g_bi; first | (apply pv_len_str; rfl) ) | (apply pv_cs_lo; rfl; rfl; omega) )) | apply Hd.nil | apply wc_ret | (apply Hd.run; rfl; rfl) | (apply Hd.skip; rfl; rfl; rfl; rfl) | (apply Hd.skipu; rfl; rfl; rfl) | (apply ah_gt; rfl; rfl; (· first | assumption | omega)) | (apply ah_gf; rfl; rfl; (· first | assumption | omega)) | (apply ah_gt; rfl; rfl; (· first | (simp; done) | (simp; omega))) )))
    exact ret1 rfl rfl (by simp) ((by (repeat (first | apply sub_nil )); done) : List.Perm _ ([] ++ _)) (by first | exact fun _ h => h | (intro r hr; cases hr; done) | (simp; done) | exact fun _ h => List.mem_append_left _ h | (intro r hr; simp [hr]; done))
  by_cases d3 : ss = ss2
  case neg =>
    have hb : decide (x = y) = false := by rw [decide_eq_false_iff_not, q4]; rintro ⟨e1, e2, e3, e4⟩; exact d3 e4
    (repeat (first | ((first | (apply wo_v; rfl) ); (· first | (apply pv_ev; rfl) | (apply pv_fld; rfl) | (apply g_load; first | (apply pv_ld; rfl; (· (repeat (first | apply sel_here | apply sel_there))); rfl) ) | (apply g_pick; first | (apply pv_pick_t; rfl; rfl) | (apply pv_pick_f; rfl; rfl)) )) | apply wo_nil | apply wc_seq | (apply wo_run; rfl; rfl) | (apply wo_skip; rfl; rfl; rfl; rfl) | (apply wo_skip_u; rfl; rfl; rfl) | (apply a_gt; rfl; rfl; (· first | assumption | omega)) | (apply a_gf; rfl; rfl; (· first | assumption | omega)) ))
    (refine wc_quiet mixed (by kernel_rfl) ?_; (repeat (first | ((first | (apply hd_v; rfl) ); (· first | (apply pv_ev; rfl) | (apply pv_fld; rfl) | (apply g_load; first | (apply pv_ld; rfl; (· (repeat (first | apply sel_here | apply sel_there))); rfl) ) | (apply g_pick; first | (apply pv_pick_t; rfl; rfl) ) | (apply g_bin; first | (apply pv_eql_b; rfl; rfl) | (apply pv_eql_s; rfl; rfl) ) | (apply g_bi; first | (apply pv_len_str; rfl) ) | (apply pv_cs_lo; rfl; rfl; omega) )) | apply Hd.nil | apply wc_ret | (apply Hd.run; rfl; rfl) | (apply Hd.skip; rfl; rfl; rfl; rfl) | (apply Hd.skipu; rfl; rfl; rfl) | (apply ah_gt; rfl; rfl; (· first | assumption | omega)) | (apply ah_gf; rfl; rfl; (· first | assumption | omega)) | (apply ah_gt; rfl; rfl; (· first | (simp; done) | (simp; omega))) )))
    exact ret1 rfl rfl (by simp) ((by (repeat (first | apply sub_nil )); done) : List.Perm _ ([] ++ _)) (by first | exact fun _ h => h | (intro r hr; cases hr; done) | (simp; done) | exact fun _ h => List.mem_append_left _ h | (intro r hr; simp [hr]; done))
  by_cases d4 : mrk = mrk2
  case neg =>
    have hb : decide (x = y) = decide (mrk = mrk2) := by rw [decide_eq_false d4, decide_eq_false_iff_not, q4]; rintro ⟨e1, e2, e3, e4⟩; exact d4 e1
    (repeat (first | ((first | (apply wo_v; rfl) ); (· first | (apply pv_ev; rfl) | (apply pv_fld; rfl) | (apply g_load; first | (apply pv_ld; rfl; (· (repeat (first | apply sel_here | apply sel_there))); rfl) ) | (apply g_pick; first | (apply pv_pick_t; rfl; rfl) ) | (apply g_bin; first | (apply pv_eql_b; rfl; rfl) ) )) | apply wo_nil | apply wc_seq | (apply wo_run; rfl; rfl) | (apply wo_skip; rfl; rfl; rfl; rfl) | (apply wo_skip_u; rfl; rfl; rfl) | (apply a_gt; rfl; rfl; (· first | assumption | omega)) ))
    (refine wc_quiet mixed (by kernel_rfl) ?_; (repeat (first | ((first | (apply hd_v; rfl) ); (· first | (apply pv_ev; rfl) | (apply pv_fld; rfl) | (apply g_load; first | (apply pv_ld; rfl; (· (repeat (first | apply sel_here | apply sel_there))); rfl) ) | (apply g_pick; first | (apply pv_pick_t; rfl; rfl) ) | (apply g_bin; first | (apply pv_eql_b; rfl; rfl) | (apply pv_eql_s; rfl; rfl) ) | (apply g_bi; first | (apply pv_len_str; rfl) ) | (apply pv_cs_lo; rfl; rfl; omega) )) | apply Hd.nil | apply wc_ret | (apply Hd.run; rfl; rfl) | (apply Hd.skip; rfl; rfl; rfl; rfl) | (apply Hd.skipu; rfl; rfl; rfl) | (apply ah_gt; rfl; rfl; (· first | assumption | omega)) | (apply ah_gf; rfl; rfl; (· first | assumption | omega)) | (apply ah_gt; rfl; rfl; (· first | (simp; done) | (simp; omega))) )))
    exact ret1 rfl rfl (by simp) ((by (repeat (first | apply sub_nil )); done) : List.Perm _ ([] ++ _)) (by first | exact fun _ h => h | (intro r hr; cases hr; done) | (simp; done) | exact fun _ h => List.mem_append_left _ h | (intro r hr; simp [hr]; done))
  have hb : decide (x = y) = decide (mrk = mrk2) := by rw [decide_eq_true d4, decide_eq_true_eq, q4]; exact ⟨d4, d1, d2, d3⟩
  (repeat (first | ((first | (apply wo_v; rfl) ); (· first | (apply pv_ev; rfl) | (apply pv_fld; rfl) | (apply g_load; first | (apply pv_ld; rfl; (· (repeat (first | apply sel_here | apply sel_there))); rfl) ) | (apply g_pick; first | (apply pv_pick_t; rfl; rfl) ) | (apply g_bin; first | (apply pv_eql_b; rfl; rfl) ) )) | apply wo_nil | apply wc_seq | (apply wo_run; rfl; rfl) | (apply wo_skip; rfl; rfl; rfl; rfl) | (apply wo_skip_u; rfl; rfl; rfl) | (apply a_gt; rfl; rfl; (· first | assumption | omega)) ))
  (refine wc_quiet mixed (by kernel_rfl) ?_; (repeat (first | ((first | (apply hd_v; rfl) ); (· first | (apply pv_ev; rfl) | (apply pv_fld; rfl) | (apply g_load; first | (apply pv_ld; rfl; (· (repeat (first | apply sel_here | apply sel_there))); rfl) ) | (apply g_pick; first | (apply pv_pick_t; rfl; rfl) ) | (apply g_bin; first | (apply pv_eql_b; rfl; rfl) | (apply pv_eql_s; rfl; rfl) ) | (apply g_bi; first | (apply pv_len_str; rfl) ) | (apply pv_cs_lo; rfl; rfl; omega) )) | apply Hd.nil | apply wc_ret | (apply Hd.run; rfl; rfl) | (apply Hd.skip; rfl; rfl; rfl; rfl) | (apply Hd.skipu; rfl; rfl; rfl) | (apply ah_gt; rfl; rfl; (· first | assumption | omega)) | (apply ah_gf; rfl; rfl; (· first | assumption | omega)) | (apply ah_gt; rfl; rfl; (· first | (simp; done) | (simp; omega))) )))
  exact ret1 rfl rfl (by simp) ((by (repeat (first | apply sub_nil )); done) : List.Perm _ ([] ++ _)) (by first | exact fun _ h => h | (intro r hr; cases hr; done) | (simp; done) | exact fun _ h => List.mem_append_left _ h | (intro r hr; simp [hr]; done))
theorem rtpFields_walk {w : World} (row : List Value) (R : List Ro) (hR : ∀ r ∈ R, r.sat w) (h : FV1s R pkFd row) (a : Int) (ha : 0 ≤ a ∧ a ≤ 65535) (b : Int) (hb : 0 ≤ b ∧ b ≤ 4294967295) (d : Int) (hd : 0 ≤ d ∧ d ≤ 4294967295) (m : Bool) :
    Calls Try.prog 10 #[.agg row.toArray, .int .u16 a, .int .u32 b, .int .u32 d, .bool m] w fun e w' => e = .returned (.bool true) ∧ Below w.heap.size w w' := by
  obtain ⟨mrk, kd, sq, t, ss, A, n, c, z, ex, pf, dt, pl, pd, rfl, g1, g2, g3, g4, g5, k1, k2, k3, k4⟩ := row_pk h
  exact walk_of (rtpFields_fn mrk kd sq t ss ex pf dt pl pd A n c z R a b d m ha hb hd k1 (by unfold maxLen at k2; omega) k3 k4 g1 g2 g3 g4 g5) hR
end Go.Proofs.Ytabdikemijihjaa
