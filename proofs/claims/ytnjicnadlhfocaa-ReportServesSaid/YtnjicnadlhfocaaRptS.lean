/-
  ReportServes: what is retransmitted.
-/
import Derived.Test.YtnjicnadlhfocaaServe
import Derived.Test.YtnjicnadlhfocaaCut
import Derived.Test.YtnjicnadlhfocaaDeep
import Derived.Test.YtnjicnadlhfocaaRptA
namespace Go.Proofs.Ytnjicnadlhfocaa
set_option linter.unusedSimpArgs false
set_option linter.unusedVariables false
open Go.RowKit
attribute [local irreducible] Pv WO WC Fn
set_option maxRecDepth 100000
theorem strs_at {l : List ByteArray} {i : Nat} {s : ByteArray} (h : l[i]? = some s) : (strs l)[i]? = some [.string s] := by simp [strs, h]
/-- one request: what is asked, cut to twelve -/
theorem row_sq {R : List Ro} {row : List Value} (h : FV1s R [.sl [.int .u16]] row) : ∃ A n c l, row = [.slice A n c] ∧ n ≤ c ∧ c ≤ 9223372036854775807 ∧ SQ R 1 A n c (c16 l) := by
  obtain ⟨hl, h⟩ := h
  obtain ⟨v, e, A, n, c, V, rfl, h1, h2, h3, h4⟩ := h 0 _ rfl
  refine ⟨A, n, c, (List.range n).map fun i => match V i 0 with | .int _ z => z | _ => 0, ?_, h1, by unfold maxLen at h2; omega, ⟨by simp [c16], fun h0 => ?_⟩⟩
  · match row, hl with
    | [w], _ => simp at e; rw [e]
  · obtain ⟨b, o, hA, hm⟩ := h4 h0
    refine ⟨b, o, hA, ?_⟩
    have e : rowsOf [.int .u16] V n = c16 ((List.range n).map fun i => match V i 0 with | .int _ z => z | _ => 0) := by
      unfold rowsOf c16
      rw [List.map_map]
      refine List.map_congr_left fun i hi => ?_
      obtain ⟨z0, hz0, _⟩ := h3 i 0 _ (List.mem_range.1 hi) rfl
      simp [hz0]
    rw [← e]; exact hm
set_option maxHeartbeats 64000000 in
theorem reportServes_fn (s0 m0 : Int) (T : Option Addr) (nt ct : Nat) (tx : Nat → ByteArray) (A : Option Addr) (m c0 : Nat) (rows : List (List Value)) (bt : Int) (R : List Ro) (hnt : nt ≤ 9223372036854775807) (hT : 0 < nt → ∃ b o, T = some ⟨b, o, none⟩ ∧ ⟨b, o, 1, sseg tx nt⟩ ∈ R) (h : Deep R [.sl [.int .u16]] A m c0 rows) (hbt : -9223372036854775808 ≤ bt ∧ bt ≤ 9223372036854775807) :
    Fn Try.prog 6 #[.int .i64 s0, .int .i64 m0, .slice T nt ct, .slice A m c0, .int .i64 bt] [] R (fun v _ _ => v = .bool true) := by
  obtain ⟨d1, d2, d3, d4, d5⟩ := h
  have hmx : m ≤ 9223372036854775807 := by unfold maxLen at d2; omega
  have q1 := and_15 s0
  have q2 : bits .and .i64 m0 3 = m0 % 4 := and_ones m0 2 (by omega)
  obtain ⟨k, hk⟩ : ∃ k : Nat, 1 + s0 % 16 = (k : Int) := ⟨(1 + s0 % 16).toNat, by omega⟩
  have hk1 : 1 ≤ k ∧ k ≤ 16 := by omega
  obtain ⟨mt, hmt⟩ : ∃ mt, bits .and .i64 m0 3 = mt := ⟨_, rfl⟩
  have hb : 0 ≤ mt ∧ mt ≤ 3 := by omega
  rw [← q1] at hk
  clear q1 q2
  refine fn_intro Try.func6 rfl Try.ntmps6 rfl (fun E => ?_)
  (repeat (first | ((first | (apply wo_v; rfl) ); (· first | (apply pv_ev; rfl) )) | apply wo_nil | apply wc_seq | apply wc_region ))
  (refine wo_call (awake17) rfl (by (repeat (first | apply sub_nil )); done) (by first | exact fun _ h => h | (intro r hr; cases hr; done) | (simp; done) | exact fun _ h => List.mem_append_left _ h | (intro r hr; simp [hr]; done)) rfl ?_; rintro v L' R' ⟨rfl, rfl, rfl⟩ H' hH RR hR; simp only [List.cons_append, List.nil_append] at hH hR; subst hH; have hR := hR.symm; subst hR)
  (repeat (first | ((first | (apply wo_v; rfl) ); (· first | (apply pv_ev; rfl) | (apply g_bin; first | (apply a_add; rfl; rfl; infer_instance; omega) | (apply pv_and; rfl; rfl) ) | (apply g_un; first | (apply pv_not_t; rfl) ) )) | apply wo_nil | apply wc_seq | apply wc_region | apply wc_skip | (apply wc_true; rfl) | (apply wc_false; rfl) ))
  rw [hk, hmt]
  clear hk hmt
  (repeat (first | ((first | (apply wo_v; rfl) ); (· first | (apply pv_ev; rfl) )) ))
  (refine wo_call (ringNew_ok k mt 3 (by omega) (by omega) (by omega)) rfl (by (repeat (first | apply sub_nil )); done) (by first | exact fun _ h => h | (intro r hr; cases hr; done) | (simp; done) | exact fun _ h => List.mem_append_left _ h | (intro r hr; simp [hr]; done)) rfl ?_; rintro v L' R' ⟨g, gb, rfl, rfl, rfl⟩ H' hH RR hR; simp only [List.cons_append, List.nil_append] at hH hR; subst hH; have hR := hR.symm; subst hR)
  (repeat (first | ((first | (apply wo_v; rfl) ); (· first | (apply pv_ev; rfl) )) | apply wo_nil | apply wc_seq | apply wc_region | apply wc_skip | (apply wc_true; rfl) | (apply wc_false; rfl) | (apply wo_bsl; (· (repeat (first | apply Rws'.nil ))); rfl; rfl; rfl; rfl; intro bx) ))
  refine wc_still (ao := some ⟨bx, 0, none⟩) (n := 0) (c := 0) (by (repeat (first | apply sel_here )); done) (fun R0 hS0 => ?_)
  have hR0 : ∀ r ∈ R, r ∈ R0 ++ R := fun r h => List.mem_append_right _ h
  have hL0 := Lay.new k
  generalize List.replicate k none = S0 at hL0 ⊢
  generalize R0 ++ R = RR at hS0 hR0 ⊢
  refine wc_join0 (fun st => ∃ (S : List (Option Pk)) (Q : List Pk) (ao : Option Addr) (n c put : Nat) (RR : List Ro), st = ⟨[(0, .int .i64 k), (1, .int .i64 mt), (3, .slice A m c0), (4, .int .i64 bt), (11, .pointer (some ⟨g, 0, none⟩)), (13, .slice ao n c)], rgH g gb k S put mt 3 0, RR⟩
      ∧ (∀ r ∈ R, r ∈ RR) ∧ SR RR 4 ao n c (qrs Q) ∧ Lay S put k Q ∧ QB Q 0 ∧ put ≤ 20) ?_ ?_
  · refine wc_block ?_
    refine wc_loop' (fun q st => ∃ (i : Nat) (S : List (Option Pk)) (Q : List Pk) (ao : Option Addr) (n c : Nat) (RR : List Ro), q = 21 - i ∧ st = ⟨[(0, .int .i64 k), (1, .int .i64 mt), (2, .slice T nt ct), (3, .slice A m c0), (4, .int .i64 bt), (11, .pointer (some ⟨g, 0, none⟩)), (13, .slice ao n c), (14, .int .i64 i)], rgH g gb k S i mt 3 0, RR⟩
      ∧ (∀ r ∈ R, r ∈ RR) ∧ SR RR 4 ao n c (qrs Q) ∧ Lay S i k Q ∧ QB Q 0 ∧ i ≤ 20 ∧ i ≤ nt)
      ⟨0, S0, [], _, _, _, RR, rfl, rfl, hR0, hS0, hL0, ⟨fun p hp => by cases hp⟩, by omega, by omega⟩ (wk_mk (by (repeat (first | apply wkf_nil | (apply wkf_cons; rfl))); done) (by (repeat (first | apply sub_nil )); done) (by first | exact fun _ h => h | (intro r hr; cases hr; done) | (simp; done) | exact fun _ h => List.mem_append_left _ h | (intro r hr; simp [hr]; done))) ?_
    clear hS0 hR0 hL0
    rintro q st ⟨i, S, Q, ao, n, c, RR, rfl, rfl, hRR, hS, hL, hB, hi1, hi2⟩
    have hq := hL.qlen
    by_cases hlt : i < nt ∧ i < 20
    · obtain ⟨h1, h2⟩ := hlt
      obtain ⟨b, o, rfl, hmem⟩ := hT (by omega)
      replace hmem : ⟨b, o, 1, sseg tx nt⟩ ∈ RR := hRR _ hmem
      have hr := sseg_at (S := tx) h1
      (repeat (first | ((first | (apply wo_v; rfl) ); (· first | (apply pv_ev; rfl) | (apply g_load; first | (apply pv_ld; rfl; (· (repeat (first | apply sel_there))); rfl) | (apply pv_ld_ownf; rfl; (· (repeat (first | fail ))); (· assumption); rfl) | (apply pv_ld_own1; rfl; (· (repeat (first | apply sel_there))); (· assumption)) | (apply pv_ld_rof; rfl; (· (first | assumption )); (· assumption); rfl) | (apply pv_ld_ro1; rfl; (· (first | assumption )); (· assumption)) ) | (apply g_pick; first | (apply pv_pick_t; rfl; rfl) ) | (apply g_bi; first | (apply pv_len_sl; rfl) ) | (apply g_idx; first | (apply pv_idx; rfl; rfl; omega) ) )) | apply wo_nil | apply wc_seq | apply wc_region | apply wc_block | apply wc_skip | (apply wc_true; rfl) | (apply wc_false; rfl) | (apply a_dec_t; rfl; (· first | assumption | omega)) | (apply wo_run; rfl; rfl) | (apply wo_skip; rfl; rfl; rfl; rfl) | (apply wo_skip_u; rfl; rfl; rfl) | (apply a_gt; rfl; rfl; (· first | assumption | omega)) ))
      (refine wo_call (lCut (tx i) 30) rfl (by (repeat (first | apply sub_nil )); done) (by first | exact fun _ h => h | (intro r hr; cases hr; done) | (simp; done) | exact fun _ h => List.mem_append_left _ h | (intro r hr; simp [hr]; done)) rfl ?_; rintro v L' R' ⟨rfl, rfl, rfl⟩ H' hH RR hR; simp only [List.cons_append, List.nil_append] at hH hR; subst hH; have hR := hR.symm; subst hR)
      generalize cutS (tx i) 30 = s2
      (repeat (first | ((first | (apply wo_v; rfl) ); (· first | (apply pv_ev; rfl) | (apply g_conv; first | (apply a_conv; rfl; infer_instance; infer_instance; infer_instance; omega) ) )) | apply wo_nil | apply wc_seq | apply wc_region ))
      (refine wo_call (ringPut g gb k S i mt 3 0 i s2 (by omega) hL.len (by omega)) rfl (by (repeat (first | apply sub_nil )); done) (by first | exact fun _ h => h | (intro r hr; cases hr; done) | (simp; done) | exact fun _ h => List.mem_append_left _ h | (intro r hr; simp [hr]; done)) rfl ?_; rintro v L' R' ⟨rfl, rfl, rfl⟩ H' hH RR hR; simp only [List.cons_append, List.nil_append] at hH hR; subst hH; have hR := hR.symm; subst hR)
      (repeat (first | ((first | (apply wo_v; rfl) ); (· first | (apply pv_ev; rfl) | (apply g_conv; first | (apply a_conv; rfl; infer_instance; infer_instance; infer_instance; omega) ) )) | apply wo_nil | apply wc_region ))
      (refine wo_call (refPut ao n c k Q i s2 RR hS (by omega) (by omega)) rfl (by (repeat (first | apply sub_nil )); done) (by first | exact fun _ h => h | (intro r hr; cases hr; done) | (simp; done) | exact fun _ h => List.mem_append_left _ h | (intro r hr; simp [hr]; done)) rfl ?_; rintro v L' R' ⟨ao2, n2', c2', rfl, rfl, hS2⟩ H' hH RR hR; simp only [List.cons_append, List.nil_append] at hH hR; subst hH; have hR := hR.symm; subst hR)
      (repeat (first | ((first | (apply wo_v; rfl) ); (· first | (apply pv_ev; rfl) | (apply g_bin; first | (apply a_add; rfl; rfl; infer_instance; omega) ) )) | apply wo_nil | apply wc_region ))
      exact loop_end ⟨i + 1, _, _, ao2, n2', c2', _, rfl, rfl, fun r h => List.mem_append_right _ (hRR r h), hS2.mono (fun _ h => List.mem_append_left _ h), hL.put (by omega) _, hB.put (by omega) k i s2, by omega, by omega⟩ (by omega) (wk_mk (by (repeat (first | apply wkf_nil | (apply wkf_cons; rfl))); done) (by (repeat (first | apply sub_nil )); done) (by first | exact fun _ h => h | (intro r hr; cases hr; done) | (simp; done) | exact fun _ h => List.mem_append_left _ h | (intro r hr; simp [hr]; done)))
    · have hor : ¬ i < nt ∨ (i < nt ∧ ¬ i < 20) := by omega
      rcases hor with h1 | ⟨h1, h2⟩
      all_goals
        (repeat (first | ((first | (apply wo_v; rfl) ); (· first | (apply pv_ev; rfl) | (apply g_pick; first | (apply pv_pick_t; rfl; rfl) | (apply pv_pick_f; rfl; rfl)) | (apply g_bi; first | (apply pv_len_sl; rfl) ) )) | apply wo_nil | apply wc_seq | apply wc_region | (apply wc_exit; rfl) | (apply wc_true; rfl) | (apply wc_false; rfl) | (apply a_dec_t; rfl; (· first | assumption | omega)) | (apply a_dec_f; rfl; (· first | assumption | omega)) | (apply wo_run; rfl; rfl) | (apply wo_skip; rfl; rfl; rfl; rfl) | (apply wo_skip_u; rfl; rfl; rfl) | (apply a_gt; rfl; rfl; (· first | assumption | omega)) | (apply a_gf; rfl; rfl; (· first | assumption | omega)) ))
        exact cut_end ⟨S, Q, ao, n, c, i, RR, rfl, hRR, hS, hL, hB, hi1⟩ (wk_mk (by (repeat (first | apply wkf_nil | (apply wkf_cons; rfl))); done) (by (repeat (first | apply sub_nil )); done) (by first | exact fun _ h => h | (intro r hr; cases hr; done) | (simp; done) | exact fun _ h => List.mem_append_left _ h | (intro r hr; simp [hr]; done)))
  clear hS0 hR0 hL0 hT
  rintro st ⟨S, Q, ao, n, c, put, RR, rfl, hRR, hS, hL, hB, hput⟩
  (repeat (first | ((first | (apply wo_v; rfl) ); (· first | (apply pv_ev; rfl) )) | apply wo_nil | apply wc_seq | apply wc_region ))
  refine wc_block ?_
  refine wc_loop' (fun q st => ∃ (i : Nat) (S : List (Option Pk)) (Q : List Pk) (ao : Option Addr) (n c : Nat) (sent : Int) (RR : List Ro), q = 9 - i ∧ st = ⟨[(1, .int .i64 mt), (3, .slice A m c0), (4, .int .i64 bt), (11, .pointer (some ⟨g, 0, none⟩)), (13, .slice ao n c), (16, .int .i64 i)], rgH g gb k S put mt 3 sent, RR⟩
      ∧ (∀ r ∈ R, r ∈ RR) ∧ SR RR 4 ao n c (qrs Q) ∧ Lay S put k Q ∧ QB Q (2 * i) ∧ 0 ≤ sent ∧ sent ≤ 12 * i ∧ i ≤ 8 ∧ i ≤ m)
      ⟨0, S, Q, ao, n, c, 0, RR, rfl, rfl, hRR, hS, hL, by simpa using hB, by omega, by omega, by omega, by omega⟩ (wk_mk (by (repeat (first | apply wkf_nil | (apply wkf_cons; rfl))); done) (by (repeat (first | apply sub_nil )); done) (by first | exact fun _ h => h | (intro r hr; cases hr; done) | (simp; done) | exact fun _ h => List.mem_append_left _ h | (intro r hr; simp [hr]; done))) ?_
  clear hS hL hB hRR
  rintro q st ⟨i, S, Q, ao, n, c, sent, RR, rfl, rfl, hRR, hS, hL, hB, hs1, hs2, hi1, hi2⟩
  have hq := hL.qlen
  by_cases hlt : i < m ∧ i < 8
  · obtain ⟨h1, h2⟩ := hlt
    obtain ⟨b, o, rfl, hmem⟩ := d5 (by omega)
    replace hmem : ⟨b, o, 1, rows⟩ ∈ RR := hRR _ hmem
    obtain ⟨row, hr⟩ : ∃ row, rows[i]? = some row := ⟨_, List.getElem?_eq_getElem (by omega)⟩
    obtain ⟨A1, n1, c1, l1, rfl, hn1c, hc1, hA1⟩ := row_sq (d4 row (List.mem_of_getElem? hr))
    replace hA1 := hA1.mono hRR
    have hnl : n1 = l1.length := by rw [← hA1.len, c16_len]
    clear d4
    (repeat (first | ((first | (apply wo_v; rfl) ); (· first | (apply pv_ev; rfl) | (apply g_load; first | (apply pv_ld; rfl; (· (repeat (first | apply sel_there))); rfl) | (apply pv_ld_ownf; rfl; (· (repeat (first | fail ))); (· assumption); rfl) | (apply pv_ld_own1; rfl; (· (repeat (first | apply sel_there))); (· assumption)) | (apply pv_ld_rof; rfl; (· (first | assumption )); (· assumption); rfl) | (apply pv_ld_ro1; rfl; (· (first | assumption )); (· assumption)) ) | (apply g_pick; first | (apply pv_pick_t; rfl; rfl) ) | (apply g_bi; first | (apply pv_len_sl; rfl) ) | (apply g_idx; first | (apply pv_idx; rfl; rfl; omega) ) )) | apply wo_nil | apply wc_seq | apply wc_region | apply wc_block | apply wc_skip | (apply wc_true; rfl) | (apply wc_false; rfl) | (apply a_dec_t; rfl; (· first | assumption | omega)) | (apply a_dec_f; rfl; (· first | assumption | omega)) | (apply a_dec_t; rfl; (· first | (simp; done) | (simp; omega))) | (apply a_dec_f; rfl; (· first | (simp; done) | (simp; omega))) | (apply wo_run; rfl; rfl) | (apply wo_skip; rfl; rfl; rfl; rfl) | (apply wo_skip_u; rfl; rfl; rfl) | (apply a_gt; rfl; rfl; (· first | assumption | omega)) ))
    refine wc_join0 (fun st => ∃ (l2 : List Int) (A2 : Option Addr) (n2 c2 : Nat) (R2 : List Ro), st = ⟨[(1, .int .i64 mt), (3, .slice (some ⟨b, o, none⟩) m c0), (4, .int .i64 bt), (11, .pointer (some ⟨g, 0, none⟩)), (13, .slice ao n c), (16, .int .i64 i), (17, .slice A2 n2 c2)], rgH g gb k S put mt 3 sent, R2⟩ ∧ (∀ r ∈ RR, r ∈ R2) ∧ SQ R2 1 A2 n2 c2 (c16 l2) ∧ l2.length ≤ 12) ?_ ?_
    · by_cases h12 : 12 < n1
      · obtain ⟨a0, o0, rfl, hmem1⟩ := hA1.pos (by omega)
        (repeat (first | ((first | (apply wo_v; rfl) ); (· first | (apply pv_ev; rfl) )) | apply wc_region | (apply wc_true; rfl) | (apply wc_false; rfl) | (apply a_dec_t; rfl; (· first | assumption | omega)) ))
        refine wo_cut_ro (l := 0) (h := 12) (m := c1) rfl hmem1 (.hi rfl rfl (by omega)) (by omega) rfl (fun o3 ho3 => ?_)
        (repeat (first | ((first | (apply wo_v; rfl) ); (· first | (apply pv_ev; rfl) )) | apply wo_nil ))
        have e : ((c16 l1).take 12).drop 0 = c16 (l1.take 12) := by rw [List.drop_zero, c16, c16, List.map_take]
        rw [e]
        refine cut_end ⟨l1.take 12, _, 12, c1, _, rfl, fun r h => List.mem_cons_of_mem _ h, ⟨by rw [c16_len, List.length_take]; omega, fun _ => ⟨a0, o3, rfl, ?_⟩⟩, by rw [List.length_take]; omega⟩ (wk_mk (by (repeat (first | apply wkf_nil | (apply wkf_cons; rfl))); done) (by (repeat (first | apply sub_nil )); done) (by first | exact fun _ h => h | (intro r hr; cases hr; done) | (simp; done) | exact fun _ h => List.mem_append_left _ h | (intro r hr; simp [hr]; done)))
        rw [ho3 (by omega)]; exact List.mem_cons_self (l := RR)
      · (repeat (first | apply wc_skip | (apply wc_true; rfl) | (apply wc_false; rfl) | (apply a_dec_t; rfl; (· first | assumption | omega)) | (apply a_dec_f; rfl; (· first | assumption | omega)) ))
        exact cut_end ⟨l1, A1, n1, c1, RR, rfl, fun _ h => h, hA1, by omega⟩ (wk_mk (by (repeat (first | apply wkf_nil | (apply wkf_cons; rfl))); done) (by (repeat (first | apply sub_nil )); done) (by first | exact fun _ h => h | (intro r hr; cases hr; done) | (simp; done) | exact fun _ h => List.mem_append_left _ h | (intro r hr; simp [hr]; done)))
    clear hA1 hr
    rintro st ⟨l2, A2, n2, c2, R2, rfl, hR2, hS2, hl2⟩
    have hS := hS.mono hR2
    have hRR2 : ∀ r ∈ R, r ∈ R2 := fun r h => hR2 _ (hRR r h)
    have hmem := hR2 _ hmem
    have w1 := pServe g gb k S put mt 3 sent (2 * i) bt Q l2 A2 n2 c2 R2 false 0 false (by omega) hL (by omega) hB (by omega) (by omega) hb.2 hS2 (by omega) hbt
    have w2 := rServe mt 3 (2 * i) bt Q l2 ao n c A2 n2 c2 R2 hB (by omega) hb.2 hS (by omega) hS2 (by omega) hbt
    have hsum := svM_sum mt 3 (2 * i) l2 Q bt
    have hB3 := svM_QB (mg := 3) (mt := mt) (now := 2 * (i : Int)) (by omega) hb.2 l2 Q bt hB
    have hlen := svM_len mt 3 (2 * i) l2 Q bt
    generalize svM mt 3 (2 * i) l2 Q bt = x at w1 w2 hsum hB3 hlen
    obtain ⟨Q3, out⟩ := x
    dsimp only at w1 w2 hsum hB3 hlen
    (repeat (first | ((first | (apply wo_v; rfl) ); (· first | (apply pv_ev; rfl) | (apply g_bin; first | (apply a_mul; rfl; rfl; infer_instance; omega) ) | (apply g_build; apply pv_build; (· (repeat (first | apply Bld.nil | (apply Bld.one; rfl; rfl; (· (repeat (first | apply SetAt.here )))) )))) )) | apply wc_seq | apply wc_region ))
    (refine wo_call (w1) rfl (by (repeat (first | apply sub_nil )); done) (by first | exact fun _ h => h | (intro r hr; cases hr; done) | (simp; done) | exact fun _ h => List.mem_append_left _ h | (intro r hr; simp [hr]; done)) rfl ?_; rintro v L' R' ⟨S3, sent3, ao3, c3, rfl, rfl, rfl, hL3, hs3, hs4⟩ H' hH RR hR; simp only [List.cons_append, List.nil_append] at hH hR; subst hH; have hR := hR.symm; subst hR)
    (repeat (first | ((first | (apply wo_v; rfl) ); (· first | (apply pv_ev; rfl) | (apply g_bin; first | (apply a_mul; rfl; rfl; infer_instance; omega) ) )) | apply wo_nil | apply wc_seq | apply wc_region ))
    (refine wo_call (w2) rfl (by (repeat (first | apply sub_nil )); done) (by first | exact fun _ h => h | (intro r hr; cases hr; done) | (simp; done) | exact fun _ h => List.mem_append_left _ h | (intro r hr; simp [hr]; done)) rfl ?_; rintro v L' R' ⟨aq4, nq4, cq4, ao4, c4, rfl, rfl, hS4⟩ H' hH RR hR; simp only [List.cons_append, List.nil_append] at hH hR; subst hH; have hR := hR.symm; subst hR)
    (repeat (first | ((first | (apply wo_v; rfl) ); (· first | (apply pv_ev; rfl) | (apply g_bi; first | (apply pv_len_sl; rfl) ) )) | apply wo_nil | apply wc_seq | apply wc_region | apply wc_skip | (apply wc_true; rfl) | (apply wc_false; rfl) | (apply a_dec_t; rfl; (· first | assumption | omega)) | (apply a_dec_f; rfl; (· first | assumption | omega)) ))
    refine wc_join0 (fun st => st = ⟨[(1, .int .i64 mt), (3, .slice (some ⟨b, o, none⟩) m c0), (4, .int .i64 bt), (11, .pointer (some ⟨g, 0, none⟩)), (13, .slice aq4 nq4 cq4), (16, .int .i64 i), (21, .int .i64 (sumS out))], rgH g gb k S3 put mt 3 sent3, R' ++ R2⟩) ?_ ?_
    · refine wc_block ?_
      refine wc_loop' (fun q st => ∃ j : Nat, q = out.length - j ∧ j ≤ out.length ∧ st = ⟨[(1, .int .i64 mt), (3, .slice (some ⟨b, o, none⟩) m c0), (4, .int .i64 bt), (11, .pointer (some ⟨g, 0, none⟩)), (13, .slice aq4 nq4 cq4), (16, .int .i64 i), (18, .slice ao3 out.length c3), (20, .slice ao4 out.length c4), (21, .int .i64 (sumS (out.take j))), (108, .int .i64 out.length), (109, .int .i64 j)], rgH g gb k S3 put mt 3 sent3 ++ [stO ao3 c3 out, stO ao4 c4 out], R' ++ R2⟩) ⟨0, rfl, Nat.zero_le _, rfl⟩ (wk_mk (by (repeat (first | apply wkf_nil | (apply wkf_cons; rfl))); done) (by (repeat (first | apply sub_nil | (apply sub_cons; (· (repeat (first | apply sel_here | apply sel_there)))))); done) (by first | exact fun _ h => h | (intro r hr; cases hr; done) | (simp; done) | exact fun _ h => List.mem_append_left _ h | (intro r hr; simp [hr]; done))) ?_
      rintro q st ⟨j, rfl, hj, rfl⟩
      by_cases hlj : j < out.length
      · obtain ⟨s, hs⟩ : ∃ s, out[j]? = some s := ⟨_, List.getElem?_eq_getElem hlj⟩
        have hr := strs_at hs
        have hnx := sumS_take hs
        have hn1 := sumS_nn (out.take j)
        have hn2 : sumS (out.take (j + 1)) ≤ sumS out := by
          have h1 := sumS_app (out.take (j + 1)) (out.drop (j + 1))
          rw [List.take_append_drop] at h1
          have := sumS_nn (out.drop (j + 1))
          omega
        refine wc_some (ao := ao3) (by (repeat (first | apply sel_here | apply sel_there)); done) (by omega) (fun b4 o4 hao => ?_)
        subst hao
        refine wc_some (ao := ao4) (by (repeat (first | apply sel_here | apply sel_there)); done) (by omega) (fun b5 o5 hao => ?_)
        subst hao
        (repeat (first | ((first | (apply wo_v; rfl) ); (· first | (apply pv_ev; rfl) | (apply g_load; first | (apply pv_ld; rfl; (· (repeat (first | apply sel_there))); rfl) | (apply pv_ld_ownf; rfl; (· (repeat (first | fail ))); (· assumption); rfl) | (apply pv_ld_own1; rfl; (· (repeat (first | apply sel_here | apply sel_there))); (· assumption)) ) | (apply g_bin; first | (apply a_add; rfl; rfl; infer_instance; omega) ) | (apply g_bi; first | (apply pv_len_str; rfl) ) | (apply g_idx; first | (apply pv_idx; rfl; rfl; omega) ) )) | apply wo_nil | apply wc_seq | apply wc_region | apply wc_block | apply wc_skip | (apply wc_true; rfl) | (apply wc_false; rfl) | (apply a_dec_t; rfl; (· first | assumption | omega)) ))
        (refine wc_quiet mixed (by kernel_rfl) ?_; (repeat (first | ((first | (apply wo_v; rfl) | (apply hd_v; rfl) ); (· first | (apply pv_ev; rfl) | (apply g_load; first | (apply pv_ld; rfl; (· (repeat (first | apply sel_there))); rfl) | (apply pv_ld_ownf; rfl; (· (repeat (first | fail ))); (· assumption); rfl) | (apply pv_ld_own1; rfl; (· (repeat (first | apply sel_here | apply sel_there))); (· assumption)) ) | (apply g_bin; first | (apply a_add; rfl; rfl; infer_instance; omega) | (apply pv_neq_s; rfl; rfl) ) | (apply g_idx; first | (apply pv_idx; rfl; rfl; omega) ) )) | apply wo_nil | apply Hd.nil | apply wc_region | apply wc_skip | (apply wc_true; rfl) | (apply wc_false; rfl) | (apply a_dec_t; rfl; (· first | assumption | omega)) | (apply a_dec_f; rfl; (· first | assumption | omega)) | (apply a_dec_t; rfl; (· first | (simp; done) | (simp; omega))) | (apply a_dec_f; rfl; (· first | (simp; done) | (simp; omega))) )))
        exact loop_end ⟨j + 1, rfl, by omega, by rw [hnx]⟩ (by omega) (wk_mk (by (repeat (first | apply wkf_nil | (apply wkf_cons; rfl))); done) (by (repeat (first | apply sub_nil )); done) (by first | exact fun _ h => h | (intro r hr; cases hr; done) | (simp; done) | exact fun _ h => List.mem_append_left _ h | (intro r hr; simp [hr]; done)))
      · have e : j = out.length := by omega
        subst e
        rw [List.take_length]
        (repeat (first | ((first | (apply wo_v; rfl) ); (· first | (apply pv_ev; rfl) )) | apply wo_nil | apply wc_seq | apply wc_region | (apply wc_exit; rfl) | (apply wc_true; rfl) | (apply wc_false; rfl) | (apply a_dec_t; rfl; (· first | assumption | omega)) | (apply a_dec_f; rfl; (· first | assumption | omega)) ))
        exact cut_end rfl (wk_mk (by (repeat (first | apply wkf_nil | (apply wkf_cons; rfl))); done) (by (repeat (first | apply sub_nil )); done) (by first | exact fun _ h => h | (intro r hr; cases hr; done) | (simp; done) | exact fun _ h => List.mem_append_left _ h | (intro r hr; simp [hr]; done)))
    rintro st rfl
    (repeat (first | ((first | (apply wo_v; rfl) ); (· first | (apply pv_ev; rfl) | (apply g_bin; first | (apply a_add; rfl; rfl; infer_instance; omega) ) | (apply g_bi; first | (apply pv_max; rfl; rfl)) )) | apply wo_nil | apply wc_seq | apply wc_region | apply wc_skip | (apply wc_true; rfl) | (apply wc_false; rfl) | (apply a_dec_t; rfl; (· first | assumption | omega)) | (apply a_dec_f; rfl; (· first | assumption | omega)) ))
    exact loop_end ⟨i + 1, S3, Q3, aq4, nq4, cq4, sent3, R' ++ R2, rfl, rfl, fun r h => List.mem_append_right _ (hRR2 r h), hS4, hL3, hB3.mono (by omega), by omega, by omega, by omega, by omega⟩ (by omega) (wk_mk (by (repeat (first | apply wkf_nil | (apply wkf_cons; rfl))); done) (by (repeat (first | apply sub_nil )); done) (by first | exact fun _ h => h | (intro r hr; cases hr; done) | (simp; done) | exact fun _ h => List.mem_append_left _ h | (intro r hr; simp [hr]; done)))
  · have hor : ¬ i < m ∨ (i < m ∧ ¬ i < 8) := by omega
    rcases hor with h1 | ⟨h1, h2⟩
    all_goals
      (repeat (first | ((first | (apply wo_v; rfl) ); (· first | (apply pv_ev; rfl) | (apply g_pick; first | (apply pv_pick_t; rfl; rfl) | (apply pv_pick_f; rfl; rfl)) | (apply g_bi; first | (apply pv_len_sl; rfl) ) )) | apply wo_nil | apply wc_seq | apply wc_region | (apply wc_exit; rfl) | apply wc_ret | (apply wc_true; rfl) | (apply wc_false; rfl) | (apply a_dec_t; rfl; (· first | assumption | omega)) | (apply a_dec_f; rfl; (· first | assumption | omega)) | (apply wo_run; rfl; rfl) | (apply wo_skip; rfl; rfl; rfl; rfl) | (apply wo_skip_u; rfl; rfl; rfl) | (apply a_gt; rfl; rfl; (· first | assumption | omega)) | (apply a_gf; rfl; rfl; (· first | assumption | omega)) ))
      exact ret1 rfl rfl (by simp) ((by (repeat (first | apply sub_nil )); done) : List.Perm _ ([] ++ _)) (by first | exact fun _ h => h | (intro r hr; cases hr; done) | (simp; done) | exact fun _ h => List.mem_append_left _ h | (intro r hr; simp [hr]; done))
theorem reportServes_walk (a : Int) (ha : -9223372036854775808 ≤ a ∧ a ≤ 9223372036854775807) (b : Int) (hb : -9223372036854775808 ≤ b ∧ b ≤ 9223372036854775807) (T : Option Addr) (nt ct : Nat) (V : Nat → Nat → Value) {w : World} (hV : Rws [.string] w T nt ct V)
    (A : Option Addr) (n c : Nat) (rows : List (List Value)) (R : List Ro) (hR : ∀ r ∈ R, r.sat w) (h : Deep R [.sl [.int .u16]] A n c rows) (d : Int) (hd : -9223372036854775808 ≤ d ∧ d ≤ 9223372036854775807) :
    Calls Try.prog 6 #[.int .i64 a, .int .i64 b, .slice T nt ct, .slice A n c, .int .i64 d] w fun e w' => e = .returned (.bool true) ∧ Below w.heap.size w w' := by
  obtain ⟨tx, R1, h1, _, h2, h3⟩ := rws_s hV
  obtain ⟨d1, d2, d3, d4, d5⟩ := h
  refine walk_of (R := R1 ++ R) (reportServes_fn a b T nt ct tx A n c rows d _ h3 (fun h0 => ?_) ⟨d1, d2, d3, fun row hr => (d4 row hr).mono (fun r hr => List.mem_append_right _ hr), fun h0 => ?_⟩ hd) (fun r hr => ?_)
  · obtain ⟨b, o, h4, h5⟩ := h2 h0; exact ⟨b, o, h4, List.mem_append_left _ h5⟩
  · obtain ⟨b, o, h4, h5⟩ := d5 h0; exact ⟨b, o, h4, List.mem_append_right _ h5⟩
  · rcases List.mem_append.1 hr with hr | hr
    · exact h1 r hr
    · exact hR r hr
end Go.Proofs.Ytnjicnadlhfocaa
