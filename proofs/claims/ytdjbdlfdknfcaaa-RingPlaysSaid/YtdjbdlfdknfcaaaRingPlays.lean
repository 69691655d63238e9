/-
  RingPlays: every sequence of calls has the specified results.
-/
import Derived.Test.YtdjbdlfdknfcaaaRingRef
import Derived.Test.YtdjbdlfdknfcaaaDeep
namespace Go.Proofs.Ytdjbdlfdknfcaaa
set_option linter.unusedSimpArgs false
set_option linter.unusedVariables false
open Go.RowKit
attribute [local irreducible] Pv WO WC Fn
set_option maxRecDepth 100000

abbrev raFd : List Fd1 := [.one (.int .i64), .one (.int .u16), .one .string, .sl [.int .u16]]
theorem kseg_of {R : List Ro} {k : IntKind} {v : Value} (h : FV1 R (.sl [.int k]) v) : ∃ A n c z, v = .slice A n c ∧ n ≤ c ∧ c ≤ maxLen ∧ (0 < n → ∃ b o, A = some ⟨b, o, none⟩ ∧ ⟨b, o, 1, kseg k z n⟩ ∈ R) := by
  obtain ⟨A, n, c, V, rfl, h1, h2, h3, h4⟩ := h
  refine ⟨A, n, c, fun i => match V i 0 with | .int _ z => z | _ => 0, rfl, h1, h2, fun hn => ?_⟩
  obtain ⟨b, o, hA, hm⟩ := h4 hn
  refine ⟨b, o, hA, ?_⟩
  have e : rowsOf [.int k] V n = kseg k (fun i => match V i 0 with | .int _ z => z | _ => 0) n := by
    unfold rowsOf kseg
    refine List.map_congr_left fun i hi => ?_
    obtain ⟨z0, hz0, _⟩ := h3 i 0 _ (List.mem_range.1 hi) rfl
    simp [hz0]
  rw [← e]; exact hm
theorem row_ra {R : List Ro} {row : List Value} (h : FV1s R raFd row) : ∃ kd N S A n c z, row = [.int .i64 kd, .int .u16 N, .string S, .slice A n c] ∧ n ≤ c ∧ c ≤ maxLen ∧ (0 < n → ∃ b o, A = some ⟨b, o, none⟩ ∧ ⟨b, o, 1, kseg .u16 z n⟩ ∈ R) := by
  obtain ⟨hl, h⟩ := h
  obtain ⟨v0, e0, kd, rfl, _⟩ := h 0 _ rfl
  obtain ⟨v1, e1, N, rfl, _⟩ := h 1 _ rfl
  obtain ⟨v2, e2, S, rfl, _⟩ := h 2 _ rfl
  obtain ⟨v3, e3, h3⟩ := h 3 _ rfl
  obtain ⟨A, n, c, z, rfl, h4, h5, h6⟩ := kseg_of h3
  refine ⟨kd, N, S, A, n, c, z, ?_, h4, h5, h6⟩
  match row, hl with
  | [w0, w1, w2, w3], _ => simp_all
theorem kseg_take (k : IntKind) (z : Nat → Int) {n m : Nat} (h : m ≤ n) : ((kseg k z n).take m).drop 0 = kseg k z m := by
  unfold kseg
  rw [List.drop_zero, ← List.map_take, List.take_range, Nat.min_eq_left h]
theorem and15_b (x : Int) : 0 ≤ bits .and .u16 x 15 ∧ bits .and .u16 x 15 ≤ 15 := by
  have h : (BitVec.ofInt 16 x &&& BitVec.ofInt 16 15).toNat ≤ 15 := by rw [BitVec.toNat_and]; exact Nat.and_le_right
  show 0 ≤ IntKind.u16.wrap ((BitVec.ofInt 16 x &&& BitVec.ofInt 16 15).toNat : Int) ∧ IntKind.u16.wrap ((BitVec.ofInt 16 x &&& BitVec.ofInt 16 15).toNat : Int) ≤ 15
  generalize (BitVec.ofInt 16 x &&& BitVec.ofInt 16 15).toNat = y at h
  rw [show IntKind.u16.wrap (y : Int) = (y : Int) % 65536 from rfl]
  omega
theorem cnt_b (e : Int) : 0 ≤ cnt e ∧ cnt e ≤ 1 := by unfold cnt; split <;> omega
theorem strs_at {l : List ByteArray} {i : Nat} {s : ByteArray} (h : l[i]? = some s) : (strs l)[i]? = some [.string s] := by simp [strs, h]
abbrev raO (bx : Nat) (kd N : Int) (s : ByteArray) (A : Option Addr) (n c : Nat) : It := .ob bx (.cells #[.int .i64 kd, .int .u16 N, .string s, .slice A n c] 80 (0, 0))
set_option maxHeartbeats 64000000 in
theorem ringPlays_fn (s0 m0 g0 : Int) (A : Option Addr) (m c0 : Nat) (rows : List (List Value)) (R : List Ro) (h : Deep R raFd A m c0 rows) :
    Fn Try.prog 13 #[.int .i64 s0, .int .i64 m0, .int .i64 g0, .slice A m c0] [] R (fun v _ _ => v = .bool true) := by
  obtain ⟨d1, d2, d3, d4, d5⟩ := h
  have hmx : m ≤ 9223372036854775807 := by unfold maxLen at d2; omega
  have q1 := and_15 s0
  have q2 : bits .and .i64 m0 3 = m0 % 4 := and_ones m0 2 (by omega)
  have q3 := and_15 g0
  obtain ⟨k, hk⟩ : ∃ k : Nat, 1 + s0 % 16 = (k : Int) := ⟨(1 + s0 % 16).toNat, by omega⟩
  have hk1 : 1 ≤ k ∧ k ≤ 16 := by omega
  obtain ⟨mt, hmt⟩ : ∃ mt, bits .and .i64 m0 3 = mt := ⟨_, rfl⟩
  obtain ⟨mg, hmg⟩ : ∃ mg, bits .and .i64 g0 15 = mg := ⟨_, rfl⟩
  have hb : 0 ≤ mt ∧ mt ≤ 3 ∧ 0 ≤ mg ∧ mg ≤ 15 := by omega
  rw [← q1] at hk
  clear q1 q2 q3
  refine fn_intro Try.func13 rfl Try.ntmps13 rfl (fun E => ?_)
  (repeat (first | ((first | (apply wo_v; rfl) ); (· first | (apply pv_ev; rfl) | (apply g_bin; first | (apply a_add; rfl; rfl; infer_instance; omega) | (apply pv_and; rfl; rfl) ) )) | apply wo_nil | apply wc_seq | apply wc_region ))
  rw [hk, hmt, hmg]
  clear hk hmt hmg
  (repeat (first | ((first | (apply wo_v; rfl) ); (· first | (apply pv_ev; rfl) )) ))
  (refine wo_call (ringNew_ok k mt mg (by omega) (by omega) (by omega)) rfl (by (repeat (first | apply sub_nil )); done) (by first | exact fun _ h => h | (intro r hr; cases hr; done) | (simp; done) | exact fun _ h => List.mem_append_left _ h | (intro r hr; simp [hr]; done)) rfl ?_; rintro v L' R' ⟨g, gb, rfl, rfl, rfl⟩ H' hH RR hR; simp only [List.cons_append, List.nil_append] at hH hR; subst hH; have hR := hR.symm; subst hR)
  (repeat (first | ((first | (apply wo_v; rfl) ); (· first | (apply pv_ev; rfl) )) | apply wo_nil | apply wc_seq | apply wc_region ))
  (refine wo_call (awake16) rfl (by (repeat (first | apply sub_nil )); done) (by first | exact fun _ h => h | (intro r hr; cases hr; done) | (simp; done) | exact fun _ h => List.mem_append_left _ h | (intro r hr; simp [hr]; done)) rfl ?_; rintro v L' R' ⟨rfl, rfl, rfl⟩ H' hH RR hR; simp only [List.cons_append, List.nil_append] at hH hR; subst hH; have hR := hR.symm; subst hR)
  (repeat (first | ((first | (apply wo_v; rfl) ); (· first | (apply pv_ev; rfl) | (apply g_pick; first | (apply pv_pick_t; rfl; rfl) | (apply pv_pick_f; rfl; rfl)) | (apply g_un; first | (apply pv_not_t; rfl) ) )) | apply wo_nil | apply wc_seq | apply wc_region | apply wc_skip | (apply wc_true; rfl) | (apply wc_false; rfl) | (apply wo_run; rfl; rfl) | (apply wo_bsl; (· (repeat (first | apply Rws'.nil ))); rfl; rfl; rfl; rfl; intro bx) ))
  refine wc_still (by (repeat (first | apply sel_here )); done) (fun R0 hS0 => ?_)
  have hR0 : ∀ r ∈ R, r ∈ R0 ++ R := fun r h => List.mem_append_right _ h
  have hL0 := Lay.new k
  generalize List.replicate k none = S0 at hL0 ⊢
  generalize R0 ++ R = RR at hS0 hR0 ⊢
  refine wc_block ?_
  refine wc_loop' (fun q st => ∃ (i : Nat) (S : List (Option Pk)) (Q : List Pk) (ao : Option Addr) (n c put : Nat) (now sent : Int) (RR : List Ro), q = 121 - i ∧ st = ⟨[(0, .int .i64 k), (1, .int .i64 mt), (2, .int .i64 mg), (3, .slice A m c0), (9, .pointer (some ⟨g, 0, none⟩)), (11, .slice ao n c), (12, .int .i64 now), (13, .int .i64 sent), (14, .int .i64 i)], rgH g gb k S put mt mg sent, RR⟩
      ∧ (∀ r ∈ R, r ∈ RR) ∧ SR RR 4 ao n c (qrs Q) ∧ Lay S put k Q ∧ QB Q now ∧ put ≤ i ∧ 0 ≤ sent ∧ sent ≤ 9 * i ∧ 0 ≤ now ∧ now ≤ 15 * i ∧ i ≤ 120 ∧ i ≤ m)
    ⟨0, S0, [], _, _, _, 0, 0, 0, RR, rfl, rfl, hR0, hS0, hL0, ⟨fun p hp => by cases hp⟩, by omega, by omega, by omega, by omega, by omega, by omega, by omega⟩ (wk_mk (by (repeat (first | apply wkf_nil | (apply wkf_cons; rfl))); done) (by (repeat (first | apply sub_nil )); done) (by first | exact fun _ h => h | (intro r hr; cases hr; done) | (simp; done) | exact fun _ h => List.mem_append_left _ h | (intro r hr; simp [hr]; done))) ?_
  clear hS0 hR0 hL0
  rintro q st ⟨i, S, Q, ao, n, c, put, now, sent, RR, rfl, rfl, hRR, hS, hL, hB, hp, hs1, hs2, hn1, hn2, hi1, hi2⟩
  by_cases hlt : i < m ∧ i < 120
  · obtain ⟨h1, h2⟩ := hlt
    obtain ⟨b, o, rfl, hmem⟩ := d5 (by omega)
    replace hmem : ⟨b, o, 4, rows⟩ ∈ RR := hRR _ hmem
    obtain ⟨row, hr⟩ : ∃ row, rows[i]? = some row := ⟨_, List.getElem?_eq_getElem (by omega)⟩
    obtain ⟨kd, N, s, A2, n2, c2, z, rfl, hn2c, hc2, hA2⟩ := row_ra (d4 row (List.mem_of_getElem? hr))
    unfold maxLen at hc2
    replace hA2 : 0 < n2 → ∃ b o, A2 = some ⟨b, o, none⟩ ∧ ⟨b, o, 1, kseg .u16 z n2⟩ ∈ RR := fun h => by obtain ⟨b, o, h3, h4⟩ := hA2 h; exact ⟨b, o, h3, hRR _ h4⟩
    have hq := hL.qlen
    clear d4
    (repeat (first | ((first | (apply wo_v; rfl) ); (· first | (apply pv_ev; rfl) | (apply g_pick; first | (apply pv_pick_t; rfl; rfl) ) | (apply g_bi; first | (apply pv_len_sl; rfl) ) )) | apply wo_nil | apply wc_seq | apply wc_region | apply wc_skip | (apply wc_true; rfl) | (apply wc_false; rfl) | (apply a_dec_t; rfl; (· first | assumption | omega)) | (apply wo_run; rfl; rfl) | (apply wo_skip; rfl; rfl; rfl; rfl) | (apply wo_skip_u; rfl; rfl; rfl) | (apply a_gt; rfl; rfl; (· first | assumption | omega)) ))
    refine wc_block ?_
    (repeat (first | ((first | (apply wo_v; rfl) ); (· first | (apply pv_ev; rfl) | (apply pv_fld; rfl) | (apply g_load; first | (apply pv_ld; rfl; (· (repeat (first | apply sel_here ))); rfl) | (apply pv_lda; rfl; (· (repeat (first | apply sel_there))); (· (repeat (first | fail )))) | (apply pv_ld_owna; rfl; (· (repeat (first | apply sel_there))); (· assumption)) | (apply pv_ld_roa; rfl; (· (first | assumption )); (· assumption))) | (apply g_idx; first | (apply pv_idx; rfl; rfl; omega) ) )) | apply wo_nil | apply wc_seq | apply wc_region | (apply wo_alloc; rfl; intro bx) | (apply wo_sta; rfl; rfl; rfl; rfl; (· (repeat (first | apply sel_here ))); (· (repeat (first | apply LayAt.nil | apply LayAt.here ))); rfl) ))
    refine wc_join0 (fun st => ∃ (S : List (Option Pk)) (Q : List Pk) (ao : Option Addr) (n c put : Nat) (now sent : Int) (RR : List Ro), st = ⟨[(0, .int .i64 k), (1, .int .i64 mt), (2, .int .i64 mg), (3, .slice (some ⟨b, o, none⟩) m c0), (9, .pointer (some ⟨g, 0, none⟩)), (11, .slice ao n c), (12, .int .i64 now), (13, .int .i64 sent), (14, .int .i64 i), (15, .pointer (some ⟨bx, 0, none⟩))], rgH g gb k S put mt mg sent ++ [raO bx kd N s A2 n2 c2], RR⟩
      ∧ (∀ r ∈ R, r ∈ RR) ∧ SR RR 4 ao n c (qrs Q) ∧ Lay S put k Q ∧ QB Q now ∧ put ≤ i + 1 ∧ 0 ≤ sent ∧ sent ≤ 9 * i + 9 ∧ 0 ≤ now ∧ now ≤ 15 * i + 15) ?_ ?_
    · refine wc_block ?_
      by_cases hk1 : kd = 1
      · subst hk1
        (repeat (first | ((first | (apply wo_v; rfl) ); (· first | (apply pv_ev; rfl) | (apply pv_fld; rfl) | (apply g_load; first | (apply pv_ld; rfl; (· (repeat (first | apply sel_here ))); rfl) ) )) | apply wo_nil | apply wc_seq | apply wc_region | (apply wc_true; rfl) ))
        (refine wo_call (lCut s 10) rfl (by (repeat (first | apply sub_nil )); done) (by first | exact fun _ h => h | (intro r hr; cases hr; done) | (simp; done) | exact fun _ h => List.mem_append_left _ h | (intro r hr; simp [hr]; done)) rfl ?_; rintro v L' R' ⟨rfl, rfl, rfl⟩ H' hH RR hR; simp only [List.cons_append, List.nil_append] at hH hR; subst hH; have hR := hR.symm; subst hR)
        generalize cutS s 10 = s2
        (repeat (first | ((first | (apply wo_v; rfl) ); (· first | (apply pv_ev; rfl) | (apply pv_fld; rfl) | (apply g_load; first | (apply pv_ld; rfl; (· (repeat (first | apply sel_here ))); rfl) ) )) | apply wo_nil | apply wc_seq | apply wc_region ))
        (refine wo_call (ringPut g gb k S put mt mg sent N s2 (by omega) hL.len (by omega)) rfl (by (repeat (first | apply sub_nil | (apply sub_cons; (· (repeat (first | apply sel_here | apply sel_there)))))); done) (by first | exact fun _ h => h | (intro r hr; cases hr; done) | (simp; done) | exact fun _ h => List.mem_append_left _ h | (intro r hr; simp [hr]; done)) rfl ?_; rintro v L' R' ⟨rfl, rfl, rfl⟩ H' hH RR hR; simp only [List.cons_append, List.nil_append] at hH hR; subst hH; have hR := hR.symm; subst hR)
        (repeat (first | ((first | (apply wo_v; rfl) ); (· first | (apply pv_ev; rfl) | (apply pv_fld; rfl) | (apply g_load; first | (apply pv_ld; rfl; (· (repeat (first | apply sel_here | apply sel_there))); rfl) ) )) | apply wo_nil | apply wc_region ))
        (refine wo_call (refPut ao n c k Q N s2 RR hS (by omega) (by omega)) rfl (by (repeat (first | apply sub_nil )); done) (by first | exact fun _ h => h | (intro r hr; cases hr; done) | (simp; done) | exact fun _ h => List.mem_append_left _ h | (intro r hr; simp [hr]; done)) rfl ?_; rintro v L' R' ⟨ao2, n2', c2', rfl, rfl, hS2⟩ H' hH RR hR; simp only [List.cons_append, List.nil_append] at hH hR; subst hH; have hR := hR.symm; subst hR)
        (repeat (first | ((first | (apply wo_v; rfl) ); (· first | (apply pv_ev; rfl) )) | apply wo_nil ))
        exact cut_end ⟨_, _, ao2, n2', c2', put + 1, now, sent, _, rfl, fun r h => List.mem_append_right _ (hRR r h), hS2.mono (fun _ h => List.mem_append_left _ h), hL.put (by omega) _, hB.put hn1 k N s2, by omega, by omega, by omega, by omega, by omega⟩ (wk_mk (by (repeat (first | apply wkf_nil | (apply wkf_cons; rfl))); done) (by (repeat (first | apply sub_nil )); done) (by first | exact fun _ h => h | (intro r hr; cases hr; done) | (simp; done) | exact fun _ h => List.mem_append_left _ h | (intro r hr; simp [hr]; done)))
      by_cases hk2 : kd = 2
      · subst hk2
        have hc := ringAgainM g gb k S put mt mg sent N now Q (by omega) hL (by omega) hB (by omega) (by omega)
        have hc2 := refAgain ao n c Q mt mg N now RR hS (by omega) hB (by omega)
        have hB2 := hB.ag hn1 hb.2.1 mg N
        generalize agM mt mg now N Q = r at hc hc2 hB2
        obtain ⟨Q2, s2, e⟩ := r
        dsimp only at hc hc2 hB2
        (repeat (first | ((first | (apply wo_v; rfl) ); (· first | (apply pv_ev; rfl) | (apply pv_fld; rfl) | (apply g_load; first | (apply pv_ld; rfl; (· (repeat (first | apply sel_here ))); rfl) ) )) | apply wo_nil | apply wc_seq | apply wc_region | (apply wc_true; rfl) | (apply wc_false; rfl) ))
        (refine wo_call (hc) rfl (by (repeat (first | apply sub_nil | (apply sub_cons; (· (repeat (first | apply sel_here | apply sel_there)))))); done) (by first | exact fun _ h => h | (intro r hr; cases hr; done) | (simp; done) | exact fun _ h => List.mem_append_left _ h | (intro r hr; simp [hr]; done)) rfl ?_; rintro v L' R' ⟨S2, rfl, rfl, rfl, hL2⟩ H' hH RR hR; simp only [List.cons_append, List.nil_append] at hH hR; subst hH; have hR := hR.symm; subst hR)
        (repeat (first | ((first | (apply wo_v; rfl) ); (· first | (apply pv_ev; rfl) | (apply pv_fld; rfl) | (apply g_load; first | (apply pv_ld; rfl; (· (repeat (first | apply sel_here | apply sel_there))); rfl) ) )) | apply wo_nil | apply wc_seq | apply wc_region ))
        (refine wo_call (hc2) rfl (by (repeat (first | apply sub_nil )); done) (by first | exact fun _ h => h | (intro r hr; cases hr; done) | (simp; done) | exact fun _ h => List.mem_append_left _ h | (intro r hr; simp [hr]; done)) rfl ?_; rintro v L' R' ⟨ao2, n2', c2', rfl, rfl, hS2⟩ H' hH RR hR; simp only [List.cons_append, List.nil_append] at hH hR; subst hH; have hR := hR.symm; subst hR)
        (repeat (first | ((first | (apply wo_v; rfl) ); (· first | (apply pv_ev; rfl) | (apply g_pick; first | (apply pv_pick_t; rfl; rfl) | (apply pv_pick_f; rfl; rfl)) | (apply g_bin; first | (apply pv_neq_s; rfl; rfl) ) )) | apply wo_nil | apply wc_seq | apply wc_region | apply wc_skip | (apply wc_true; rfl) | (apply wc_false; rfl) | (apply a_dec_t; rfl; (· first | assumption | omega)) | (apply a_dec_f; rfl; (· first | assumption | omega)) | (apply a_dec_t; rfl; (· first | (simp; done) | (simp; omega))) | (apply a_dec_f; rfl; (· first | (simp; done) | (simp; omega))) | (apply wo_run; rfl; rfl) | (apply wo_skip; rfl; rfl; rfl; rfl) | (apply wo_skip_u; rfl; rfl; rfl) | (apply a_gt; rfl; rfl; (· first | assumption | omega)) | (apply a_gf; rfl; rfl; (· first | assumption | omega)) | (apply a_gt; rfl; rfl; (· first | (simp; done) | (simp; omega))) | (apply a_gf; rfl; rfl; (· first | (simp; done) | (simp; omega))) ))
        have hcb := cnt_b e
        by_cases he : e = 0
        · rw [show cnt e = 1 from if_pos he] at *
          (repeat (first | ((first | (apply wo_v; rfl) ); (· first | (apply pv_ev; rfl) | (apply g_bin; first | (apply a_add; rfl; rfl; infer_instance; omega) ) )) | apply wo_nil | apply wc_region | (apply wc_true; rfl) | (apply wc_false; rfl) | (apply a_dec_t; rfl; (· first | assumption | omega)) ))
          exact cut_end ⟨S2, Q2, ao2, n2', c2', put, now, sent + 1, _, rfl, fun r h => List.mem_append_right _ (hRR r h), hS2, hL2, hB2, by omega, by omega, by omega, by omega, by omega⟩ (wk_mk (by (repeat (first | apply wkf_nil | (apply wkf_cons; rfl))); done) (by (repeat (first | apply sub_nil )); done) (by first | exact fun _ h => h | (intro r hr; cases hr; done) | (simp; done) | exact fun _ h => List.mem_append_left _ h | (intro r hr; simp [hr]; done)))
        · rw [show cnt e = 0 from if_neg he, Int.add_zero]
          (repeat (first | apply wc_skip | (apply wc_true; rfl) | (apply wc_false; rfl) | (apply a_dec_t; rfl; (· first | assumption | omega)) | (apply a_dec_f; rfl; (· first | assumption | omega)) ))
          exact cut_end ⟨S2, Q2, ao2, n2', c2', put, now, sent, _, rfl, fun r h => List.mem_append_right _ (hRR r h), hS2, hL2, hB2, by omega, by omega, by omega, by omega, by omega⟩ (wk_mk (by (repeat (first | apply wkf_nil | (apply wkf_cons; rfl))); done) (by (repeat (first | apply sub_nil )); done) (by first | exact fun _ h => h | (intro r hr; cases hr; done) | (simp; done) | exact fun _ h => List.mem_append_left _ h | (intro r hr; simp [hr]; done)))
      by_cases hk3 : kd = 3
      · subst hk3
        have q5 := and15_b N
        obtain ⟨d, hd⟩ : ∃ d, bits .and .u16 N 15 = d := ⟨_, rfl⟩
        (repeat (first | ((first | (apply wo_v; rfl) ); (· first | (apply pv_ev; rfl) | (apply pv_fld; rfl) | (apply g_load; first | (apply pv_ld; rfl; (· (repeat (first | apply sel_here ))); rfl) ) | (apply g_bin; first | (apply a_add; rfl; rfl; infer_instance; omega) | (apply pv_and; rfl; rfl) ) | (apply g_conv; first | (apply a_conv; rfl; infer_instance; infer_instance; infer_instance; omega) ) )) | apply wo_nil | apply wc_seq | apply wc_region | (apply wc_true; rfl) | (apply wc_false; rfl) ))
        rw [hd] at q5 ⊢
        (repeat (first | fail ))
        exact cut_end ⟨S, Q, ao, n, c, put, now + d, sent, RR, rfl, hRR, hS, hL, hB.mono (by omega), by omega, by omega, by omega, by omega, by omega⟩ (wk_mk (by (repeat (first | apply wkf_nil | (apply wkf_cons; rfl))); done) (by (repeat (first | apply sub_nil | (apply sub_cons; (· (repeat (first | apply sel_here | apply sel_there)))))); done) (by first | exact fun _ h => h | (intro r hr; cases hr; done) | (simp; done) | exact fun _ h => List.mem_append_left _ h | (intro r hr; simp [hr]; done)))
      by_cases hk4 : kd = 4
      · subst hk4
        (repeat (first | ((first | (apply wo_v; rfl) ); (· first | (apply pv_ev; rfl) | (apply pv_fld; rfl) | (apply g_load; first | (apply pv_ld; rfl; (· (repeat (first | apply sel_here ))); rfl) ) | (apply g_bi; first | (apply pv_len_sl; rfl) ) )) | apply wo_nil | apply wc_seq | apply wc_region | (apply wc_true; rfl) | (apply wc_false; rfl) | (apply a_dec_t; rfl; (· first | assumption | omega)) | (apply a_dec_f; rfl; (· first | assumption | omega)) | (apply a_dec_t; rfl; (· first | (simp; done) | (simp; omega))) | (apply a_dec_f; rfl; (· first | (simp; done) | (simp; omega))) ))
        refine wc_join0 (fun st => ∃ (A2' : Option Addr) (n3 c3 : Nat) (RR2 : List Ro), st = ⟨[(0, .int .i64 k), (1, .int .i64 mt), (2, .int .i64 mg), (3, .slice (some ⟨b, o, none⟩) m c0), (9, .pointer (some ⟨g, 0, none⟩)), (11, .slice ao n c), (12, .int .i64 now), (13, .int .i64 sent), (14, .int .i64 i), (15, .pointer (some ⟨bx, 0, none⟩)), (22, .slice none 0 0), (23, .slice A2' n3 c3)], rgH g gb k S put mt mg sent ++ [raO bx 4 N s A2 n2 c2], RR2⟩
          ∧ (∀ r ∈ RR, r ∈ RR2) ∧ n3 ≤ 9 ∧ (0 < n3 → ∃ b o, A2' = some ⟨b, o, none⟩ ∧ ⟨b, o, 1, kseg .u16 z n3⟩ ∈ RR2)) ?_ ?_
        · by_cases h9 : 9 < n2
          · obtain ⟨b2, o2, rfl, hm2⟩ := hA2 (by omega)
            (repeat (first | ((first | (apply wo_v; rfl) ); (· first | (apply pv_ev; rfl) )) | apply wc_region | (apply wc_true; rfl) | (apply wc_false; rfl) | (apply a_dec_t; rfl; (· first | assumption | omega)) ))
            refine wo_cut_ro (l := 0) (h := 9) (m := c2) rfl hm2 (.hi rfl rfl (by omega)) (by omega) rfl (fun o3 ho3 => ?_)
            rw [kseg_take .u16 z (by omega : 9 ≤ n2)]
            (repeat (first | ((first | (apply wo_v; rfl) ); (· first | (apply pv_ev; rfl) )) | apply wo_nil ))
            exact cut_end ⟨_, 9, _, _, rfl, fun r h => List.mem_cons_of_mem _ h, Nat.le_refl _, fun _ => ⟨b2, o3, rfl, by rw [ho3 (by omega)]; exact .head _⟩⟩ (wk_mk (by (repeat (first | apply wkf_nil | (apply wkf_cons; rfl))); done) (by (repeat (first | apply sub_nil | (apply sub_cons; (· (repeat (first | apply sel_here | apply sel_there)))))); done) (by first | exact fun _ h => h | (intro r hr; cases hr; done) | (simp; done) | exact fun _ h => List.mem_append_left _ h | (intro r hr; simp [hr]; done)))
          · (repeat (first | apply wc_skip | (apply wc_true; rfl) | (apply wc_false; rfl) | (apply a_dec_t; rfl; (· first | assumption | omega)) | (apply a_dec_f; rfl; (· first | assumption | omega)) ))
            exact cut_end ⟨A2, n2, c2, RR, rfl, fun r h => h, by omega, hA2⟩ (wk_mk (by (repeat (first | apply wkf_nil | (apply wkf_cons; rfl))); done) (by (repeat (first | apply sub_nil | (apply sub_cons; (· (repeat (first | apply sel_here | apply sel_there)))))); done) (by first | exact fun _ h => h | (intro r hr; cases hr; done) | (simp; done) | exact fun _ h => List.mem_append_left _ h | (intro r hr; simp [hr]; done)))
        rintro st ⟨A3, n3, c3, RR2, rfl, hRR2, hn3, hA3⟩
        replace hS := hS.mono hRR2
        replace hRR : ∀ r ∈ R, r ∈ RR2 := fun r h => hRR2 r (hRR r h)
        have ho := alM_out mt mg now z Q n3
        have hB2 := alM_QB (mg := mg) (z := z) hB hn1 hb.2.1 n3
        clear hA2 hmem
        (repeat (first | ((first | (apply wo_v; rfl) ); (· first | (apply pv_ev; rfl) | (apply g_bi; first | (apply pv_len_sl; rfl) ) )) | apply wo_nil | apply wc_seq | apply wc_region ))
        refine wc_join0 (fun st => ∃ (ao aw : Option Addr) (n c cw : Nat) (RR3 : List Ro), st = ⟨[(0, .int .i64 k), (1, .int .i64 mt), (2, .int .i64 mg), (3, .slice (some ⟨b, o, none⟩) m c0), (9, .pointer (some ⟨g, 0, none⟩)), (11, .slice ao n c), (12, .int .i64 now), (13, .int .i64 (sent + (alM mt mg now z Q n3).2.length)), (14, .int .i64 i), (15, .pointer (some ⟨bx, 0, none⟩)), (22, .slice aw (alM mt mg now z Q n3).2.length cw), (23, .slice A3 n3 c3)], rgH g gb k S put mt mg sent ++ [raO bx 4 N s A2 n2 c2, stO aw cw (alM mt mg now z Q n3).2], RR3⟩
          ∧ (∀ r ∈ RR2, r ∈ RR3) ∧ SR RR3 4 ao n c (qrs (alM mt mg now z Q n3).1)) ?_ ?_
        · refine wc_block ?_
          refine wc_own0 9 1 ?_
          refine wc_loop' (fun q st => ∃ (j : Nat) (ao aw : Option Addr) (n c cw : Nat) (l : List ByteArray) (se : Int) (RR3 : List Ro), q = n3 - j ∧ j ≤ n3 ∧ l = (alM mt mg now z Q j).2 ∧ se = sent + l.length ∧ st = ⟨[(0, .int .i64 k), (1, .int .i64 mt), (2, .int .i64 mg), (3, .slice (some ⟨b, o, none⟩) m c0), (9, .pointer (some ⟨g, 0, none⟩)), (11, .slice ao n c), (12, .int .i64 now), (13, .int .i64 se), (14, .int .i64 i), (15, .pointer (some ⟨bx, 0, none⟩)), (22, .slice aw l.length cw), (23, .slice A3 n3 c3), (138, .slice A3 n3 c3), (139, .int .i64 n3), (140, .int .i64 j)], rgH g gb k S put mt mg sent ++ [raO bx 4 N s A2 n2 c2, stO aw cw l], RR3⟩
            ∧ (∀ r ∈ RR2, r ∈ RR3) ∧ SR RR3 4 ao n c (qrs (alM mt mg now z Q j).1))
            ⟨0, ao, none, n, c, 0, [], sent, RR2, rfl, Nat.zero_le _, rfl, by simp, rfl, fun r h => h, hS⟩ (wk_mk (by (repeat (first | apply wkf_nil | (apply wkf_cons; rfl))); done) (by (repeat (first | apply sub_nil | (apply sub_cons; (· (repeat (first | apply sel_here | apply sel_there)))))); done) (by first | exact fun _ h => h | (intro r hr; cases hr; done) | (simp; done) | exact fun _ h => List.mem_append_left _ h | (intro r hr; simp [hr]; done))) ?_
          clear hS
          rintro q st ⟨j, ao, aw, n, c, cw, l, se, RR3, rfl, hj, hll, hse, rfl, hRR3, hS⟩
          have hB3 := alM_QB (mg := mg) (z := z) hB hn1 hb.2.1 j
          have ho3 := alM_out mt mg now z Q j
          rw [← hll] at ho3
          by_cases hlt : j < n3
          · obtain ⟨b1, o1, rfl, hmem⟩ := hA3 (by omega)
            replace hmem := hRR3 _ hmem
            have hr2 := kseg_at (k := .u16) (z := z) hlt
            have hc := refAgain ao n c (alM mt mg now z Q j).1 mt mg (z j) now RR3 hS (by rw [alM_len]; omega) hB3 (by omega)
            have e1 : (alM mt mg now z Q (j + 1)).1 = (agM mt mg now (z j) (alM mt mg now z Q j).1).1 := rfl
            have e2 : (alM mt mg now z Q (j + 1)).2 = if (agM mt mg now (z j) (alM mt mg now z Q j).1).2.2 = 0 then l ++ [(agM mt mg now (z j) (alM mt mg now z Q j).1).2.1] else l := by rw [alM, hll]
            generalize agM mt mg now (z j) (alM mt mg now z Q j).1 = r at hc e1 e2
            obtain ⟨Q2, s2, e⟩ := r
            dsimp only at hc e1 e2
            (repeat (first | ((first | (apply wo_v; rfl) ); (· first | (apply pv_ev; rfl) )) | apply wo_nil | apply wc_seq | apply wc_region | apply wc_skip | (apply wc_true; rfl) | (apply wc_false; rfl) | (apply a_dec_t; rfl; (· first | assumption | omega)) ))
            refine wc_block ?_
            (repeat (first | ((first | (apply wo_v; rfl) ); (· first | (apply pv_ev; rfl) | (apply g_load; first | (apply pv_ld; rfl; (· (repeat (first | apply sel_there))); rfl) | (apply pv_ld_ownf; rfl; (· (repeat (first | fail ))); (· assumption); rfl) | (apply pv_ld_own1; rfl; (· (repeat (first | apply sel_there))); (· assumption)) | (apply pv_ld_rof; rfl; (· (first | assumption )); (· assumption); rfl) | (apply pv_ld_ro1; rfl; (· (first | assumption )); (· assumption)) ) | (apply g_idx; first | (apply pv_idx; rfl; rfl; omega) ) )) | apply wo_nil | apply wc_seq | apply wc_region ))
            (refine wo_call (hc) rfl (by (repeat (first | apply sub_nil )); done) (by first | exact fun _ h => h | (intro r hr; cases hr; done) | (simp; done) | exact fun _ h => List.mem_append_left _ h | (intro r hr; simp [hr]; done)) rfl ?_; rintro v L' R' ⟨ao2, n2', c2', rfl, rfl, hS2⟩ H' hH RR hR; simp only [List.cons_append, List.nil_append] at hH hR; subst hH; have hR := hR.symm; subst hR)
            (repeat (first | ((first | (apply wo_v; rfl) ); (· first | (apply pv_ev; rfl) )) | apply wo_nil | apply wc_seq | apply wc_region | (apply wc_true; rfl) | (apply wc_false; rfl) | (apply a_dec_t; rfl; (· first | assumption | omega)) | (apply a_dec_f; rfl; (· first | assumption | omega)) | (apply a_dec_t; rfl; (· first | (simp; done) | (simp; omega))) | (apply a_dec_f; rfl; (· first | (simp; done) | (simp; omega))) ))
            by_cases he : e = 0
            · subst he
              rw [if_pos rfl] at e2
              (repeat (first | ((first | (apply wo_v; rfl) ); (· first | (apply pv_ev; rfl) | (apply g_bi; first | fail ) )) | apply wc_seq | apply wc_region | (apply wc_true; rfl) | (apply wo_bsl; (· (repeat (first | apply Rws'.nil | (apply Rws'.one; rfl; rfl; rfl) ))); rfl; rfl; rfl; rfl; intro bx) ))
              refine wo_app rfl rfl (by (repeat (first | apply sel_here | apply sel_there)); done) (by (repeat (first | apply sel_here )); done) (by unfold maxLen; omega) (by omega) rfl (fun ao3 c4 => ?_)
              (repeat (first | ((first | (apply wo_v; rfl) ); (· first | (apply pv_ev; rfl) | (apply g_bin; first | (apply a_add; rfl; rfl; infer_instance; omega) ) )) | apply wo_nil | apply wc_region ))
              exact loop_end ⟨j + 1, ao2, ao3, n2', c2', c4, l ++ [s2], se + 1, _, rfl, by omega, e2.symm, by simp; omega, by rw [show stO ao3 c4 (l ++ [s2]) = .own 9 1 ao3 (l.length + 1) c4 (strs l ++ [[.string s2]]) by simp [stO], List.length_append, List.length_singleton], fun r h => List.mem_append_right _ (hRR3 r h), by rw [e1]; exact hS2⟩ (by omega) (wk_mk (by (repeat (first | apply wkf_nil | (apply wkf_cons; rfl))); done) (by (repeat (first | apply sub_nil | (apply sub_cons; (· (repeat (first | apply sel_here | apply sel_there)))))); done) (by first | exact fun _ h => h | (intro r hr; cases hr; done) | (simp; done) | exact fun _ h => List.mem_append_left _ h | (intro r hr; simp [hr]; done)))
            · rw [if_neg he] at e2
              (repeat (first | ((first | (apply wo_v; rfl) ); (· first | (apply pv_ev; rfl) | (apply g_bin; first | (apply a_add; rfl; rfl; infer_instance; omega) ) )) | apply wo_nil | apply wc_region | apply wc_skip | (apply wc_true; rfl) | (apply wc_false; rfl) | (apply a_dec_t; rfl; (· first | assumption | omega)) | (apply a_dec_f; rfl; (· first | assumption | omega)) ))
              exact loop_end ⟨j + 1, ao2, aw, n2', c2', cw, l, se, _, rfl, by omega, e2.symm, hse, rfl, fun r h => List.mem_append_right _ (hRR3 r h), by rw [e1]; exact hS2⟩ (by omega) (wk_mk (by (repeat (first | apply wkf_nil | (apply wkf_cons; rfl))); done) (by (repeat (first | apply sub_nil )); done) (by first | exact fun _ h => h | (intro r hr; cases hr; done) | (simp; done) | exact fun _ h => List.mem_append_left _ h | (intro r hr; simp [hr]; done)))
          · have e : j = n3 := by omega
            subst e
            subst hse
            subst hll
            (repeat (first | ((first | (apply wo_v; rfl) ); (· first | (apply pv_ev; rfl) )) | apply wo_nil | apply wc_seq | apply wc_region | (apply wc_exit; rfl) | (apply wc_true; rfl) | (apply wc_false; rfl) | (apply a_dec_t; rfl; (· first | assumption | omega)) | (apply a_dec_f; rfl; (· first | assumption | omega)) ))
            exact cut_end ⟨ao, aw, n, c, cw, RR3, rfl, hRR3, hS⟩ (wk_mk (by (repeat (first | apply wkf_nil | (apply wkf_cons; rfl))); done) (by (repeat (first | apply sub_nil )); done) (by first | exact fun _ h => h | (intro r hr; cases hr; done) | (simp; done) | exact fun _ h => List.mem_append_left _ h | (intro r hr; simp [hr]; done)))
        clear hS
        rintro st ⟨ao, aw, n, c, cw, RR3, rfl, hRR3, hS⟩
        replace hA3 : 0 < n3 → ∃ b o, A3 = some ⟨b, o, none⟩ ∧ ⟨b, o, 1, kseg .u16 z n3⟩ ∈ RR3 := fun h => by obtain ⟨b, o, h3, h4⟩ := hA3 h; exact ⟨b, o, h3, hRR3 _ h4⟩
        replace hRR : ∀ r ∈ R, r ∈ RR3 := fun r h => hRR3 r (hRR r h)
        have hc := ringAll g gb k S put mt mg sent now Q A3 n3 c3 z RR3 (by omega) hL (by omega) hB (by omega) (by omega) hb.2.1 (by omega) hA3
        clear hL
        generalize alM mt mg now z Q n3 = r at hc hS ho hB2 ⊢
        obtain ⟨Q2, l⟩ := r
        dsimp only at hc hS ho hB2 ⊢
        (repeat (first | ((first | (apply wo_v; rfl) ); (· first | (apply pv_ev; rfl) )) | apply wc_seq | apply wc_region ))
        (refine wo_call (hc) rfl (by (repeat (first | apply sub_nil )); done) (by first | exact fun _ h => h | (intro r hr; cases hr; done) | (simp; done) | exact fun _ h => List.mem_append_left _ h | (intro r hr; simp [hr]; done)) rfl ?_; rintro v L' R' ⟨S2, ag, cg, rfl, rfl, rfl, hL⟩ H' hH RR hR; simp only [List.cons_append, List.nil_append] at hH hR; subst hH; have hR := hR.symm; subst hR)
        (repeat (first | ((first | (apply wo_v; rfl) ); (· first | (apply pv_ev; rfl) | (apply g_bi; first | (apply pv_len_sl; rfl) ) )) | apply wo_nil | apply wc_seq | apply wc_region | apply wc_skip | (apply wc_true; rfl) | (apply wc_false; rfl) | (apply a_dec_t; rfl; (· first | assumption | omega)) | (apply a_dec_f; rfl; (· first | assumption | omega)) ))
        refine wc_block ?_
        refine wc_loop' (fun q st => ∃ (j : Nat), q = l.length - j ∧ j ≤ l.length ∧ st = ⟨[(0, .int .i64 k), (1, .int .i64 mt), (2, .int .i64 mg), (3, .slice (some ⟨b, o, none⟩) m c0), (9, .pointer (some ⟨g, 0, none⟩)), (11, .slice ao n c), (12, .int .i64 now), (13, .int .i64 (sent + l.length)), (14, .int .i64 i), (15, .pointer (some ⟨bx, 0, none⟩)), (22, .slice aw l.length cw), (29, .slice ag l.length cg), (174, .int .i64 l.length), (175, .int .i64 j)], rgH g gb k S2 put mt mg (sent + l.length) ++ [raO bx 4 N s A2 n2 c2, stO aw cw l, stO ag cg l], RR3⟩)
          ⟨0, rfl, Nat.zero_le _, rfl⟩ (wk_mk (by (repeat (first | apply wkf_nil | (apply wkf_cons; rfl))); done) (by (repeat (first | apply sub_nil | (apply sub_cons; (· (repeat (first | apply sel_here | apply sel_there)))))); done) (by first | exact fun _ h => h | (intro r hr; cases hr; done) | (simp; done) | exact fun _ h => List.mem_append_left _ h | (intro r hr; simp [hr]; done))) ?_
        rintro q st ⟨j, rfl, hj, rfl⟩
        by_cases hlt : j < l.length
        · obtain ⟨sj, hsj⟩ : ∃ sj, l[j]? = some sj := ⟨_, List.getElem?_eq_getElem hlt⟩
          have hr2 := strs_at hsj
          refine wc_some (ao := aw) (by (repeat (first | apply sel_here | apply sel_there)); done) (by omega) (fun b4 o4 hao => ?_)
          subst hao
          refine wc_some (ao := ag) (by (repeat (first | apply sel_here | apply sel_there)); done) (by omega) (fun b5 o5 hao => ?_)
          subst hao
          (repeat (first | ((first | (apply wo_v; rfl) ); (· first | (apply pv_ev; rfl) )) | apply wo_nil | apply wc_seq | apply wc_region | apply wc_skip | (apply wc_true; rfl) | (apply wc_false; rfl) | (apply a_dec_t; rfl; (· first | assumption | omega)) ))
          refine wc_block ?_
          (repeat (first | ((first | (apply wo_v; rfl) ); (· first | (apply pv_ev; rfl) )) | apply wo_nil | apply wc_seq | apply wc_region ))
          (refine wc_quiet mixed (by kernel_rfl) ?_; (repeat (first | ((first | (apply wo_v; rfl) | (apply hd_v; rfl) ); (· first | (apply pv_ev; rfl) | (apply g_load; first | (apply pv_ld; rfl; (· (repeat (first | apply sel_there))); rfl) | (apply pv_ld_ownf; rfl; (· (repeat (first | fail ))); (· assumption); rfl) | (apply pv_ld_own1; rfl; (· (repeat (first | apply sel_here | apply sel_there))); (· assumption)) ) | (apply g_bin; first | (apply a_add; rfl; rfl; infer_instance; omega) | (apply pv_neq_s; rfl; rfl) ) | (apply g_idx; first | (apply pv_idx; rfl; rfl; omega) ) )) | apply wo_nil | apply Hd.nil | apply wc_region | apply wc_skip | (apply wc_true; rfl) | (apply wc_false; rfl) | (apply a_dec_t; rfl; (· first | assumption | omega)) | (apply a_dec_f; rfl; (· first | assumption | omega)) | (apply a_dec_t; rfl; (· first | (simp; done) | (simp; omega))) | (apply a_dec_f; rfl; (· first | (simp; done) | (simp; omega))) )))
          exact loop_end ⟨j + 1, rfl, by omega, rfl⟩ (by omega) (wk_mk (by (repeat (first | apply wkf_nil | (apply wkf_cons; rfl))); done) (by (repeat (first | apply sub_nil )); done) (by first | exact fun _ h => h | (intro r hr; cases hr; done) | (simp; done) | exact fun _ h => List.mem_append_left _ h | (intro r hr; simp [hr]; done)))
        · have e : j = l.length := by omega
          subst e
          (repeat (first | ((first | (apply wo_v; rfl) ); (· first | (apply pv_ev; rfl) )) | apply wo_nil | apply wc_seq | apply wc_region | (apply wc_exit; rfl) | (apply wc_true; rfl) | (apply wc_false; rfl) | (apply a_dec_t; rfl; (· first | assumption | omega)) | (apply a_dec_f; rfl; (· first | assumption | omega)) ))
          exact cut_end ⟨S2, Q2, ao, n, c, put, now, sent + l.length, RR3, rfl, hRR, hS, hL, hB2, by omega, by omega, by omega, by omega, by omega⟩ (wk_mk (by (repeat (first | apply wkf_nil | (apply wkf_cons; rfl))); done) (by (repeat (first | apply sub_nil )); done) (by first | exact fun _ h => h | (intro r hr; cases hr; done) | (simp; done) | exact fun _ h => List.mem_append_left _ h | (intro r hr; simp [hr]; done)))
      · (repeat (first | ((first | (apply wo_v; rfl) ); (· first | (apply pv_ev; rfl) )) | apply wo_nil | apply wc_seq | apply wc_region | apply wc_skip | (apply wc_true; rfl) | (apply wc_false; rfl) | (apply a_dec_t; rfl; (· first | assumption | omega)) | (apply a_dec_f; rfl; (· first | assumption | omega)) ))
        exact cut_end ⟨S, Q, ao, n, c, put, now, sent, RR, rfl, hRR, hS, hL, hB, by omega, by omega, by omega, by omega, by omega⟩ (wk_mk (by (repeat (first | apply wkf_nil | (apply wkf_cons; rfl))); done) (by (repeat (first | apply sub_nil | (apply sub_cons; (· (repeat (first | apply sel_here | apply sel_there)))))); done) (by first | exact fun _ h => h | (intro r hr; cases hr; done) | (simp; done) | exact fun _ h => List.mem_append_left _ h | (intro r hr; simp [hr]; done)))
    clear hS hL hB hp hs1 hs2 hn1 hn2 hq hmem hA2
    rintro st ⟨S, Q, ao, n, c, put, now, sent, RR, rfl, hRR, hS, hL, hB, hp, hs1, hs2, hn1, hn2⟩
    have hq := hL.qlen
    have hnq : n = Q.length := by rw [← hS.len]; simp
    (repeat (first | ((first | (apply wo_v; rfl) ); (· first | (apply pv_ev; rfl) | (apply pv_fld; rfl) | (apply g_load; first | (apply pv_ld; rfl; (· (repeat (first | apply sel_here | apply sel_there))); rfl) ) )) | apply wc_seq | apply wc_region ))
    rcases fnd_or N Q with ⟨h3, h4⟩ | ⟨j, p, h3, h4⟩
    · (refine wo_call (ringGet_no g gb k S put mt mg sent N Q (by omega) hL (by omega) h4) rfl (by (repeat (first | apply sub_nil )); done) (by first | exact fun _ h => h | (intro r hr; cases hr; done) | (simp; done) | exact fun _ h => List.mem_append_left _ h | (intro r hr; simp [hr]; done)) rfl ?_; rintro v L' R' ⟨rfl, rfl, rfl⟩ H' hH RR hR; simp only [List.cons_append, List.nil_append] at hH hR; subst hH; have hR := hR.symm; subst hR)
      (repeat (first | ((first | (apply wo_v; rfl) ); (· first | (apply pv_ev; rfl) | (apply pv_fld; rfl) | (apply g_load; first | (apply pv_ld; rfl; (· (repeat (first | apply sel_here | apply sel_there))); rfl) ) )) | apply wo_nil | apply wc_seq | apply wc_region ))
      (refine wo_call (refFind_no ao n c Q N RR hS (by omega) h4) rfl (by (repeat (first | apply sub_nil )); done) (by first | exact fun _ h => h | (intro r hr; cases hr; done) | (simp; done) | exact fun _ h => List.mem_append_left _ h | (intro r hr; simp [hr]; done)) rfl ?_; rintro v L' R' ⟨rfl, rfl, rfl⟩ H' hH RR hR; simp only [List.cons_append, List.nil_append] at hH hR; subst hH; have hR := hR.symm; subst hR)
      (repeat (first | ((first | (apply wo_v; rfl) ); (· first | (apply pv_ev; rfl) )) | apply wo_nil | apply wc_seq | apply wc_region ))
      (refine wo_call (ringLenR g gb k S put mt mg sent n (by omega)) rfl (by (repeat (first | apply sub_nil )); done) (by first | exact fun _ h => h | (intro r hr; cases hr; done) | (simp; done) | exact fun _ h => List.mem_append_left _ h | (intro r hr; simp [hr]; done)) rfl ?_; rintro v L' R' ⟨rfl, rfl, rfl⟩ H' hH RR hR; simp only [List.cons_append, List.nil_append] at hH hR; subst hH; have hR := hR.symm; subst hR)
      (repeat (first | ((first | (apply wo_v; rfl) ); (· first | (apply pv_ev; rfl) | (apply g_bi; first | (apply pv_len_sl; rfl) ) )) | (apply wo_run; rfl; rfl) | (apply wo_skip; rfl; rfl; rfl; rfl) | (apply wo_skip_u; rfl; rfl; rfl) | (apply a_gt; rfl; rfl; (· first | assumption | omega)) | (apply a_gf; rfl; rfl; (· first | assumption | omega)) ))
      (refine wo_call (ringSent g gb k S put mt mg sent) rfl (by (repeat (first | apply sub_nil )); done) (by first | exact fun _ h => h | (intro r hr; cases hr; done) | (simp; done) | exact fun _ h => List.mem_append_left _ h | (intro r hr; simp [hr]; done)) rfl ?_; rintro v L' R' ⟨rfl, rfl, rfl⟩ H' hH RR hR; simp only [List.cons_append, List.nil_append] at hH hR; subst hH; have hR := hR.symm; subst hR)
      (repeat (first | ((first | (apply wo_v; rfl) ); (· first | (apply pv_ev; rfl) | (apply g_pick; first | (apply pv_pick_t; rfl; rfl) | (apply pv_pick_f; rfl; rfl)) | (apply g_bin; first | (apply a_add; rfl; rfl; infer_instance; omega) | (apply pv_neq_b; rfl; rfl) | (apply pv_neq_s; rfl; rfl) ) | (apply g_un; first | (apply pv_not_t; rfl) | (apply pv_not_f; rfl) ) )) | apply wo_nil | apply wc_region | apply wc_skip | (apply wc_true; rfl) | (apply wc_false; rfl) | (apply wo_run; rfl; rfl) | (apply wo_skip; rfl; rfl; rfl; rfl) | (apply wo_skip_u; rfl; rfl; rfl) | (apply a_gt; rfl; rfl; (· first | assumption | omega)) | (apply a_gf; rfl; rfl; (· first | assumption | omega)) ))
      exact loop_end ⟨i + 1, S, Q, _, n, c, put, now, sent, RR, rfl, rfl, hRR, hS, hL, hB, by omega, by omega, by omega, by omega, by omega, by omega, by omega⟩ (by omega) (wk_mk (by (repeat (first | apply wkf_nil | (apply wkf_cons; rfl))); done) (by (repeat (first | apply sub_nil )); done) (by first | exact fun _ h => h | (intro r hr; cases hr; done) | (simp; done) | exact fun _ h => List.mem_append_left _ h | (intro r hr; simp [hr]; done)))
    · (refine wo_call (ringGet_hit g gb k S put mt mg sent N Q (by omega) hL (by omega) j p h3) rfl (by (repeat (first | apply sub_nil )); done) (by first | exact fun _ h => h | (intro r hr; cases hr; done) | (simp; done) | exact fun _ h => List.mem_append_left _ h | (intro r hr; simp [hr]; done)) rfl ?_; rintro v L' R' ⟨rfl, rfl, rfl⟩ H' hH RR hR; simp only [List.cons_append, List.nil_append] at hH hR; subst hH; have hR := hR.symm; subst hR)
      (repeat (first | ((first | (apply wo_v; rfl) ); (· first | (apply pv_ev; rfl) | (apply pv_fld; rfl) | (apply g_load; first | (apply pv_ld; rfl; (· (repeat (first | apply sel_here | apply sel_there))); rfl) ) )) | apply wo_nil | apply wc_seq | apply wc_region ))
      (refine wo_call (refFind_hit ao n c Q N RR hS (by omega) j p h3) rfl (by (repeat (first | apply sub_nil )); done) (by first | exact fun _ h => h | (intro r hr; cases hr; done) | (simp; done) | exact fun _ h => List.mem_append_left _ h | (intro r hr; simp [hr]; done)) rfl ?_; rintro v L' R' ⟨rfl, rfl, rfl⟩ H' hH RR hR; simp only [List.cons_append, List.nil_append] at hH hR; subst hH; have hR := hR.symm; subst hR)
      have hlt3 := h3.lt
      obtain ⟨b3, o3, rfl, hm3⟩ := hS.pos (by omega)
      have hr3 := qrs_at h3.1
      (repeat (first | ((first | (apply wo_v; rfl) ); (· first | (apply pv_ev; rfl) )) | apply wo_nil | apply wc_seq | apply wc_region ))
      (refine wo_call (ringLenR g gb k S put mt mg sent n (by omega)) rfl (by (repeat (first | apply sub_nil )); done) (by first | exact fun _ h => h | (intro r hr; cases hr; done) | (simp; done) | exact fun _ h => List.mem_append_left _ h | (intro r hr; simp [hr]; done)) rfl ?_; rintro v L' R' ⟨rfl, rfl, rfl⟩ H' hH RR hR; simp only [List.cons_append, List.nil_append] at hH hR; subst hH; have hR := hR.symm; subst hR)
      (repeat (first | ((first | (apply wo_v; rfl) ); (· first | (apply pv_ev; rfl) | (apply g_bi; first | (apply pv_len_sl; rfl) ) )) | (apply wo_run; rfl; rfl) | (apply wo_skip; rfl; rfl; rfl; rfl) | (apply wo_skip_u; rfl; rfl; rfl) | (apply a_gt; rfl; rfl; (· first | assumption | omega)) | (apply a_gf; rfl; rfl; (· first | assumption | omega)) ))
      (refine wo_call (ringSent g gb k S put mt mg sent) rfl (by (repeat (first | apply sub_nil )); done) (by first | exact fun _ h => h | (intro r hr; cases hr; done) | (simp; done) | exact fun _ h => List.mem_append_left _ h | (intro r hr; simp [hr]; done)) rfl ?_; rintro v L' R' ⟨rfl, rfl, rfl⟩ H' hH RR hR; simp only [List.cons_append, List.nil_append] at hH hR; subst hH; have hR := hR.symm; subst hR)
      (repeat (first | ((first | (apply wo_v; rfl) ); (· first | (apply pv_ev; rfl) | (apply pv_fld; rfl) | (apply g_load; first | (apply pv_ld; rfl; (· (repeat (first | apply sel_there))); rfl) | (apply pv_ld_ownf; rfl; (· (repeat (first | apply sel_there))); (· assumption); rfl) | (apply pv_ld_own1; rfl; (· (repeat (first | fail ))); (· assumption)) | (apply pv_ld_rof; rfl; (· (first | assumption )); (· assumption); rfl) ) | (apply g_pick; first | (apply pv_pick_t; rfl; rfl) | (apply pv_pick_f; rfl; rfl)) | (apply g_bin; first | (apply a_add; rfl; rfl; infer_instance; omega) | (apply pv_neq_b; rfl; rfl) | (apply pv_neq_s; rfl; rfl) ) | (apply g_un; first | (apply pv_not_t; rfl) ) | (apply g_idx; first | (apply pv_idx; rfl; rfl; omega) ) )) | apply wo_nil | apply wc_region | apply wc_skip | (apply wc_true; rfl) | (apply wc_false; rfl) | (apply wo_run; rfl; rfl) | (apply wo_skip; rfl; rfl; rfl; rfl) | (apply wo_skip_u; rfl; rfl; rfl) | (apply a_gt; rfl; rfl; (· first | assumption | omega)) | (apply a_gf; rfl; rfl; (· first | assumption | omega)) | (apply a_gt; rfl; rfl; (· first | (simp; done) | (simp; omega))) | (apply a_gf; rfl; rfl; (· first | (simp; done) | (simp; omega))) ))
      exact loop_end ⟨i + 1, S, Q, _, n, c, put, now, sent, RR, rfl, rfl, hRR, hS, hL, hB, by omega, by omega, by omega, by omega, by omega, by omega, by omega⟩ (by omega) (wk_mk (by (repeat (first | apply wkf_nil | (apply wkf_cons; rfl))); done) (by (repeat (first | apply sub_nil )); done) (by first | exact fun _ h => h | (intro r hr; cases hr; done) | (simp; done) | exact fun _ h => List.mem_append_left _ h | (intro r hr; simp [hr]; done)))
  · have hex2 : ¬ (i < m) ∨ (i < m ∧ ¬ i < 120) := by omega
    rcases hex2 with h | ⟨h, h'⟩
    all_goals
      (repeat (first | ((first | (apply wo_v; rfl) ); (· first | (apply pv_ev; rfl) | (apply g_pick; first | (apply pv_pick_t; rfl; rfl) | (apply pv_pick_f; rfl; rfl)) | (apply g_bi; first | (apply pv_len_sl; rfl) ) )) | apply wo_nil | apply wc_seq | apply wc_region | (apply wc_exit; rfl) | apply wc_ret | (apply wc_true; rfl) | (apply wc_false; rfl) | (apply a_dec_t; rfl; (· first | assumption | omega)) | (apply a_dec_f; rfl; (· first | assumption | omega)) | (apply wo_run; rfl; rfl) | (apply wo_skip; rfl; rfl; rfl; rfl) | (apply wo_skip_u; rfl; rfl; rfl) | (apply a_gt; rfl; rfl; (· first | assumption | omega)) | (apply a_gf; rfl; rfl; (· first | assumption | omega)) ))
      exact ret1 rfl rfl rfl ((by (repeat (first | apply sub_nil )); done) : List.Perm _ ([] ++ _)) (by first | exact fun _ h => h | (intro r hr; cases hr; done) | (simp; done) | exact fun _ h => List.mem_append_left _ h | (intro r hr; simp [hr]; done))
theorem ringPlays_walk (a : Int) (ha : -9223372036854775808 ≤ a ∧ a ≤ 9223372036854775807) (b : Int) (hb : -9223372036854775808 ≤ b ∧ b ≤ 9223372036854775807) (d : Int) (hd : -9223372036854775808 ≤ d ∧ d ≤ 9223372036854775807)
    {w : World} (A : Option Addr) (n c : Nat) (rows : List (List Value)) (R : List Ro) (hR : ∀ r ∈ R, r.sat w) (h : Deep R raFd A n c rows) :
    Calls Try.prog 13 #[.int .i64 a, .int .i64 b, .int .i64 d, .slice A n c] w fun e w' => e = .returned (.bool true) ∧ Below w.heap.size w w' :=
  walk_of (ringPlays_fn a b d A n c rows R h) hR
end Go.Proofs.Ytdjbdlfdknfcaaa
