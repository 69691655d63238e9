/-
  Texts of this proof, laid together (part 7 of 7).
-/
import Derived.Test.YteaccbbmphcmnaaB6
/-
  RtcpParts: one behind the other.
-/
namespace Go.Proofs.Yteaccbbmphcmnaa
set_option linter.unusedSimpArgs false
set_option linter.unusedVariables false
open Go.RowKit
attribute [local irreducible] Pv WO WC Fn
set_option maxRecDepth 100000
attribute [local irreducible] ByteArray.extract

theorem txs_two (p q : Pkt) : txs [p, q] = txs [p] ++ txs [q] := by
  show one4 _ ++ (one4 _ ++ E0) = (one4 _ ++ E0) ++ (one4 _ ++ E0)
  rw [append_E0, append_E0]
theorem txs_one_size (p : Pkt) : 4 ≤ (txs [p]).size := by
  show 4 ≤ (one4 ((hdK p).1, (hdK p).2, txK p) ++ E0).size
  rw [append_E0, one4_size]; omega
set_option maxHeartbeats 16000000 in
theorem rtcpParts_fn (so a b wide : Int) (A : Option Addr) (n c : Nat) (A2 : Option Addr) (n2 c2 : Nat) (sm ct kd : Int) (so' a' b' wide' : Int) (A' : Option Addr) (n' c' : Nat) (A2' : Option Addr) (n2' c2' : Nat) (sm' ct' kd' : Int) (R : List Ro) (p q : Pkt) (y0 : MkC R (mdL so a b wide (.slice A n c) (.slice A2 n2 c2) sm ct kd) p) (y1 : MkC R (mdL so' a' b' wide' (.slice A' n' c') (.slice A2' n2' c2') sm' ct' kd') q)
    (hp : rgK p ∧ (txK p).size ≤ 20000) (hq : rgK q ∧ (txK q).size ≤ 20000) (z : Int) :
    Fn Try.prog 7 #[.agg (mdL so a b wide (.slice A n c) (.slice A2 n2 c2) sm ct kd).toArray, .agg (mdL so' a' b' wide' (.slice A' n' c') (.slice A2' n2' c2') sm' ct' kd').toArray, .int .i64 z] [] R (fun v _ _ => v = .bool true) := by
  have cp := ckK_ok hp.1
  have cq := ckK_ok hq.1
  have kp := fun v R' (hv : PkV R' p v) => cCheck (R := R') hp.1 hv (fun _ => by omega)
  have kq := fun v R' (hv : PkV R' q v) => cCheck (R := R') hq.1 hv (fun _ => by omega)
  generalize ckK p = ep at *
  generalize ckK q = eq at *
  have qp := fun v A R' (hS : SQ R' 1 A 1 1 (one1 [v])) (hv : PksV R' [p] [v]) (hk : okK p) => tTextK [p] [v] A 1 1 R' hS hv (fun q hq => by rcases List.mem_singleton.1 hq with rfl; exact hk) (by simp) (fun q hq => by rcases List.mem_singleton.1 hq with rfl; omega)
  have qq := fun v A R' (hS : SQ R' 1 A 1 1 (one1 [v])) (hv : PksV R' [q] [v]) (hk : okK q) => tTextK [q] [v] A 1 1 R' hS hv (fun q hq => by rcases List.mem_singleton.1 hq with rfl; exact hk) (by simp) (fun q hq => by rcases List.mem_singleton.1 hq with rfl; omega)
  have q2 := fun vs A c R' (hS : SQ R' 1 A 2 c (one1 vs)) (hv : PksV R' [p, q] vs) (hk : okK p) (hk2 : okK q) => tTextK [p, q] vs A 2 c R' hS hv (fun x hx => by rcases List.mem_cons.1 hx with rfl | hx; exact hk; rcases List.mem_singleton.1 hx with rfl; exact hk2) (by simp) (fun x hx => by rcases List.mem_cons.1 hx with rfl | hx; omega; rcases List.mem_singleton.1 hx with rfl; omega)
  have z1 := txs_one_size p
  have z2 := txs_one_size q
  have e2 := txs_two p q
  have kb := fun h h' hs => pk_back5 (l := [p, q]) h h' hs
  have kc := fun h hs n hn => pk_cut5 (p := p) h hs (n := n) hn
  rw [e2] at q2 kb
  generalize txs [p] = s at *
  generalize txs [q] = t at *
  refine fn_intro Try.func7 rfl Try.ntmps7 rfl (fun E => ?_)
  (repeat (first | ((first | (apply wo_v; rfl) ); (· first | (apply pv_ev; rfl) )) | apply wo_nil | apply wc_seq | apply wc_region | (apply wo_box1; rfl; rfl; rfl; intro bx) | (apply wo_boxa; rfl; rfl; intro bx) ))
  rename_i g0
  obtain ⟨g1, hg1⟩ : ∃ g, g = bx := ⟨_, rfl⟩
  subst hg1
  (refine wo_call (awake05) rfl (by (repeat (first | apply sub_nil )); done) (by first | exact fun _ h => h | (intro r hr; cases hr; done) | (simp; done) | exact fun _ h => List.mem_append_left _ h | (intro r hr; simp [hr]; done)) rfl ?_; rintro v L' R' ⟨rfl, rfl, rfl⟩ H' hH RR hR; simp only [List.cons_append, List.nil_append] at hH hR; subst hH; have hR := hR.symm; subst hR)
  (repeat (first | ((first | (apply wo_v; rfl) ); (· first | (apply pv_ev; rfl) | (apply g_load; first | (apply pv_lda; rfl; (· (repeat (first | apply sel_here | apply sel_there))); (· (repeat (first | apply Cut.here0 | apply Cut.here )))) ) | (apply g_un; first | (apply pv_not_t; rfl) ) )) | apply wo_nil | apply wc_seq | apply wc_region | apply wc_skip | (apply wc_true; rfl) | (apply wc_false; rfl) ))
  (refine wo_call (y0) rfl (by (repeat (first | apply sub_nil )); done) (by first | exact fun _ h => h | (intro r hr; cases hr; done) | (simp; done) | exact fun _ h => List.mem_append_left _ h | (intro r hr; simp [hr]; done)) rfl ?_; rintro v L' R' ⟨u, w, rfl, hP, hQ, rfl⟩ H' hH RR hR; simp only [List.cons_append, List.nil_append] at hH hR; subst hH; have hR := hR.symm; subst hR)
  obtain ⟨_, _, _, _, _, _, _, _, _, _, _, _, _, _, _, _, _, _, _, _, _, _, _, _, _, rfl⟩ := ref_row hQ
  clear hQ
  obtain ⟨RA, hRA⟩ : ∃ X, X = R' := ⟨_, rfl⟩
  subst hRA
  (repeat (first | ((first | (apply wo_v; rfl) ); (· first | (apply pv_ev; rfl) | (apply g_load; first | (apply pv_lda; rfl; (· (repeat (first | apply sel_here | apply sel_there))); (· (repeat (first | apply Cut.here0 | apply Cut.here )))) ) )) | apply wo_nil | apply wc_seq | apply wc_region | (apply wo_alloc; rfl; intro bx) | (apply wo_sta; rfl; rfl; rfl; rfl; (· (repeat (first | apply sel_here ))); (· (repeat (first | apply LayAt.nil | apply LayAt.here ))); rfl) ))
  obtain ⟨g2, hg2⟩ : ∃ g, g = bx := ⟨_, rfl⟩
  subst hg2
  (refine wo_call (y1) rfl (by (repeat (first | apply sub_nil )); done) (by first | exact fun _ h => h | (intro r hr; cases hr; done) | (simp; done) | exact fun _ h => List.mem_append_left _ h | (intro r hr; simp [hr]; done)) rfl ?_; rintro v L' R' ⟨u', w, rfl, hP', hQ, rfl⟩ H' hH RR hR; simp only [List.cons_append, List.nil_append] at hH hR; subst hH; have hR := hR.symm; subst hR)
  obtain ⟨_, _, _, _, _, _, _, _, _, _, _, _, _, _, _, _, _, _, _, _, _, _, _, _, _, rfl⟩ := ref_row hQ
  clear hQ
  (repeat (first | ((first | (apply wo_v; rfl) ); (· first | (apply pv_ev; rfl) )) | apply wo_nil | apply wc_seq | apply wc_region | (apply wo_alloc; rfl; intro bx) | (apply wo_sta; rfl; rfl; rfl; rfl; (· (repeat (first | apply sel_here ))); (· (repeat (first | apply LayAt.nil | apply LayAt.here ))); rfl) ))
  obtain ⟨g3, hg3⟩ : ∃ g, g = bx := ⟨_, rfl⟩
  subst hg3
  have hP := hP.mono (R' := R' ++ (RA ++ R)) (fun r hr => List.mem_append_right _ (List.mem_append_left _ hr))
  have hP' := hP'.mono (R' := R' ++ (RA ++ R)) (fun r hr => List.mem_append_left _ hr)
  have hone := hP.one
  have hone' := hP'.one
  generalize R' ++ (RA ++ R) = RG at *
  (refine wo_call (kp u RG hP) rfl (by (repeat (first | apply sub_nil )); done) (by first | exact fun _ h => h | (intro r hr; cases hr; done) | (simp; done) | exact fun _ h => List.mem_append_left _ h | (intro r hr; simp [hr]; done)) rfl ?_; rintro v L' R' ⟨rfl, rfl, rfl⟩ H' hH RR hR; simp only [List.cons_append, List.nil_append] at hH hR; subst hH; have hR := hR.symm; subst hR)
  by_cases hep : ep = 0
  · subst hep
    obtain ⟨okp, sp⟩ := cp rfl
    (repeat (first | ((first | (apply wo_v; rfl) ); (· first | (apply pv_ev; rfl) )) | (apply wo_run; rfl; rfl) ))
    (refine wo_call (kq u' RG hP') rfl (by (repeat (first | apply sub_nil )); done) (by first | exact fun _ h => h | (intro r hr; cases hr; done) | (simp; done) | exact fun _ h => List.mem_append_left _ h | (intro r hr; simp [hr]; done)) rfl ?_; rintro v L' R' ⟨rfl, rfl, rfl⟩ H' hH RR hR; simp only [List.cons_append, List.nil_append] at hH hR; subst hH; have hR := hR.symm; subst hR)
    by_cases heq : eq = 0
    · subst heq
      obtain ⟨okq, sq⟩ := cq rfl
      (repeat (first | ((first | (apply wo_v; rfl) ); (· first | (apply pv_ev; rfl) | (apply g_pick; first | (apply pv_pick_t; rfl; rfl) | (apply pv_pick_f; rfl; rfl)) )) | apply wo_nil | apply wc_seq | apply wc_region | apply wc_skip | (apply wc_true; rfl) | (apply wc_false; rfl) | (apply wo_run; rfl; rfl) | (apply wo_bsl; (· (repeat (first | (apply Rws'.one; rfl; rfl; rfl) | (apply Rws'.agg; rfl; rfl; rfl)))); rfl; rfl; rfl; rfl; intro bx) ))
      refine wo_bsl (xs := [[u]]) (Rws'.one rfl hone rfl .nil) rfl rfl rfl rfl (fun bx => ?_)
      refine wo_still (ao := some ⟨bx, 0, none⟩) (n := 1) (c := 1) (by (repeat (first | apply sel_here )); done) (fun R1 hS1 => ?_)
      have qp := qp u _ _ hS1.sq ((PksV.nil _).snoc (hP.mono (fun r hr => List.mem_append_right _ hr))) okp
      (refine wo_call (qp) rfl (by (repeat (first | apply sub_nil )); done) (by first | exact fun _ h => h | (intro r hr; cases hr; done) | (simp; done) | exact fun _ h => List.mem_append_left _ h | (intro r hr; simp [hr]; done)) rfl ?_; rintro v L' R' ⟨rfl, rfl, rfl⟩ H' hH RR hR; simp only [List.cons_append, List.nil_append] at hH hR; subst hH; have hR := hR.symm; subst hR)
      (repeat (first | ((first | (apply wo_v; rfl) ); (· first | (apply pv_ev; rfl) )) | (apply wo_bsl; (· (repeat (first | (apply Rws'.one; rfl; rfl; rfl) | (apply Rws'.agg; rfl; rfl; rfl)))); rfl; rfl; rfl; rfl; intro bx) ))
      refine wo_bsl (xs := [[u']]) (Rws'.one rfl hone' rfl .nil) rfl rfl rfl rfl (fun bx => ?_)
      refine wo_still (ao := some ⟨bx, 0, none⟩) (n := 1) (c := 1) (by (repeat (first | apply sel_here )); done) (fun R2 hS2 => ?_)
      have qq := qq u' _ _ hS2.sq ((PksV.nil _).snoc (hP'.mono (fun r hr => List.mem_append_right _ (List.mem_append_right _ hr)))) okq
      (refine wo_call (qq) rfl (by (repeat (first | apply sub_nil )); done) (by first | exact fun _ h => h | (intro r hr; cases hr; done) | (simp; done) | exact fun _ h => List.mem_append_left _ h | (intro r hr; simp [hr]; done)) rfl ?_; rintro v L' R' ⟨rfl, rfl, rfl⟩ H' hH RR hR; simp only [List.cons_append, List.nil_append] at hH hR; subst hH; have hR := hR.symm; subst hR)
      (repeat (first | ((first | (apply wo_v; rfl) ); (· first | (apply pv_ev; rfl) | (apply g_bin; first | (apply a_add; rfl; rfl; infer_instance; omega) ) | (apply g_bi; first | (apply pv_len_str; rfl) ) )) | apply wo_nil | apply wc_seq | apply wc_region | (apply wc_true; rfl) | (apply wc_false; rfl) | (apply a_dec_t; rfl; (· first | assumption | omega)) | (apply a_dec_f; rfl; (· first | assumption | omega)) | (apply a_dec_t; rfl; (· first | (simp; done) | (simp; omega))) | (apply a_dec_f; rfl; (· first | (simp; done) | (simp; omega))) ))
      by_cases hbig : 1500 < s.size + t.size
      · (repeat (first | ((first | (apply wo_v; rfl) ); (· first | (apply pv_ev; rfl) )) | apply wo_nil | apply wc_seq | apply wc_region | apply wc_ret | (apply wc_true; rfl) | (apply wc_false; rfl) | (apply a_dec_t; rfl; (· first | assumption | omega)) ))
        exact ret1 rfl rfl rfl ((by (repeat (first | apply sub_nil )); done) : List.Perm _ ([] ++ _)) (by first | exact fun _ h => h | (intro r hr; cases hr; done) | (simp; done) | exact fun _ h => List.mem_append_left _ h | (intro r hr; simp [hr]; done))
      · have hst : (s ++ t).size ≤ 1500 := by rw [ByteArray.size_append]; omega
        have kP := kParse (s ++ t) (by omega)
        rw [kb (fun x hx => by rcases List.mem_cons.1 hx with rfl | hx; exact okp; rcases List.mem_singleton.1 hx with rfl; exact okq) (by simp) hst] at kP
        dsimp only at kP
        (repeat (first | ((first | (apply wo_v; rfl) ); (· first | (apply pv_ev; rfl) | (apply g_bin; first | (apply a_add; rfl; rfl; infer_instance; omega) | (apply pv_add_s; rfl; rfl; omega) ) )) | apply wc_seq | apply wc_region | apply wc_skip | (apply wc_true; rfl) | (apply wc_false; rfl) | (apply a_dec_t; rfl; (· first | assumption | omega)) | (apply a_dec_f; rfl; (· first | assumption | omega)) ))
        (refine wo_call (kP) rfl (by (repeat (first | apply sub_nil )); done) (by first | exact fun _ h => h | (intro r hr; cases hr; done) | (simp; done) | exact fun _ h => List.mem_append_left _ h | (intro r hr; simp [hr]; done)) rfl ?_; rintro v L' R' ⟨A3, c3, vs, rfl, hS3, hV3, _, rfl⟩ H' hH RR hR; simp only [List.cons_append, List.nil_append] at hH hR; subst hH; have hR := hR.symm; subst hR)
        (repeat (first | ((first | (apply wo_v; rfl) ); (· first | (apply pv_ev; rfl) | (apply g_bin; first | (apply a_add; rfl; rfl; infer_instance; omega) | (apply a_sub; rfl; rfl; infer_instance; omega) | (apply pv_rem; rfl; rfl; omega) | (apply pv_rem_t; rfl; rfl; omega) | (apply pv_and; rfl; rfl) | (apply pv_add_s; rfl; rfl; omega) | (apply a_add_u; rfl; rfl; infer_instance) | (apply pv_add_w; rfl; rfl) ) | (apply g_bi; first | (apply pv_len_str; rfl) ) | (apply pv_cs_hi; rfl; rfl; omega) )) | apply wo_nil | apply wc_seq | apply wc_region ))
        obtain ⟨N, hN, n1, n2⟩ : ∃ N : Nat, IntKind.i64.wrap ((bits .and .i64 z 65535).tmod ((s.size : Int) - 1) + 1) = N ∧ 1 ≤ N ∧ N < s.size := by
          have m0 : 0 ≤ bits .and .i64 z 65535 := by rw [and_65535]; omega
          have m1 := Int.tmod_nonneg ((s.size : Int) - 1) m0
          have m2 := Int.tmod_lt_of_pos (bits .and .i64 z 65535) (b := (s.size : Int) - 1) (by omega)
          refine ⟨((bits .and .i64 z 65535).tmod ((s.size : Int) - 1) + 1).toNat, ?_, by omega, by omega⟩
          rw [IntWalk.i64_in _ (by omega)]; omega
        rw [hN]
        have kC := kParse (s.extract 0 N) (by simp only [ByteArray.size_extract]; omega)
        rw [kc okp sp N ⟨n1, n2⟩] at kC
        dsimp only at kC
        (repeat (first | ((first | (apply wo_v; rfl) ); (· first | (apply pv_ev; rfl) | (apply pv_cs_hi; rfl; rfl; omega) )) ))
        rw [Int.toNat_natCast]
        obtain ⟨RB, hRB⟩ : ∃ X, X = R' := ⟨_, rfl⟩
        subst hRB
        (refine wo_call (kC) rfl (by (repeat (first | apply sub_nil )); done) (by first | exact fun _ h => h | (intro r hr; cases hr; done) | (simp; done) | exact fun _ h => List.mem_append_left _ h | (intro r hr; simp [hr]; done)) rfl ?_; rintro v L' R' ⟨A4, c4, vs4, rfl, _, _, _, rfl⟩ H' hH RR hR; simp only [List.cons_append, List.nil_append] at hH hR; subst hH; have hR := hR.symm; subst hR)
        (repeat (first | ((first | (apply wo_v; rfl) ); (· first | (apply pv_ev; rfl) | (apply g_pick; first | (apply pv_pick_t; rfl; rfl) ) | (apply g_bi; first | (apply pv_len_sl; rfl) ) )) | apply wo_nil | apply wc_seq | apply wc_region | (apply wo_run; rfl; rfl) | (apply wo_bsl; (· (repeat (first | (apply Rws'.one; rfl; rfl; rfl) | (apply Rws'.agg; rfl; rfl; rfl)))); rfl; rfl; rfl; rfl; intro bx) ))
        refine wo_bsl (xs := [[u], [u']]) (Rws'.one rfl hone rfl (Rws'.one rfl hone' rfl .nil)) rfl rfl rfl rfl (fun bx => ?_)
        refine wo_still (ao := some ⟨bx, 0, none⟩) (n := 2) (c := 2) (by (repeat (first | apply sel_here )); done) (fun R3 hS3' => ?_)
        have hu : ∀ r, r ∈ RG → r ∈ R3 ++ (R' ++ (RB ++ (R2 ++ (R1 ++ RG)))) := fun r hr => List.mem_append_right _ (List.mem_append_right _ (List.mem_append_right _ (List.mem_append_right _ (List.mem_append_right _ hr))))
        have c1 := q2 _ _ _ _ hS3'.sq (((PksV.nil _).snoc (hP.mono hu)).snoc (hP'.mono hu)) okp okq
        (repeat (first | ((first | (apply wo_v; rfl) ); (· first | (apply pv_ev; rfl) )) | (apply wo_run; rfl; rfl) ))
        (refine wo_call (c1) rfl (by (repeat (first | apply sub_nil )); done) (by first | exact fun _ h => h | (intro r hr; cases hr; done) | (simp; done) | exact fun _ h => List.mem_append_left _ h | (intro r hr; simp [hr]; done)) rfl ?_; rintro v L' R' ⟨rfl, rfl, rfl⟩ H' hH RR hR; simp only [List.cons_append, List.nil_append] at hH hR; subst hH; have hR := hR.symm; subst hR)
        (repeat (first | ((first | (apply wo_v; rfl) ); (· first | (apply pv_ev; rfl) | (apply g_pick; first | (apply pv_pick_t; rfl; rfl) ) | (apply g_bin; first | (apply a_add; rfl; rfl; infer_instance; omega) | (apply pv_eql_s; rfl; rfl) | (apply pv_add_s; rfl; rfl; omega) ) )) | (apply wo_run; rfl; rfl) | (apply wo_skip; rfl; rfl; rfl; rfl) | (apply wo_skip_u; rfl; rfl; rfl) | (apply a_gt; rfl; rfl; (· first | assumption | omega)) | (apply a_gf; rfl; rfl; (· first | assumption | omega)) | (apply a_gt; rfl; rfl; (· first | (simp; done) | (simp; omega))) ))
        have c2 := q2 vs A3 c3 _ hS3 hV3 okp okq
        (refine wo_call (c2) rfl (by (repeat (first | apply sub_nil )); done) (by first | exact fun _ h => h | (intro r hr; cases hr; done) | (simp; done) | exact fun _ h => List.mem_append_left _ h | (intro r hr; simp [hr]; done)) rfl ?_; rintro v L' R' ⟨rfl, rfl, rfl⟩ H' hH RR hR; simp only [List.cons_append, List.nil_append] at hH hR; subst hH; have hR := hR.symm; subst hR)
        (repeat (first | ((first | (apply wo_v; rfl) ); (· first | (apply pv_ev; rfl) | (apply g_pick; first | (apply pv_pick_t; rfl; rfl) ) | (apply g_bin; first | (apply a_add; rfl; rfl; infer_instance; omega) | (apply pv_eql_s; rfl; rfl) | (apply pv_add_s; rfl; rfl; omega) ) )) | apply wo_nil | apply wc_ret | (apply wo_run; rfl; rfl) | (apply wo_skip; rfl; rfl; rfl; rfl) | (apply wo_skip_u; rfl; rfl; rfl) | (apply a_gt; rfl; rfl; (· first | assumption | omega)) | (apply a_gf; rfl; rfl; (· first | assumption | omega)) | (apply a_gt; rfl; rfl; (· first | (simp; done) | (simp; omega))) ))
        exact ret1 rfl rfl (by simp) ((by (repeat (first | apply sub_nil )); done) : List.Perm _ ([] ++ _)) (by first | exact fun _ h => h | (intro r hr; cases hr; done) | (simp; done) | exact fun _ h => List.mem_append_left _ h | (intro r hr; simp [hr]; done))
    · (repeat (first | ((first | (apply wo_v; rfl) ); (· first | (apply pv_ev; rfl) | (apply g_pick; first | (apply pv_pick_t; rfl; rfl) | (apply pv_pick_f; rfl; rfl)) )) | apply wo_nil | apply wc_seq | apply wc_region | apply wc_ret | (apply wc_true; rfl) | (apply wc_false; rfl) | (apply a_dec_t; rfl; (· first | assumption | omega)) | (apply wo_run; rfl; rfl) ))
      exact ret1 rfl rfl rfl ((by (repeat (first | apply sub_nil )); done) : List.Perm _ ([] ++ _)) (by first | exact fun _ h => h | (intro r hr; cases hr; done) | (simp; done) | exact fun _ h => List.mem_append_left _ h | (intro r hr; simp [hr]; done))
  · (repeat (first | ((first | (apply wo_v; rfl) ); (· first | (apply pv_ev; rfl) | (apply g_pick; first | (apply pv_pick_t; rfl; rfl) ) )) | apply wo_nil | apply wc_seq | apply wc_region | apply wc_ret | (apply wc_true; rfl) | (apply wo_run; rfl; rfl) | (apply wo_skip; rfl; rfl; rfl; rfl) | (apply wo_skip_u; rfl; rfl; rfl) | (apply a_gt; rfl; rfl; (· first | assumption | omega)) ))
    exact ret1 rfl rfl rfl ((by (repeat (first | apply sub_nil )); done) : List.Perm _ ([] ++ _)) (by first | exact fun _ h => h | (intro r hr; cases hr; done) | (simp; done) | exact fun _ h => List.mem_append_left _ h | (intro r hr; simp [hr]; done))
theorem rtcpParts_walk {w : World} (row0 : List Value) (R0 : List Ro) (hR0 : ∀ r ∈ R0, r.sat w) (w0 : FV1s R0 mdFd row0) (row1 : List Value) (R1 : List Ro) (hR1 : ∀ r ∈ R1, r.sat w) (w1 : FV1s R1 mdFd row1) (a : Int) (ha : -9223372036854775808 ≤ a ∧ a ≤ 9223372036854775807) :
    Calls Try.prog 7 #[.agg row0.toArray, .agg row1.toArray, .int .i64 a] w fun e w' => e = .returned (.bool true) ∧ Below w.heap.size w w' := by
  obtain ⟨m, A, n, c, A2, n2, c2, rfl, hm, hS, hc, hT⟩ := row_md w0
  obtain ⟨m', A', n', c', A2', n2', c2', rfl, hm', hS', hc', hT'⟩ := row_md w1
  have m0 : ∀ r ∈ R0, r ∈ R0 ++ R1 := fun r hr => List.mem_append_left _ hr
  have m1 : ∀ r ∈ R1, r ∈ R0 ++ R1 := fun r hr => List.mem_append_right _ hr
  exact walk_of (rtcpParts_fn _ _ _ _ _ _ _ _ _ _ _ _ _ _ _ _ _ _ _ _ _ _ _ _ _ _ (R0 ++ R1) _ _ (yMake m hm A n c A2 n2 c2 _ (hS.mono m0) hc (hT.mono m0)) (yMake m' hm' A' n' c' A2' n2' c2' _ (hS'.mono m1) hc' (hT'.mono m1)) (mk_rg hm) (mk_rg hm') a)
    (fun r hr => by rcases List.mem_append.1 hr with h | h; exact hR0 r h; exact hR1 r h)
end Go.Proofs.Yteaccbbmphcmnaa
