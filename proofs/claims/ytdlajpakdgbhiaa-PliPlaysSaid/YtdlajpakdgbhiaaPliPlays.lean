/-
  PliPlays: every sequence of calls has the specified results.
-/
import Derived.Test.YtdlajpakdgbhiaaPliLaws
import Derived.Test.YtdlajpakdgbhiaaSpP
import Derived.Test.YtdlajpakdgbhiaaSpQ
import Derived.Test.YtdlajpakdgbhiaaTy
namespace Go.Proofs.Ytdlajpakdgbhiaa
set_option linter.unusedSimpArgs false
set_option linter.unusedVariables false
open Go.RowKit
attribute [local irreducible] Pv WO WC Fn
set_option maxRecDepth 100000

abbrev raT : TypeId := 42
abbrev irs (l : List Int) : List (List Value) := l.map fun z => [.int .i64 z]
theorem irs_at {l : List Int} {i : Nat} {z : Int} (h : l[i]? = some z) : (irs l)[i]? = some [.int .i64 z] := by simp [irs, h]
def wt (fi mo : Int) : Nat → Int
  | 0 => fi
  | k + 1 => min (2 * wt fi mo k) mo
theorem wt_b {fi mo : Int} (h1 : 1 ≤ fi) (h2 : fi ≤ mo) : ∀ k, 1 ≤ wt fi mo k ∧ wt fi mo k ≤ mo
  | 0 => ⟨h1, h2⟩
  | k + 1 => by have := wt_b h1 h2 k; simp only [wt]; omega
abbrev prv (fi mo : Int) (wan : Bool) (ao : Option Addr) (n c : Nat) (sen : Int) : List Value := [.int .i64 fi, .int .i64 mo, .bool wan, .slice ao n c, .int .i64 sen]
set_option maxHeartbeats 8000000 in
theorem rDue (fi mo : Int) (wan : Bool) (ao : Option Addr) (n c : Nat) (sen : Int) (l : List Int) (z : Int) (R : List Ro) (hb : 1 ≤ fi ∧ fi ≤ mo ∧ mo ≤ 1000) (hS : SR R 1 ao n c (irs l)) (hz : l.getLast? = some z) (hl : l.length ≤ 1000) (hzb : 0 ≤ z ∧ z ≤ 1000000) :
    Fn Try.prog 29 #[.agg (prv fi mo wan ao n c sen).toArray] [] R (fun v L' R' => v = .int .i64 (z + wt fi mo (n - 1)) ∧ L' = [] ∧ R' = []) := by
  have hn : n = l.length := by rw [← hS.len]; simp
  have hn0 : 0 < n := by
    rcases Nat.eq_zero_or_pos l.length with h | h
    · rw [List.length_eq_zero_iff.1 h] at hz; cases hz
    · omega
  obtain ⟨b, o, rfl, hmem⟩ := hS.pos hn0
  have hr : (irs l)[((n : Int) - 1).toNat]? = some [.int .i64 z] := irs_at (by rw [List.getLast?_eq_getElem?] at hz; rw [show ((n : Int) - 1).toNat = l.length - 1 by omega]; exact hz)
  refine fn_intro Try.func29 rfl Try.ntmps29 rfl (fun E => ?_)
  (repeat (first | ((first | (apply wo_v; rfl) ); (· first | (apply pv_ev; rfl) | (apply pv_fld; rfl) | (apply g_load; first | (apply pv_ld; rfl; (· (repeat (first | apply sel_here ))); rfl) ) )) | apply wo_nil | apply wc_seq | apply wc_region | (apply wo_box1; rfl; rfl; rfl; intro bx) | (apply wo_boxa; rfl; rfl; intro bx) ))
  refine wc_join0 (fun st => st = ⟨[(1, .pointer (some ⟨bx, 0, none⟩)), (3, .int .i64 (wt fi mo (n - 1)))], [.ob bx (.cells (prv fi mo wan (some ⟨b, o, none⟩) n c sen).toArray raT (0, 0))], R⟩) ?_ ?_
  · refine wc_block ?_
    refine wc_loop' (fun q st => ∃ i : Nat, q = n - i ∧ 1 ≤ i ∧ i ≤ n ∧ st = ⟨[(1, .pointer (some ⟨bx, 0, none⟩)), (3, .int .i64 (wt fi mo (i - 1))), (4, .int .i64 i)], [.ob bx (.cells (prv fi mo wan (some ⟨b, o, none⟩) n c sen).toArray raT (0, 0))], R⟩)
      ⟨1, rfl, Nat.le_refl _, hn0, rfl⟩ (wk_mk (by (repeat (first | apply wkf_nil | (apply wkf_cons; rfl))); done) (by (repeat (first | apply sub_nil )); done) (by first | exact fun _ h => h | (intro r hr; cases hr; done) | (simp; done) | exact fun _ h => List.mem_append_left _ h | (intro r hr; simp [hr]; done))) ?_
    rintro q st ⟨i, rfl, hi, hin, rfl⟩
    have hw := wt_b hb.1 hb.2.1 (i - 1)
    by_cases hlt : i < n
    · (repeat (first | ((first | (apply wo_v; rfl) ); (· first | (apply pv_ev; rfl) | (apply pv_fld; rfl) | (apply g_load; first | (apply pv_ld; rfl; (· (repeat (first | apply sel_here ))); rfl) ) | (apply g_bi; first | (apply pv_len_sl; rfl) ) )) | apply wo_nil | apply wc_seq | apply wc_region | apply wc_skip | (apply wc_true; rfl) | (apply wc_false; rfl) | (apply a_dec_t; rfl; (· first | assumption | omega)) ))
      refine wc_block ?_
      (repeat (first | ((first | (apply wo_v; rfl) ); (· first | (apply pv_ev; rfl) | (apply pv_fld; rfl) | (apply g_load; first | (apply pv_ld; rfl; (· (repeat (first | apply sel_here ))); rfl) ) | (apply g_bin; first | (apply a_add; rfl; rfl; infer_instance; omega) | (apply a_mul; rfl; rfl; infer_instance; omega) ) | (apply g_bi; first | (apply pv_min; rfl; rfl) ) )) | apply wo_nil | apply wc_region ))
      exact loop_end ⟨i + 1, rfl, by omega, by omega, by rw [show i + 1 - 1 = (i - 1) + 1 by omega, wt]⟩ (by omega) (wk_mk (by (repeat (first | apply wkf_nil | (apply wkf_cons; rfl))); done) (by (repeat (first | apply sub_nil )); done) (by first | exact fun _ h => h | (intro r hr; cases hr; done) | (simp; done) | exact fun _ h => List.mem_append_left _ h | (intro r hr; simp [hr]; done)))
    · have e : i = n := by omega
      subst e
      (repeat (first | ((first | (apply wo_v; rfl) ); (· first | (apply pv_ev; rfl) | (apply pv_fld; rfl) | (apply g_load; first | (apply pv_ld; rfl; (· (repeat (first | apply sel_here ))); rfl) ) | (apply g_bi; first | (apply pv_len_sl; rfl) ) )) | apply wo_nil | apply wc_seq | apply wc_region | (apply wc_exit; rfl) | (apply wc_true; rfl) | (apply wc_false; rfl) | (apply a_dec_t; rfl; (· first | assumption | omega)) | (apply a_dec_f; rfl; (· first | assumption | omega)) ))
      exact cut_end rfl (wk_mk (by (repeat (first | apply wkf_nil | (apply wkf_cons; rfl))); done) (by (repeat (first | apply sub_nil )); done) (by first | exact fun _ h => h | (intro r hr; cases hr; done) | (simp; done) | exact fun _ h => List.mem_append_left _ h | (intro r hr; simp [hr]; done)))
  rintro st rfl
  have hw := wt_b hb.1 hb.2.1 (n - 1)
  (repeat (first | ((first | (apply wo_v; rfl) ); (· first | (apply pv_ev; rfl) | (apply pv_fld; rfl) | (apply g_load; first | (apply pv_ld; rfl; (· (repeat (first | apply sel_here | apply sel_there))); rfl) | (apply pv_ld_ownf; rfl; (· (repeat (first | fail ))); (· assumption); rfl) | (apply pv_ld_own1; rfl; (· (repeat (first | apply sel_there))); (· assumption)) | (apply pv_ld_rof; rfl; (· (first | assumption )); (· assumption); rfl) | (apply pv_ld_ro1; rfl; (· (first | assumption )); (· assumption)) ) | (apply g_bin; first | (apply a_add; rfl; rfl; infer_instance; omega) | (apply a_sub; rfl; rfl; infer_instance; omega) ) | (apply g_bi; first | (apply pv_len_sl; rfl) ) | (apply g_idx; first | (apply pv_idx; rfl; rfl; omega) | (apply (pv_idx_e 0); rfl; rfl; rfl; omega) | (apply pv_idx_n; rfl; rfl; omega) ) )) | apply wo_nil | apply wc_seq | apply wc_region | apply wc_ret ))
  exact ret1 rfl rfl ⟨rfl, rfl, rfl⟩ ((by (repeat (first | apply sub_nil )); done) : List.Perm _ ([] ++ _)) (by first | exact fun _ h => h | (intro r hr; cases hr; done) | (simp; done) | exact fun _ h => List.mem_append_left _ h | (intro r hr; simp [hr]; done))
structure PRel (fi mo : Int) (a : Ask) (l : List Int) : Prop where
  fi0 : a.fi = fi
  mo0 : a.mo = mo
  off : a.wan = false → a.due = 0 ∧ l = []
  on : a.wan = true → ∃ z, l.getLast? = some z ∧ 0 ≤ z ∧ z ≤ 1000000 ∧ a.wai = wt fi mo (l.length - 1) ∧ a.due = z + wt fi mo (l.length - 1)
def rTickM (fi mo : Int) (wan : Bool) (l : List Int) (sen now : Int) : List Int × Int × Bool :=
  if wan = true ∧ ¬ (now < (l.getLast?.getD 0) + wt fi mo (l.length - 1)) then (l ++ [now], sen + 1, true) else (l, sen, false)
set_option maxHeartbeats 16000000 in
theorem rTick (fi mo : Int) (wan : Bool) (ao : Option Addr) (n c : Nat) (sen now : Int) (l : List Int) (R : List Ro) (hb : 1 ≤ fi ∧ fi ≤ mo ∧ mo ≤ 1000) (hS : SR R 1 ao n c (irs l)) (hw : wan = true → ∃ z, l.getLast? = some z ∧ 0 ≤ z ∧ z ≤ 1000000) (hl : l.length ≤ 1000) (hsb : 0 ≤ sen ∧ sen ≤ 1000) (hnb : 0 ≤ now ∧ now ≤ 1000000) :
    Fn Try.prog 26 #[.agg (prv fi mo wan ao n c sen).toArray, .int .i64 now] [] R
      (fun v L' R' => ∃ ao' n' c', v = .tuple #[.agg (prv fi mo wan ao' n' c' (rTickM fi mo wan l sen now).2.1).toArray, .bool (rTickM fi mo wan l sen now).2.2] ∧ L' = [] ∧ SR R' 1 ao' n' c' (irs (rTickM fi mo wan l sen now).1)) := by
  have hn : n = l.length := by rw [← hS.len]; simp
  cases wan with
  | false =>
    rw [show rTickM fi mo false l sen now = (l, sen, false) from if_neg (by simp)]
    refine fn_intro Try.func26 rfl Try.ntmps26 rfl (fun E => ?_)
    (repeat (first | ((first | (apply wo_v; rfl) ); (· first | (apply pv_ev; rfl) | (apply pv_fld; rfl) | (apply g_load; first | (apply pv_ld; rfl; (· (repeat (first | apply sel_here | apply sel_there))); rfl) | (apply pv_lda; rfl; (· (repeat (first | apply sel_here | apply sel_there))); (· (repeat (first | apply Cut.here0 | apply Cut.here )))) ) | (apply g_pick; first | (apply pv_pick_t; rfl; rfl) ) | (apply g_un; first | (apply pv_not_t; rfl) | (apply pv_not_f; rfl) ) )) | apply wo_nil | apply wc_seq | apply wc_region | apply wc_ret | (apply wc_true; rfl) | (apply wo_run; rfl; rfl) | (apply wo_skip; rfl; rfl; rfl; rfl) | (apply wo_box1; rfl; rfl; rfl; intro bx) | (apply wo_boxa; rfl; rfl; intro bx) | (apply wo_alloc; rfl; intro bx) | (apply wo_sta; rfl; rfl; rfl; rfl; (· (repeat (first | apply sel_here ))); (· (repeat (first | apply LayAt.nil | apply LayAt.here ))); rfl) ))
    exact retv rfl (by (repeat (first | apply RV.nil | (apply RV.tmp; rfl) | (apply RV.agg; rfl; (· (repeat (first | apply sel_here ))); infer_instance; (· (repeat (first | apply Cut.here0 | apply Cut.here )))) )); done) (⟨ao, n, c, rfl, rfl, hS⟩) (by (repeat (first | apply sub_nil )); done) (by first | exact fun _ h => h | (intro r hr; cases hr; done) | (simp; done) | exact fun _ h => List.mem_append_left _ h | (intro r hr; simp [hr]; done))
  | true =>
    obtain ⟨z, hz, hzb⟩ := hw rfl
    by_cases ht : now < z + wt fi mo (n - 1)
    · rw [show rTickM fi mo true l sen now = (l, sen, false) from if_neg (by rw [hz, ← hn]; simp; omega)]
      refine fn_intro Try.func26 rfl Try.ntmps26 rfl (fun E => ?_)
      (repeat (first | ((first | (apply wo_v; rfl) ); (· first | (apply pv_ev; rfl) | (apply pv_fld; rfl) | (apply g_load; first | (apply pv_ld; rfl; (· (repeat (first | apply sel_here | apply sel_there))); rfl) | (apply pv_lda; rfl; (· (repeat (first | apply sel_here | apply sel_there))); (· (repeat (first | apply Cut.here0 | apply Cut.here )))) ) | (apply g_un; first | (apply pv_not_t; rfl) ) )) | apply wo_nil | apply wc_seq | apply wc_region | (apply wo_run; rfl; rfl) | (apply wo_box1; rfl; rfl; rfl; intro bx) | (apply wo_boxa; rfl; rfl; intro bx) | (apply wo_alloc; rfl; intro bx) ))
      (refine wo_call (rDue fi mo true ao n c sen l z R hb hS hz hl hzb) rfl (by (repeat (first | apply sub_nil )); done) (by first | exact fun _ h => h | (intro r hr; cases hr; done) | (simp; done) | exact fun _ h => List.mem_append_left _ h | (intro r hr; simp [hr]; done)) rfl ?_; rintro v L' R' ⟨rfl, rfl, rfl⟩ H' hH RR hR; simp only [List.cons_append, List.nil_append] at hH hR; subst hH; have hR := hR.symm; subst hR)
      (repeat (first | ((first | (apply wo_v; rfl) ); (· first | (apply pv_ev; rfl) | (apply g_load; first | (apply pv_lda; rfl; (· (repeat (first | apply sel_here | apply sel_there))); (· (repeat (first | apply Cut.here0 | apply Cut.here )))) ) | (apply g_pick; first | (apply pv_pick_t; rfl; rfl) | (apply pv_pick_f; rfl; rfl)) )) | apply wo_nil | apply wc_seq | apply wc_region | apply wc_ret | (apply wc_true; rfl) | (apply wc_false; rfl) | (apply a_dec_t; rfl; (· first | assumption | omega)) | (apply wo_run; rfl; rfl) | (apply wo_sta; rfl; rfl; rfl; rfl; (· (repeat (first | apply sel_here ))); (· (repeat (first | apply LayAt.nil | apply LayAt.here ))); rfl) ))
      exact retv rfl (by (repeat (first | apply RV.nil | (apply RV.tmp; rfl) | (apply RV.agg; rfl; (· (repeat (first | apply sel_here ))); infer_instance; (· (repeat (first | apply Cut.here0 | apply Cut.here )))) )); done) (⟨ao, n, c, rfl, rfl, hS⟩) (by (repeat (first | apply sub_nil )); done) (by first | exact fun _ h => h | (intro r hr; cases hr; done) | (simp; done) | exact fun _ h => List.mem_append_left _ h | (intro r hr; simp [hr]; done))
    · rw [show rTickM fi mo true l sen now = (l ++ [now], sen + 1, true) from if_pos ⟨rfl, by rw [hz, ← hn]; exact ht⟩]
      refine fn_intro Try.func26 rfl Try.ntmps26 rfl (fun E => ?_)
      (repeat (first | ((first | (apply wo_v; rfl) ); (· first | (apply pv_ev; rfl) | (apply pv_fld; rfl) | (apply g_load; first | (apply pv_ld; rfl; (· (repeat (first | apply sel_here | apply sel_there))); rfl) | (apply pv_lda; rfl; (· (repeat (first | apply sel_here | apply sel_there))); (· (repeat (first | apply Cut.here0 | apply Cut.here )))) ) | (apply g_un; first | (apply pv_not_t; rfl) ) )) | apply wo_nil | apply wc_seq | apply wc_region | (apply wo_run; rfl; rfl) | (apply wo_box1; rfl; rfl; rfl; intro bx) | (apply wo_boxa; rfl; rfl; intro bx) | (apply wo_alloc; rfl; intro bx) ))
      (refine wo_call (rDue fi mo true ao n c sen l z R hb hS hz hl hzb) rfl (by (repeat (first | apply sub_nil )); done) (by first | exact fun _ h => h | (intro r hr; cases hr; done) | (simp; done) | exact fun _ h => List.mem_append_left _ h | (intro r hr; simp [hr]; done)) rfl ?_; rintro v L' R' ⟨rfl, rfl, rfl⟩ H' hH RR hR; simp only [List.cons_append, List.nil_append] at hH hR; subst hH; have hR := hR.symm; subst hR)
      (repeat (first | ((first | (apply wo_v; rfl) ); (· first | (apply pv_ev; rfl) | (apply pv_fld; rfl) | (apply g_load; first | (apply pv_ld; rfl; (· (repeat (first | apply sel_here | apply sel_there))); rfl) ) | (apply g_pick; first | (apply pv_pick_t; rfl; rfl) | (apply pv_pick_f; rfl; rfl)) | (apply g_bi; first | fail ) )) | apply wo_nil | apply wc_seq | apply wc_region | apply wc_skip | (apply wc_true; rfl) | (apply wc_false; rfl) | (apply a_dec_t; rfl; (· first | assumption | omega)) | (apply a_dec_f; rfl; (· first | assumption | omega)) | (apply wo_run; rfl; rfl) | (apply wo_bsl; (· (repeat (first | apply Rws'.nil ))); rfl; rfl; rfl; rfl; intro bx) ))
      refine wo_app_sr rfl rfl (by (repeat (first | apply sel_here )); done) hS (by unfold maxLen; omega) (by omega) rfl (fun ao1 c1 => ?_)
      (repeat (first | ((first | (apply wo_v; rfl) ); (· first | (apply pv_ev; rfl) | (apply g_bi; first | fail ) )) | (apply wo_bsl; (· (repeat (first | apply Rws'.nil | (apply Rws'.one; rfl; rfl; rfl) ))); rfl; rfl; rfl; rfl; intro bx) ))
      refine wo_app rfl rfl (by (repeat (first | apply sel_here | apply sel_there)); done) (by (repeat (first | apply sel_here )); done) (by unfold maxLen; omega) (by omega) rfl (fun ao2 c2 => ?_)
      refine wo_still (by (repeat (first | apply sel_here )); done) (fun R2 hS2 => ?_)
      rw [show [] ++ irs l ++ [[Value.int .i64 now]] = irs (l ++ [now]) by simp [irs]] at hS2
      (repeat (first | ((first | (apply wo_v; rfl) ); (· first | (apply pv_ev; rfl) | (apply pv_fld; rfl) | (apply g_load; first | (apply pv_ld; rfl; (· (repeat (first | apply sel_here ))); rfl) | (apply pv_lda; rfl; (· (repeat (first | apply sel_here ))); (· (repeat (first | apply Cut.here0 | apply Cut.here )))) ) | (apply g_bin; first | (apply a_add; rfl; rfl; infer_instance; omega) ) )) | apply wo_nil | apply wc_seq | apply wc_region | apply wc_ret | (apply wo_st; rfl; rfl; rfl; (· (repeat (first | apply sel_here | apply sel_there))); (· (repeat (first | apply SetAt.here | apply SetAt.there))); rfl) | (apply wo_sta; rfl; rfl; rfl; rfl; (· (repeat (first | apply sel_here | apply sel_there))); (· (repeat (first | apply LayAt.nil | apply LayAt.here ))); rfl) ))
      exact retv rfl (by (repeat (first | apply RV.nil | (apply RV.tmp; rfl) | (apply RV.agg; rfl; (· (repeat (first | apply sel_here ))); infer_instance; (· (repeat (first | apply Cut.here0 | apply Cut.here )))) )); done) (⟨ao2, _, c2, rfl, rfl, hS2⟩) (by (repeat (first | apply sub_nil )); done) (by first | exact fun _ h => h | (intro r hr; cases hr; done) | (simp; done) | exact fun _ h => List.mem_append_left _ h | (intro r hr; simp [hr]; done))
set_option maxHeartbeats 16000000 in
theorem rWant (fi mo : Int) (wan : Bool) (ao : Option Addr) (n c : Nat) (on : Bool) (sen now : Int) (l : List Int) (R : List Ro) (hb : 1 ≤ fi ∧ fi ≤ mo ∧ mo ≤ 1000) (hS : SR R 1 ao n c (irs l)) (hw : wan = true → ∃ z, l.getLast? = some z ∧ 0 ≤ z ∧ z ≤ 1000000) (hl : l.length ≤ 1000) (hsb : 0 ≤ sen ∧ sen ≤ 1000) (hnb : 0 ≤ now ∧ now ≤ 1000000) :
    Fn Try.prog 25 #[.agg (prv fi mo wan ao n c sen).toArray, .bool on, .int .i64 now] [] R
      (fun v L' R' => ∃ (p : List Int × Int × Bool) (ao' : Option Addr) (n' c' : Nat), p = (if on = false then ([], sen, false) else if wan = true then rTickM fi mo wan l sen now else ([now], sen + 1, true)) ∧ v = .tuple #[.agg (prv fi mo on ao' n' c' p.2.1).toArray, .bool p.2.2] ∧ L' = [] ∧ SR R' 1 ao' n' c' (irs p.1)) := by
  cases on with
  | false =>
    refine fn_intro Try.func25 rfl Try.ntmps25 rfl (fun E => ?_)
    (repeat (first | ((first | (apply wo_v; rfl) ); (· first | (apply pv_ev; rfl) | (apply pv_fld; rfl) | (apply g_load; first | (apply pv_lda; rfl; (· (repeat (first | apply sel_here ))); (· (repeat (first | apply Cut.here0 | apply Cut.here )))) ) | (apply g_un; first | (apply pv_not_t; rfl) | (apply pv_not_f; rfl) ) )) | apply wo_nil | apply wc_seq | apply wc_region | apply wc_ret | (apply wc_true; rfl) | (apply wo_st; rfl; rfl; rfl; (· (repeat (first | apply sel_here | apply sel_there))); (· (repeat (first | apply SetAt.here | apply SetAt.there))); rfl) | (apply wo_box1; rfl; rfl; rfl; intro bx) | (apply wo_boxa; rfl; rfl; intro bx) | (apply wo_alloc; rfl; intro bx) | (apply wo_sta; rfl; rfl; rfl; rfl; (· (repeat (first | apply sel_here | apply sel_there))); (· (repeat (first | apply LayAt.nil | apply LayAt.here ))); rfl) ))
    exact retv rfl (by (repeat (first | apply RV.nil | (apply RV.tmp; rfl) | (apply RV.agg; rfl; (· (repeat (first | apply sel_here ))); infer_instance; (· (repeat (first | apply Cut.here0 | apply Cut.here )))) )); done) (⟨_, none, 0, 0, rfl, rfl, rfl, SR.nil R 1⟩) (by (repeat (first | apply sub_nil )); done) (by first | exact fun _ h => h | (intro r hr; cases hr; done) | (simp; done) | exact fun _ h => List.mem_append_left _ h | (intro r hr; simp [hr]; done))
  | true =>
    cases wan with
    | true =>
      refine fn_intro Try.func25 rfl Try.ntmps25 rfl (fun E => ?_)
      (repeat (first | ((first | (apply wo_v; rfl) ); (· first | (apply pv_ev; rfl) | (apply pv_fld; rfl) | (apply g_load; first | (apply pv_ld; rfl; (· (repeat (first | apply sel_here | apply sel_there))); rfl) | (apply pv_lda; rfl; (· (repeat (first | apply sel_here | apply sel_there))); (· (repeat (first | apply Cut.here0 | apply Cut.here )))) ) | (apply g_un; first | (apply pv_not_t; rfl) ) )) | apply wo_nil | apply wc_seq | apply wc_region | apply wc_skip | (apply wc_true; rfl) | (apply wc_false; rfl) | (apply wo_box1; rfl; rfl; rfl; intro bx) | (apply wo_boxa; rfl; rfl; intro bx) | (apply wo_alloc; rfl; intro bx) ))
      (refine wo_call (rTick fi mo true ao n c sen now l R hb hS hw hl hsb hnb) rfl (by (repeat (first | apply sub_nil )); done) (by first | exact fun _ h => h | (intro r hr; cases hr; done) | (simp; done) | exact fun _ h => List.mem_append_left _ h | (intro r hr; simp [hr]; done)) rfl ?_; rintro v L' R' ⟨ao1, n1, c1, rfl, rfl, hS1⟩ H' hH RR hR; simp only [List.cons_append, List.nil_append] at hH hR; subst hH; have hR := hR.symm; subst hR)
      (repeat (first | ((first | (apply wo_v; rfl) ); (· first | (apply pv_ev; rfl) )) | apply wo_nil | apply wc_ret | (apply wo_sta; rfl; rfl; rfl; rfl; (· (repeat (first | apply sel_here ))); (· (repeat (first | apply LayAt.nil | apply LayAt.here ))); rfl) ))
      exact retv rfl (by (repeat (first | apply RV.nil | (apply RV.tmp; rfl) | (apply RV.agg; rfl; (· (repeat (first | apply sel_here ))); infer_instance; (· (repeat (first | apply Cut.here0 | apply Cut.here )))) )); done) (⟨_, ao1, n1, c1, rfl, rfl, rfl, hS1.mono (fun _ h => List.mem_append_left _ h)⟩) (by (repeat (first | apply sub_nil )); done) (by first | exact fun _ h => h | (intro r hr; cases hr; done) | (simp; done) | exact fun _ h => List.mem_append_left _ h | (intro r hr; simp [hr]; done))
    | false =>
      refine fn_intro Try.func25 rfl Try.ntmps25 rfl (fun E => ?_)
      (repeat (first | ((first | (apply wo_v; rfl) ); (· first | (apply pv_ev; rfl) | (apply pv_fld; rfl) | (apply g_load; first | (apply pv_ld; rfl; (· (repeat (first | apply sel_here | apply sel_there))); rfl) ) | (apply g_un; first | (apply pv_not_t; rfl) ) )) | apply wo_nil | apply wc_seq | apply wc_region | apply wc_skip | (apply wc_true; rfl) | (apply wc_false; rfl) | (apply wo_st; rfl; rfl; rfl; (· (repeat (first | apply sel_here | apply sel_there))); (· (repeat (first | apply SetAt.here | apply SetAt.there))); rfl) | (apply wo_box1; rfl; rfl; rfl; intro bx) | (apply wo_boxa; rfl; rfl; intro bx) | (apply wo_alloc; rfl; intro bx) ))
      (apply wo_bsl; (· (repeat (first | apply Rws'.nil | (apply Rws'.one; rfl; rfl; rfl) ))); rfl; rfl; rfl; rfl; intro bx)
      refine wo_still (by (repeat (first | apply sel_here )); done) (fun R2 hS2 => ?_)
      (repeat (first | ((first | (apply wo_v; rfl) ); (· first | (apply pv_ev; rfl) | (apply pv_fld; rfl) | (apply g_load; first | (apply pv_ld; rfl; (· (repeat (first | apply sel_here ))); rfl) | (apply pv_lda; rfl; (· (repeat (first | apply sel_here ))); (· (repeat (first | apply Cut.here0 | apply Cut.here )))) ) | (apply g_bin; first | (apply a_add; rfl; rfl; infer_instance; omega) ) )) | apply wo_nil | apply wc_seq | apply wc_region | apply wc_ret | (apply wo_st; rfl; rfl; rfl; (· (repeat (first | apply sel_here ))); (· (repeat (first | apply SetAt.here | apply SetAt.there))); rfl) | (apply wo_sta; rfl; rfl; rfl; rfl; (· (repeat (first | apply sel_here | apply sel_there))); (· (repeat (first | apply LayAt.nil | apply LayAt.here ))); rfl) ))
      exact retv rfl (by (repeat (first | apply RV.nil | (apply RV.tmp; rfl) | (apply RV.agg; rfl; (· (repeat (first | apply sel_here ))); infer_instance; (· (repeat (first | apply Cut.here0 | apply Cut.here )))) )); done) (⟨_, some ⟨bx, 0, none⟩, 1, 1, rfl, rfl, rfl, hS2⟩) (by (repeat (first | apply sub_nil )); done) (by first | exact fun _ h => h | (intro r hr; cases hr; done) | (simp; done) | exact fun _ h => List.mem_append_left _ h | (intro r hr; simp [hr]; done))
theorem prel_tick {fi mo : Int} {a : Ask} {l : List Int} {now : Int} (h : PRel fi mo a l) (hn : 0 ≤ now ∧ now ≤ 1000000) :
    (a.tick now).2 = (rTickM fi mo a.wan l a.sen now).2.2 ∧ (a.tick now).1.sen = (rTickM fi mo a.wan l a.sen now).2.1 ∧ (a.tick now).1.wan = a.wan ∧ PRel fi mo (a.tick now).1 (rTickM fi mo a.wan l a.sen now).1 := by
  cases hw : a.wan with
  | false =>
    have e1 : a.tick now = (a, false) := by unfold Ask.tick; rw [hw]; rfl
    rw [e1, show rTickM fi mo false l a.sen now = (l, a.sen, false) from if_neg (by simp)]
    exact ⟨rfl, rfl, hw, h⟩
  | true =>
    obtain ⟨z, hz, h1, h2, h3, h4⟩ := h.on hw
    by_cases ht : now < a.due
    · have e1 : a.tick now = (a, false) := by unfold Ask.tick; rw [hw]; simp [ht]
      rw [e1, show rTickM fi mo true l a.sen now = (l, a.sen, false) from if_neg (by rw [hz]; simp; omega)]
      exact ⟨rfl, rfl, hw, h⟩
    · have e1 : a.tick now = ({ a with wai := min (2 * a.wai) a.mo, due := now + min (2 * a.wai) a.mo, sen := a.sen + 1 }, true) := by unfold Ask.tick; rw [hw]; simp [ht]
      rw [e1, show rTickM fi mo true l a.sen now = (l ++ [now], a.sen + 1, true) from if_pos ⟨rfl, by rw [hz]; simp; omega⟩]
      have hl : l.length - 1 + 1 = l.length := by
        rcases Nat.eq_zero_or_pos l.length with h0 | h0
        · rw [List.length_eq_zero_iff.1 h0] at hz; cases hz
        · omega
      have hwt : min (2 * a.wai) a.mo = wt fi mo ((l ++ [now]).length - 1) := by
        rw [List.length_append, List.length_singleton, show l.length + 1 - 1 = (l.length - 1) + 1 by omega, wt, h3, h.mo0]
      refine ⟨rfl, rfl, hw, ⟨h.fi0, h.mo0, fun e => (by rw [hw] at e; cases e), fun _ => ⟨now, by simp, hn.1, hn.2, hwt, ?_⟩⟩⟩
      show now + min (2 * a.wai) a.mo = _
      rw [hwt]
theorem prel_want {fi mo : Int} {a : Ask} {l : List Int} {now : Int} {on : Bool} (h : PRel fi mo a l) (hn : 0 ≤ now ∧ now ≤ 1000000) (p : List Int × Int × Bool) (hp : p = (if on = false then ([], a.sen, false) else if a.wan = true then rTickM fi mo a.wan l a.sen now else ([now], a.sen + 1, true))) :
    (a.want on now).2 = p.2.2 ∧ (a.want on now).1.sen = p.2.1 ∧ (a.want on now).1.wan = on ∧ PRel fi mo (a.want on now).1 p.1 := by
  cases on with
  | false =>
    rw [if_pos rfl] at hp; subst hp
    exact ⟨rfl, rfl, rfl, ⟨h.fi0, h.mo0, fun _ => ⟨rfl, rfl⟩, fun e => (by cases e)⟩⟩
  | true =>
    rw [if_neg (by simp)] at hp
    cases hw : a.wan with
    | true =>
      rw [if_pos hw] at hp; subst hp
      have e1 : a.want true now = a.tick now := by unfold Ask.want; rw [hw]; rfl
      rw [e1]
      have := prel_tick h hn
      rw [hw] at this ⊢
      exact this
    | false =>
      rw [if_neg (by rw [hw]; simp)] at hp; subst hp
      have e1 : a.want true now = ({ a with wan := true, wai := a.fi, due := now + a.fi, sen := a.sen + 1 }, true) := by unfold Ask.want; rw [hw]; rfl
      rw [e1]
      refine ⟨rfl, rfl, rfl, ⟨h.fi0, h.mo0, fun e => (by cases e), fun _ => ⟨now, rfl, hn.1, hn.2, h.fi0, ?_⟩⟩⟩
      show now + a.fi = now + fi
      rw [h.fi0]
abbrev pob (g : Nat) (a : Ask) : It := .ob g (.cells a.cells 89 (0, 0))
theorem tickF (a : Ask) (now : Int) (g : Nat) (ho : a.ok) (hn : 0 ≤ now ∧ now ≤ 1099511627776) :
    Fn Try.prog 24 #[.pointer (some ⟨g, 0, none⟩), .int .i64 now] [pob g a] [] (fun v L' R' => v = .bool (a.tick now).2 ∧ L' = [pob g (a.tick now).1] ∧ R' = []) := by
  refine (fn_blk (Q := fun v cs => v = .bool (a.tick now).2 ∧ cs = (a.tick now).1.cells) fun w hB => ?_).mono ?_
  · exact (askTickV a _ _ now rfl g w hB ho hn).mono fun e w' ⟨h1, h2, h3⟩ => ⟨_, _, h1, ⟨rfl, rfl⟩, h2, h3⟩
  · rintro v L' R' ⟨cs, ⟨rfl, rfl⟩, rfl, rfl⟩; exact ⟨rfl, rfl, rfl⟩
theorem wantF (a : Ask) (on : Bool) (now : Int) (g : Nat) (ho : a.ok) (hn : 0 ≤ now ∧ now ≤ 1099511627776) :
    Fn Try.prog 22 #[.pointer (some ⟨g, 0, none⟩), .bool on, .int .i64 now] [pob g a] [] (fun v L' R' => v = .bool (a.want on now).2 ∧ L' = [pob g (a.want on now).1] ∧ R' = []) := by
  refine (fn_blk (Q := fun v cs => v = .bool (a.want on now).2 ∧ cs = (a.want on now).1.cells) fun w hB => ?_).mono ?_
  · exact (askWantV a _ on _ now rfl g w hB ho hn).mono fun e w' ⟨h1, h2, h3⟩ => ⟨_, _, h1, ⟨rfl, rfl⟩, h2, h3⟩
  · rintro v L' R' ⟨cs, ⟨rfl, rfl⟩, rfl, rfl⟩; exact ⟨rfl, rfl, rfl⟩
theorem dueF (a : Ask) (n : Int) (b : Bool) (h : a.due = n) (hb : a.wan = b) (g : Nat) : Fn Try.prog 27 #[.pointer (some ⟨g, 0, none⟩)] [pob g a] [] (fun v L' R' => v = .tuple #[.int .i64 n, .bool b] ∧ L' = [pob g a] ∧ R' = []) := by
  refine (fn_blk (Q := fun v cs => v = .tuple #[.int .i64 n, .bool b] ∧ cs = a.cells) fun w hB => ?_).mono ?_
  · exact (askDueV a _ _ h hb g w hB).mono fun e w' ⟨h1, h2, h3⟩ => ⟨_, _, h1, ⟨rfl, rfl⟩, h2, h3⟩
  · rintro v L' R' ⟨cs, ⟨rfl, rfl⟩, rfl, rfl⟩; exact ⟨rfl, rfl, rfl⟩
theorem wantedF (a : Ask) (b : Bool) (h : a.wan = b) (g : Nat) : Fn Try.prog 23 #[.pointer (some ⟨g, 0, none⟩)] [pob g a] [] (fun v L' R' => v = .bool b ∧ L' = [pob g a] ∧ R' = []) :=
  fn_read fun w hB => askWantedV a b h g w hB
theorem sentF (a : Ask) (n : Int) (h : a.sen = n) (g : Nat) : Fn Try.prog 28 #[.pointer (some ⟨g, 0, none⟩)] [pob g a] [] (fun v L' R' => v = .int .i64 n ∧ L' = [pob g a] ∧ R' = []) :=
  fn_read fun w hB => askSentV a n h g w hB
theorem pNewF (a r : Int) (h : 1 ≤ a ∧ a ≤ r ∧ r ≤ 1073741824) : Fn Try.prog 20 #[.agg #[.int .i64 a, .int .i64 r]] [] []
    (fun v L' R' => ∃ g, v = .tuple #[.pointer (some ⟨g, 0, none⟩), .int .i64 0] ∧ L' = [pob g ⟨a, r, false, 0, 0, 0⟩] ∧ R' = []) := by
  unfold Fn
  intro w _
  refine (pliNew_ok a r w h).mono ?_
  rintro e w' ⟨g, h1, h2, h3, h4⟩
  exact ⟨_, _, [], h1, ⟨g, rfl, rfl, rfl⟩, Sat.one (L := []) ⟨h2.os, h2.tape, h2.output, h2.size, fun k hk _ => h2.block k hk⟩ h4 (fun b hb => by
    simp only [It.foot, Option.some.injEq] at hb; subst hb; exact .inr h3)⟩
theorem tick_b {a : Ask} {now : Int} (h : 0 ≤ a.wai ∧ a.wai ≤ 1000) (hm : 1 ≤ a.mo ∧ a.mo ≤ 1000) : 0 ≤ (a.tick now).1.wai ∧ (a.tick now).1.wai ≤ 1000 ∧ a.sen ≤ (a.tick now).1.sen ∧ (a.tick now).1.sen ≤ a.sen + 1 := by
  unfold Ask.tick
  split <;> dsimp only <;> omega
theorem want_b {a : Ask} {on : Bool} {now : Int} (h : 0 ≤ a.wai ∧ a.wai ≤ 1000) (hm : 1 ≤ a.mo ∧ a.mo ≤ 1000) (hf : 1 ≤ a.fi ∧ a.fi ≤ 1000) : 0 ≤ (a.want on now).1.wai ∧ (a.want on now).1.wai ≤ 1000 ∧ a.sen ≤ (a.want on now).1.sen ∧ (a.want on now).1.sen ≤ a.sen + 1 := by
  unfold Ask.want
  split
  · dsimp only; omega
  · split
    · exact tick_b h hm
    · dsimp only; omega
theorem rTickM_len (fi mo : Int) (wan : Bool) (l : List Int) (sen now : Int) : (rTickM fi mo wan l sen now).1.length ≤ l.length + 1 := by
  unfold rTickM
  split <;> simp
def pseg (kd N : Nat → Int) (on : Nat → Bool) (n : Nat) : List (List Value) := (List.range n).map fun i => [.int .i64 (kd i), .int .i64 (N i), .bool (on i)]
theorem pseg_at {kd N : Nat → Int} {on : Nat → Bool} {n i : Nat} (h : i < n) : (pseg kd N on n)[i]? = some [.int .i64 (kd i), .int .i64 (N i), .bool (on i)] := by simp [pseg, h]
theorem rws_pact {w : World} {A : Option Addr} {n c : Nat} {V : Nat → Nat → Value} (h : Rws [.int .i64, .int .i64, .bool] w A n c V) :
    ∃ (kd N : Nat → Int) (on : Nat → Bool) (R : List Ro), (∀ r ∈ R, r.sat w) ∧ (0 < n → ∃ b o, A = some ⟨b, o, none⟩ ∧ ⟨b, o, 3, pseg kd N on n⟩ ∈ R) := by
  obtain ⟨R, hR, h0⟩ := rws_ro h (by simp)
  obtain ⟨_, _, _, h4⟩ := h
  let f (j i : Nat) : Int := match V i j with | .int _ z => z | _ => 0
  let g (j i : Nat) : Bool := match V i j with | .bool z => z | _ => false
  refine ⟨f 0, f 1, g 2, R, hR, fun hn => ?_⟩
  obtain ⟨b, o, hA, hm⟩ := h0 hn
  refine ⟨b, o, hA, ?_⟩
  have e : rowsOf [.int .i64, .int .i64, .bool] V n = pseg (f 0) (f 1) (g 2) n := by
    unfold rowsOf pseg
    refine List.map_congr_left fun i hi => ?_
    obtain ⟨z0, hz0, _⟩ := h4 i 0 _ (List.mem_range.1 hi) rfl
    obtain ⟨z1, hz1, _⟩ := h4 i 1 _ (List.mem_range.1 hi) rfl
    obtain ⟨z2, hz2⟩ := h4 i 2 _ (List.mem_range.1 hi) rfl
    simp [f, g, hz0, hz1, hz2, List.range_succ]
  rw [← e]; exact hm
abbrev rab (h : Nat) (fi mo : Int) (wan : Bool) (ao : Option Addr) (n c : Nat) (sen : Int) : It := .ob h (.cells (prv fi mo wan ao n c sen).toArray raT (0, 0))
abbrev tblU (new : It) : Nat → List (List It) → Value → List (List It) → Prop := fun k Ls v Ms => v = undef ∧ Ms = [[new]]
set_option maxHeartbeats 64000000 in
theorem pliPlays_fn (f0 m0 : Int) (A : Option Addr) (m c0 : Nat) (kd N : Nat → Int) (on : Nat → Bool) (R : List Ro) (hm : m ≤ 9223372036854775807) (hSeg : 0 < m → ∃ b o, A = some ⟨b, o, none⟩ ∧ ⟨b, o, 3, pseg kd N on m⟩ ∈ R) :
    Fn Try.prog 7 #[.int .i64 f0, .int .i64 m0, .slice A m c0] [] R (fun v _ _ => v = .bool true) := by
  have q1 := and_15 f0
  have q2 : bits .and .i64 m0 63 = m0 % 64 := and_ones m0 6 (by omega)
  obtain ⟨fi, hfi⟩ : ∃ fi, 1 + bits .and .i64 f0 15 = fi := ⟨_, rfl⟩
  obtain ⟨mo, hmo⟩ : ∃ mo, fi + bits .and .i64 m0 63 = mo := ⟨_, rfl⟩
  have hb : 1 ≤ fi ∧ fi ≤ mo ∧ mo ≤ 1000 := by omega
  refine fn_intro Try.func7 rfl Try.ntmps7 rfl (fun E => ?_)
  (repeat (first | ((first | (apply wo_v; rfl) ); (· first | (apply pv_ev; rfl) | (apply g_bin; first | (apply a_add; rfl; rfl; infer_instance; omega) | (apply pv_and; rfl; rfl) ) | (apply g_build; apply pv_build; (· (repeat (first | apply Bld.nil | (apply Bld.one; rfl; rfl; (· (repeat (first | apply SetAt.here | apply SetAt.there)))) )))) )) | apply wo_nil | apply wc_seq | apply wc_region ))
  rw [hfi]
  (repeat (first | ((first | (apply wo_v; rfl) ); (· first | (apply pv_ev; rfl) )) ))
  rw [hmo]
  (repeat (first | ((first | (apply wo_v; rfl) ); (· first | (apply pv_ev; rfl) )) ))
  (refine wo_call (pNewF fi mo (by omega)) rfl (by (repeat (first | apply sub_nil )); done) (by first | exact fun _ h => h | (intro r hr; cases hr; done) | (simp; done) | exact fun _ h => List.mem_append_left _ h | (intro r hr; simp [hr]; done)) rfl ?_; rintro v L' R' ⟨g, rfl, rfl, rfl⟩ H' hH RR hR; simp only [List.cons_append, List.nil_append] at hH hR; subst hH; have hR := hR.symm; subst hR)
  (repeat (first | ((first | (apply wo_v; rfl) ); (· first | (apply pv_ev; rfl) )) | apply wo_nil | apply wc_seq | apply wc_region ))
  (refine wo_call (fn_pure awake21) rfl (by (repeat (first | apply sub_nil )); done) (by first | exact fun _ h => h | (intro r hr; cases hr; done) | (simp; done) | exact fun _ h => List.mem_append_left _ h | (intro r hr; simp [hr]; done)) rfl ?_; rintro v L' R' ⟨rfl, rfl, rfl⟩ H' hH RR hR; simp only [List.cons_append, List.nil_append] at hH hR; subst hH; have hR := hR.symm; subst hR)
  (repeat (first | ((first | (apply wo_v; rfl) ); (· first | (apply pv_ev; rfl) | (apply g_pick; first | (apply pv_pick_t; rfl; rfl) | (apply pv_pick_f; rfl; rfl)) | (apply g_un; first | (apply pv_not_t; rfl) ) | (apply g_build; apply pv_build; (· (repeat (first | apply Bld.nil | (apply Bld.one; rfl; rfl; (· (repeat (first | apply SetAt.here | apply SetAt.there)))) )))) )) | apply wo_nil | apply wc_seq | apply wc_region | apply wc_skip | (apply wc_true; rfl) | (apply wc_false; rfl) | (apply wo_run; rfl; rfl) | (apply wo_alloc; rfl; intro bx) | (apply wo_sta; rfl; rfl; rfl; rfl; (· (repeat (first | apply sel_here ))); (· (repeat (first | apply LayAt.nil | apply LayAt.here ))); rfl) ))
  obtain ⟨h, hh⟩ : ∃ h, h = bx := ⟨_, rfl⟩
  subst hh
  refine wc_block ?_
  refine wc_loop' (fun k st => ∃ (i : Nat) (a : Ask) (l : List Int) (ao : Option Addr) (n c : Nat) (now : Int) (RR : List Ro), k = 151 - i ∧ st = ⟨[(2, .slice A m c0), (7, .pointer (some ⟨g, 0, none⟩)), (9, .pointer (some ⟨h, 0, none⟩)), (10, .int .i64 now), (11, .int .i64 i)], [pob g a, rab h fi mo a.wan ao n c a.sen], RR⟩
      ∧ SR RR 1 ao n c (irs l) ∧ (∀ r ∈ R, r ∈ RR) ∧ PRel fi mo a l ∧ 0 ≤ a.sen ∧ a.sen ≤ i ∧ l.length ≤ i ∧ 0 ≤ now ∧ now ≤ 15 * i ∧ 0 ≤ a.wai ∧ a.wai ≤ 1000 ∧ i ≤ 150 ∧ i ≤ m)
    ⟨0, ⟨fi, mo, false, 0, 0, 0⟩, [], none, 0, 0, 0, R, rfl, rfl, SR.nil _ _, fun _ h => h, ⟨rfl, rfl, fun _ => ⟨rfl, rfl⟩, fun e => (by cases e)⟩, by simp, by simp, by simp, by simp, by simp, by simp, by simp, by omega, by omega⟩ (wk_mk (by (repeat (first | apply wkf_nil | (apply wkf_cons; rfl))); done) (by (repeat (first | apply sub_nil | (apply sub_cons; (· (repeat (first | apply sel_here | apply sel_there)))))); done) (by first | exact fun _ h => h | (intro r hr; cases hr; done) | (simp; done) | exact fun _ h => List.mem_append_left _ h | (intro r hr; simp [hr]; done))) ?_
  rintro k st ⟨i, a, l, ao, n, c, now, RR, rfl, rfl, hS, hRR, hP, hs1, hs2, hl, hn1, hn2, hw1, hw2, hi1, hi2⟩
  by_cases hlt : i < m ∧ i < 150
  · obtain ⟨h1, h2⟩ := hlt
    obtain ⟨b, o, rfl, hmem⟩ := hSeg (by omega)
    replace hmem := hRR _ hmem
    have hr := pseg_at (kd := kd) (N := N) (on := on) h1
    generalize kd i = k, N i = z, on i = o1 at hr
    have q3 := and_15 z
    obtain ⟨nw, hnw⟩ : ∃ nw, now + bits .and .i64 z 15 = nw := ⟨_, rfl⟩
    (repeat (first | ((first | (apply wo_v; rfl) ); (· first | (apply pv_ev; rfl) | (apply g_pick; first | (apply pv_pick_t; rfl; rfl) ) | (apply g_bi; first | (apply pv_len_sl; rfl) ) )) | apply wo_nil | apply wc_seq | apply wc_region | apply wc_skip | (apply wc_true; rfl) | (apply wc_false; rfl) | (apply a_dec_t; rfl; (· first | assumption | omega)) | (apply wo_run; rfl; rfl) | (apply wo_skip; rfl; rfl; rfl; rfl) | (apply wo_skip_u; rfl; rfl; rfl) | (apply a_gt; rfl; rfl; (· first | assumption | omega)) ))
    refine wc_block ?_
    (repeat (first | ((first | (apply wo_v; rfl) ); (· first | (apply pv_ev; rfl) | (apply pv_fld; rfl) | (apply g_load; first | (apply pv_ld; rfl; (· (repeat (first | apply sel_there))); rfl) | (apply pv_ld_ownf; rfl; (· (repeat (first | apply sel_there))); (· assumption); rfl) | (apply pv_ld_own1; rfl; (· (repeat (first | fail ))); (· assumption)) | (apply pv_ld_rof; rfl; (· (first | assumption )); (· assumption); rfl) ) | (apply g_bin; first | (apply a_add; rfl; rfl; infer_instance; omega) | (apply pv_and; rfl; rfl) ) | (apply g_idx; first | (apply pv_idx; rfl; rfl; omega) ) )) | apply wo_nil | apply wc_seq | apply wc_region ))
    rw [hnw]
    (repeat (first | fail ))
    refine wc_join0 (fun st => ∃ (b2 : Ask) (l2 : List Int) (r : Bool) (ao2 : Option Addr) (n2 c2 : Nat) (RR2 : List Ro), st = ⟨[(2, .slice (some ⟨b, o, none⟩) m c0), (7, .pointer (some ⟨g, 0, none⟩)), (9, .pointer (some ⟨h, 0, none⟩)), (10, .int .i64 nw), (11, .int .i64 i), (12, .bool r), (13, .bool r)], [pob g b2, rab h fi mo b2.wan ao2 n2 c2 b2.sen], RR2⟩
      ∧ SR RR2 1 ao2 n2 c2 (irs l2) ∧ (∀ r ∈ R, r ∈ RR2) ∧ PRel fi mo b2 l2 ∧ 0 ≤ b2.sen ∧ b2.sen ≤ i + 1 ∧ l2.length ≤ i + 1 ∧ 0 ≤ b2.wai ∧ b2.wai ≤ 1000) ?_ ?_
    · refine wc_block ?_
      have hfm : a.fi = fi ∧ a.mo = mo := ⟨hP.fi0, hP.mo0⟩
      have hok : a.ok := by unfold Ask.ok; omega
      have hlast : a.wan = true → ∃ z, l.getLast? = some z ∧ 0 ≤ z ∧ z ≤ 1000000 := fun e => by obtain ⟨z, h1, h2, h3, _⟩ := hP.on e; exact ⟨z, h1, h2, h3⟩
      by_cases hk1 : k = 1
      · subst hk1
        (repeat (first | ((first | (apply wo_v; rfl) ); (· first | (apply pv_ev; rfl) | (apply pv_fld; rfl) | (apply g_load; first | (apply pv_ld; rfl; (· (repeat (first | apply sel_there))); rfl) | (apply pv_ld_ownf; rfl; (· (repeat (first | apply sel_there))); (· assumption); rfl) | (apply pv_ld_own1; rfl; (· (repeat (first | fail ))); (· assumption)) | (apply pv_ld_rof; rfl; (· (first | assumption )); (· assumption); rfl) ) | (apply g_idx; first | (apply pv_idx; rfl; rfl; omega) ) )) | apply wo_nil | apply wc_seq | apply wc_region | (apply wc_true; rfl) ))
        (refine wo_call (wantF a o1 nw g hok (by omega)) rfl (by (repeat (first | apply sub_nil )); done) (by first | exact fun _ h => h | (intro r hr; cases hr; done) | (simp; done) | exact fun _ h => List.mem_append_left _ h | (intro r hr; simp [hr]; done)) rfl ?_; rintro v L' R' ⟨rfl, rfl, rfl⟩ H' hH RR hR; simp only [List.cons_append, List.nil_append] at hH hR; subst hH; have hR := hR.symm; subst hR)
        (repeat (first | ((first | (apply wo_v; rfl) ); (· first | (apply pv_ev; rfl) )) | apply wo_nil ))
        have hb3 := want_b (a := a) (on := o1) (now := nw) ⟨hw1, hw2⟩ (by omega) (by omega)
        (refine wc_regP 7 [1] (aslL [(11, [1])]) (rWant fi mo a.wan ao n c o1 a.sen nw l RR hb hS hlast (by omega) (by omega) (by omega)) (by (repeat (first | apply sub_nil )); done) (by first | exact fun _ h => h | (intro r hr; cases hr; done) | (simp; done) | exact fun _ h => List.mem_append_left _ h | (intro r hr; simp [hr]; done)) mixed (by kernel_rfl) (by kernel_rfl) (by kernel_rfl) (by decide) (aslL_ok (by decide)) rfl rfl ?_; (repeat (first | (apply HdM.val; rfl; rfl; (· first | apply gok_none ); (· first | (apply pv_ev; rfl) | (apply pv_fld; rfl) | (apply g_load; first | (apply pv_ld; rfl; (· (repeat (first | apply sel_there))); rfl) | (apply pv_lda; rfl; (· (repeat (first | apply sel_here | apply sel_there))); (· (repeat (first | apply Cut.here0 | apply Cut.here )))) | (apply pv_ld_ownf; rfl; (· (repeat (first | apply sel_there))); (· assumption); rfl) | (apply pv_ld_own1; rfl; (· (repeat (first | fail ))); (· assumption)) | (apply pv_ld_rof; rfl; (· (first | assumption )); (· assumption); rfl) ) | (apply g_idx; first | (apply pv_idx; rfl; rfl; omega) ) )) )))
        refine HdM.nil ⟨rfl, ?_⟩
        rintro v L' R' ⟨p, ao2, n2, c2, hp, rfl, rfl, hS2⟩ RR2 hRR2
        have hlen : p.1.length ≤ l.length + 1 := by
          rw [hp]; split
          · simp
          · split
            · exact rTickM_len ..
            · simp
        obtain ⟨e1, e2, e3, hP2⟩ := prel_want (now := nw) (on := o1) hP (by omega) p hp
        clear hp
        replace hS2 := hS2.mono (R' := RR2) (fun r h => by rw [hRR2]; exact List.mem_append_left _ h)
        replace hRR : ∀ r ∈ R, r ∈ RR2 := fun r h => by rw [hRR2]; exact List.mem_append_right _ (hRR r h)
        obtain ⟨l2, sen2, r2⟩ := p
        dsimp only at hS2 e1 e2 hP2 hlen
        refine ⟨[pob g (a.want o1 nw).1], tblU (rab h fi mo o1 ao2 n2 c2 sen2), fm [(1, [rab h fi mo a.wan ao n c a.sen])], (by (repeat (first | (apply prm_cons; (· (repeat (first | apply sel_here )))) | apply List.Perm.nil )); done), ?_⟩
        (repeat (first | (apply HdM.val; rfl; rfl; (· first | apply gok_none ); (· first | (apply pv_ev; rfl) )) ))
        (refine hm_eff (cs := [1]) rfl (by decide) rfl rfl (by first | exact gok_none | exact gok_run rfl rfl) (fun a ha => outc_mono (outc_sta rfl rfl rfl rfl (by (repeat (first | apply LayAt.nil | apply LayAt.here )); done) a ha) (fun v M h => ⟨[M], And.intro h.1 (congrArg (fun x => [x]) h.2), rfl, by simp⟩)) ⟨_, _, And.intro rfl rfl, rfl⟩ ?_; rintro v Ms ⟨rfl, rfl⟩ _; simp only [setls, setl, reduceIte, Nat.reduceEqDiff]; (repeat (first | (apply HdM.val; rfl; rfl; (· first | apply gok_none ); (· first | (apply pv_ev; rfl) )) )))
        (refine HdM.nil ?_; intro H hH; simp only [Hp, fm, look, setl, List.flatMap_cons, List.flatMap_nil, reduceIte, Nat.reduceEqDiff, Option.getD_some, List.append_nil, List.cons_append, List.nil_append] at hH; subst hH)
        generalize a.want o1 nw = br at hb3 e1 e2 e3 hP2 ⊢
        obtain ⟨b2, r3⟩ := br
        dsimp only at hb3 e1 e2 e3 hP2 ⊢
        subst e1 e2 e3
        exact cut_end ⟨b2, l2, r3, ao2, n2, c2, RR2, rfl, hS2, hRR, hP2, by omega, by omega, by omega, by omega, by omega⟩ (wk_mk (by (repeat (first | apply wkf_nil | (apply wkf_cons; rfl))); done) (by (repeat (first | apply sub_nil )); done) (by first | exact fun _ h => h | (intro r hr; cases hr; done) | (simp; done) | exact fun _ h => List.mem_append_left _ h | (intro r hr; simp [hr]; done)))
      · by_cases hk2 : k = 2
        · subst hk2
          (repeat (first | ((first | (apply wo_v; rfl) ); (· first | (apply pv_ev; rfl) )) | apply wo_nil | apply wc_seq | apply wc_region | (apply wc_true; rfl) | (apply wc_false; rfl) ))
          (refine wo_call (tickF a nw g hok (by omega)) rfl (by (repeat (first | apply sub_nil )); done) (by first | exact fun _ h => h | (intro r hr; cases hr; done) | (simp; done) | exact fun _ h => List.mem_append_left _ h | (intro r hr; simp [hr]; done)) rfl ?_; rintro v L' R' ⟨rfl, rfl, rfl⟩ H' hH RR hR; simp only [List.cons_append, List.nil_append] at hH hR; subst hH; have hR := hR.symm; subst hR)
          (repeat (first | ((first | (apply wo_v; rfl) ); (· first | (apply pv_ev; rfl) | (apply g_load; first | (apply pv_lda; rfl; (· (repeat (first | apply sel_here | apply sel_there))); (· (repeat (first | apply Cut.here0 | apply Cut.here )))) ) )) | apply wo_nil | apply wc_region ))
          have hb3 := tick_b (a := a) (now := nw) ⟨hw1, hw2⟩ (by omega)
          (refine wo_call (rTick fi mo a.wan ao n c a.sen nw l RR hb hS hlast (by omega) (by omega) (by omega)) rfl (by (repeat (first | apply sub_nil )); done) (by first | exact fun _ h => h | (intro r hr; cases hr; done) | (simp; done) | exact fun _ h => List.mem_append_left _ h | (intro r hr; simp [hr]; done)) rfl ?_; rintro v L' R' ⟨ao2, n2, c2, rfl, rfl, hS2⟩ H' hH RR hR; simp only [List.cons_append, List.nil_append] at hH hR; subst hH; have hR := hR.symm; subst hR)
          have hlen := rTickM_len fi mo a.wan l a.sen nw
          obtain ⟨e1, e2, e3, hP2⟩ := prel_tick (now := nw) hP (by omega)
          replace hS2 := hS2.mono (R' := R' ++ RR) (fun r h => List.mem_append_left _ h)
          replace hRR : ∀ r ∈ R, r ∈ R' ++ RR := fun r h => List.mem_append_right _ (hRR r h)
          generalize R' ++ RR = RR2 at hS2 hRR ⊢
          generalize rTickM fi mo a.wan l a.sen nw = p at hS2 hlen e1 e2 hP2 ⊢
          obtain ⟨l2, sen2, r2⟩ := p
          dsimp only at hS2 e1 e2 hP2 hlen
          generalize a.tick nw = br at hb3 e1 e2 e3 hP2 ⊢
          obtain ⟨b2, r3⟩ := br
          dsimp only at hb3 e1 e2 e3 hP2
          (repeat (first | ((first | (apply wo_v; rfl) ); (· first | (apply pv_ev; rfl) )) | apply wo_nil | (apply wo_sta; rfl; rfl; rfl; rfl; (· (repeat (first | apply sel_here | apply sel_there))); (· (repeat (first | apply LayAt.nil | apply LayAt.here ))); rfl) ))
          rw [← e3]
          subst e1 e2
          exact cut_end ⟨b2, l2, r3, ao2, n2, c2, RR2, rfl, hS2, hRR, hP2, by omega, by omega, by omega, by omega, by omega⟩ (wk_mk (by (repeat (first | apply wkf_nil | (apply wkf_cons; rfl))); done) (by (repeat (first | apply sub_nil | (apply sub_cons; (· (repeat (first | apply sel_here | apply sel_there)))))); done) (by first | exact fun _ h => h | (intro r hr; cases hr; done) | (simp; done) | exact fun _ h => List.mem_append_left _ h | (intro r hr; simp [hr]; done)))
        · (repeat (first | ((first | (apply wo_v; rfl) ); (· first | (apply pv_ev; rfl) )) | apply wo_nil | apply wc_seq | apply wc_region | apply wc_skip | (apply wc_true; rfl) | (apply wc_false; rfl) | (apply a_dec_t; rfl; (· first | assumption | omega)) | (apply a_dec_f; rfl; (· first | assumption | omega)) ))
          exact cut_end ⟨a, l, false, ao, n, c, RR, rfl, hS, hRR, hP, by omega, by omega, by omega, by omega, by omega⟩ (wk_mk (by (repeat (first | apply wkf_nil | (apply wkf_cons; rfl))); done) (by (repeat (first | apply sub_nil )); done) (by first | exact fun _ h => h | (intro r hr; cases hr; done) | (simp; done) | exact fun _ h => List.mem_append_left _ h | (intro r hr; simp [hr]; done)))
    clear hP hS hRR hs1 hs2 hl hw1 hw2 hmem
    rintro st ⟨b2, l2, r, ao2, n2, c2, RR2, rfl, hS, hRR, hP, hs1, hs2, hl, hw1, hw2⟩
    cases hwn : b2.wan with
    | false =>
      obtain ⟨hd, rfl⟩ := hP.off hwn
      (repeat (first | ((first | (apply wo_v; rfl) ); (· first | (apply pv_ev; rfl) )) | apply wc_seq | apply wc_region ))
      (refine wo_call (dueF b2 0 false hd hwn g) rfl (by (repeat (first | apply sub_nil )); done) (by first | exact fun _ h => h | (intro r hr; cases hr; done) | (simp; done) | exact fun _ h => List.mem_append_left _ h | (intro r hr; simp [hr]; done)) rfl ?_; rintro v L' R' ⟨rfl, rfl, rfl⟩ H' hH RR hR; simp only [List.cons_append, List.nil_append] at hH hR; subst hH; have hR := hR.symm; subst hR)
      (repeat (first | ((first | (apply wo_v; rfl) ); (· first | (apply pv_ev; rfl) )) | apply wo_nil | apply wc_seq ))
      (refine wc_quiet mixed (by kernel_rfl) ?_; (repeat (first | ((first | (apply hd_v; rfl) ); (· first | (apply pv_ev; rfl) | (apply g_bin; first | (apply pv_neq_b; rfl; rfl) ) )) | (apply Hd.run; rfl; rfl) | (apply Hd.skip; rfl; rfl; rfl; rfl) | (apply Hd.skipu; rfl; rfl; rfl) | (apply ah_gt; rfl; rfl; (· first | assumption | omega)) | (apply ah_gf; rfl; rfl; (· first | assumption | omega)) | (apply ah_gt; rfl; rfl; (· first | (simp; done) | (simp; omega))) | (apply ah_gf; rfl; rfl; (· first | (simp; done) | (simp; omega))))))
      (refine Hd.call rfl inferInstance (Fn.mono (wantedF b2 false hwn g) (fun _ _ _ h => ⟨h.1, h.2.1⟩)) rfl (by (repeat (first | apply sub_nil )); done) (by first | exact fun _ h => h | (intro r hr; cases hr; done) | (simp; done) | exact fun _ h => List.mem_append_left _ h | (intro r hr; simp [hr]; done)) rfl ?_; (repeat (first | ((first | (apply hd_v; rfl) ); (· first | (apply pv_ev; rfl) | (apply pv_fld; rfl) | (apply g_load; first | (apply pv_ld; rfl; (· (repeat (first | apply sel_here | apply sel_there))); rfl) ) | (apply g_pick; first | (apply pv_pick_t; rfl; rfl) | (apply pv_pick_f; rfl; rfl)) | (apply g_bin; first | (apply pv_neq_b; rfl; rfl) ) )) | (apply Hd.run; rfl; rfl) )))
      (refine Hd.call rfl inferInstance (Fn.mono (sentF b2 b2.sen rfl g) (fun _ _ _ h => ⟨h.1, h.2.1⟩)) rfl (by (repeat (first | apply sub_nil )); done) (by first | exact fun _ h => h | (intro r hr; cases hr; done) | (simp; done) | exact fun _ h => List.mem_append_left _ h | (intro r hr; simp [hr]; done)) rfl ?_; (repeat (first | ((first | (apply wo_v; rfl) | (apply hd_v; rfl) ); (· first | (apply pv_ev; rfl) | (apply pv_fld; rfl) | (apply g_load; first | (apply pv_ld; rfl; (· (repeat (first | apply sel_here | apply sel_there))); rfl) ) | (apply g_pick; first | (apply pv_pick_t; rfl; rfl) | (apply pv_pick_f; rfl; rfl)) | (apply g_bin; first | (apply a_add; rfl; rfl; infer_instance; omega) | (apply pv_neq_b; rfl; rfl) ) | (apply g_un; first | (apply pv_not_t; rfl) | (apply pv_not_f; rfl) ) )) | apply wo_nil | apply Hd.nil | apply wc_region | apply wc_skip | (apply wc_true; rfl) | (apply wc_false; rfl) | (apply Hd.run; rfl; rfl) | (apply Hd.skip; rfl; rfl; rfl; rfl) | (apply Hd.skipu; rfl; rfl; rfl) | (apply ah_gt; rfl; rfl; (· first | assumption | omega)) | (apply ah_gf; rfl; rfl; (· first | assumption | omega)) )))
      exact loop_end ⟨i + 1, b2, [], ao2, n2, c2, nw, RR2, rfl, by rw [hwn], hS, hRR, hP, by omega, by omega, by simp, by omega, by omega, by omega, by omega, by omega, by omega⟩ (by omega) (wk_mk (by (repeat (first | apply wkf_nil | (apply wkf_cons; rfl))); done) (by (repeat (first | apply sub_nil )); done) (by first | exact fun _ h => h | (intro r hr; cases hr; done) | (simp; done) | exact fun _ h => List.mem_append_left _ h | (intro r hr; simp [hr]; done)))
    | true =>
      obtain ⟨z2, hz2, hz3, hz4, hz5, hz6⟩ := hP.on hwn
      have hn2' : n2 = l2.length := by rw [← hS.len]; simp
      subst hn2'
      (repeat (first | ((first | (apply wo_v; rfl) ); (· first | (apply pv_ev; rfl) )) | apply wc_seq | apply wc_region ))
      (refine wo_call (dueF b2 _ true hz6 hwn g) rfl (by (repeat (first | apply sub_nil )); done) (by first | exact fun _ h => h | (intro r hr; cases hr; done) | (simp; done) | exact fun _ h => List.mem_append_left _ h | (intro r hr; simp [hr]; done)) rfl ?_; rintro v L' R' ⟨rfl, rfl, rfl⟩ H' hH RR hR; simp only [List.cons_append, List.nil_append] at hH hR; subst hH; have hR := hR.symm; subst hR)
      (repeat (first | ((first | (apply wo_v; rfl) ); (· first | (apply pv_ev; rfl) )) | apply wo_nil | apply wc_seq ))
      (refine wc_quiet mixed (by kernel_rfl) ?_; (repeat (first | ((first | (apply hd_v; rfl) ); (· first | (apply pv_ev; rfl) | (apply g_bin; first | (apply pv_neq_b; rfl; rfl) ) )) | (apply Hd.run; rfl; rfl) | (apply Hd.skip; rfl; rfl; rfl; rfl) | (apply Hd.skipu; rfl; rfl; rfl) | (apply ah_gt; rfl; rfl; (· first | assumption | omega)) | (apply ah_gf; rfl; rfl; (· first | assumption | omega)) | (apply ah_gt; rfl; rfl; (· first | (simp; done) | (simp; omega))) | (apply ah_gf; rfl; rfl; (· first | (simp; done) | (simp; omega))))))
      (refine Hd.call rfl inferInstance (Fn.mono (wantedF b2 true hwn g) (fun _ _ _ h => ⟨h.1, h.2.1⟩)) rfl (by (repeat (first | apply sub_nil )); done) (by first | exact fun _ h => h | (intro r hr; cases hr; done) | (simp; done) | exact fun _ h => List.mem_append_left _ h | (intro r hr; simp [hr]; done)) rfl ?_; (repeat (first | ((first | (apply hd_v; rfl) ); (· first | (apply pv_ev; rfl) | (apply pv_fld; rfl) | (apply g_load; first | (apply pv_ld; rfl; (· (repeat (first | apply sel_here | apply sel_there))); rfl) ) | (apply g_pick; first | (apply pv_pick_t; rfl; rfl) | (apply pv_pick_f; rfl; rfl)) | (apply g_bin; first | (apply pv_neq_b; rfl; rfl) ) )) | (apply Hd.run; rfl; rfl) )))
      (refine Hd.call rfl inferInstance (Fn.mono (sentF b2 b2.sen rfl g) (fun _ _ _ h => ⟨h.1, h.2.1⟩)) rfl (by (repeat (first | apply sub_nil )); done) (by first | exact fun _ h => h | (intro r hr; cases hr; done) | (simp; done) | exact fun _ h => List.mem_append_left _ h | (intro r hr; simp [hr]; done)) rfl ?_; (repeat (first | ((first | (apply hd_v; rfl) ); (· first | (apply pv_ev; rfl) | (apply pv_fld; rfl) | (apply g_load; first | (apply pv_ld; rfl; (· (repeat (first | apply sel_here | apply sel_there))); rfl) | (apply pv_lda; rfl; (· (repeat (first | apply sel_here | apply sel_there))); (· (repeat (first | apply Cut.here0 | apply Cut.here )))) ) | (apply g_pick; first | (apply pv_pick_t; rfl; rfl) | (apply pv_pick_f; rfl; rfl)) | (apply g_bin; first | (apply pv_neq_b; rfl; rfl) ) )) | (apply Hd.run; rfl; rfl) | (apply Hd.skip; rfl; rfl; rfl; rfl) | (apply Hd.skipu; rfl; rfl; rfl) | (apply ah_gt; rfl; rfl; (· first | assumption | omega)) | (apply ah_gf; rfl; rfl; (· first | assumption | omega)) )))
      (refine Hd.call rfl inferInstance (Fn.mono (rDue fi mo true ao2 l2.length c2 b2.sen l2 z2 RR2 hb hS hz2 (by omega) ⟨hz3, hz4⟩) (fun _ _ _ h => ⟨h.1, h.2.1⟩)) rfl (by (repeat (first | apply sub_nil )); done) (by first | exact fun _ h => h | (intro r hr; cases hr; done) | (simp; done) | exact fun _ h => List.mem_append_left _ h | (intro r hr; simp [hr]; done)) rfl ?_; (repeat (first | ((first | (apply wo_v; rfl) | (apply hd_v; rfl) ); (· first | (apply pv_ev; rfl) | (apply g_pick; first | (apply pv_pick_t; rfl; rfl) | (apply pv_pick_f; rfl; rfl)) | (apply g_bin; first | (apply a_add; rfl; rfl; infer_instance; omega) ) | (apply g_un; first | (apply pv_not_t; rfl) ) )) | apply wo_nil | apply Hd.nil | apply wc_region | apply wc_skip | (apply wc_true; rfl) | (apply wc_false; rfl) | (apply Hd.run; rfl; rfl) | (apply Hd.skip; rfl; rfl; rfl; rfl) | (apply Hd.skipu; rfl; rfl; rfl) | (apply ah_gt; rfl; rfl; (· first | assumption | omega)) | (apply ah_gf; rfl; rfl; (· first | assumption | omega)) )))
      exact loop_end ⟨i + 1, b2, l2, ao2, _, c2, nw, RR2, rfl, by rw [hwn], hS, hRR, hP, by omega, by omega, by omega, by omega, by omega, by omega, by omega, by omega, by omega⟩ (by omega) (wk_mk (by (repeat (first | apply wkf_nil | (apply wkf_cons; rfl))); done) (by (repeat (first | apply sub_nil )); done) (by first | exact fun _ h => h | (intro r hr; cases hr; done) | (simp; done) | exact fun _ h => List.mem_append_left _ h | (intro r hr; simp [hr]; done)))
  · have hex2 : ¬ (i < m) ∨ (i < m ∧ ¬ i < 150) := by omega
    rcases hex2 with h | ⟨h, h'⟩
    all_goals
      (repeat (first | ((first | (apply wo_v; rfl) ); (· first | (apply pv_ev; rfl) | (apply g_pick; first | (apply pv_pick_t; rfl; rfl) | (apply pv_pick_f; rfl; rfl)) | (apply g_bi; first | (apply pv_len_sl; rfl) ) )) | apply wo_nil | apply wc_seq | apply wc_region | (apply wc_exit; rfl) | apply wc_ret | (apply wc_true; rfl) | (apply wc_false; rfl) | (apply a_dec_t; rfl; (· first | assumption | omega)) | (apply a_dec_f; rfl; (· first | assumption | omega)) | (apply wo_run; rfl; rfl) | (apply wo_skip; rfl; rfl; rfl; rfl) | (apply wo_skip_u; rfl; rfl; rfl) | (apply a_gt; rfl; rfl; (· first | assumption | omega)) | (apply a_gf; rfl; rfl; (· first | assumption | omega)) ))
      exact ret1 rfl rfl rfl ((by (repeat (first | apply sub_nil )); done) : List.Perm _ ([] ++ _)) (by first | exact fun _ h => h | (intro r hr; cases hr; done) | (simp; done) | exact fun _ h => List.mem_append_left _ h | (intro r hr; simp [hr]; done))
theorem pliPlays_walk (f : Int) (hf : -9223372036854775808 ≤ f ∧ f ≤ 9223372036854775807) (mm : Int) (hmm : -9223372036854775808 ≤ mm ∧ mm ≤ 9223372036854775807)
    (A : Option Addr) (n c : Nat) (V : Nat → Nat → Value) {w : World} (hV : Rws [.int .i64, .int .i64, .bool] w A n c V) :
    Calls Try.prog 7 #[.int .i64 f, .int .i64 mm, .slice A n c] w fun e w' => e = .returned (.bool true) ∧ Below w.heap.size w w' := by
  obtain ⟨kd, N, on, R, hR, h0⟩ := rws_pact hV
  have hb := hV.1
  have hb2 := hV.2.1
  unfold maxLen at hb2
  exact walk_of (pliPlays_fn f mm A n c kd N on R (by omega) h0) hR
end Go.Proofs.Ytdlajpakdgbhiaa
