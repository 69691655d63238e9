/-
  Texts of this proof, laid together (part 4 of 7).
-/
import Derived.Test.YtlhlidmhlhodiaaB3
import Derived.Laws.IdiomRangeMap
/-
  Package drr, with two flows.
-/
namespace Go.Proofs.Ytlhlidmhlhodiaa
set_option linter.unusedSimpArgs false
set_option linter.unusedVariables false
open Go.RowKit
attribute [local irreducible] Pv WO WC Fn
set_option maxRecDepth 100000

theorem sNaN2 (x : Int) : Fn Try.prog 184 #[.int .i64 x] [] [] (fun v L' R' => v = .bool false ∧ L' = [] ∧ R' = []) := by
  refine fn_intro Try.func184 rfl Try.ntmps184 rfl (fun E => ?_)
  (repeat (first | ((first | (apply wo_v; rfl) ); (· first | (apply pv_ev; rfl) )) | apply wo_nil | apply wc_seq | apply wc_region | apply wc_ret ))
  exact ret1 rfl rfl ⟨by simp, rfl, rfl⟩ ((by (repeat (first | apply sub_nil )); done) : List.Perm _ ([] ++ _)) (by first | exact fun _ h => h | (intro r hr; cases hr; done) | (simp; done) | exact fun _ h => List.mem_append_left _ h | (intro r hr; simp [hr]; done))
theorem dBin0 (b o c : Nat) (t : Int) (h : t = 0 ∨ t = 1) : Fn Try.prog 179 #[.slice (some ⟨b, o, none⟩) 2 c, .int .i64 t] [inO (some ⟨b, o, none⟩) 2 c [1, 2]] [] (fun v L' R' => v = .tuple #[.int .i64 0, .bool (decide (t = 1))] ∧ L' = [inO (some ⟨b, o, none⟩) 2 c [1, 2]] ∧ R' = []) := by
  have q2 := sLess 2 t
  have q1 := sLess 1 t
  have n1 := sNaN2 1
  have nt := sNaN2 t
  rw [decide_eq_false (by omega)] at q1 q2
  have r0 : ([1, 2].map fun x : Int => [Value.int .i64 x])[0]? = some [.int .i64 1] := rfl
  have r1 : ([1, 2].map fun x : Int => [Value.int .i64 x])[1]? = some [.int .i64 2] := rfl
  refine fn_intro Try.func179 rfl Try.ntmps179 rfl (fun E => ?_)
  (repeat (first | ((first | (apply wo_v; rfl) ); (· first | (apply pv_ev; rfl) | (apply g_bi; first | (apply pv_len_sl; rfl) ) )) | apply wo_nil | apply wc_seq | apply wc_region ))
  refine wc_block ?_
  refine wc_loop' (fun q st => ∃ j : Nat, (j = 2 ∨ j = 1 ∨ j = 0) ∧ q = j ∧ st = ⟨[(0, .slice (some ⟨b, o, none⟩) 2 c), (1, .int .i64 t), (6, .int .i64 2), (7, .int .i64 0), (8, .int .i64 j)], [inO (some ⟨b, o, none⟩) 2 c [1, 2]], []⟩) ⟨2, .inl rfl, rfl, rfl⟩ (wk_mk (by (repeat (first | apply wkf_nil | (apply wkf_cons; rfl))); done) (by (repeat (first | apply sub_nil )); done) (by first | exact fun _ h => h | (intro r hr; cases hr; done) | (simp; done) | exact fun _ h => List.mem_append_left _ h | (intro r hr; simp [hr]; done))) ?_
  rintro q st ⟨j, rfl | rfl | rfl, rfl, rfl⟩
  · (repeat (first | ((first | (apply wo_v; rfl) ); (· first | (apply pv_ev; rfl) )) | apply wo_nil | apply wc_seq | apply wc_region | apply wc_skip | (apply wc_true; rfl) ))
    refine wc_block ?_
    (repeat (first | ((first | (apply wo_v; rfl) ); (· first | (apply pv_ev; rfl) | (apply g_load; first | (apply pv_ld; rfl; (· (repeat (first | apply sel_there))); rfl) | (apply pv_ld_ownf; rfl; (· (repeat (first | fail ))); (· assumption); rfl) | (apply pv_ld_own1; rfl; (· (repeat (first | apply sel_here ))); (· assumption)) ) | (apply g_bin; first | (apply a_add; rfl; rfl; infer_instance; omega) | (apply a_shr; rfl; rfl; rfl; omega; rfl) ) | (apply g_conv; first | (apply a_conv; rfl; infer_instance; infer_instance; infer_instance; omega) ) | (apply g_idx; first | (apply pv_idx; rfl; rfl; omega) | (apply (pv_idx_e 0); rfl; rfl; rfl; omega) | (apply pv_idx_n; rfl; rfl; omega) ) )) | apply wo_nil | apply wc_seq | apply wc_region ))
    (refine wo_call (q2) rfl (by (repeat (first | apply sub_nil )); done) (by first | exact fun _ h => h | (intro r hr; cases hr; done) | (simp; done) | exact fun _ h => List.mem_append_left _ h | (intro r hr; simp [hr]; done)) rfl ?_; rintro v L' R' ⟨rfl, rfl, rfl⟩ H' hH RR hR; simp only [List.cons_append, List.nil_append] at hH hR; subst hH; have hR := hR.symm; subst hR)
    (repeat (first | ((first | (apply wo_v; rfl) ); (· first | (apply pv_ev; rfl) )) | apply wo_nil | apply wc_region | (apply wc_true; rfl) | (apply wc_false; rfl) ))
    exact loop_end ⟨1, .inr (.inl rfl), rfl, rfl⟩ (by omega) (wk_mk (by (repeat (first | apply wkf_nil | (apply wkf_cons; rfl))); done) (by (repeat (first | apply sub_nil )); done) (by first | exact fun _ h => h | (intro r hr; cases hr; done) | (simp; done) | exact fun _ h => List.mem_append_left _ h | (intro r hr; simp [hr]; done)))
  · (repeat (first | ((first | (apply wo_v; rfl) ); (· first | (apply pv_ev; rfl) )) | apply wo_nil | apply wc_seq | apply wc_region | apply wc_skip | (apply wc_true; rfl) ))
    refine wc_block ?_
    (repeat (first | ((first | (apply wo_v; rfl) ); (· first | (apply pv_ev; rfl) | (apply g_load; first | (apply pv_ld; rfl; (· (repeat (first | apply sel_there))); rfl) | (apply pv_ld_ownf; rfl; (· (repeat (first | fail ))); (· assumption); rfl) | (apply pv_ld_own1; rfl; (· (repeat (first | apply sel_here ))); (· assumption)) ) | (apply g_bin; first | (apply a_add; rfl; rfl; infer_instance; omega) | (apply a_shr; rfl; rfl; rfl; omega; rfl) ) | (apply g_conv; first | (apply a_conv; rfl; infer_instance; infer_instance; infer_instance; omega) ) | (apply g_idx; first | (apply pv_idx; rfl; rfl; omega) | (apply (pv_idx_e 0); rfl; rfl; rfl; omega) ) )) | apply wo_nil | apply wc_seq | apply wc_region ))
    (refine wo_call (q1) rfl (by (repeat (first | apply sub_nil )); done) (by first | exact fun _ h => h | (intro r hr; cases hr; done) | (simp; done) | exact fun _ h => List.mem_append_left _ h | (intro r hr; simp [hr]; done)) rfl ?_; rintro v L' R' ⟨rfl, rfl, rfl⟩ H' hH RR hR; simp only [List.cons_append, List.nil_append] at hH hR; subst hH; have hR := hR.symm; subst hR)
    (repeat (first | ((first | (apply wo_v; rfl) ); (· first | (apply pv_ev; rfl) )) | apply wo_nil | apply wc_region | (apply wc_true; rfl) | (apply wc_false; rfl) ))
    exact loop_end ⟨0, .inr (.inr rfl), rfl, rfl⟩ (by omega) (wk_mk (by (repeat (first | apply wkf_nil | (apply wkf_cons; rfl))); done) (by (repeat (first | apply sub_nil )); done) (by first | exact fun _ h => h | (intro r hr; cases hr; done) | (simp; done) | exact fun _ h => List.mem_append_left _ h | (intro r hr; simp [hr]; done)))
  · (repeat (first | ((first | (apply wo_v; rfl) ); (· first | (apply pv_ev; rfl) | (apply g_load; first | (apply pv_ld; rfl; (· (repeat (first | apply sel_there))); rfl) | (apply pv_ld_ownf; rfl; (· (repeat (first | fail ))); (· assumption); rfl) | (apply pv_ld_own1; rfl; (· (repeat (first | apply sel_here ))); (· assumption)) ) | (apply g_idx; first | (apply pv_idx; rfl; rfl; omega) | (apply (pv_idx_e 0); rfl; rfl; rfl; omega) ) )) | apply wo_nil | apply wc_seq | apply wc_region | (apply wc_exit; rfl) | (apply wc_true; rfl) | (apply wc_false; rfl) | (apply wo_run; rfl; rfl) | (apply wo_skip; rfl; rfl; rfl; rfl) | (apply wo_skip_u; rfl; rfl; rfl) | (apply a_gt; rfl; rfl; (· first | assumption | omega)) | (apply a_gf; rfl; rfl; (· first | assumption | omega)) | (apply a_gt; rfl; rfl; (· first | (simp; done) | (simp; omega))) | (apply a_gf; rfl; rfl; (· first | (simp; done) | (simp; omega))) ))
    rcases h with rfl | rfl
    · (repeat (first | ((first | (apply wo_v; rfl) ); (· first | (apply pv_ev; rfl) | (apply g_load; first | (apply pv_ld; rfl; (· (repeat (first | apply sel_there))); rfl) | (apply pv_ld_ownf; rfl; (· (repeat (first | fail ))); (· assumption); rfl) | (apply pv_ld_own1; rfl; (· (repeat (first | apply sel_here ))); (· assumption)) ) | (apply g_idx; first | (apply pv_idx; rfl; rfl; omega) | (apply (pv_idx_e 0); rfl; rfl; rfl; omega) ) )) | (apply wo_run; rfl; rfl) ))
      (refine wo_call (n1) rfl (by (repeat (first | apply sub_nil )); done) (by first | exact fun _ h => h | (intro r hr; cases hr; done) | (simp; done) | exact fun _ h => List.mem_append_left _ h | (intro r hr; simp [hr]; done)) rfl ?_; rintro v L' R' ⟨rfl, rfl, rfl⟩ H' hH RR hR; simp only [List.cons_append, List.nil_append] at hH hR; subst hH; have hR := hR.symm; subst hR)
      (repeat (first | ((first | (apply wo_v; rfl) ); (· first | (apply pv_ev; rfl) | (apply g_pick; first | (apply pv_pick_t; rfl; rfl) | (apply pv_pick_f; rfl; rfl)) )) | apply wo_nil | apply wc_ret | (apply wo_run; rfl; rfl) | (apply wo_skip; rfl; rfl; rfl; rfl) ))
      exact ret2 rfl rfl rfl ⟨rfl, rfl, rfl⟩ ((by (repeat (first | apply sub_nil )); done) : List.Perm _ ([_] ++ _)) (by first | exact fun _ h => h | (intro r hr; cases hr; done) | (simp; done) | exact fun _ h => List.mem_append_left _ h | (intro r hr; simp [hr]; done))
    · (repeat (first | ((first | (apply wo_v; rfl) ); (· first | (apply pv_ev; rfl) | (apply g_pick; first | (apply pv_pick_t; rfl; rfl) ) )) | apply wo_nil | apply wc_ret | (apply wo_run; rfl; rfl) | (apply wo_skip; rfl; rfl; rfl; rfl) | (apply wo_skip_u; rfl; rfl; rfl) ))
      exact ret2 rfl rfl rfl ⟨rfl, rfl, rfl⟩ ((by (repeat (first | apply sub_nil )); done) : List.Perm _ ([_] ++ _)) (by first | exact fun _ h => h | (intro r hr; cases hr; done) | (simp; done) | exact fun _ h => List.mem_append_left _ h | (intro r hr; simp [hr]; done))
theorem dBin2 (b o c : Nat) : Fn Try.prog 179 #[.slice (some ⟨b, o, none⟩) 2 c, .int .i64 2] [inO (some ⟨b, o, none⟩) 2 c [1, 2]] [] (fun v L' R' => v = .tuple #[.int .i64 1, .bool true] ∧ L' = [inO (some ⟨b, o, none⟩) 2 c [1, 2]] ∧ R' = []) := by
  have q2 := sLess 2 2
  have q1 := sLess 1 2
  rw [decide_eq_false (by omega)] at q2
  rw [decide_eq_true (by omega)] at q1
  have r0 : ([1, 2].map fun x : Int => [Value.int .i64 x])[0]? = some [.int .i64 1] := rfl
  have r1 : ([1, 2].map fun x : Int => [Value.int .i64 x])[1]? = some [.int .i64 2] := rfl
  refine fn_intro Try.func179 rfl Try.ntmps179 rfl (fun E => ?_)
  (repeat (first | ((first | (apply wo_v; rfl) ); (· first | (apply pv_ev; rfl) | (apply g_bi; first | (apply pv_len_sl; rfl) ) )) | apply wo_nil | apply wc_seq | apply wc_region ))
  refine wc_block ?_
  refine wc_loop' (fun q st => ∃ i j : Nat, ((i = 0 ∧ j = 2) ∨ (i = 0 ∧ j = 1) ∨ (i = 1 ∧ j = 1)) ∧ q = j - i ∧ st = ⟨[(0, .slice (some ⟨b, o, none⟩) 2 c), (1, .int .i64 2), (6, .int .i64 2), (7, .int .i64 i), (8, .int .i64 j)], [inO (some ⟨b, o, none⟩) 2 c [1, 2]], []⟩) ⟨0, 2, .inl ⟨rfl, rfl⟩, rfl, rfl⟩ (wk_mk (by (repeat (first | apply wkf_nil | (apply wkf_cons; rfl))); done) (by (repeat (first | apply sub_nil )); done) (by first | exact fun _ h => h | (intro r hr; cases hr; done) | (simp; done) | exact fun _ h => List.mem_append_left _ h | (intro r hr; simp [hr]; done))) ?_
  rintro q st ⟨i, j, ⟨rfl, rfl⟩ | ⟨rfl, rfl⟩ | ⟨rfl, rfl⟩, rfl, rfl⟩
  · (repeat (first | ((first | (apply wo_v; rfl) ); (· first | (apply pv_ev; rfl) )) | apply wo_nil | apply wc_seq | apply wc_region | apply wc_skip | (apply wc_true; rfl) ))
    refine wc_block ?_
    (repeat (first | ((first | (apply wo_v; rfl) ); (· first | (apply pv_ev; rfl) | (apply g_load; first | (apply pv_ld; rfl; (· (repeat (first | apply sel_there))); rfl) | (apply pv_ld_ownf; rfl; (· (repeat (first | fail ))); (· assumption); rfl) | (apply pv_ld_own1; rfl; (· (repeat (first | apply sel_here ))); (· assumption)) ) | (apply g_bin; first | (apply a_add; rfl; rfl; infer_instance; omega) | (apply a_shr; rfl; rfl; rfl; omega; rfl) ) | (apply g_conv; first | (apply a_conv; rfl; infer_instance; infer_instance; infer_instance; omega) ) | (apply g_idx; first | (apply pv_idx; rfl; rfl; omega) | (apply (pv_idx_e 0); rfl; rfl; rfl; omega) | (apply pv_idx_n; rfl; rfl; omega) ) )) | apply wo_nil | apply wc_seq | apply wc_region ))
    (refine wo_call (q2) rfl (by (repeat (first | apply sub_nil )); done) (by first | exact fun _ h => h | (intro r hr; cases hr; done) | (simp; done) | exact fun _ h => List.mem_append_left _ h | (intro r hr; simp [hr]; done)) rfl ?_; rintro v L' R' ⟨rfl, rfl, rfl⟩ H' hH RR hR; simp only [List.cons_append, List.nil_append] at hH hR; subst hH; have hR := hR.symm; subst hR)
    (repeat (first | ((first | (apply wo_v; rfl) ); (· first | (apply pv_ev; rfl) )) | apply wo_nil | apply wc_region | (apply wc_true; rfl) | (apply wc_false; rfl) ))
    exact loop_end ⟨0, 1, .inr (.inl ⟨rfl, rfl⟩), rfl, rfl⟩ (by omega) (wk_mk (by (repeat (first | apply wkf_nil | (apply wkf_cons; rfl))); done) (by (repeat (first | apply sub_nil )); done) (by first | exact fun _ h => h | (intro r hr; cases hr; done) | (simp; done) | exact fun _ h => List.mem_append_left _ h | (intro r hr; simp [hr]; done)))
  · (repeat (first | ((first | (apply wo_v; rfl) ); (· first | (apply pv_ev; rfl) )) | apply wo_nil | apply wc_seq | apply wc_region | apply wc_skip | (apply wc_true; rfl) ))
    refine wc_block ?_
    (repeat (first | ((first | (apply wo_v; rfl) ); (· first | (apply pv_ev; rfl) | (apply g_load; first | (apply pv_ld; rfl; (· (repeat (first | apply sel_there))); rfl) | (apply pv_ld_ownf; rfl; (· (repeat (first | fail ))); (· assumption); rfl) | (apply pv_ld_own1; rfl; (· (repeat (first | apply sel_here ))); (· assumption)) ) | (apply g_bin; first | (apply a_add; rfl; rfl; infer_instance; omega) | (apply a_shr; rfl; rfl; rfl; omega; rfl) ) | (apply g_conv; first | (apply a_conv; rfl; infer_instance; infer_instance; infer_instance; omega) ) | (apply g_idx; first | (apply pv_idx; rfl; rfl; omega) | (apply (pv_idx_e 0); rfl; rfl; rfl; omega) ) )) | apply wo_nil | apply wc_seq | apply wc_region ))
    (refine wo_call (q1) rfl (by (repeat (first | apply sub_nil )); done) (by first | exact fun _ h => h | (intro r hr; cases hr; done) | (simp; done) | exact fun _ h => List.mem_append_left _ h | (intro r hr; simp [hr]; done)) rfl ?_; rintro v L' R' ⟨rfl, rfl, rfl⟩ H' hH RR hR; simp only [List.cons_append, List.nil_append] at hH hR; subst hH; have hR := hR.symm; subst hR)
    (repeat (first | ((first | (apply wo_v; rfl) ); (· first | (apply pv_ev; rfl) | (apply g_bin; first | (apply a_add; rfl; rfl; infer_instance; omega) ) )) | apply wo_nil | apply wc_region | (apply wc_true; rfl) ))
    exact loop_end ⟨1, 1, .inr (.inr ⟨rfl, rfl⟩), rfl, rfl⟩ (by omega) (wk_mk (by (repeat (first | apply wkf_nil | (apply wkf_cons; rfl))); done) (by (repeat (first | apply sub_nil )); done) (by first | exact fun _ h => h | (intro r hr; cases hr; done) | (simp; done) | exact fun _ h => List.mem_append_left _ h | (intro r hr; simp [hr]; done)))
  · (repeat (first | ((first | (apply wo_v; rfl) ); (· first | (apply pv_ev; rfl) | (apply g_load; first | (apply pv_ld; rfl; (· (repeat (first | apply sel_there))); rfl) | (apply pv_ld_ownf; rfl; (· (repeat (first | fail ))); (· assumption); rfl) | (apply pv_ld_own1; rfl; (· (repeat (first | apply sel_here ))); (· assumption)) ) | (apply g_pick; first | (apply pv_pick_t; rfl; rfl) ) | (apply g_idx; first | (apply pv_idx; rfl; rfl; omega) ) )) | apply wo_nil | apply wc_seq | apply wc_region | (apply wc_exit; rfl) | apply wc_ret | (apply wc_true; rfl) | (apply wc_false; rfl) | (apply wo_run; rfl; rfl) | (apply wo_skip; rfl; rfl; rfl; rfl) | (apply wo_skip_u; rfl; rfl; rfl) ))
    exact ret2 rfl rfl rfl ⟨rfl, rfl, rfl⟩ ((by (repeat (first | apply sub_nil )); done) : List.Perm _ ([_] ++ _)) (by first | exact fun _ h => h | (intro r hr; cases hr; done) | (simp; done) | exact fun _ h => List.mem_append_left _ h | (intro r hr; simp [hr]; done))
/-- who comes behind one -/
def aftM (t : Int) : Int := if t = 1 then 2 else 1
theorem dAfter (b o c : Nat) (t : Int) (h : t = 0 ∨ t = 1 ∨ t = 2) : Fn Try.prog 169 #[.slice (some ⟨b, o, none⟩) 2 c, .int .i64 t] [inO (some ⟨b, o, none⟩) 2 c [1, 2]] [] (fun v L' R' => v = .int .i64 (aftM t) ∧ L' = [inO (some ⟨b, o, none⟩) 2 c [1, 2]] ∧ R' = []) := by
  have r0 : ([1, 2].map fun x : Int => [Value.int .i64 x])[0]? = some [.int .i64 1] := rfl
  have r1 : ([1, 2].map fun x : Int => [Value.int .i64 x])[1]? = some [.int .i64 2] := rfl
  rcases h with rfl | rfl | rfl
  · have q := dBin0 b o c 0 (.inl rfl)
    refine fn_intro Try.func169 rfl Try.ntmps169 rfl (fun E => ?_)
    (repeat (first | ((first | (apply wo_v; rfl) ); (· first | (apply pv_ev; rfl) )) | apply wo_nil | apply wc_seq | apply wc_region ))
    (refine wo_call (q) rfl (by (repeat (first | apply sub_nil )); done) (by first | exact fun _ h => h | (intro r hr; cases hr; done) | (simp; done) | exact fun _ h => List.mem_append_left _ h | (intro r hr; simp [hr]; done)) rfl ?_; rintro v L' R' ⟨rfl, rfl, rfl⟩ H' hH RR hR; simp only [List.cons_append, List.nil_append] at hH hR; subst hH; have hR := hR.symm; subst hR)
    (repeat (first | ((first | (apply wo_v; rfl) ); (· first | (apply pv_ev; rfl) | (apply g_load; first | (apply pv_ld; rfl; (· (repeat (first | apply sel_there))); rfl) | (apply pv_ld_ownf; rfl; (· (repeat (first | fail ))); (· assumption); rfl) | (apply pv_ld_own1; rfl; (· (repeat (first | apply sel_here ))); (· assumption)) ) | (apply g_bin; first | (apply pv_rem; rfl; rfl; omega) ) | (apply g_bi; first | (apply pv_len_sl; rfl) ) | (apply g_idx; first | (apply pv_idx; rfl; rfl; omega) | (apply (pv_idx_e 0); rfl; rfl; rfl; omega) ) )) | apply wo_nil | apply wc_seq | apply wc_region | apply wc_skip | apply wc_ret | (apply wc_true; rfl) | (apply wc_false; rfl) ))
    exact ret1 rfl rfl ⟨rfl, rfl, rfl⟩ ((by (repeat (first | apply sub_nil )); done) : List.Perm _ ([_] ++ _)) (by first | exact fun _ h => h | (intro r hr; cases hr; done) | (simp; done) | exact fun _ h => List.mem_append_left _ h | (intro r hr; simp [hr]; done))
  · have q := dBin0 b o c 1 (.inr rfl)
    refine fn_intro Try.func169 rfl Try.ntmps169 rfl (fun E => ?_)
    (repeat (first | ((first | (apply wo_v; rfl) ); (· first | (apply pv_ev; rfl) )) | apply wo_nil | apply wc_seq | apply wc_region ))
    (refine wo_call (q) rfl (by (repeat (first | apply sub_nil )); done) (by first | exact fun _ h => h | (intro r hr; cases hr; done) | (simp; done) | exact fun _ h => List.mem_append_left _ h | (intro r hr; simp [hr]; done)) rfl ?_; rintro v L' R' ⟨rfl, rfl, rfl⟩ H' hH RR hR; simp only [List.cons_append, List.nil_append] at hH hR; subst hH; have hR := hR.symm; subst hR)
    (repeat (first | ((first | (apply wo_v; rfl) ); (· first | (apply pv_ev; rfl) | (apply g_load; first | (apply pv_ld; rfl; (· (repeat (first | apply sel_there))); rfl) | (apply pv_ld_ownf; rfl; (· (repeat (first | fail ))); (· assumption); rfl) | (apply pv_ld_own1; rfl; (· (repeat (first | apply sel_here ))); (· assumption)) ) | (apply g_bin; first | (apply a_add; rfl; rfl; infer_instance; omega) | (apply pv_rem; rfl; rfl; omega) ) | (apply g_bi; first | (apply pv_len_sl; rfl) ) | (apply g_idx; first | (apply pv_idx; rfl; rfl; omega) | (apply (pv_idx_e 0); rfl; rfl; rfl; omega) | (apply pv_idx_n; rfl; rfl; omega) ) )) | apply wo_nil | apply wc_seq | apply wc_region | apply wc_ret | (apply wc_true; rfl) ))
    exact ret1 rfl rfl ⟨rfl, rfl, rfl⟩ ((by (repeat (first | apply sub_nil )); done) : List.Perm _ ([_] ++ _)) (by first | exact fun _ h => h | (intro r hr; cases hr; done) | (simp; done) | exact fun _ h => List.mem_append_left _ h | (intro r hr; simp [hr]; done))
  · have q := dBin2 b o c
    refine fn_intro Try.func169 rfl Try.ntmps169 rfl (fun E => ?_)
    (repeat (first | ((first | (apply wo_v; rfl) ); (· first | (apply pv_ev; rfl) )) | apply wo_nil | apply wc_seq | apply wc_region ))
    (refine wo_call (q) rfl (by (repeat (first | apply sub_nil )); done) (by first | exact fun _ h => h | (intro r hr; cases hr; done) | (simp; done) | exact fun _ h => List.mem_append_left _ h | (intro r hr; simp [hr]; done)) rfl ?_; rintro v L' R' ⟨rfl, rfl, rfl⟩ H' hH RR hR; simp only [List.cons_append, List.nil_append] at hH hR; subst hH; have hR := hR.symm; subst hR)
    (repeat (first | ((first | (apply wo_v; rfl) ); (· first | (apply pv_ev; rfl) | (apply g_load; first | (apply pv_ld; rfl; (· (repeat (first | apply sel_there))); rfl) | (apply pv_ld_ownf; rfl; (· (repeat (first | fail ))); (· assumption); rfl) | (apply pv_ld_own1; rfl; (· (repeat (first | apply sel_here ))); (· assumption)) ) | (apply g_bin; first | (apply a_add; rfl; rfl; infer_instance; omega) | (apply pv_rem; rfl; rfl; omega) ) | (apply g_bi; first | (apply pv_len_sl; rfl) ) | (apply g_idx; first | (apply pv_idx; rfl; rfl; omega) | (apply (pv_idx_e 0); rfl; rfl; rfl; omega) ) )) | apply wo_nil | apply wc_seq | apply wc_region | apply wc_ret | (apply wc_true; rfl) ))
    exact ret1 rfl rfl ⟨rfl, rfl, rfl⟩ ((by (repeat (first | apply sub_nil )); done) : List.Perm _ ([_] ++ _)) (by first | exact fun _ h => h | (intro r hr; cases hr; done) | (simp; done) | exact fun _ h => List.mem_append_left _ h | (intro r hr; simp [hr]; done))
end Go.Proofs.Ytlhlidmhlhodiaa

/-
  Sparse frames: a range over a map that the loop does not write. No program in sight.
-/
namespace Go.Proofs.Ytlhlidmhlhodiaa
set_option linter.unusedSimpArgs false
set_option linter.unusedVariables false
open Go.RowKit

theorem mEnt_mem {k : IntKind} {e : MapEntry} : ∀ {l : List (Int × Value)} {n : Nat}, e ∈ mEnt k n l → n ≤ e.born ∧ e.born < n + l.length ∧ ∃ a v, (a, v) ∈ l ∧ e.key = .int k a ∧ e.val = v
  | [], n, h => by cases h
  | (a, v) :: l, n, h => by
    rcases List.mem_cons.1 h with rfl | h
    · exact ⟨Nat.le_refl _, by simp, a, v, .head _, rfl, rfl⟩
    · obtain ⟨h1, h2, a', v', h3, h4⟩ := mEnt_mem h
      exact ⟨by omega, by simp; omega, a', v', .tail _ h3, h4⟩
theorem mEnt_nodup (k : IntKind) : ∀ (l : List (Int × Value)) (n : Nat), ((mEnt k n l).map (·.born)).Nodup
  | [], n => List.nodup_nil
  | (a, v) :: l, n => List.nodup_cons.2 ⟨fun h => by
      obtain ⟨e, he, hb⟩ := List.mem_map.1 h
      have := (mEnt_mem he).1
      dsimp only at hb
      omega, mEnt_nodup k l (n + 1)⟩
section
variable {P : Program} {N : Nat} {E : Env} {fr : List (Nat × Value)} {hp F : List It} {ro : List Ro} {ops : Array Oper} {rest : List Oper} {Kn : St → Prop} {t kt e ty : TypeId} {pos : String} {af : Array Edge} {x : Operand} {b r : Nat}
theorem wo_range {d : Nat} {es : Array MapEntry} {ck : Nat} [ht : TMap P t kt e] (hx : opd fr x = some (.map (some b))) (hs : hp.Perm (.ob b (.map es ck) :: F)) (hd : Nat.ble (d + 1) N = true)
    (h : ∀ r, WO P N E ops rest ⟨(d, .pointer (some ⟨r, 0, none⟩)) :: fr, .ob r (.mapIter (some b) ck #[] ck) :: hp, ro⟩ Kn) : WO P N E ops (⟨some d, .range t x, ty, pos, af, none⟩ :: rest) ⟨fr, hp, ro⟩ Kn :=
  wo_eff (L := []) (.refl _) hd fun a w ok => by
    have hb : w.heap[b]? = some (.map es ck) := ok.s.get hs
    refine ⟨.pointer (some ⟨w.heap.size, 0, none⟩), _, w.alloc (.mapIter (some b) ck #[] ck), ?_, Sat.fresh _, h _⟩
    simp only [execOp, ok.h.eval hx, Sem.run_bind, run_range_map w t kt e b es ck ht.h hb, Result.andThen_ok]; rfl
theorem run_next_at {w : World} {bm since c0 : Nat} {seen : Array Nat} {es : Array MapEntry} {clock : Nat} (hr : w.heap[r]? = some (.mapIter (some bm) since seen c0)) (hb : w.heap[bm]? = some (.map es clock)) (hold : ∀ x ∈ es.toList, x.born < since) (hsc : since ≤ c0) :
    ((leftOf es seen).size = 0 ∧ (Instr.next (.pointer (some ⟨r, 0, none⟩)) false ty).run P w = .ok (.tuple #[.bool false]) w) ∨
    ∃ e ∈ (leftOf es seen).toList, ∃ dr, (Instr.next (.pointer (some ⟨r, 0, none⟩)) false ty).run P w = .ok (.tuple #[.bool true, e.key, e.val]) { w with drawn := dr, heap := w.heap.setIfInBounds r (.mapIter (some bm) since (seen.push e.born) clock) } := by
  simp only [Instr.next, getObj, Sem.run_bind, Sem.run, hr, hb, Result.andThen, next_test_false seen es since c0 hold hsc, Bool.false_eq_true, if_false]
  unfold leftOf
  have hmem : ∀ x ∈ (Array.filter (fun e => !seen.contains e.born) es).toList, x.born < since := fun x hx => hold x (by simp at hx ⊢; exact hx.1)
  generalize Array.filter (fun e => !seen.contains e.born) es = L at hmem ⊢
  have e1 : L.filter (fun x => decide (x.born < since)) = L := Array.filter_eq_self.2 (fun x hx => by simpa using hmem x (by simpa using hx))
  have e2 : L.filter (fun x => decide (x.born ≥ since)) = #[] := by
    rw [Array.filter_eq_empty_iff]
    intro x hx
    have := hmem x (by simpa using hx)
    simp
    omega
  simp only [e1, e2, Array.append_empty]
  by_cases h0 : L.size = 0
  · left
    have : L = #[] := Array.eq_empty_of_size_eq_zero h0
    subst this
    refine ⟨rfl, ?_⟩
    simp [choose, Sem.run, Question.forced]
  · right
    have hne : L.isEmpty = false := by simp [Array.isEmpty, h0]
    simp only [hne, Bool.false_eq_true, if_false, Array.empty_append, Array.size_map]
    have hch : ∃ (j : Nat) (dr : Nat), j < L.size ∧ (choose (Question.mapNext L.size)).run P w = .ok j { w with drawn := dr } := by
      by_cases hf : L.size ≤ 1
      · exact ⟨0, w.drawn, by omega, by simp [choose, Sem.run, Question.forced, hf]⟩
      · exact ⟨_, w.drawn + 1, Nat.mod_lt _ (by omega), by
          simp only [choose, Sem.run, Question.forced, decide_eq_true_eq, hf, if_false, Question.cut]
          rfl⟩
    obtain ⟨j, dr, hj, hrun⟩ := hch
    refine ⟨L[j], by simp, dr, ?_⟩
    simp only [hrun, Array.getElem?_map, Array.getElem?_eq_getElem hj, Option.map_some, Sem.run_bind, setObj, Sem.run, hr, Result.andThen]
    rfl
theorem wo_next {d bm since c0 ck : Nat} {seen : Array Nat} {es : Array MapEntry} (hx : opd fr x = some (.pointer (some ⟨r, 0, none⟩))) (hs : hp.Perm (.ob r (.mapIter (some bm) since seen c0) :: .ob bm (.map es ck) :: F)) (hold : ∀ x ∈ es.toList, x.born < since) (hsc : since ≤ c0) (hd : Nat.ble (d + 1) N = true)
    (h0 : (leftOf es seen).size = 0 → WO P N E ops rest ⟨(d, .tuple #[.bool false]) :: fr, .ob r (.mapIter (some bm) since seen c0) :: .ob bm (.map es ck) :: F, ro⟩ Kn)
    (h : ∀ e, e ∈ (leftOf es seen).toList → WO P N E ops rest ⟨(d, .tuple #[.bool true, e.key, e.val]) :: fr, .ob r (.mapIter (some bm) since (seen.push e.born) ck) :: .ob bm (.map es ck) :: F, ro⟩ Kn) :
    WO P N E ops (⟨some d, .next x false, ty, pos, af, none⟩ :: rest) ⟨fr, hp, ro⟩ Kn :=
  wo_eff (L := [_]) hs hd fun a w ok => by
    have hr : w.heap[r]? = some (.mapIter (some bm) since seen c0) := ok.s.get hs
    have hb : w.heap[bm]? = some (.map es ck) := ok.s.get (hs.trans (.swap _ _ _))
    rcases run_next_at (P := P) (ty := ty) hr hb hold hsc with ⟨h1, h2⟩ | ⟨en, h1, dr, h2⟩
    · refine ⟨.tuple #[.bool false], [_], w, ?_, Sat.relay (Frm.refl _ _) hr, h0 h1⟩
      simp only [execOp, ok.h.eval hx, Sem.run_bind, h2, Result.andThen_ok]; rfl
    · refine ⟨.tuple #[.bool true, en.key, en.val], [_], { w with drawn := dr, heap := w.heap.setIfInBounds r (.mapIter (some bm) since (seen.push en.born) ck) }, ?_, Sat.relay (o' := .mapIter (some bm) since (seen.push en.born) ck) ?_ ?_, h en h1⟩
      · simp only [execOp, ok.h.eval hx, Sem.run_bind, h2, Result.andThen_ok]; rfl
      · obtain ⟨f1, f2, f3, f4, f5⟩ := (set_frm (o' := .mapIter (some bm) since (seen.push en.born) ck) hr).1
        exact ⟨f1, f2, f3, f4, f5⟩
      · exact (set_frm (o' := .mapIter (some bm) since (seen.push en.born) ck) hr).2
theorem pv_entry {bm since ck : Nat} {seen : Array Nat} {es : Array MapEntry} {en : MapEntry} (hx : opd fr x = some (.pointer (some ⟨r, 0, none⟩))) (hs : hp.Perm (.ob r (.mapIter (some bm) since (seen.push en.born) ck) :: .ob bm (.map es ck) :: F)) (he : en ∈ es.toList) (hn : (es.toList.map (·.born)).Nodup) :
    Pv P ⟨fr, hp, ro⟩ (.entry x) (.tuple #[en.key, en.val]) := fun N E ac w dst ty pos af g ok => by
  have hr : w.heap[r]? = some (.mapIter (some bm) since (seen.push en.born) ck) := ok.s.get hs
  have hb : w.heap[bm]? = some (.map es ck) := ok.s.get (hs.trans (.swap _ _ _))
  have hf : es.find? (·.born == en.born) = some en := by rw [← Array.find?_toList]; exact find_born en es.toList hn he
  simp only [execOp, ok.h.eval hx, Instr.entry, getObj, Sem.run_bind, Sem.run, hr, hb, Result.andThen, Array.back?_push, bne_self_eq_false, Bool.false_eq_true, if_false, hf]
  rfl
end
/-- less is left behind a step -/
theorem left_lt {es : Array MapEntry} {seen : Array Nat} {en : MapEntry} (h : en ∈ (leftOf es seen).toList) : (leftOf es (seen.push en.born)).size < (leftOf es seen).size := by
  have h1 : (leftOf es (seen.push en.born)).size = (es.toList.filter fun e => !(seen.push en.born).contains e.born).length := by unfold leftOf; simp [← Array.length_toList]
  have h2 : (leftOf es seen).size = (es.toList.filter fun e => !seen.contains e.born).length := by unfold leftOf; simp [← Array.length_toList]
  have h3 : en ∈ es.toList ∧ (!seen.contains en.born) = true := by
    unfold leftOf at h
    simp at h ⊢
    exact h
  rw [h1, h2]
  exact filter_lt _ _ (fun x hx => by simp at hx ⊢; exact hx.1) en h3.2 (by simp) _ h3.1
theorem left_mem {es : Array MapEntry} {seen : Array Nat} {en : MapEntry} (h : en ∈ (leftOf es seen).toList) : en ∈ es.toList := by
  unfold leftOf at h
  simp at h ⊢
  exact h.1
end Go.Proofs.Ytlhlidmhlhodiaa

/-
  Package drr, with two flows: New, Add, known, Take.
-/
namespace Go.Proofs.Ytlhlidmhlhodiaa
set_option linter.unusedSimpArgs false
set_option linter.unusedVariables false
open Go.RowKit
section
variable {P : Program} {fr : List (Nat × Value)} {hp F : List It} {ro : List Ro} {x y : Operand} {k : IntKind} {t kt e : TypeId} {b : Nat} {a : Int} {l : List (Int × Value)}
/-- what a map with int values has for a key -/
def LV (l : List (Int × Value)) (a z : Int) : Prop := (alook l a = none ∧ z = 0) ∨ alook l a = some (.int .i64 z)
theorem pv_mlkz [ht : TMap P t kt e] [hk : TInt P kt k] [hz : TZV P e (.int .i64 0)] {z : Int} (hx : opd fr x = some (.map (some b))) (hy : opd fr y = some (.int k a)) (hs : hp.Perm (.ob b (mob k l) :: F)) (hl : LV l a z) : Pv P ⟨fr, hp, ro⟩ (.lookup t x y false) (.int .i64 z) := by
  rcases hl with ⟨h, rfl⟩ | h
  · exact pv_mlk_n hx hy hs h
  · exact pv_mlk_s (zv := .int .i64 0) hx hy hs h
theorem LV.set {l : List (Int × Value)} (a z : Int) : LV (aset l a (.int .i64 z)) a z := .inr (by rw [alook_set, if_pos rfl])
theorem LV.other {l : List (Int × Value)} {a' z' : Int} (h : LV l a' z') {a : Int} (hne : a' ≠ a) (v : Value) : LV (aset l a v) a' z' := by
  unfold LV
  rw [alook_set, if_neg hne]; exact h
end
attribute [local irreducible] Pv WO WC Fn
set_option maxRecDepth 100000

abbrev scI (g ms ml : Nat) (at_ : Int) (gr : Bool) : It := .ob g (.cells #[.int .i64 40, .map (some ms), .map (some ml), .int .i64 at_, .bool gr] 295 (0, 0))
theorem dNew : Fn Try.prog 107 #[.int .i64 40] [] [] (fun v L' R' => ∃ g ms ml, v = .tuple #[.pointer (some ⟨g, 0, none⟩), .int .i64 0] ∧ L' = [scI g ms ml 0 false, .ob ms (mob .i64 []), .ob ml (mob .i64 [])] ∧ R' = []) := by
  refine fn_intro Try.func107 rfl Try.ntmps107 rfl (fun E => ?_)
  (repeat (first | ((first | (apply wo_v; rfl) ); (· first | (apply pv_ev; rfl) | (apply g_pick; first | (apply pv_pick_t; rfl; rfl) | (apply pv_pick_f; rfl; rfl)) )) | apply wo_nil | apply wc_seq | apply wc_region | apply wc_skip | (apply wc_true; rfl) | (apply wc_false; rfl) | (apply wo_run; rfl; rfl) ))
  refine wo_mmake .i64 rfl (fun ms => ?_)
  (repeat (first | ((first | (apply wo_v; rfl) ); (· first | (apply pv_ev; rfl) )) ))
  refine wo_mmake .i64 rfl (fun ml => ?_)
  (repeat (first | ((first | (apply wo_v; rfl) ); (· first | (apply pv_ev; rfl) | (apply g_build; apply pv_build; (· (repeat (first | apply Bld.nil | (apply Bld.one; rfl; rfl; (· (repeat (first | apply SetAt.here | apply SetAt.there)))) )))) )) | apply wo_nil | apply wc_ret | (apply wo_box1; rfl; rfl; rfl; intro bx) | (apply wo_boxa; rfl; rfl; intro bx) ))
  exact ret2 rfl rfl rfl ⟨_, ms, ml, rfl, rfl, rfl⟩ ((by (repeat (first | apply sub_nil | (apply sub_cons; (· (repeat (first | apply sel_here | apply sel_there)))))); done) : List.Perm _ ([_, _, _] ++ _)) (by first | exact fun _ h => h | (intro r hr; cases hr; done) | (simp; done) | exact fun _ h => List.mem_append_left _ h | (intro r hr; simp [hr]; done))
theorem dAdd (g ms ml : Nat) (id sh : Int) (km : List (Int × Value)) (hk : alook km id = none) (hs : 40 ≤ sh ∧ sh ≤ 200) : Fn Try.prog 108 #[.pointer (some ⟨g, 0, none⟩), .int .i64 id, .int .i64 sh] [scI g ms ml 0 false, .ob ms (mob .i64 km)] [] (fun v L' R' => v = .int .i64 0 ∧ L' = [scI g ms ml 0 false, .ob ms (mob .i64 (aset km id (.int .i64 sh)))] ∧ R' = []) := by
  have hl : LV km id 0 := .inl ⟨hk, rfl⟩
  refine fn_intro Try.func108 rfl Try.ntmps108 rfl (fun E => ?_)
  (repeat (first | ((first | (apply wo_v; rfl) ); (· first | (apply pv_ev; rfl) )) | apply wo_nil | apply wc_seq | apply wc_region ))
  refine wc_block ?_
  (repeat (first | ((first | (apply wo_v; rfl) ); (· first | (apply pv_ev; rfl) | (apply pv_fld; rfl) | (apply g_load; first | (apply pv_ld; rfl; (· (repeat (first | apply sel_here ))); rfl) ) | (apply g_pick; first | (apply pv_pick_t; rfl; rfl) | (apply pv_pick_f; rfl; rfl)) )) | ((apply wo_v; rfl); (· first | (apply g_lk; first | (apply pv_mlk_n; rfl; rfl; (· (repeat (first | apply sel_here | apply sel_there))); (· assumption)) ) )) | (apply wo_mput; rfl; rfl; rfl; (· (repeat (first | apply sel_here | apply sel_there))); rfl) | apply wo_nil | apply wc_seq | apply wc_region | apply wc_skip | apply wc_ret | (apply wc_true; rfl) | (apply wc_false; rfl) | (apply a_dec_t; rfl; (· first | assumption | omega)) | (apply a_dec_f; rfl; (· first | assumption | omega)) | (apply wo_run; rfl; rfl) | (apply wo_skip; rfl; rfl; rfl; rfl) | (apply wo_skip_u; rfl; rfl; rfl) | (apply a_gt; rfl; rfl; (· first | assumption | omega)) | (apply a_gf; rfl; rfl; (· first | assumption | omega)) ))
  exact ret1 rfl rfl ⟨rfl, rfl, rfl⟩ ((by (repeat (first | apply sub_nil | (apply sub_cons; (· (repeat (first | apply sel_here | apply sel_there)))))); done) : List.Perm _ ([_, _] ++ _)) (by first | exact fun _ h => h | (intro r hr; cases hr; done) | (simp; done) | exact fun _ h => List.mem_append_left _ h | (intro r hr; simp [hr]; done))
abbrev hdO (ao : Option Addr) (c : Nat) (sz : Int) : It := .own 303 2 ao 2 c [[.int .i64 1, .int .i64 sz], [.int .i64 2, .int .i64 sz]]
abbrev hdB (b : Nat) (i sz : Int) : It := .ob b (.cells #[.int .i64 i, .int .i64 sz] 303 (0, 0))
abbrev shM (p q : Int) : Obj := mob .i64 [(1, .int .i64 p), (2, .int .i64 q)]
def knM (sz : Int) : Nat → List (Int × Value)
  | 0 => []
  | 1 => [(1, .int .i64 sz)]
  | _ => [(1, .int .i64 sz), (2, .int .i64 sz)]
theorem dKnown (g ms ml b o c : Nat) (at_ : Int) (gr : Bool) (p q sz : Int) (h : 40 ≤ p ∧ p ≤ 200 ∧ 40 ≤ q ∧ q ≤ 200 ∧ 1 ≤ sz ∧ sz ≤ 40) :
    Fn Try.prog 167 #[.pointer (some ⟨g, 0, none⟩), .slice (some ⟨b, o, none⟩) 2 c] [scI g ms ml at_ gr, .ob ms (shM p q), hdO (some ⟨b, o, none⟩) c sz] [] (fun v L' R' => ∃ mz, v = .map (some mz) ∧ L' = [scI g ms ml at_ gr, .ob ms (shM p q), hdO (some ⟨b, o, none⟩) c sz, .ob mz (mob .i64 (knM sz 2))] ∧ R' = []) := by
  have r0 : ([[.int .i64 1, .int .i64 sz], [.int .i64 2, .int .i64 sz]] : List (List Value))[0]? = some [.int .i64 1, .int .i64 sz] := rfl
  have r1 : ([[.int .i64 1, .int .i64 sz], [.int .i64 2, .int .i64 sz]] : List (List Value))[1]? = some [.int .i64 2, .int .i64 sz] := rfl
  have l1 : alook [(1, Value.int .i64 p), (2, .int .i64 q)] 1 = some (.int .i64 p) := rfl
  have l2 : alook [(1, Value.int .i64 p), (2, .int .i64 q)] 2 = some (.int .i64 q) := rfl
  refine fn_intro Try.func167 rfl Try.ntmps167 rfl (fun E => ?_)
  (repeat (first | ((first | (apply wo_v; rfl) ); (· first | (apply pv_ev; rfl) )) | apply wo_nil | apply wc_seq | apply wc_region ))
  refine wo_mmake .i64 rfl (fun mz => ?_)
  (repeat (first | ((first | (apply wo_v; rfl) ); (· first | (apply pv_ev; rfl) | (apply g_bi; first | (apply pv_len_sl; rfl) ) )) | apply wo_nil | apply wc_seq | apply wc_region ))
  refine wc_block ?_
  refine wc_loop' (fun w st => ∃ i : Nat, (i = 0 ∨ i = 1 ∨ i = 2) ∧ w = 2 - i ∧ st = ⟨[(0, .pointer (some ⟨g, 0, none⟩)), (5, .map (some mz)), (9, .slice (some ⟨b, o, none⟩) 2 c), (10, .int .i64 2), (11, .int .i64 i)], [scI g ms ml at_ gr, .ob ms (shM p q), hdO (some ⟨b, o, none⟩) c sz, .ob mz (mob .i64 (knM sz i))], []⟩) ⟨0, .inl rfl, rfl, rfl⟩ (wk_mk (by (repeat (first | apply wkf_nil | (apply wkf_cons; rfl))); done) (by (repeat (first | apply sub_nil | (apply sub_cons; (· (repeat (first | apply sel_here | apply sel_there)))))); done) (by first | exact fun _ h => h | (intro r hr; cases hr; done) | (simp; done) | exact fun _ h => List.mem_append_left _ h | (intro r hr; simp [hr]; done))) ?_
  rintro w st ⟨i, rfl | rfl | rfl, rfl, rfl⟩
  · (repeat (first | ((first | (apply wo_v; rfl) ); (· first | (apply pv_ev; rfl) )) | apply wo_nil | apply wc_seq | apply wc_region | apply wc_skip | (apply wc_true; rfl) ))
    refine wc_block ?_
    (repeat (first | ((first | (apply wo_v; rfl) ); (· first | (apply pv_ev; rfl) | (apply g_load; first | (apply pv_lda; rfl; (· (repeat (first | apply sel_there))); (· (repeat (first | fail )))) | (apply pv_ld_owna; rfl; (· (repeat (first | apply sel_here | apply sel_there))); (· assumption)) ) | (apply g_idx; first | (apply pv_idx; rfl; rfl; omega) ) )) | apply wo_nil | apply wc_seq | apply wc_region | (apply wo_alloc; rfl; intro bx) | (apply wo_sta; rfl; rfl; rfl; rfl; (· (repeat (first | apply sel_here ))); (· (repeat (first | apply LayAt.nil | apply LayAt.here ))); rfl) ))
    (refine wc_quiet mixed (by kernel_rfl) ?_; (repeat (first | ((first | (apply hd_v; rfl) ); (· first | (apply pv_ev; rfl) | (apply pv_fld; rfl) | (apply g_load; first | (apply pv_ld; rfl; (· (repeat (first | apply sel_here | apply sel_there))); rfl) ) )) )))
    refine hd_v rfl (pv_mlk_s (zv := .int .i64 0) rfl rfl (by (repeat (first | apply sel_here | apply sel_there)); done) l1) ?_
    (repeat (first | ((first | (apply wo_v; rfl) | (apply hd_v; rfl) ); (· first | (apply pv_ev; rfl) | (apply pv_fld; rfl) | (apply g_load; first | (apply pv_ld; rfl; (· (repeat (first | apply sel_here | apply sel_there))); rfl) ) | (apply g_pick; first | (apply pv_pick_t; rfl; rfl) ) | (apply g_bin; first | (apply a_add; rfl; rfl; infer_instance; omega) ) )) | (apply wo_mput; rfl; rfl; rfl; (· (repeat (first | apply sel_here | apply sel_there))); rfl) | apply wo_nil | apply Hd.nil | apply wc_region | (apply wc_true; rfl) | (apply wc_false; rfl) | (apply a_dec_t; rfl; (· first | assumption | omega)) | (apply Hd.run; rfl; rfl) | (apply Hd.skip; rfl; rfl; rfl; rfl) | (apply Hd.skipu; rfl; rfl; rfl) | (apply ah_gt; rfl; rfl; (· first | assumption | omega)) ))
    exact loop_end ⟨1, .inr (.inl rfl), rfl, rfl⟩ (by omega) (wk_mk (by (repeat (first | apply wkf_nil | (apply wkf_cons; rfl))); done) (by (repeat (first | apply sub_nil | (apply sub_cons; (· (repeat (first | apply sel_here | apply sel_there)))))); done) (by first | exact fun _ h => h | (intro r hr; cases hr; done) | (simp; done) | exact fun _ h => List.mem_append_left _ h | (intro r hr; simp [hr]; done)))
  · (repeat (first | ((first | (apply wo_v; rfl) ); (· first | (apply pv_ev; rfl) )) | apply wo_nil | apply wc_seq | apply wc_region | apply wc_skip | (apply wc_true; rfl) ))
    refine wc_block ?_
    (repeat (first | ((first | (apply wo_v; rfl) ); (· first | (apply pv_ev; rfl) | (apply g_load; first | (apply pv_lda; rfl; (· (repeat (first | apply sel_there))); (· (repeat (first | fail )))) | (apply pv_ld_owna; rfl; (· (repeat (first | apply sel_here | apply sel_there))); (· assumption)) ) | (apply g_idx; first | (apply pv_idx; rfl; rfl; omega) ) )) | apply wo_nil | apply wc_seq | apply wc_region | (apply wo_alloc; rfl; intro bx) | (apply wo_sta; rfl; rfl; rfl; rfl; (· (repeat (first | apply sel_here ))); (· (repeat (first | apply LayAt.nil | apply LayAt.here ))); rfl) ))
    (refine wc_quiet mixed (by kernel_rfl) ?_; (repeat (first | ((first | (apply hd_v; rfl) ); (· first | (apply pv_ev; rfl) | (apply pv_fld; rfl) | (apply g_load; first | (apply pv_ld; rfl; (· (repeat (first | apply sel_here | apply sel_there))); rfl) ) )) )))
    refine hd_v rfl (pv_mlk_s (zv := .int .i64 0) rfl rfl (by (repeat (first | apply sel_here | apply sel_there)); done) l2) ?_
    (repeat (first | ((first | (apply wo_v; rfl) | (apply hd_v; rfl) ); (· first | (apply pv_ev; rfl) | (apply pv_fld; rfl) | (apply g_load; first | (apply pv_ld; rfl; (· (repeat (first | apply sel_here | apply sel_there))); rfl) ) | (apply g_pick; first | (apply pv_pick_t; rfl; rfl) ) | (apply g_bin; first | (apply a_add; rfl; rfl; infer_instance; omega) ) )) | (apply wo_mput; rfl; rfl; rfl; (· (repeat (first | apply sel_here | apply sel_there))); rfl) | apply wo_nil | apply Hd.nil | apply wc_region | (apply wc_true; rfl) | (apply wc_false; rfl) | (apply a_dec_t; rfl; (· first | assumption | omega)) | (apply Hd.run; rfl; rfl) | (apply Hd.skip; rfl; rfl; rfl; rfl) | (apply Hd.skipu; rfl; rfl; rfl) | (apply ah_gt; rfl; rfl; (· first | assumption | omega)) ))
    exact loop_end ⟨2, .inr (.inr rfl), rfl, rfl⟩ (by omega) (wk_mk (by (repeat (first | apply wkf_nil | (apply wkf_cons; rfl))); done) (by (repeat (first | apply sub_nil | (apply sub_cons; (· (repeat (first | apply sel_here | apply sel_there)))))); done) (by first | exact fun _ h => h | (intro r hr; cases hr; done) | (simp; done) | exact fun _ h => List.mem_append_left _ h | (intro r hr; simp [hr]; done)))
  · (repeat (first | ((first | (apply wo_v; rfl) ); (· first | (apply pv_ev; rfl) )) | apply wo_nil | apply wc_seq | apply wc_region | (apply wc_exit; rfl) | apply wc_ret | (apply wc_true; rfl) | (apply wc_false; rfl) ))
    exact ret1 rfl rfl ⟨mz, rfl, rfl, rfl⟩ ((by (repeat (first | apply sub_nil )); done) : List.Perm _ ([_, _, _, _] ++ _)) (by first | exact fun _ h => h | (intro r hr; cases hr; done) | (simp; done) | exact fun _ h => List.mem_append_left _ h | (intro r hr; simp [hr]; done))
theorem outc_mput {P : Program} {N : Nat} {E : Env} {fr : List (Nat × Value)} {B0 : List It} {ro : List Ro} {dst : Option Tmp} {ty t kt e : TypeId} {pos : String} {af : Array Edge} {x y z : Operand} {k : IntKind} {b : Nat} {a : Int} {v : Value} {l : List (Int × Value)} {g : Option (Nat × Bool)} [ht : TMap P t kt e] [hk : TInt P kt k] (hx : opd fr x = some (.map (some b))) (hy : opd fr y = some (.int k a)) (hz : opd fr z = some v) :
    ∀ ac, Holds N fr ac → Outc P E B0 ro ⟨dst, .mapUpdate t x y z, ty, pos, af, g⟩ ac [.ob b (mob k l)] (fun u M => u = undef ∧ M = [.ob b (mob k (aset l a v))]) := fun ac hh F w hw => by
  have hb : w.heap[b]? = some (mob k l) := hw.get (.refl _)
  have e : (execOp ac.eval ⟨dst, .mapUpdate t x y z, ty, pos, af, g⟩).run P w = .ok .skip { w with heap := w.heap.setIfInBounds b (mob k (aset l a v)) } := by
    simp only [execOp, hh.eval hx, hh.eval hy, hh.eval hz, Sem.run_bind, run_mput hb]; rfl
  rw [e]
  exact ⟨_, ⟨rfl, rfl⟩, (hw.step (L := [_]) (T' := []) (.refl _) (by simp) (Sat.relay (set_frm hb).1 (set_frm (o' := mob k (aset l a v)) hb).2)).some_ro (fun r hr => by simpa using hr)⟩
def tblTk (z : Int) (kl' : List (Int × Value)) : Nat → List (List It) → Value → List (List It) → Prop := fun k Ls v Ms => match k, Ls with
  | 8, L => v = .int .i64 z ∧ Ms = L
  | 11, [[.ob b _]] => v = undef ∧ Ms = [[.ob b (mob .i64 kl')]]
  | _, _ => False
def tblGr (z : Int) (kl' : List (Int × Value)) : Nat → List (List It) → Value → List (List It) → Prop := fun k Ls v Ms => match k, Ls with
  | 8, L => v = .int .i64 z ∧ Ms = L
  | 19, [[.ob b _]] => v = undef ∧ Ms = [[.ob b (mob .i64 kl')]]
  | _, _ => False
theorem dTake (g ms ml : Nat) (at_ z sz : Int) (kl : List (Int × Value)) (hl : LV kl at_ z) (h : 1 ≤ sz ∧ sz ≤ z ∧ z ≤ 1000) : Fn Try.prog 117 #[.pointer (some ⟨g, 0, none⟩), .int .i64 sz] [scI g ms ml at_ true, .ob ml (mob .i64 kl)] [] (fun v L' R' => v = .tuple #[] ∧ L' = [scI g ms ml at_ true, .ob ml (mob .i64 (aset kl at_ (.int .i64 (z - sz))))] ∧ R' = []) := by
  refine fn_intro Try.func117 rfl Try.ntmps117 rfl (fun E => ?_)
  (repeat (first | apply wc_seq ))
  (refine wc_quiet mixed (by kernel_rfl) ?_; (repeat (first | ((first | (apply hd_v; rfl) ); (· first | (apply pv_ev; rfl) | (apply pv_fld; rfl) | (apply g_load; first | (apply pv_ld; rfl; (· (repeat (first | apply sel_here ))); rfl) ) | (apply g_pick; first | (apply pv_pick_t; rfl; rfl) ) )) | (apply Hd.run; rfl; rfl) | (apply Hd.skip; rfl; rfl; rfl; rfl) | (apply Hd.skipu; rfl; rfl; rfl) | (apply ah_gt; rfl; rfl; (· first | assumption | omega)) )))
  refine hd_v rfl (pv_mlkz rfl rfl (by (repeat (first | apply sel_here | apply sel_there)); done) hl) ?_
  (repeat (first | ((first | (apply hd_v; rfl) ); (· first | (apply pv_ev; rfl) | (apply g_pick; first | (apply pv_pick_t; rfl; rfl) ) )) | apply Hd.nil | (apply wc_true; rfl) | (apply wc_false; rfl) | (apply a_dec_t; rfl; (· first | assumption | omega)) | (apply Hd.run; rfl; rfl) ))
  (refine wc_regM [0] (aslL [(8, [0]), (11, [0])]) (tblTk z (aset kl at_ (.int .i64 (z - sz)))) ([scI g ms ml at_ true]) (fm [(0, [.ob ml (mob .i64 kl)])]) mixed (by kernel_rfl) (by kernel_rfl) (by decide) (aslL_ok (by decide)) (by (repeat (first | (apply prm_cons; (· (repeat (first | apply sel_here )))) | apply List.Perm.nil )); done) ?_; (repeat (first | (apply HdM.val; rfl; rfl; (· first | apply gok_none ); (· first | (apply pv_ev; rfl) | (apply pv_fld; rfl) | (apply g_load; first | (apply pv_ld; rfl; (· (repeat (first | apply sel_here ))); rfl) ) )) )))
  (refine hm_eff (cs := [0]) rfl (by decide) rfl rfl (by first | exact gok_none | exact gok_run rfl rfl) (fun a ha => outc_mono (outc_pv (L := [.ob ml (mob .i64 kl)]) (pv_mlkz rfl rfl (by (repeat (first | apply sel_here )); done) hl) a ha) (fun v M h => ⟨[M], And.intro h.1 (congrArg (fun x => [x]) h.2), rfl, by simp⟩)) (⟨_, _, And.intro rfl rfl, rfl⟩) ?_; rintro v Ms ⟨rfl, rfl⟩ _; simp only [setls, setl, reduceIte, Nat.reduceEqDiff]; (repeat (first | (apply HdM.val; rfl; rfl; (· first | apply gok_none ); (· first | (apply pv_ev; rfl) | (apply g_bin; first | (apply a_sub; rfl; rfl; infer_instance; omega) ) )) )))
  (refine hm_eff (cs := [0]) rfl (by decide) rfl rfl (by first | exact gok_none | exact gok_run rfl rfl) (fun a ha => outc_mono (outc_mput rfl rfl rfl a ha) (fun v M h => ⟨[M], And.intro h.1 (congrArg (fun x => [x]) h.2), rfl, by simp⟩)) (⟨_, _, And.intro rfl rfl, rfl⟩) ?_; rintro v Ms ⟨rfl, rfl⟩ _; simp only [setls, setl, reduceIte, Nat.reduceEqDiff]; (repeat (first | fail )))
  (refine HdM.nil ?_; intro H hH; simp only [Hp, fm, look, setl, List.flatMap_cons, List.flatMap_nil, reduceIte, Nat.reduceEqDiff, Option.getD_some, List.append_nil, List.cons_append, List.nil_append] at hH; subst hH)
  (repeat (first | fail ))
  exact ret0 rfl ⟨rfl, rfl, rfl⟩ ((by (repeat (first | apply sub_nil )); done) : List.Perm _ ([_, _] ++ _)) (by first | exact fun _ h => h | (intro r hr; cases hr; done) | (simp; done) | exact fun _ h => List.mem_append_left _ h | (intro r hr; simp [hr]; done))
/-- a turn: whose it is, and what both have left -/
structure Tn where
  at_ : Int
  gr : Bool
  l1 : Int
  l2 : Int
def tnL (t : Tn) : Int := if t.at_ = 1 then t.l1 else t.l2
def tnP (p q : Int) (a : Int) : Int := if a = 1 then p else q
/-- how it is chosen -/
def tnG (p q : Int) (t : Tn) : Tn := if t.gr = true then t else if t.at_ = 1 then ⟨1, true, t.l1 + p, t.l2⟩ else ⟨2, true, t.l1, t.l2 + q⟩
def chM (p q sz : Int) (t : Tn) : Tn :=
  let t1 : Tn := if t.at_ = 0 then ⟨1, false, t.l1, t.l2⟩ else t
  let t2 := tnG p q t1
  if sz ≤ tnL t2 then t2 else tnG p q ⟨aftM t2.at_, false, t2.l1, t2.l2⟩
structure TnOk (sz : Int) (t : Tn) : Prop where
  at_ : t.at_ = 0 ∨ t.at_ = 1 ∨ t.at_ = 2
  b1 : 0 ≤ t.l1 ∧ t.l1 ≤ 500
  b2 : 0 ≤ t.l2 ∧ t.l2 ≤ 500
  o1 : t.at_ ≠ 1 → t.l1 < sz
  o2 : t.at_ ≠ 2 → t.l2 < sz
structure KL (kl : List (Int × Value)) (t : Tn) : Prop where
  k1 : LV kl 1 t.l1
  k2 : LV kl 2 t.l2
  ks : ∀ x ∈ kl, x.1 = 1 ∨ x.1 = 2
theorem aset_key {l : List (Int × Value)} {a : Int} {v : Value} : ∀ x ∈ aset l a v, x.1 = a ∨ ∃ y ∈ l, x.1 = y.1 := by
  induction l with
  | nil => intro x hx; rw [List.mem_singleton.1 hx]; exact .inl rfl
  | cons y l ih =>
    intro x hx
    unfold aset at hx
    split at hx
    · rename_i h
      rcases List.mem_cons.1 hx with rfl | hx
      · exact .inr ⟨y, .head _, rfl⟩
      · exact .inr ⟨x, .tail _ hx, rfl⟩
    · rcases List.mem_cons.1 hx with rfl | hx
      · exact .inr ⟨_, .head _, rfl⟩
      · rcases ih x hx with h | ⟨z, hz, h⟩
        · exact .inl h
        · exact .inr ⟨z, .tail _ hz, h⟩
end Go.Proofs.Ytlhlidmhlhodiaa

/-
  Package drr, with two flows: Choose.
-/
namespace Go.Proofs.Ytlhlidmhlhodiaa
set_option linter.unusedSimpArgs false
set_option linter.unusedVariables false
open Go.RowKit
attribute [local irreducible] Pv WO WC Fn
set_option maxRecDepth 100000

abbrev itO (r b ck : Nat) (seen : Array Nat) : It := .ob r (.mapIter (some b) ck seen ck)
theorem kn_ok (sz : Int) : MOk (mEnt .i64 0 (knM sz 2)).toArray 2 := by
  refine ⟨⟨fun x hx => ?_, ?_, ?_⟩, by simp [knM, mEnt], fun x hx => ?_⟩
  · have : x ∈ mEnt .i64 0 (knM sz 2) := by simpa using hx
    have := (mEnt_mem this).2.1
    simpa [knM] using this
  · simpa using mEnt_nodup .i64 (knM sz 2) 0
  · simp [knM, mEnt]
  · have : x ∈ mEnt .i64 0 (knM sz 2) := by simpa using hx
    obtain ⟨_, _, a, v, h1, h2, _⟩ := mEnt_mem this
    have ha : a = 1 ∨ a = 2 := by
      simp [knM] at h1
      omega
    exact ⟨a, h2, by rcases ha with rfl | rfl <;> decide⟩
theorem kn_keys (sz : Int) : mKeys (mEnt .i64 0 (knM sz 2)).toArray = [1, 2] := by simp [mKeys, knM, mEnt, kInt]
theorem kn_at {sz a : Int} (h : a = 1 ∨ a = 2) : alook (knM sz 2) a = some (.int .i64 sz) := by
  rcases h with rfl | rfl <;> rfl
theorem kn_no {sz a : Int} (h : a = 0) : alook (knM sz 2) a = none := by
  subst h; rfl
theorem KL.lv {kl : List (Int × Value)} {t : Tn} (h : KL kl t) (ha : t.at_ = 1 ∨ t.at_ = 2) : LV kl t.at_ (tnL t) := by
  unfold tnL
  rcases ha with e | e
  · rw [e, if_pos rfl]; exact h.k1
  · rw [e, if_neg (by decide)]; exact h.k2
theorem KL.gr {kl : List (Int × Value)} {p q at_ l1 l2 : Int} (h : KL kl ⟨at_, false, l1, l2⟩) (ha : at_ = 1 ∨ at_ = 2) : KL (aset kl at_ (.int .i64 (tnL ⟨at_, false, l1, l2⟩ + tnP p q at_))) (tnG p q ⟨at_, false, l1, l2⟩) := by
  have hk : ∀ x ∈ aset kl at_ (.int .i64 (tnL ⟨at_, false, l1, l2⟩ + tnP p q at_)), x.1 = 1 ∨ x.1 = 2 := fun x hx => by
    rcases aset_key x hx with e | ⟨y, hy, e⟩
    · rw [e]; exact ha
    · rw [e]; exact h.ks y hy
  rcases ha with rfl | rfl
  · exact ⟨LV.set _ _, h.k2.other (by decide) _, hk⟩
  · exact ⟨h.k1.other (by decide) _, LV.set _ _, hk⟩
theorem sh_at {p q a : Int} (h : a = 1 ∨ a = 2) : alook [(1, Value.int .i64 p), (2, .int .i64 q)] a = some (.int .i64 (tnP p q a)) := by
  rcases h with rfl | rfl <;> rfl
set_option maxHeartbeats 16000000 in
theorem dChoose (g ms ml b o c : Nat) (at_ : Int) (gr : Bool) (l1 l2 p q sz : Int) (kl : List (Int × Value)) (hk : KL kl ⟨at_, gr, l1, l2⟩) (ht : TnOk sz ⟨at_, gr, l1, l2⟩) (h : 40 ≤ p ∧ p ≤ 200 ∧ 40 ≤ q ∧ q ≤ 200 ∧ 1 ≤ sz ∧ sz ≤ 40) :
    Fn Try.prog 147 #[.pointer (some ⟨g, 0, none⟩), .slice (some ⟨b, o, none⟩) 2 c] [scI g ms ml at_ gr, .ob ms (shM p q), .ob ml (mob .i64 kl), hdO (some ⟨b, o, none⟩) c sz] []
      (fun v L' R' => ∃ kl', v = .tuple #[.int .i64 (chM p q sz ⟨at_, gr, l1, l2⟩).at_, .bool true] ∧ L' = [scI g ms ml (chM p q sz ⟨at_, gr, l1, l2⟩).at_ true, .ob ms (shM p q), .ob ml (mob .i64 kl'), hdO (some ⟨b, o, none⟩) c sz] ∧ R' = [] ∧ KL kl' (chM p q sz ⟨at_, gr, l1, l2⟩)) := by
  have hKn := dKnown g ms ml b o c at_ gr p q sz h
  obtain ⟨hat, hb1, hb2, ho1, ho2⟩ := ht
  dsimp only at hat hb1 hb2 ho1 ho2
  refine fn_intro Try.func147 rfl Try.ntmps147 rfl (fun E => ?_)
  (repeat (first | ((first | (apply wo_v; rfl) ); (· first | (apply pv_ev; rfl) )) | apply wo_nil | apply wc_seq | apply wc_region ))
  (refine wo_call (hKn) rfl (by (repeat (first | apply sub_nil | (apply sub_cons; (· (repeat (first | apply sel_here | apply sel_there)))))); done) (by first | exact fun _ h => h | (intro r hr; cases hr; done) | (simp; done) | exact fun _ h => List.mem_append_left _ h | (intro r hr; simp [hr]; done)) rfl ?_; rintro v L' R' ⟨mz, rfl, rfl, rfl⟩ H' hH RR hR; simp only [List.cons_append, List.nil_append] at hH hR; subst hH; have hR := hR.symm; subst hR)
  (repeat (first | ((first | (apply wo_v; rfl) ); (· first | (apply pv_ev; rfl) | (apply pv_fld; rfl) | (apply g_load; first | (apply pv_ld; rfl; (· (repeat (first | apply sel_here ))); rfl) ) )) | apply wo_nil | apply wc_seq | apply wc_region ))
  refine wo_range (b := ml) rfl (by (repeat (first | apply sel_here | apply sel_there)); done) rfl (fun r => ?_)
  (repeat (first | apply wo_nil ))
  refine wc_join0 (fun st => st = ⟨[(0, .pointer (some ⟨g, 0, none⟩)), (6, .map (some mz))], [.ob ml (mob .i64 kl), scI g ms ml at_ gr, .ob ms (shM p q), hdO (some ⟨b, o, none⟩) c sz, .ob mz (mob .i64 (knM sz 2))], []⟩) ?_ ?_
  · refine wc_block ?_
    refine wc_loop' (fun w st => ∃ (seen : Array Nat), w = (leftOf (mEnt .i64 0 kl).toArray seen).size ∧ st = ⟨[(0, .pointer (some ⟨g, 0, none⟩)), (6, .map (some mz)), (20, .pointer (some ⟨r, 0, none⟩))], [itO r ml kl.length seen, .ob ml (mob .i64 kl), scI g ms ml at_ gr, .ob ms (shM p q), hdO (some ⟨b, o, none⟩) c sz, .ob mz (mob .i64 (knM sz 2))], []⟩) ⟨#[], rfl, rfl⟩ (wk_mk (by (repeat (first | apply wkf_nil | (apply wkf_cons; rfl))); done) (by (repeat (first | apply sub_nil | (apply sub_cons; (· (repeat (first | apply sel_here | apply sel_there)))))); done) (by first | exact fun _ h => h | (intro r hr; cases hr; done) | (simp; done) | exact fun _ h => List.mem_append_left _ h | (intro r hr; simp [hr]; done))) ?_
    rintro w st ⟨seen, rfl, rfl⟩
    (repeat (first | ((first | (apply wo_v; rfl) ); (· first | (apply pv_ev; rfl) )) | apply wc_seq | apply wc_region ))
    refine wo_next (r := r) (bm := ml) rfl (.refl _) (fun x hx => by have := (mEnt_mem (by simpa using hx)).2.1; omega) (Nat.le_refl _) rfl (fun h0 => ?_) (fun en hen => ?_)
    · (repeat (first | ((first | (apply wo_v; rfl) ); (· first | (apply pv_ev; rfl) )) | apply wo_nil | apply wc_seq | (apply wc_exit; rfl) | (apply wc_true; rfl) | (apply wc_false; rfl) ))
      exact cut_end rfl (wk_mk (by (repeat (first | apply wkf_nil | (apply wkf_cons; rfl))); done) (by (repeat (first | apply sub_nil | (apply sub_cons; (· (repeat (first | apply sel_here | apply sel_there)))))); done) (by first | exact fun _ h => h | (intro r hr; cases hr; done) | (simp; done) | exact fun _ h => List.mem_append_left _ h | (intro r hr; simp [hr]; done)))
    · have hmm := left_mem hen
      have hlt := left_lt hen
      obtain ⟨_, _, a, v, hav, hk1, hv⟩ := mEnt_mem (by simpa using hmm)
      have ha : a = 1 ∨ a = 2 := hk.ks (a, v) hav
      have hkn := kn_at (sz := sz) ha
      rw [hk1, hv]
      (repeat (first | ((first | (apply wo_v; rfl) ); (· first | (apply pv_ev; rfl) )) | apply wo_nil | apply wc_seq | apply wc_skip | (apply wc_true; rfl) ))
      refine wc_block ?_
      (repeat (first | ((first | (apply wo_v; rfl) ); (· first | (apply pv_ev; rfl) )) | apply wc_seq | apply wc_region ))
      refine wo_v rfl (pv_entry rfl (.refl _) hmm (by simpa using mEnt_nodup .i64 kl 0)) ?_
      rw [hk1, hv]
      (repeat (first | ((first | (apply wo_v; rfl) ); (· first | (apply pv_ev; rfl) | (apply g_un; first | (apply pv_not_t; rfl) ) )) | ((apply wo_v; rfl); (· first | (apply g_lk; first | (apply pv_mlko_n; rfl; rfl; (· (repeat (first | apply sel_here | apply sel_there))); (· assumption)) | (apply pv_mlko_s; rfl; rfl; (· (repeat (first | apply sel_here | apply sel_there))); (· assumption))) )) | apply wo_nil | apply wc_seq | apply wc_region | apply wc_skip | (apply wc_true; rfl) | (apply wc_false; rfl) ))
      exact loop_end ⟨seen.push en.born, rfl, rfl⟩ hlt (wk_mk (by (repeat (first | apply wkf_nil | (apply wkf_cons; rfl))); done) (by (repeat (first | apply sub_nil )); done) (by first | exact fun _ h => h | (intro r hr; cases hr; done) | (simp; done) | exact fun _ h => List.mem_append_left _ h | (intro r hr; simp [hr]; done)))
  rintro st rfl
  (repeat (first | ((first | (apply wo_v; rfl) ); (· first | (apply pv_ev; rfl) )) | apply wc_seq | apply wc_region ))
  (refine wo_call (itKeysC (some mz)) rfl (by (repeat (first | apply sub_nil )); done) (by first | exact fun _ h => h | (intro r hr; cases hr; done) | (simp; done) | exact fun _ h => List.mem_append_left _ h | (intro r hr; simp [hr]; done)) rfl ?_; rintro v L' R' ⟨bk, rfl, rfl, rfl⟩ H' hH RR hR; simp only [List.cons_append, List.nil_append] at hH hR; subst hH; have hR := hR.symm; subst hR)
  have hSo := sSorted 178 97 bk mz (mEnt .i64 0 (knM sz 2)).toArray 2 (.inl (kn_keys sz)) (itColC bk mz (mEnt .i64 0 (knM sz 2)).toArray 2 (kn_ok sz))
  (refine wo_call (hSo) rfl (by (repeat (first | apply sub_nil | (apply sub_cons; (· (repeat (first | apply sel_here | apply sel_there)))))); done) (by first | exact fun _ h => h | (intro r hr; cases hr; done) | (simp; done) | exact fun _ h => List.mem_append_left _ h | (intro r hr; simp [hr]; done)) rfl ?_; rintro v L' R' ⟨ai, ci, rfl, rfl, rfl⟩ H' hH RR hR; simp only [List.cons_append, List.nil_append] at hH hR; subst hH; have hR := hR.symm; subst hR)
  refine wo_some (ao := ai) (n := 2) (by (repeat (first | apply sel_here )); done) (by omega) ?_
  rintro bi oi rfl
  show WO _ _ _ _ _ ⟨_, [inO (some ⟨bi, oi, none⟩) 2 ci [1, 2], .ob bk (.cells #[.map (some mz)] 97 (0, 0)), .ob mz (mob .i64 (knM sz 2)), .ob ml (mob .i64 kl), scI g ms ml at_ gr, .ob ms (shM p q), hdO (some ⟨b, o, none⟩) c sz], _⟩ _
  (repeat (first | ((first | (apply wo_v; rfl) ); (· first | (apply pv_ev; rfl) )) ))
  apply wo_nil
  apply wc_seq
  apply wc_seq
  apply wc_region
  (repeat (first | ((first | (apply wo_v; rfl) ); (· first | (apply pv_ev; rfl) | (apply g_bi; first | (apply pv_len_sl; rfl) ) )) ))
  apply wo_nil
  apply wc_false
  · rfl
  apply wc_skip
  apply wc_seq
  refine wc_join0 (fun st => ∃ (a1 : Int) (g1 : Bool), (if at_ = 0 then (⟨1, false, l1, l2⟩ : Tn) else ⟨at_, gr, l1, l2⟩) = ⟨a1, g1, l1, l2⟩ ∧ (a1 = 1 ∨ a1 = 2) ∧ st = ⟨[(0, .pointer (some ⟨g, 0, none⟩)), (6, .map (some mz)), (10, .slice (some ⟨bi, oi, none⟩) 2 ci)], [inO (some ⟨bi, oi, none⟩) 2 ci [1, 2], .ob mz (mob .i64 (knM sz 2)), .ob ml (mob .i64 kl), scI g ms ml a1 g1, .ob ms (shM p q), hdO (some ⟨b, o, none⟩) c sz], []⟩) ?_ ?_
  · by_cases h0 : at_ = 0
    · have hno := kn_no (sz := sz) h0
      have hA := dAfter bi oi ci at_ (.inl h0)
      (repeat (first | ((first | (apply wo_v; rfl) ); (· first | (apply pv_ev; rfl) | (apply pv_fld; rfl) | (apply g_load; first | (apply pv_ld; rfl; (· (repeat (first | apply sel_here | apply sel_there))); rfl) ) | (apply g_un; first | (apply pv_not_t; rfl) | (apply pv_not_f; rfl) ) )) | ((apply wo_v; rfl); (· first | (apply g_lk; first | (apply pv_mlko_n; rfl; rfl; (· (repeat (first | apply sel_here | apply sel_there))); (· assumption)) ) )) | apply wo_nil | apply wc_seq | apply wc_region | (apply wc_true; rfl) ))
      (refine wo_call (hA) rfl (by (repeat (first | apply sub_nil )); done) (by first | exact fun _ h => h | (intro r hr; cases hr; done) | (simp; done) | exact fun _ h => List.mem_append_left _ h | (intro r hr; simp [hr]; done)) rfl ?_; rintro v L' R' ⟨rfl, rfl, rfl⟩ H' hH RR hR; simp only [List.cons_append, List.nil_append] at hH hR; subst hH; have hR := hR.symm; subst hR)
      (repeat (first | ((first | (apply wo_v; rfl) ); (· first | (apply pv_ev; rfl) | (apply pv_fld; rfl) )) | apply wo_nil | (apply wo_st; rfl; rfl; rfl; (· (repeat (first | apply sel_here | apply sel_there))); (· (repeat (first | apply SetAt.here | apply SetAt.there))); rfl) ))
      rw [h0]
      exact cut_end ⟨1, false, if_pos rfl, .inl rfl, rfl⟩ (wk_mk (by (repeat (first | apply wkf_nil | (apply wkf_cons; rfl))); done) (by (repeat (first | apply sub_nil | (apply sub_cons; (· (repeat (first | apply sel_here | apply sel_there)))))); done) (by first | exact fun _ h => h | (intro r hr; cases hr; done) | (simp; done) | exact fun _ h => List.mem_append_left _ h | (intro r hr; simp [hr]; done)))
    · have hno := kn_at (sz := sz) (show at_ = 1 ∨ at_ = 2 by omega)
      (repeat (first | ((first | (apply wo_v; rfl) ); (· first | (apply pv_ev; rfl) | (apply pv_fld; rfl) | (apply g_load; first | (apply pv_ld; rfl; (· (repeat (first | apply sel_here | apply sel_there))); rfl) ) | (apply g_un; first | (apply pv_not_t; rfl) ) )) | ((apply wo_v; rfl); (· first | (apply g_lk; first | (apply pv_mlko_n; rfl; rfl; (· (repeat (first | apply sel_here | apply sel_there))); (· assumption)) | (apply pv_mlko_s; rfl; rfl; (· (repeat (first | apply sel_here | apply sel_there))); (· assumption))) )) | apply wo_nil | apply wc_seq | apply wc_region | apply wc_skip | (apply wc_true; rfl) | (apply wc_false; rfl) ))
      exact cut_end ⟨at_, gr, if_neg h0, by omega, rfl⟩ (wk_mk (by (repeat (first | apply wkf_nil | (apply wkf_cons; rfl))); done) (by (repeat (first | apply sub_nil | (apply sub_cons; (· (repeat (first | apply sel_here | apply sel_there)))))); done) (by first | exact fun _ h => h | (intro r hr; cases hr; done) | (simp; done) | exact fun _ h => List.mem_append_left _ h | (intro r hr; simp [hr]; done)))
  rintro st ⟨a1, g1, hT, ha1, rfl⟩
  have hch : chM p q sz ⟨at_, gr, l1, l2⟩ = if sz ≤ tnL (tnG p q ⟨a1, g1, l1, l2⟩) then tnG p q ⟨a1, g1, l1, l2⟩ else tnG p q ⟨aftM (tnG p q ⟨a1, g1, l1, l2⟩).at_, false, (tnG p q ⟨a1, g1, l1, l2⟩).l1, (tnG p q ⟨a1, g1, l1, l2⟩).l2⟩ := by
    unfold chM
    dsimp only
    rw [hT]
  have hk1 : KL kl ⟨a1, g1, l1, l2⟩ := ⟨hk.k1, hk.k2, hk.ks⟩
  generalize chM p q sz ⟨at_, gr, l1, l2⟩ = CH at hch ⊢
  clear hT hk ho1 ho2 hKn hat
  refine wc_block ?_
  refine wc_loop' (fun w st => ∃ (a : Int) (gg : Bool) (x y : Int) (km : List (Int × Value)), (a = 1 ∨ a = 2) ∧ (0 ≤ x ∧ x + 300 * (w : Int) ≤ 900) ∧ (0 ≤ y ∧ y + 300 * (w : Int) ≤ 900) ∧ KL km ⟨a, gg, x, y⟩ ∧ ((w = 1 ∧ CH = if sz ≤ tnL (tnG p q ⟨a, gg, x, y⟩) then tnG p q ⟨a, gg, x, y⟩ else tnG p q ⟨aftM (tnG p q ⟨a, gg, x, y⟩).at_, false, (tnG p q ⟨a, gg, x, y⟩).l1, (tnG p q ⟨a, gg, x, y⟩).l2⟩) ∨ (w = 0 ∧ gg = false ∧ CH = tnG p q ⟨a, gg, x, y⟩)) ∧
    st = ⟨[(0, .pointer (some ⟨g, 0, none⟩)), (6, .map (some mz)), (10, .slice (some ⟨bi, oi, none⟩) 2 ci)], [inO (some ⟨bi, oi, none⟩) 2 ci [1, 2], .ob mz (mob .i64 (knM sz 2)), .ob ml (mob .i64 km), scI g ms ml a gg, .ob ms (shM p q), hdO (some ⟨b, o, none⟩) c sz], []⟩) ⟨a1, g1, l1, l2, kl, ha1, by omega, by omega, hk1, .inl ⟨rfl, hch⟩, rfl⟩ (wk_mk (by (repeat (first | apply wkf_nil | (apply wkf_cons; rfl))); done) (by (repeat (first | apply sub_nil )); done) (by first | exact fun _ h => h | (intro r hr; cases hr; done) | (simp; done) | exact fun _ h => List.mem_append_left _ h | (intro r hr; simp [hr]; done))) ?_
  clear hch hk1
  rintro w st ⟨a, gg, x, y, km, ha, hx, hy, hkm, hw, rfl⟩
  refine wc_block ?_
  apply wc_seq
  refine wc_join0 (fun st => ∃ km2, KL km2 (tnG p q ⟨a, gg, x, y⟩) ∧ (tnG p q ⟨a, gg, x, y⟩).at_ = a ∧ st = ⟨[(0, .pointer (some ⟨g, 0, none⟩)), (6, .map (some mz)), (10, .slice (some ⟨bi, oi, none⟩) 2 ci)], [inO (some ⟨bi, oi, none⟩) 2 ci [1, 2], .ob mz (mob .i64 (knM sz 2)), .ob ml (mob .i64 km2), scI g ms ml a true, .ob ms (shM p q), hdO (some ⟨b, o, none⟩) c sz], []⟩) ?_ ?_
  · cases gg with
    | true =>
      (repeat (first | ((first | (apply wo_v; rfl) ); (· first | (apply pv_ev; rfl) | (apply pv_fld; rfl) | (apply g_load; first | (apply pv_ld; rfl; (· (repeat (first | apply sel_here | apply sel_there))); rfl) ) | (apply g_un; first | (apply pv_not_t; rfl) ) )) | apply wo_nil | apply wc_seq | apply wc_region | apply wc_skip | (apply wc_true; rfl) | (apply wc_false; rfl) ))
      exact cut_end ⟨km, hkm, rfl, rfl⟩ (wk_mk (by (repeat (first | apply wkf_nil | (apply wkf_cons; rfl))); done) (by (repeat (first | apply sub_nil )); done) (by first | exact fun _ h => h | (intro r hr; cases hr; done) | (simp; done) | exact fun _ h => List.mem_append_left _ h | (intro r hr; simp [hr]; done)))
    | false =>
      have hlv := hkm.lv ha
      have hsa := sh_at (p := p) (q := q) ha
      have hk2 := hkm.gr (p := p) (q := q) ha
      have hat2 : (tnG p q ⟨a, false, x, y⟩).at_ = a := by
        unfold tnG
        rw [if_neg (by simp)]
        rcases ha with rfl | rfl <;> rfl
      have hzb : 0 ≤ tnL ⟨a, false, x, y⟩ ∧ tnL ⟨a, false, x, y⟩ ≤ 900 := by unfold tnL; split <;> (dsimp only; omega)
      have hpb : 40 ≤ tnP p q a ∧ tnP p q a ≤ 200 := by unfold tnP; split <;> omega
      dsimp only at hlv
      generalize tnL ⟨a, false, x, y⟩ = z at hlv hk2 hzb
      generalize tnP p q a = sh at hsa hk2 hpb
      (repeat (first | ((first | (apply wo_v; rfl) ); (· first | (apply pv_ev; rfl) | (apply pv_fld; rfl) | (apply g_load; first | (apply pv_ld; rfl; (· (repeat (first | apply sel_here | apply sel_there))); rfl) ) | (apply g_un; first | (apply pv_not_t; rfl) | (apply pv_not_f; rfl) ) )) | apply wo_nil | apply wc_seq | apply wc_region | (apply wc_true; rfl) ))
      (refine wc_regM [0] (aslL [(8, [0]), (19, [0])]) (tblGr z (aset km a (.int .i64 (z + sh)))) ([inO (some ⟨bi, oi, none⟩) 2 ci [1, 2], .ob mz (mob .i64 (knM sz 2)), scI g ms ml a false, .ob ms (shM p q), hdO (some ⟨b, o, none⟩) c sz]) (fm [(0, [.ob ml (mob .i64 km)])]) mixed (by kernel_rfl) (by kernel_rfl) (by decide) (aslL_ok (by decide)) (by (repeat (first | (apply prm_cons; (· (repeat (first | apply sel_here | apply sel_there)))) | apply List.Perm.nil )); done) ?_; (repeat (first | (apply HdM.val; rfl; rfl; (· first | apply gok_none ); (· first | (apply pv_ev; rfl) | (apply pv_fld; rfl) | (apply g_load; first | (apply pv_ld; rfl; (· (repeat (first | apply sel_here | apply sel_there))); rfl) ) )) )))
      (refine hm_eff (cs := [0]) rfl (by decide) rfl rfl (by first | exact gok_none | exact gok_run rfl rfl) (fun a ha => outc_mono (outc_pv (L := [.ob ml (mob .i64 km)]) (pv_mlkz rfl rfl (by (repeat (first | apply sel_here )); done) hlv) a ha) (fun v M h => ⟨[M], And.intro h.1 (congrArg (fun x => [x]) h.2), rfl, by simp⟩)) (⟨_, _, And.intro rfl rfl, rfl⟩) ?_; rintro v Ms ⟨rfl, rfl⟩ _; simp only [setls, setl, reduceIte, Nat.reduceEqDiff]; (repeat (first | (apply HdM.val; rfl; rfl; (· first | apply gok_none ); (· first | (apply pv_ev; rfl) | (apply pv_fld; rfl) | (apply g_load; first | (apply pv_ld; rfl; (· (repeat (first | apply sel_here | apply sel_there))); rfl) ) )) )))
      refine HdM.val rfl rfl (by first | exact gok_none | exact gok_run rfl rfl) (pv_mlk_s (zv := .int .i64 0) rfl rfl (by (repeat (first | apply sel_here | apply sel_there)); done) hsa) ?_
      (repeat (first | (apply HdM.val; rfl; rfl; (· first | apply gok_none ); (· first | (apply pv_ev; rfl) | (apply g_bin; first | (apply a_add; rfl; rfl; infer_instance; omega) ) )) ))
      (refine hm_eff (cs := [0]) rfl (by decide) rfl rfl (by first | exact gok_none | exact gok_run rfl rfl) (fun a ha => outc_mono (outc_mput rfl rfl rfl a ha) (fun v M h => ⟨[M], And.intro h.1 (congrArg (fun x => [x]) h.2), rfl, by simp⟩)) (⟨_, _, And.intro rfl rfl, rfl⟩) ?_; rintro v Ms ⟨rfl, rfl⟩ _; simp only [setls, setl, reduceIte, Nat.reduceEqDiff]; (repeat (first | fail )))
      (refine HdM.nil ?_; intro H hH; simp only [Hp, fm, look, setl, List.flatMap_cons, List.flatMap_nil, reduceIte, Nat.reduceEqDiff, Option.getD_some, List.append_nil, List.cons_append, List.nil_append] at hH; subst hH)
      (repeat (first | ((first | (apply wo_v; rfl) ); (· first | (apply pv_ev; rfl) | (apply pv_fld; rfl) )) | apply wo_nil | apply wc_region | (apply wo_st; rfl; rfl; rfl; (· (repeat (first | apply sel_here | apply sel_there))); (· (repeat (first | apply SetAt.here | apply SetAt.there))); rfl) ))
      exact cut_end ⟨_, hk2, hat2, rfl⟩ (wk_mk (by (repeat (first | apply wkf_nil | (apply wkf_cons; rfl))); done) (by (repeat (first | apply sub_nil | (apply sub_cons; (· (repeat (first | apply sel_here | apply sel_there)))))); done) (by first | exact fun _ h => h | (intro r hr; cases hr; done) | (simp; done) | exact fun _ h => List.mem_append_left _ h | (intro r hr; simp [hr]; done)))
  rintro st ⟨km2, hk2, hat2, rfl⟩
  obtain ⟨t2, ht2⟩ : ∃ t2, tnG p q ⟨a, gg, x, y⟩ = t2 := ⟨_, rfl⟩
  have htb : (0 ≤ t2.l1 ∧ t2.l1 + 300 * (w : Int) ≤ 1100) ∧ (0 ≤ t2.l2 ∧ t2.l2 + 300 * (w : Int) ≤ 1100) ∧ (gg = false → sz ≤ tnL t2) := by
    rw [← ht2]
    unfold tnG
    cases gg with
    | true => rw [if_pos rfl]; exact ⟨by dsimp only; omega, by dsimp only; omega, fun h => by cases h⟩
    | false =>
      rw [if_neg (by simp)]
      rcases ha with rfl | rfl
      · rw [if_pos rfl]; exact ⟨by dsimp only; omega, by dsimp only; omega, fun _ => by show sz ≤ x + p; omega⟩
      · rw [if_neg (by dsimp only; omega)]; exact ⟨by dsimp only; omega, by dsimp only; omega, fun _ => by show sz ≤ y + q; omega⟩
  rw [ht2] at hk2 hat2 hw
  obtain ⟨a2, gg2, x2, y2⟩ := t2
  dsimp only at hat2 htb
  subst hat2
  have hlv := hk2.lv ha
  have hka := kn_at (sz := sz) ha
  dsimp only at hlv hw
  have hzb : 0 ≤ tnL ⟨a2, gg2, x2, y2⟩ ∧ tnL ⟨a2, gg2, x2, y2⟩ ≤ 1100 := by unfold tnL; split <;> (dsimp only; omega)
  have hA := dAfter bi oi ci a2 (.inr ha)
  obtain ⟨z, hz⟩ : ∃ z, tnL ⟨a2, gg2, x2, y2⟩ = z := ⟨_, rfl⟩
  rw [hz] at hlv hw htb hzb
  (repeat (first | apply wc_seq ))
  (refine wc_quiet mixed (by kernel_rfl) ?_; (repeat (first | ((first | (apply hd_v; rfl) ); (· first | (apply pv_ev; rfl) | (apply pv_fld; rfl) | (apply g_load; first | (apply pv_ld; rfl; (· (repeat (first | apply sel_here | apply sel_there))); rfl) ) )) )))
  refine hd_v rfl (pv_mlkz rfl rfl (by (repeat (first | apply sel_here | apply sel_there)); done) hlv) ?_
  (repeat (first | ((first | (apply hd_v; rfl) ); (· first | (apply pv_ev; rfl) | (apply pv_fld; rfl) | (apply g_load; first | (apply pv_ld; rfl; (· (repeat (first | apply sel_here | apply sel_there))); rfl) ) )) ))
  refine hd_v rfl (pv_mlk_s (zv := .int .i64 0) rfl rfl (by (repeat (first | apply sel_here | apply sel_there)); done) hka) ?_
  by_cases hle : sz ≤ z
  · have hCH : CH = ⟨a2, gg2, x2, y2⟩ := by
      rcases hw with ⟨_, h⟩ | ⟨_, _, h⟩
      · rw [h, if_pos hle]
      · exact h
    rw [hCH]
    (repeat (first | ((first | (apply wo_v; rfl) | (apply hd_v; rfl) ); (· first | (apply pv_ev; rfl) | (apply pv_fld; rfl) | (apply g_load; first | (apply pv_ld; rfl; (· (repeat (first | apply sel_here | apply sel_there))); rfl) ) )) | apply wo_nil | apply Hd.nil | apply wc_seq | apply wc_region | apply wc_ret | (apply wc_true; rfl) | (apply wc_false; rfl) | (apply a_dec_t; rfl; (· first | assumption | omega)) ))
    exact ret2 rfl rfl rfl ⟨km2, rfl, rfl, rfl, hk2⟩ ((by (repeat (first | apply sub_nil | (apply sub_cons; (· (repeat (first | apply sel_here | apply sel_there)))))); done) : List.Perm _ ([_, _, _, _] ++ _)) (by first | exact fun _ h => h | (intro r hr; cases hr; done) | (simp; done) | exact fun _ h => List.mem_append_left _ h | (intro r hr; simp [hr]; done))
  · rcases hw with ⟨rfl, h⟩ | ⟨rfl, h, _⟩
    · rw [if_neg hle] at h
      (repeat (first | ((first | (apply wo_v; rfl) | (apply hd_v; rfl) ); (· first | (apply pv_ev; rfl) | (apply pv_fld; rfl) | (apply g_load; first | (apply pv_ld; rfl; (· (repeat (first | apply sel_here | apply sel_there))); rfl) ) )) | apply Hd.nil | apply wc_region | apply wc_skip | (apply wc_true; rfl) | (apply wc_false; rfl) | (apply a_dec_t; rfl; (· first | assumption | omega)) | (apply a_dec_f; rfl; (· first | assumption | omega)) ))
      (refine wo_call (hA) rfl (by (repeat (first | apply sub_nil )); done) (by first | exact fun _ h => h | (intro r hr; cases hr; done) | (simp; done) | exact fun _ h => List.mem_append_left _ h | (intro r hr; simp [hr]; done)) rfl ?_; rintro v L' R' ⟨rfl, rfl, rfl⟩ H' hH RR hR; simp only [List.cons_append, List.nil_append] at hH hR; subst hH; have hR := hR.symm; subst hR)
      (repeat (first | ((first | (apply wo_v; rfl) ); (· first | (apply pv_ev; rfl) | (apply pv_fld; rfl) )) | apply wo_nil | (apply wo_st; rfl; rfl; rfl; (· (repeat (first | apply sel_here | apply sel_there))); (· (repeat (first | apply SetAt.here | apply SetAt.there))); rfl) ))
      exact loop_end ⟨aftM a2, false, x2, y2, km2, by unfold aftM; split <;> simp, by omega, by omega, ⟨hk2.k1, hk2.k2, hk2.ks⟩, .inr ⟨rfl, rfl, h⟩, rfl⟩ (by omega) (wk_mk (by (repeat (first | apply wkf_nil | (apply wkf_cons; rfl))); done) (by (repeat (first | apply sub_nil | (apply sub_cons; (· (repeat (first | apply sel_here | apply sel_there)))))); done) (by first | exact fun _ h => h | (intro r hr; cases hr; done) | (simp; done) | exact fun _ h => List.mem_append_left _ h | (intro r hr; simp [hr]; done)))
    · exact absurd (htb.2.2 h) hle
end Go.Proofs.Ytlhlidmhlhodiaa

/-
  Package queue over a list of items: shift, drop, what may be.
-/
namespace Go.Proofs.Ytlhlidmhlhodiaa
set_option linter.unusedSimpArgs false
set_option linter.unusedVariables false
open Go.RowKit

abbrev It4 := Int × Int × Int × Bool
abbrev itr (x : It4) : List Value := [.int .i64 x.1, .int .i64 x.2.1, .int .i64 x.2.2.1, .bool x.2.2.2]
def its (l : List It4) : List (List Value) := l.map itr
theorem its_len (l : List It4) : (its l).length = l.length := by simp [its]
theorem its_at {l : List It4} {i : Nat} {x : It4} (h : l[i]? = some x) : (its l)[i]? = some (itr x) := by simp [its, h]
theorem its_app (a b : List It4) : its (a ++ b) = its a ++ its b := by simp [its]
theorem its_rows (l : List It4) : RowsOk 4 (its l) := fun r hr => by
  obtain ⟨x, _, rfl⟩ := List.mem_map.1 hr
  exact ⟨rfl, fun u hu => by simp only [List.mem_cons, List.not_mem_nil, or_false] at hu; rcases hu with rfl | rfl | rfl | rfl <;> rfl⟩
def sumS : List It4 → Int
  | [] => 0
  | x :: l => x.2.1 + sumS l
theorem sumS_app (a b : List It4) : sumS (a ++ b) = sumS a + sumS b := by
  induction a with
  | nil => simp [sumS]
  | cons x l ih => simp only [List.cons_append, sumS, ih]; omega
def Pos (l : List It4) : Prop := ∀ x ∈ l, 0 ≤ x.2.1
theorem sumS_pos : ∀ {l : List It4}, Pos l → 0 ≤ sumS l
  | [], _ => by simp [sumS]
  | x :: l, h => by have := sumS_pos (l := l) fun y hy => h y (.tail _ hy); have := h x (.head _); simp only [sumS]; omega
def tw (l : List It4) : List It4 := l.takeWhile fun x => !x.2.2.2
def dw (l : List It4) : List It4 := l.dropWhile fun x => !x.2.2.2
theorem twdw (l : List It4) : tw l ++ dw l = l := List.takeWhile_append_dropWhile
theorem twdw_at {a b : List It4} (ha : ∀ x ∈ a, x.2.2.2 = false) (hb : ∀ x, b.head? = some x → x.2.2.2 = true) : tw (a ++ b) = a ∧ dw (a ++ b) = b := by
  induction a with
  | nil =>
    cases b with
    | nil => exact ⟨rfl, rfl⟩
    | cons x b => have := hb x rfl; simp [tw, dw, this]
  | cons x a ih =>
    have h := ih fun y hy => ha y (.tail _ hy)
    have hx := ha x (.head _)
    unfold tw dw at h ⊢
    simp [hx, h.1, h.2]
theorem tw_len (l : List It4) : (tw l).length ≤ l.length := by have := congrArg List.length (twdw l); simp at this; omega
theorem dw_len (l : List It4) : (dw l).length ≤ l.length := by have := congrArg List.length (twdw l); simp at this; omega
theorem dw_mem {l : List It4} {x : It4} (h : x ∈ dw l) : x ∈ l := by rw [← twdw l]; exact List.mem_append_right _ h
theorem sum_twdw (l : List It4) : sumS (tw l) + sumS (dw l) = sumS l := by rw [← sumS_app, twdw]

abbrev qT : TypeId := 297
abbrev qIt : TypeId := 133
abbrev Qc (q : Nat) (fr mo : Int) (ao : Option Addr) (n c : Nat) (sz : Int) (bk : Bool) : It := .ob q (.cells #[.int .i64 fr, .int .i64 mo, .slice ao n c, .int .i64 sz, .bool bk] qT (0, 0))
theorem SR.full {R : List Ro} {sz : Nat} {ao : Option Addr} {n c : Nat} {xs : List (List Value)} (h : SR R sz ao n c xs) : ∃ ao', (if n = 0 then ao else ao.map (·.add (0 * sz))) = ao' ∧ SR R sz ao' n n xs := by
  refine ⟨_, rfl, h.len, Nat.le_refl _, Nat.le_trans h.le h.mx, h.rows, ?_⟩
  rcases h.at_ with ⟨rfl, h0⟩ | ⟨b, o, rfl, hm⟩
  · have := h.le; exact .inl ⟨by simp, by omega⟩
  · exact .inr ⟨b, o, by by_cases h0 : n = 0 <;> simp [h0, Addr.add_lit], hm⟩

attribute [local irreducible] Pv WO WC Fn
set_option maxHeartbeats 4000000 in
theorem qShift (q : Nat) (fr mo : Int) (ao : Option Addr) (n c : Nat) (x : It4) (l : List It4) (sz : Int) (bk : Bool) (R : List Ro) (hS : SR R 4 ao n c (its (x :: l))) (hb : 0 ≤ x.2.1 ∧ x.2.1 ≤ sz ∧ sz ≤ 1000000000000) :
    Fn Try.prog 148 #[.pointer (some ⟨q, 0, none⟩)] [Qc q fr mo ao n c sz bk] R
      (fun v L' R' => v = .agg (itr x).toArray ∧ ∃ ao', L' = [Qc q fr mo ao' (n - 1) (c - 1) (sz - x.2.1) bk] ∧ SR R' 4 ao' (n - 1) (c - 1) (its l)) := by
  have hn : n = l.length + 1 := by rw [← hS.len]; simp [its]
  have hle := hS.le
  obtain ⟨b, o, rfl, hm⟩ := hS.pos (by omega)
  have hr : (its (x :: l))[0]? = some [.int .i64 x.1, .int .i64 x.2.1, .int .i64 x.2.2.1, .bool x.2.2.2] := rfl
  have h0 : 0 < n := by omega
  have e1 : ((its (x :: l)).take n).drop 1 = its l := by rw [List.take_of_length_le (by rw [hS.len]; exact Nat.le_refl _)]; rfl
  refine fn_intro Try.func148 rfl Try.ntmps148 rfl (fun E => ?_)
  (repeat (first | ((first | (apply wo_v; rfl) ); (· first | (apply pv_ev; rfl) | (apply pv_fld; rfl) | (apply g_load; first | (apply pv_ld; rfl; (· (repeat (first | apply sel_here | apply sel_there))); rfl) | (apply pv_lda; rfl; (· (repeat (first | apply sel_there))); (· (repeat (first | fail )))) | (apply pv_ld_owna; rfl; (· (repeat (first | apply sel_there))); (· assumption)) | (apply pv_ld_roa; rfl; (· (first | assumption )); (· assumption))) | (apply g_idx; first | (apply pv_idx; rfl; rfl; omega) ) )) | apply wo_nil | apply wc_seq | apply wc_region | (apply wo_alloc; rfl; intro bx) | (apply wo_sta; rfl; rfl; rfl; rfl; (· (repeat (first | apply sel_here ))); (· (repeat (first | apply LayAt.nil | apply LayAt.here ))); rfl) ))
  refine wo_v rfl (pv_cut (l := 1) (h := n) (m := c) inferInstance rfl (.lo rfl rfl (by omega))) ?_
  refine wo_ro 1 n hm ?_
  have hS2 := hS.cut (l := 1) (h := n) (m := c) ⟨by omega, by omega, by omega, by omega⟩
  rw [e1] at hS2 ⊢
  generalize (if c = 1 then (some ⟨b, o, none⟩ : Option Addr) else (some (⟨b, o, none⟩ : Addr)).map (·.add (1 * 4))) = ao' at hS2 ⊢
  (repeat (first | ((first | (apply wo_v; rfl) ); (· first | (apply pv_ev; rfl) | (apply pv_fld; rfl) )) | apply wo_nil | apply wc_seq | (apply wo_st; rfl; rfl; rfl; (· (repeat (first | apply sel_here | apply sel_there))); (· (repeat (first | apply SetAt.here | apply SetAt.there))); rfl) ))
  (refine wc_tail 9 mixed (by kernel_rfl) ?_; (repeat (first | ((first | (apply wo_v; rfl) | (apply hd_v; rfl) ); (· first | (apply pv_ev; rfl) | (apply pv_fld; rfl) | (apply g_load; first | (apply pv_ld; rfl; (· (repeat (first | apply sel_here | apply sel_there))); rfl) | (apply pv_lda; rfl; (· (repeat (first | apply sel_here | apply sel_there))); (· (repeat (first | apply Cut.here0 | apply Cut.here )))) ) | (apply g_bin; first | (apply a_sub; rfl; rfl; infer_instance; omega) ) )) | apply wo_nil | apply Hd.nil | apply wc_seq | apply wc_region | apply wc_ret | (apply wo_st; rfl; rfl; rfl; (· (repeat (first | apply sel_here ))); (· (repeat (first | apply SetAt.here | apply SetAt.there))); rfl) | (apply wo_sta; rfl; rfl; rfl; rfl; (· (repeat (first | apply sel_here | apply sel_there))); (· (repeat (first | apply LayAt.nil | apply LayAt.here ))); rfl) )))
  exact retv rfl (by (repeat (first | apply RV.nil | (apply RV.agg; rfl; (· (repeat (first | apply sel_here ))); infer_instance; (· (repeat (first | apply Cut.here0 | apply Cut.here )))) )); done) (⟨rfl, _, rfl, hS2⟩) (by (repeat (first | apply sub_nil | (apply sub_cons; (· (repeat (first | apply sel_here | apply sel_there)))))); done) (by first | exact fun _ h => h | (intro r hr; cases hr; done) | (simp; done) | exact fun _ h => List.mem_append_left _ h | (intro r hr; simp [hr]; done))

abbrev allS (l : List It4) : Prop := Pos l ∧ sumS l ≤ 1000000000000 ∧ l.length ≤ 1000000000
theorem allS.tail {x : It4} {l : List It4} (h : allS (x :: l)) : allS l := by
  have := h.1 x (.head _)
  exact ⟨fun y hy => h.1 y (.tail _ hy), by have := h.2.1; simp only [sumS] at this; omega, by have := h.2.2; simp at this; omega⟩
set_option maxHeartbeats 4000000 in
theorem qDrop (q : Nat) (fr mo : Int) (ao : Option Addr) (n c : Nat) (x : It4) (l : List It4) (bk : Bool) (R : List Ro) (hS : SR R 4 ao n c (its (x :: l))) (ha : allS (x :: l)) :
    Fn Try.prog 144 #[.pointer (some ⟨q, 0, none⟩)] [Qc q fr mo ao n c (sumS (x :: l)) bk] R
      (fun v L' R' => ∃ ao' n' c' ao2 m c2, v = .slice ao2 m c2 ∧ L' = [Qc q fr mo ao' n' c' (sumS (dw l)) (bk || (dw l).isEmpty), .own qIt 4 ao2 m c2 (its (x :: tw l))] ∧ m = (tw l).length + 1 ∧ SR R' 4 ao' n' c' (its (dw l))) := by
  have hn : n = l.length + 1 := by rw [← hS.len]; simp [its]
  have hsum : sumS (x :: l) = x.2.1 + sumS l := rfl
  have hp := sumS_pos ha.tail.1
  have hx := ha.1 x (.head _)
  have ha2 := ha.2.1
  have ha3 := ha.tail
  have hlen := ha.2.2
  simp only [List.length_cons] at hlen
  refine fn_intro Try.func144 rfl Try.ntmps144 rfl (fun E => ?_)
  (repeat (first | ((first | (apply wo_v; rfl) ); (· first | (apply pv_ev; rfl) )) | apply wo_nil | apply wc_seq | apply wc_region ))
  (refine wo_call (qShift q fr mo ao n c x l (sumS (x :: l)) bk R hS (by omega)) rfl (by (repeat (first | apply sub_nil )); done) (by first | exact fun _ h => h | (intro r hr; cases hr; done) | (simp; done) | exact fun _ h => List.mem_append_left _ h | (intro r hr; simp [hr]; done)) rfl ?_; rintro v L' R' ⟨rfl, ao1, rfl, hS1⟩ H' hH RR hR; simp only [List.cons_append, List.nil_append] at hH hR; subst hH; have hR := hR.symm; subst hR)
  (repeat (first | ((first | (apply wo_v; rfl) ); (· first | (apply pv_ev; rfl) )) | apply wo_nil | apply wc_seq | apply wc_block | (apply wo_bsl; (· (repeat (first | apply Rws'.nil | (apply Rws'.one; rfl; rfl; rfl) | (apply Rws'.agg; rfl; rfl; rfl)))); rfl; rfl; rfl; rfl; intro bx) ))
  have e1 : sumS (x :: l) - x.2.1 = sumS l := by omega
  rw [e1]
  refine wc_loop' (fun k st => ∃ (a b : List It4) (ao1 ao2 : Option Addr) (n1 c1 c2 : Nat) (RR : List Ro), k = b.length ∧ l = a ++ b ∧ (∀ y ∈ a, y.2.2.2 = false) ∧ st = ⟨[(0, .pointer (some ⟨q, 0, none⟩)), (3, .slice ao2 (a.length + 1) c2)], [Qc q fr mo ao1 n1 c1 (sumS b) bk, .own qIt 4 ao2 (a.length + 1) c2 (its (x :: a))], RR⟩ ∧ SR RR 4 ao1 n1 c1 (its b))
    ⟨[], l, ao1, some ⟨bx, 0, none⟩, n - 1, c - 1, 1, _, rfl, rfl, by simp, rfl, hS1⟩ (wk_mk (by (repeat (first | apply wkf_nil | (apply wkf_cons; rfl))); done) (by simp only [its, List.map_cons, List.map_nil, List.length_nil]; exact (by (repeat (first | apply sub_nil | (apply sub_cons; (· (repeat (first | apply sel_here | apply sel_there)))))); done)) (by first | exact fun _ h => h | (intro r hr; cases hr; done) | (simp; done) | exact fun _ h => List.mem_append_left _ h | (intro r hr; simp [hr]; done))) ?_
  rintro k st ⟨a, b, ao1, ao2, n1, c1, c2, RR, rfl, rfl, hk, rfl, hS1⟩
  have hn1 : n1 = b.length := by rw [← hS1.len]; exact its_len b
  by_cases hg : ∃ y t, b = y :: t ∧ y.2.2.2 = false
  · obtain ⟨y, t, rfl, hy⟩ := hg
    obtain ⟨n2, s2, t2, k2⟩ := y
    simp only at hy
    subst hy
    obtain ⟨b1, o1, rfl, hm⟩ := hS1.pos (by simp at hn1; omega)
    have h0 : 0 < n1 := by simp at hn1; omega
    have hr : (its ((n2, s2, t2, false) :: t))[0]? = some [.int .i64 n2, .int .i64 s2, .int .i64 t2, .bool false] := rfl
    have hs2 : sumS ((n2, s2, t2, false) :: t) = s2 + sumS t := rfl
    have hp2 : 0 ≤ s2 ∧ 0 ≤ sumS t ∧ 0 ≤ sumS a := by
      refine ⟨ha3.1 (n2, s2, t2, false) (by simp), sumS_pos fun z hz => ha3.1 z (by simp [hz]), sumS_pos fun z hz => ha3.1 z (by simp [hz])⟩
    have hs3 : sumS (a ++ (n2, s2, t2, false) :: t) = sumS a + (s2 + sumS t) := by rw [sumS_app, hs2]
    (repeat (first | ((first | (apply wo_v; rfl) ); (· first | (apply pv_ev; rfl) | (apply pv_fld; rfl) | (apply g_load; first | (apply pv_ld; rfl; (· (repeat (first | apply sel_here | apply sel_there))); rfl) | (apply pv_ld_ownf; rfl; (· (repeat (first | apply sel_there))); (· assumption); rfl) | (apply pv_ld_own1; rfl; (· (repeat (first | fail ))); (· assumption)) | (apply pv_ld_rof; rfl; (· (first | assumption )); (· assumption); rfl) ) | (apply g_pick; first | (apply pv_pick_t; rfl; rfl) ) | (apply g_bi; first | (apply pv_len_sl; rfl) ) | (apply g_un; first | (apply pv_not_t; rfl) | (apply pv_not_f; rfl) ) | (apply g_idx; first | (apply pv_idx; rfl; rfl; omega) ) )) | apply wo_nil | apply wc_seq | apply wc_region | apply wc_block | apply wc_skip | (apply wc_true; rfl) | (apply wo_run; rfl; rfl) | (apply wo_skip; rfl; rfl; rfl; rfl) | (apply wo_skip_u; rfl; rfl; rfl) | (apply a_gt; rfl; rfl; (· first | assumption | omega)) ))
    (refine wo_call (qShift q fr mo _ n1 c1 (n2, s2, t2, false) t (sumS ((n2, s2, t2, false) :: t)) bk RR hS1 (by simp only; omega)) rfl (by (repeat (first | apply sub_nil )); done) (by first | exact fun _ h => h | (intro r hr; cases hr; done) | (simp; done) | exact fun _ h => List.mem_append_left _ h | (intro r hr; simp [hr]; done)) rfl ?_; rintro v L' R' ⟨rfl, ao3, rfl, hS3⟩ H' hH RR hR; simp only [List.cons_append, List.nil_append] at hH hR; subst hH; have hR := hR.symm; subst hR)
    (repeat (first | ((first | (apply wo_v; rfl) ); (· first | (apply pv_ev; rfl) | (apply g_bi; first | fail ) )) | (apply wo_bsl; (· (repeat (first | apply Rws'.nil | (apply Rws'.one; rfl; rfl; rfl) | (apply Rws'.agg; rfl; rfl; rfl)))); rfl; rfl; rfl; rfl; intro bx) ))
    refine wo_app rfl rfl (by (repeat (first | apply sel_here | apply sel_there)); done) (by (repeat (first | apply sel_here )); done) (by unfold maxLen; simp at hlen; omega) (by simp at hlen; omega) rfl (fun ao4 c4 => ?_)
    (repeat (first | ((first | (apply wo_v; rfl) ); (· first | (apply pv_ev; rfl) )) | apply wo_nil ))
    have e2 : sumS ((n2, s2, t2, false) :: t) - s2 = sumS t := by omega
    have e3 : its (x :: a) ++ [itr (n2, s2, t2, false)] = its (x :: (a ++ [(n2, s2, t2, false)])) := by simp [its]
    have e4 : a.length + 1 + 1 = (a ++ [(n2, s2, t2, false)]).length + 1 := by simp
    rw [e2, e3, e4]
    exact loop_end ⟨a ++ [(n2, s2, t2, false)], t, ao3, ao4, n1 - 1, c1 - 1, c4, _, rfl, by simp, fun z hz => (List.mem_append.1 hz).elim (hk z) (fun h => by rw [List.mem_singleton.1 h]), rfl, hS3⟩ (by simp) (wk_mk (by (repeat (first | apply wkf_nil | (apply wkf_cons; rfl))); done) (by (repeat (first | apply sub_nil | (apply sub_cons; (· (repeat (first | apply sel_here | apply sel_there)))))); done) (by first | exact fun _ h => h | (intro r hr; cases hr; done) | (simp; done) | exact fun _ h => List.mem_append_left _ h | (intro r hr; simp [hr]; done)))
  · have hb : b = [] ∨ ∃ y t, b = y :: t ∧ y.2.2.2 = true := by
      cases b with
      | nil => exact .inl rfl
      | cons y t =>
        refine .inr ⟨y, t, rfl, ?_⟩
        cases hy : y.2.2.2 with
        | true => rfl
        | false => exact absurd ⟨y, t, rfl, hy⟩ hg
    have hhead : ∀ z, b.head? = some z → z.2.2.2 = true := by
      rcases hb with rfl | ⟨y, t, rfl, hy⟩
      · intro z hz; cases hz
      · intro z hz; cases hz; exact hy
    obtain ⟨g1, g2⟩ := twdw_at hk hhead
    rw [g1, g2]
    rcases hb with rfl | ⟨⟨n2, s2, t2, k2⟩, t, rfl, hy⟩
    · simp only [List.length_nil] at hn1
      subst hn1
      cases bk
      all_goals
        (repeat (first | ((first | (apply wo_v; rfl) ); (· first | (apply pv_ev; rfl) | (apply pv_fld; rfl) | (apply g_load; first | (apply pv_ld; rfl; (· (repeat (first | apply sel_here ))); rfl) ) | (apply g_pick; first | (apply pv_pick_t; rfl; rfl) | (apply pv_pick_f; rfl; rfl)) | (apply g_bi; first | (apply pv_len_sl; rfl) ) )) | apply wo_nil | apply wc_seq | apply wc_region | (apply wc_exit; rfl) | apply wc_ret | (apply wc_true; rfl) | (apply wc_false; rfl) | (apply wo_run; rfl; rfl) | (apply wo_skip; rfl; rfl; rfl; rfl) | (apply wo_st; rfl; rfl; rfl; (· (repeat (first | apply sel_here ))); (· (repeat (first | apply SetAt.here | apply SetAt.there))); rfl) ))
        exact ret1 rfl rfl ⟨ao1, 0, c1, ao2, a.length + 1, c2, rfl, rfl, rfl, hS1⟩ (by (repeat (first | apply sub_nil )); done) (by first | exact fun _ h => h | (intro r hr; cases hr; done) | (simp; done) | exact fun _ h => List.mem_append_left _ h | (intro r hr; simp [hr]; done))
    · simp only at hy
      subst hy
      obtain ⟨b1, o1, rfl, hm⟩ := hS1.pos (by simp at hn1; omega)
      have h0 : 0 < n1 := by simp at hn1; omega
      have hr : (its ((n2, s2, t2, true) :: t))[0]? = some [.int .i64 n2, .int .i64 s2, .int .i64 t2, .bool true] := rfl
      cases bk
      · (repeat (first | ((first | (apply wo_v; rfl) ); (· first | (apply pv_ev; rfl) | (apply pv_fld; rfl) | (apply g_load; first | (apply pv_ld; rfl; (· (repeat (first | apply sel_here | apply sel_there))); rfl) | (apply pv_ld_ownf; rfl; (· (repeat (first | apply sel_there))); (· assumption); rfl) | (apply pv_ld_own1; rfl; (· (repeat (first | fail ))); (· assumption)) | (apply pv_ld_rof; rfl; (· (first | assumption )); (· assumption); rfl) ) | (apply g_pick; first | (apply pv_pick_t; rfl; rfl) | (apply pv_pick_f; rfl; rfl)) | (apply g_bi; first | (apply pv_len_sl; rfl) ) | (apply g_un; first | (apply pv_not_t; rfl) ) | (apply g_idx; first | (apply pv_idx; rfl; rfl; omega) ) )) | apply wo_nil | apply wc_seq | apply wc_region | (apply wc_exit; rfl) | apply wc_ret | (apply wc_true; rfl) | (apply wc_false; rfl) | (apply wo_run; rfl; rfl) | (apply wo_skip; rfl; rfl; rfl; rfl) | (apply wo_skip_u; rfl; rfl; rfl) | (apply a_gt; rfl; rfl; (· first | assumption | omega)) | (apply wo_st; rfl; rfl; rfl; (· (repeat (first | apply sel_here ))); (· (repeat (first | apply SetAt.here | apply SetAt.there))); rfl) ))
        rw [show (decide ((n1 : Int) = 0)) = false by simp; omega]
        exact ret1 rfl rfl ⟨some ⟨b1, o1, none⟩, n1, c1, ao2, a.length + 1, c2, rfl, rfl, rfl, hS1⟩ (by (repeat (first | apply sub_nil )); done) (by first | exact fun _ h => h | (intro r hr; cases hr; done) | (simp; done) | exact fun _ h => List.mem_append_left _ h | (intro r hr; simp [hr]; done))
      · (repeat (first | ((first | (apply wo_v; rfl) ); (· first | (apply pv_ev; rfl) | (apply pv_fld; rfl) | (apply g_load; first | (apply pv_ld; rfl; (· (repeat (first | apply sel_here | apply sel_there))); rfl) | (apply pv_ld_ownf; rfl; (· (repeat (first | apply sel_there))); (· assumption); rfl) | (apply pv_ld_own1; rfl; (· (repeat (first | fail ))); (· assumption)) | (apply pv_ld_rof; rfl; (· (first | assumption )); (· assumption); rfl) ) | (apply g_pick; first | (apply pv_pick_t; rfl; rfl) ) | (apply g_bi; first | (apply pv_len_sl; rfl) ) | (apply g_un; first | (apply pv_not_t; rfl) ) | (apply g_idx; first | (apply pv_idx; rfl; rfl; omega) ) )) | apply wo_nil | apply wc_seq | apply wc_region | (apply wc_exit; rfl) | apply wc_ret | (apply wc_true; rfl) | (apply wc_false; rfl) | (apply wo_run; rfl; rfl) | (apply wo_skip; rfl; rfl; rfl; rfl) | (apply wo_skip_u; rfl; rfl; rfl) | (apply a_gt; rfl; rfl; (· first | assumption | omega)) | (apply wo_st; rfl; rfl; rfl; (· (repeat (first | apply sel_here ))); (· (repeat (first | apply SetAt.here | apply SetAt.there))); rfl) ))
        exact ret1 rfl rfl ⟨some ⟨b1, o1, none⟩, n1, c1, ao2, a.length + 1, c2, rfl, rfl, rfl, hS1⟩ (by (repeat (first | apply sub_nil )); done) (by first | exact fun _ h => h | (intro r hr; cases hr; done) | (simp; done) | exact fun _ h => List.mem_append_left _ h | (intro r hr; simp [hr]; done))

/-! Put, Expire as functions -/
theorem allS.dw {l : List It4} (h : allS l) : allS (dw l) := by
  refine ⟨fun x hx => h.1 x (dw_mem hx), ?_, by have := dw_len l; have := h.2.2; omega⟩
  have h1 := sum_twdw l
  have h2 : 0 ≤ sumS (tw l) := sumS_pos fun x hx => h.1 x (by rw [← twdw l]; exact List.mem_append_left _ hx)
  have := h.2.1
  omega
def putG (fr mo s : Int) : List It4 → Bool → List It4 × List It4 × Bool
  | [], bk => ([], [], bk)
  | x :: t, bk => if fr ≤ (t.length : Int) + 1 ∨ mo < sumS (x :: t) + s then (x :: tw t ++ (putG fr mo s (dw t) (bk || (dw t).isEmpty)).1, (putG fr mo s (dw t) (bk || (dw t).isEmpty)).2) else ([], x :: t, bk)
  termination_by l => l.length
  decreasing_by all_goals (simp only [List.length_cons]; have := dw_len t; omega)
theorem putG_go {fr mo s : Int} {x : It4} {t : List It4} {bk : Bool} (h : fr ≤ (t.length : Int) + 1 ∨ mo < sumS (x :: t) + s) : putG fr mo s (x :: t) bk = (x :: tw t ++ (putG fr mo s (dw t) (bk || (dw t).isEmpty)).1, (putG fr mo s (dw t) (bk || (dw t).isEmpty)).2) := by rw [putG, if_pos h]
theorem putG_end {fr mo s : Int} {x : It4} {t : List It4} {bk : Bool} (h : ¬ (fr ≤ (t.length : Int) + 1 ∨ mo < sumS (x :: t) + s)) : putG fr mo s (x :: t) bk = ([], x :: t, bk) := by rw [putG, if_neg h]
theorem putG_nil {fr mo s : Int} {bk : Bool} : putG fr mo s [] bk = ([], [], bk) := by rw [putG]
theorem putG_spec (fr mo s : Int) : ∀ (k : Nat) (l : List It4) (bk : Bool), l.length ≤ k → (putG fr mo s l bk).1 ++ (putG fr mo s l bk).2.1 = l ∧ ((putG fr mo s l bk).2.1 = [] ∨ ((putG fr mo s l bk).2.1.length : Int) < fr ∧ sumS (putG fr mo s l bk).2.1 + s ≤ mo)
  | k, [], bk, _ => by rw [putG_nil]; simp
  | 0, x :: t, bk, h => by simp at h
  | k + 1, x :: t, bk, h => by
    by_cases hc : fr ≤ (t.length : Int) + 1 ∨ mo < sumS (x :: t) + s
    · rw [putG_go hc]
      obtain ⟨h1, h2⟩ := putG_spec fr mo s k (dw t) (bk || (dw t).isEmpty) (by have := dw_len t; simp at h; omega)
      refine ⟨?_, h2⟩
      simp only [List.cons_append, List.append_assoc, h1, twdw]
    · rw [putG_end hc]
      exact ⟨rfl, .inr ⟨by simp; omega, by show sumS (x :: t) + s ≤ mo; omega⟩⟩
def putM (fr mo : Int) (l : List It4) (bk : Bool) (x : It4) : List It4 × Bool × List It4 × Bool :=
  if x.2.1 < 0 ∨ mo < x.2.1 ∨ (bk = true ∧ x.2.2.2 = false) then ([], false, l, true)
  else if (putG fr mo x.2.1 l bk).2.2 = true ∧ x.2.2.2 = false then ((putG fr mo x.2.1 l bk).1, false, (putG fr mo x.2.1 l bk).2.1, (putG fr mo x.2.1 l bk).2.2)
  else ((putG fr mo x.2.1 l bk).1, true, (putG fr mo x.2.1 l bk).2.1 ++ [x], false)
end Go.Proofs.Ytlhlidmhlhodiaa

/-
  Package queue: what its functions do, for every queue.
-/
namespace Go.Proofs.Ytlhlidmhlhodiaa
set_option linter.unusedSimpArgs false
set_option linter.unusedVariables false
open Go.RowKit
attribute [local irreducible] Pv WO WC Fn
/-- a slice is built, and put behind another one -/
abbrev tblAq (e sz n : Nat) (row : List Value) (xs : List (List Value)) (k0 : Nat) : Nat → List (List It) → Value → List (List It) → Prop := fun k Ls v Ms =>
  if k = k0 then ∃ b, v = .slice (some ⟨b, 0, none⟩) 1 1 ∧ Ms = [[.own e sz (some ⟨b, 0, none⟩) 1 1 [row]]]
  else ∃ ao' c', v = .slice ao' (n + 1) c' ∧ Ms = [[.own e sz ao' (n + 1) c' xs]]

set_option maxHeartbeats 16000000 in
set_option maxRecDepth 100000 in
theorem qPut (q : Nat) (fr mo : Int) (ao : Option Addr) (n c : Nat) (xn xs xt : Int) (xk : Bool) (l : List It4) (bk : Bool) (R : List Ro) (hS : SR R 4 ao n c (its l)) (ha : allS l) (hfr : 1 ≤ fr) (hmo : mo ≤ 16777216) :
    Fn Try.prog 112 #[.pointer (some ⟨q, 0, none⟩), .agg #[.int .i64 xn, .int .i64 xs, .int .i64 xt, .bool xk]] [Qc q fr mo ao n c (sumS l) bk] R
      (fun v L' R' => ∃ ao' n' c' ao2 m c2, v = .tuple #[.slice ao2 m c2, .bool (putM fr mo l bk (xn, xs, xt, xk)).2.1] ∧ L' = [Qc q fr mo ao' n' c' (sumS (putM fr mo l bk (xn, xs, xt, xk)).2.2.1) (putM fr mo l bk (xn, xs, xt, xk)).2.2.2]
        ∧ SR R' 4 ao' n' c' (its (putM fr mo l bk (xn, xs, xt, xk)).2.2.1) ∧ SR R' 4 ao2 m c2 (its (putM fr mo l bk (xn, xs, xt, xk)).1)) := by
  have hn : n = l.length := by rw [← hS.len]; simp [its]
  have hp := sumS_pos ha.1
  have ha2 := ha.2.1
  have hlen := ha.2.2
  by_cases hno : xs < 0 ∨ mo < xs ∨ (bk = true ∧ xk = false)
  · have e : putM fr mo l bk (xn, xs, xt, xk) = ([], false, l, true) := by unfold putM; rw [if_pos (by simpa using hno)]
    rw [e]
    have h3 : xs < 0 ∨ (0 ≤ xs ∧ mo < xs) ∨ (0 ≤ xs ∧ xs ≤ mo ∧ bk = true ∧ xk = false) := by
      rcases Int.lt_or_le xs 0 with h | h
      · exact .inl h
      · rcases Int.lt_or_le mo xs with h' | h'
        · exact .inr (.inl ⟨h, h'⟩)
        · exact .inr (.inr ⟨h, h', by rcases hno with h1 | h1 | h1 <;> first | omega | exact h1⟩)
    clear hno e
    rcases h3 with h | ⟨h0, h⟩ | ⟨h0, h1, rfl, rfl⟩
    all_goals
      refine fn_intro Try.func112 rfl Try.ntmps112 rfl (fun E => ?_)
      (repeat (first | ((first | (apply wo_v; rfl) ); (· first | (apply pv_ev; rfl) )) | apply wo_nil | apply wc_seq | apply wc_region | (apply wo_box1; rfl; rfl; rfl; intro bx) | (apply wo_boxa; rfl; rfl; intro bx) ))
      (refine wc_quiet mixed (by kernel_rfl) ?_; (repeat (first | ((first | (apply wo_v; rfl) | (apply hd_v; rfl) ); (· first | (apply pv_ev; rfl) | (apply pv_fld; rfl) | (apply g_load; first | (apply pv_ld; rfl; (· (repeat (first | apply sel_here | apply sel_there))); rfl) ) | (apply g_pick; first | (apply pv_pick_t; rfl; rfl) | (apply pv_pick_f; rfl; rfl)) | (apply g_un; first | (apply pv_not_t; rfl) | (apply pv_not_f; rfl) ) )) | apply wo_nil | apply Hd.nil | apply wc_seq | apply wc_region | apply wc_ret | (apply wc_true; rfl) | (apply wo_st; rfl; rfl; rfl; (· (repeat (first | apply sel_here | apply sel_there))); (· (repeat (first | apply SetAt.here | apply SetAt.there))); rfl) | (apply Hd.run; rfl; rfl) | (apply Hd.skip; rfl; rfl; rfl; rfl) | (apply Hd.skipu; rfl; rfl; rfl) | (apply ah_gt; rfl; rfl; (· first | assumption | omega)) | (apply ah_gf; rfl; rfl; (· first | assumption | omega)) )))
      exact ret2 rfl rfl rfl ⟨ao, n, c, none, 0, 0, rfl, rfl, hS, SR.nil _ _⟩ (by (repeat (first | apply sub_nil )); done) (by first | exact fun _ h => h | (intro r hr; cases hr; done) | (simp; done) | exact fun _ h => List.mem_append_left _ h | (intro r hr; simp [hr]; done))
  · have h0 : 0 ≤ xs := by omega
    have h1 : xs ≤ mo := by omega
    have hbk : (bk = false ∧ True) ∨ (bk = true ∧ xk = true) := by cases bk <;> cases xk <;> simp at hno ⊢
    have e : putM fr mo l bk (xn, xs, xt, xk) = if (putG fr mo xs l bk).2.2 = true ∧ xk = false then ((putG fr mo xs l bk).1, false, (putG fr mo xs l bk).2.1, (putG fr mo xs l bk).2.2)
      else ((putG fr mo xs l bk).1, true, (putG fr mo xs l bk).2.1 ++ [(xn, xs, xt, xk)], false) := by unfold putM; rw [if_neg (by simpa using hno)]
    obtain ⟨hspec, hroom⟩ := putG_spec fr mo xs l.length l bk (Nat.le_refl _)
    generalize hG : putG fr mo xs l bk = G at e hspec hroom
    obtain ⟨out, l', bk'⟩ := G
    simp only at e hspec hroom
    rw [e]
    clear e hno
    rcases hbk with ⟨rfl, hx⟩ | ⟨rfl, hx⟩
    all_goals
      refine fn_intro Try.func112 rfl Try.ntmps112 rfl (fun E => ?_)
      (repeat (first | ((first | (apply wo_v; rfl) ); (· first | (apply pv_ev; rfl) )) | apply wo_nil | apply wc_seq | apply wc_region | (apply wo_box1; rfl; rfl; rfl; intro bx) | (apply wo_boxa; rfl; rfl; intro bx) ))
      (refine wc_quiet mixed (by kernel_rfl) ?_; (repeat (first | ((first | (apply wo_v; rfl) | (apply hd_v; rfl) ); (· first | (apply pv_ev; rfl) | (apply pv_fld; rfl) | (apply g_load; first | (apply pv_ld; rfl; (· (repeat (first | apply sel_here | apply sel_there))); rfl) ) | (apply g_pick; first | (apply pv_pick_t; rfl; rfl) | (apply pv_pick_f; rfl; rfl)) | (apply g_un; first | (apply pv_not_t; rfl) | (apply pv_not_f; rfl) | (apply a_not_d; rfl) | (apply pv_not; rfl) ) )) | apply wo_nil | apply Hd.nil | apply wc_seq | apply wc_region | apply wc_block | apply wc_skip | (apply wc_true; rfl) | (apply wc_false; rfl) | (apply a_dec_t; rfl; (· first | assumption | omega)) | (apply a_dec_f; rfl; (· first | assumption | omega)) | (apply a_dec_t; rfl; (· first | (simp; done) | (simp; omega))) | (apply a_dec_f; rfl; (· first | (simp; done) | (simp; omega))) | (apply Hd.run; rfl; rfl) | (apply Hd.skip; rfl; rfl; rfl; rfl) | (apply Hd.skipu; rfl; rfl; rfl) | (apply ah_gt; rfl; rfl; (· first | assumption | omega)) | (apply ah_gf; rfl; rfl; (· first | assumption | omega)) )))
      try (refine wc_cond rfl (fun h => absurd h (by simp [hx])) (fun _ => ?_); (repeat (first | fail )))
      refine wc_own0 qIt 4 ?_
      refine wc_loop' (fun k st => ∃ (l1 : List It4) (bk1 : Bool) (o1 o2 : List It4) (ao1 ao2 : Option Addr) (n1 c1 c2 : Nat) (RR : List Ro), k = l1.length ∧ st = ⟨[(0, .pointer (some ⟨q, 0, none⟩)), (3, .pointer (some ⟨bx, 0, none⟩)), (6, .slice ao2 o1.length c2)], [Qc q fr mo ao1 n1 c1 (sumS l1) bk1, .own qIt 4 ao2 o1.length c2 (its o1), .ob bx (.cells #[.int .i64 xn, .int .i64 xs, .int .i64 xt, .bool xk] qIt (0, 0))], RR⟩
          ∧ SR RR 4 ao1 n1 c1 (its l1) ∧ allS l1 ∧ putG fr mo xs l1 bk1 = (o2, l', bk') ∧ out = o1 ++ o2 ∧ o1.length + l1.length = l.length)
        ⟨l, _, [], out, ao, none, n, c, 0, R, rfl, rfl, hS, ha, hG, rfl, by simp⟩ (wk_mk (by (repeat (first | apply wkf_nil | (apply wkf_cons; rfl))); done) (by (repeat (first | apply sub_nil | (apply sub_cons; (· (repeat (first | apply sel_here | apply sel_there)))))); done) (by first | exact fun _ h => h | (intro r hr; cases hr; done) | (simp; done) | exact fun _ h => List.mem_append_left _ h | (intro r hr; simp [hr]; done))) ?_
      rintro k st ⟨l1, bk1, o1, o2, ao1, ao2, n1, c1, c2, RR, rfl, rfl, hS1, ha1, hG1, hout, hlen1⟩
      have hn1 : n1 = l1.length := by rw [← hS1.len]; exact its_len l1
      have hp1 := sumS_pos ha1.1
      have ha12 := ha1.2.1
      have key : (∃ y t, l1 = y :: t) ∧ (fr ≤ (n1 : Int) ∨ ((n1 : Int) < fr ∧ mo < sumS l1 + xs)) ∨ ((n1 : Int) < fr ∧ sumS l1 + xs ≤ mo) := by
        cases l1 with
        | nil => refine .inr ⟨?_, ?_⟩ <;> simp [sumS] at hn1 ⊢ <;> omega
        | cons y t =>
          by_cases h : fr ≤ (n1 : Int)
          · exact .inl ⟨⟨y, t, rfl⟩, .inl h⟩
          · by_cases h' : mo < sumS (y :: t) + xs
            · exact .inl ⟨⟨y, t, rfl⟩, .inr ⟨by omega, h'⟩⟩
            · exact .inr ⟨by omega, by omega⟩
      rcases key with ⟨⟨y, t, rfl⟩, hc⟩ | ⟨hc1, hc2⟩
      · have hgo : fr ≤ (t.length : Int) + 1 ∨ mo < sumS (y :: t) + xs := by simp at hn1; omega
        rw [putG_go hgo] at hG1
        simp only [Prod.mk.injEq] at hG1
        obtain ⟨g1, g2⟩ := hG1
        rcases hc with hc | ⟨hc, hc'⟩
        all_goals
          (repeat (first | apply wc_seq ))
          (refine wc_quiet mixed (by kernel_rfl) ?_; (repeat (first | ((first | (apply wo_v; rfl) | (apply hd_v; rfl) ); (· first | (apply pv_ev; rfl) | (apply pv_fld; rfl) | (apply g_load; first | (apply pv_ld; rfl; (· (repeat (first | apply sel_here | apply sel_there))); rfl) ) | (apply g_pick; first | (apply pv_pick_t; rfl; rfl) | (apply pv_pick_f; rfl; rfl)) | (apply g_bin; first | (apply a_add; rfl; rfl; infer_instance; omega) ) | (apply g_bi; first | (apply pv_len_sl; rfl) ) )) | apply Hd.nil | apply wc_region | apply wc_block | apply wc_skip | (apply wc_true; rfl) | (apply wc_false; rfl) | (apply a_dec_t; rfl; (· first | assumption | omega)) | (apply Hd.run; rfl; rfl) | (apply Hd.skip; rfl; rfl; rfl; rfl) | (apply Hd.skipu; rfl; rfl; rfl) | (apply ah_gt; rfl; rfl; (· first | assumption | omega)) | (apply ah_gf; rfl; rfl; (· first | assumption | omega)) )))
          (refine wo_call (qDrop q fr mo ao1 n1 c1 y t bk1 RR hS1 ha1) rfl (by (repeat (first | apply sub_nil )); done) (by first | exact fun _ h => h | (intro r hr; cases hr; done) | (simp; done) | exact fun _ h => List.mem_append_left _ h | (intro r hr; simp [hr]; done)) rfl ?_; rintro v L' R' ⟨ao3, n3, c3, ao4, m, c4, rfl, rfl, rfl, hS3⟩ H' hH RR hR; simp only [List.cons_append, List.nil_append] at hH hR; subst hH; have hR := hR.symm; subst hR)
          (repeat (first | ((first | (apply wo_v; rfl) ); (· first | (apply pv_ev; rfl) | (apply g_bi; first | fail ) )) ))
          have hl2 : (y :: tw t).length + (dw t).length = (y :: t).length := by have := congrArg List.length (twdw t); simp at this ⊢; omega
          refine wo_app rfl rfl (by (repeat (first | apply sel_here | apply sel_there)); done) (by (repeat (first | apply sel_here | apply sel_there)); done) (by unfold maxLen; simp at hl2 hlen1; omega) (by simp at hl2 hlen1; omega) rfl (fun ao5 c5 => ?_)
          (repeat (first | ((first | (apply wo_v; rfl) ); (· first | (apply pv_ev; rfl) )) | apply wo_nil ))
          rw [← its_app, show o1.length + ((tw t).length + 1) = (o1 ++ (y :: tw t)).length by simp]
          exact loop_end ⟨dw t, _, o1 ++ (y :: tw t), (putG fr mo xs (dw t) (bk1 || (dw t).isEmpty)).1, ao3, ao5, n3, c3, c5, _, rfl, rfl, hS3, ha1.tail.dw, by rw [← g2], by rw [hout, ← g1, List.append_assoc], by simp at hl2 hlen1 ⊢; omega⟩ (by have := dw_len t; simp; omega) (wk_mk (by (repeat (first | apply wkf_nil | (apply wkf_cons; rfl))); done) (by (repeat (first | apply sub_nil | (apply sub_cons; (· (repeat (first | apply sel_here | apply sel_there)))))); done) (by first | exact fun _ h => h | (intro r hr; cases hr; done) | (simp; done) | exact fun _ h => List.mem_append_left _ h | (intro r hr; simp [hr]; done)))
      · have hG2 : putG fr mo xs l1 bk1 = ([], l1, bk1) := by
          cases l1 with
          | nil => exact putG_nil
          | cons y t => exact putG_end (by simp at hn1; omega)
        rw [hG2] at hG1
        simp only [Prod.mk.injEq] at hG1
        obtain ⟨rfl, rfl, rfl⟩ := hG1
        rw [List.append_nil] at hout
        subst hout
        by_cases hb : bk1 = true ∧ xk = false
        · rw [if_pos hb]
          obtain ⟨rfl, hk2⟩ := hb
          refine wc_still (by (repeat (first | apply sel_here | apply sel_there)); done) (fun R2 hS2 => ?_)
          (repeat (first | apply wc_seq ))
          (refine wc_quiet mixed (by kernel_rfl) ?_; (repeat (first | ((first | (apply wo_v; rfl) | (apply hd_v; rfl) ); (· first | (apply pv_ev; rfl) | (apply pv_fld; rfl) | (apply g_load; first | (apply pv_ld; rfl; (· (repeat (first | apply sel_here | apply sel_there))); rfl) ) | (apply g_pick; first | (apply pv_pick_t; rfl; rfl) | (apply pv_pick_f; rfl; rfl)) | (apply g_bin; first | (apply a_add; rfl; rfl; infer_instance; omega) ) | (apply g_bi; first | (apply pv_len_sl; rfl) ) | (apply g_un; first | (apply pv_not_t; rfl) | (apply pv_not_f; rfl) | (apply a_not_d; rfl) | (apply pv_not; rfl) ) )) | apply wo_nil | apply Hd.nil | apply wc_seq | apply wc_region | (apply wc_exit; rfl) | apply wc_ret | (apply wc_true; rfl) | (apply wc_false; rfl) | (apply a_dec_t; rfl; (· first | assumption | omega)) | (apply a_dec_f; rfl; (· first | assumption | omega)) | (apply wo_run; rfl; rfl) | (apply Hd.run; rfl; rfl) | (apply Hd.skip; rfl; rfl; rfl; rfl) | (apply Hd.skipu; rfl; rfl; rfl) | (apply ah_gt; rfl; rfl; (· first | assumption | omega)) | (apply ah_gf; rfl; rfl; (· first | assumption | omega)) )))
          exact ret2 rfl rfl rfl ⟨ao1, n1, c1, ao2, out.length, c2, rfl, rfl, hS1.mono (fun _ h => List.mem_append_right _ h), hS2⟩ (by (repeat (first | apply sub_nil )); done) (by first | exact fun _ h => h | (intro r hr; cases hr; done) | (simp; done) | exact fun _ h => List.mem_append_left _ h | (intro r hr; simp [hr]; done))
        · rw [if_neg hb]
          have hb2 : bk1 = false ∨ (bk1 = true ∧ xk = true) := by cases bk1 <;> cases xk <;> simp at hb ⊢
          obtain ⟨ao1', hcut, hfull⟩ := hS1.full
          have hle1 := hS1.le
          have e1 : n1 + 1 = (l1 ++ [(xn, xs, xt, xk)]).length := by simp [hn1]
          have e2 : its l1 ++ [itr (xn, xs, xt, xk)] = its (l1 ++ [(xn, xs, xt, xk)]) := by simp [its]
          have e3 : sumS l1 + xs = sumS (l1 ++ [(xn, xs, xt, xk)]) := by rw [sumS_app]; simp [sumS]
          clear hb
          rcases hb2 with rfl | ⟨rfl, hk2⟩
          all_goals
            refine wc_still (by (repeat (first | apply sel_here | apply sel_there)); done) (fun R2 hS2 => ?_)
            (repeat (first | apply wc_seq ))
            (refine wc_quiet mixed (by kernel_rfl) ?_; (repeat (first | ((first | (apply wo_v; rfl) | (apply hd_v; rfl) ); (· first | (apply pv_ev; rfl) | (apply pv_fld; rfl) | (apply g_load; first | (apply pv_ld; rfl; (· (repeat (first | apply sel_here | apply sel_there))); rfl) ) | (apply g_pick; first | (apply pv_pick_t; rfl; rfl) | (apply pv_pick_f; rfl; rfl)) | (apply g_bin; first | (apply a_add; rfl; rfl; infer_instance; omega) ) | (apply g_bi; first | (apply pv_len_sl; rfl) ) | (apply g_un; first | (apply pv_not_t; rfl) | (apply pv_not_f; rfl) | (apply a_not_d; rfl) | (apply pv_not; rfl) ) )) | apply wo_nil | apply Hd.nil | apply wc_seq | apply wc_region | apply wc_skip | (apply wc_exit; rfl) | (apply wc_true; rfl) | (apply wc_false; rfl) | (apply a_dec_t; rfl; (· first | assumption | omega)) | (apply a_dec_f; rfl; (· first | assumption | omega)) | (apply a_dec_t; rfl; (· first | (simp; done) | (simp; omega))) | (apply a_dec_f; rfl; (· first | (simp; done) | (simp; omega))) | (apply wo_run; rfl; rfl) | (apply wo_skip; rfl; rfl; rfl; rfl) | (apply wo_st; rfl; rfl; rfl; (· (repeat (first | apply sel_here ))); (· (repeat (first | apply SetAt.here | apply SetAt.there))); rfl) | (apply Hd.run; rfl; rfl) | (apply Hd.skip; rfl; rfl; rfl; rfl) | (apply Hd.skipu; rfl; rfl; rfl) | (apply ah_gt; rfl; rfl; (· first | assumption | omega)) | (apply ah_gf; rfl; rfl; (· first | assumption | omega)) )))
            (refine wc_regMT 19 [0] (aslL [(17, [0]), (18, [0])]) (tblAq qIt 4 n1 (itr (xn, xs, xt, xk)) (its (l1 ++ [(xn, xs, xt, xk)])) 17) ([Qc q fr mo ao1 n1 c1 (sumS l1) false, .ob bx (.cells #[.int .i64 xn, .int .i64 xs, .int .i64 xt, .bool xk] qIt (0, 0))]) (fm [(0, [])]) mixed (by kernel_rfl) (by kernel_rfl) (by decide) (aslL_ok (by decide)) (by (repeat (first | (apply prm_cons; (· (repeat (first | apply sel_here )))) | apply List.Perm.nil )); done) ?_; (repeat (first | (apply HdM.val; rfl; rfl; (· first | apply gok_none ); (· first | (apply pv_ev; rfl) | (apply pv_fld; rfl) | (apply g_load; first | (apply pv_ld; rfl; (· (repeat (first | apply sel_here ))); rfl) ) | (apply g_bi; first | (apply pv_len_sl; rfl) ) )) )))
            refine HdM.val rfl rfl (by first | exact gok_none | exact gok_run rfl rfl) (pv_cut (l := 0) (h := n1) (m := n1) inferInstance rfl (.himax rfl rfl rfl rfl (by omega) (by omega))) ?_
            rw [hcut, Nat.sub_zero]
            (repeat (first | (apply HdM.val; rfl; rfl; (· first | apply gok_none ); (· first | (apply pv_ev; rfl) | (apply g_load; first | (apply pv_lda; rfl; (· (repeat (first | apply sel_here | apply sel_there))); (· (repeat (first | apply Cut.here0 | apply Cut.here )))) ) )) ))
            (refine hm_eff (cs := [0]) rfl (by decide) rfl rfl (by first | exact gok_none | exact gok_run rfl rfl) (fun a ha => outc_mono (outc_bsl (by (repeat (first | apply Rws'.nil | (apply Rws'.agg; rfl; rfl; rfl))); done) rfl rfl rfl a ha) (fun v M h => Exists.elim h fun b h => ⟨[M], Exists.intro b (And.intro h.1 (congrArg (fun x => [x]) h.2)), rfl, by simp⟩)) (⟨_, _, Exists.intro 0 (And.intro rfl rfl), rfl⟩) ?_; rintro v Ms ⟨b, rfl, rfl⟩ _; simp only [setls, setl, reduceIte, Nat.reduceEqDiff]; (repeat (first | (apply HdM.val; rfl; rfl; (· first | fail ); (· first | fail )) )))
            (refine hm_eff (cs := [0]) rfl (by decide) rfl rfl (by first | exact gok_none | exact gok_run rfl rfl) (fun a ha => outc_mono (outc_app_full rfl rfl (hfull.mono (fun _ h => List.mem_append_right _ h)) (by omega) (by unfold maxLen; omega) (by omega) a ha) (by rw [e2]; exact fun v M h => Exists.elim h fun b h => Exists.elim h fun c h => ⟨[M], Exists.intro b (Exists.intro c (And.intro h.1 (congrArg (fun x => [x]) h.2))), rfl, by simp⟩)) (⟨_, _, Exists.intro none (Exists.intro 0 (And.intro rfl rfl)), rfl⟩) ?_; rintro v Ms ⟨ao5, c5, rfl, rfl⟩ _; simp only [setls, setl, reduceIte, Nat.reduceEqDiff]; (repeat (first | fail )))
            (refine HdM.nil ?_; intro H hH; simp only [Hp, fm, look, setl, List.flatMap_cons, List.flatMap_nil, reduceIte, Nat.reduceEqDiff, Option.getD_some, List.append_nil, List.cons_append, List.nil_append] at hH; subst hH; (repeat (first | ((first | (apply wo_v; rfl) ); (· first | (apply pv_ev; rfl) | (apply pv_fld; rfl) )) | apply wo_nil | apply wc_seq | (apply wo_st; rfl; rfl; rfl; (· (repeat (first | apply sel_here ))); (· (repeat (first | apply SetAt.here | apply SetAt.there))); rfl) )))
            refine wc_still (by (repeat (first | apply sel_here | apply sel_there)); done) (fun R3 hS3 => ?_)
            (refine wc_tail 9 mixed (by kernel_rfl) ?_; (repeat (first | ((first | (apply wo_v; rfl) | (apply hd_v; rfl) ); (· first | (apply pv_ev; rfl) | (apply pv_fld; rfl) | (apply g_load; first | (apply pv_ld; rfl; (· (repeat (first | apply sel_here | apply sel_there))); rfl) ) | (apply g_bin; first | (apply a_add; rfl; rfl; infer_instance; omega) ) )) | apply wo_nil | apply Hd.nil | apply wc_seq | apply wc_region | apply wc_ret | (apply wo_st; rfl; rfl; rfl; (· (repeat (first | apply sel_here ))); (· (repeat (first | apply SetAt.here | apply SetAt.there))); rfl) )))
            rw [e3]
            exact ret2 rfl rfl rfl ⟨ao5, n1 + 1, c5, ao2, out.length, c2, rfl, rfl, hS3, hS2.mono (fun _ h => List.mem_append_right _ h)⟩ (by (repeat (first | apply sub_nil )); done) (by first | exact fun _ h => h | (intro r hr; cases hr; done) | (simp; done) | exact fun _ h => List.mem_append_left _ h | (intro r hr; simp [hr]; done))
end Go.Proofs.Ytlhlidmhlhodiaa

/-
  Package queue: the other functions.
-/
namespace Go.Proofs.Ytlhlidmhlhodiaa
set_option linter.unusedSimpArgs false
set_option linter.unusedVariables false
open Go.RowKit
attribute [local irreducible] Pv WO WC Fn
set_option maxRecDepth 100000

theorem qLen (q : Nat) (fr mo : Int) (ao : Option Addr) (n c : Nat) (sz : Int) (bk : Bool) (R : List Ro) :
    Fn Try.prog 110 #[.pointer (some ⟨q, 0, none⟩)] [Qc q fr mo ao n c sz bk] R (fun v L' R' => v = .int .i64 n ∧ L' = [Qc q fr mo ao n c sz bk] ∧ R' = R) := by
  refine fn_intro Try.func110 rfl Try.ntmps110 rfl (fun E => ?_)
  (repeat (first | ((first | (apply wo_v; rfl) ); (· first | (apply pv_ev; rfl) | (apply pv_fld; rfl) | (apply g_load; first | (apply pv_ld; rfl; (· (repeat (first | apply sel_here ))); rfl) ) | (apply g_bi; first | (apply pv_len_sl; rfl) ) )) | apply wo_nil | apply wc_seq | apply wc_region | apply wc_ret ))
  exact ret1 rfl rfl ⟨rfl, rfl, rfl⟩ (by (repeat (first | apply sub_nil )); done) (by first | exact fun _ h => h | (intro r hr; cases hr; done) | (simp; done) | exact fun _ h => List.mem_append_left _ h | (intro r hr; simp [hr]; done))
theorem qSize (q : Nat) (fr mo : Int) (ao : Option Addr) (n c : Nat) (sz : Int) (bk : Bool) (R : List Ro) :
    Fn Try.prog 111 #[.pointer (some ⟨q, 0, none⟩)] [Qc q fr mo ao n c sz bk] R (fun v L' R' => v = .int .i64 sz ∧ L' = [Qc q fr mo ao n c sz bk] ∧ R' = R) := by
  refine fn_intro Try.func111 rfl Try.ntmps111 rfl (fun E => ?_)
  (repeat (first | ((first | (apply wo_v; rfl) ); (· first | (apply pv_ev; rfl) | (apply pv_fld; rfl) | (apply g_load; first | (apply pv_ld; rfl; (· (repeat (first | apply sel_here ))); rfl) ) )) | apply wo_nil | apply wc_seq | apply wc_region | apply wc_ret ))
  exact ret1 rfl rfl ⟨rfl, rfl, rfl⟩ (by (repeat (first | apply sub_nil )); done) (by first | exact fun _ h => h | (intro r hr; cases hr; done) | (simp; done) | exact fun _ h => List.mem_append_left _ h | (intro r hr; simp [hr]; done))
def itz : It4 := (0, 0, 0, false)
theorem qFirst (q : Nat) (fr mo : Int) (ao : Option Addr) (n c : Nat) (sz : Int) (bk : Bool) (l : List It4) (R : List Ro) (hS : SR R 4 ao n c (its l)) :
    Fn Try.prog 115 #[.pointer (some ⟨q, 0, none⟩)] [Qc q fr mo ao n c sz bk] R
      (fun v L' R' => v = .tuple #[.agg (itr ((l.head?).getD itz)).toArray, .bool (decide (l ≠ []))] ∧ L' = [Qc q fr mo ao n c sz bk] ∧ R' = R) := by
  have hn : n = l.length := by rw [← hS.len]; exact its_len l
  cases l with
  | nil =>
    simp only [List.length_nil] at hn
    subst hn
    refine fn_intro Try.func115 rfl Try.ntmps115 rfl (fun E => ?_)
    (repeat (first | ((first | (apply wo_v; rfl) ); (· first | (apply pv_ev; rfl) | (apply pv_fld; rfl) | (apply g_load; first | (apply pv_ld; rfl; (· (repeat (first | apply sel_here | apply sel_there))); rfl) ) | (apply g_bi; first | (apply pv_len_sl; rfl) ) | (apply g_build; apply pv_build; (· (repeat (first | apply Bld.nil )))) )) | apply wo_nil | apply wc_seq | apply wc_region | apply wc_ret | (apply wc_true; rfl) | (apply wo_alloc; rfl; intro bx) | (apply wo_sta; rfl; rfl; rfl; rfl; (· (repeat (first | apply sel_here ))); (· (repeat (first | apply LayAt.nil | apply LayAt.here ))); rfl) ))
    exact retv rfl (by (repeat (first | apply RV.nil | (apply RV.tmp; rfl) | (apply RV.agg; rfl; (· (repeat (first | apply sel_here ))); infer_instance; (· (repeat (first | apply Cut.here0 | apply Cut.here )))) )); done) (⟨by simp [itz, outV], rfl, rfl⟩) (by (repeat (first | apply sub_nil | (apply sub_cons; (· (repeat (first | apply sel_here | apply sel_there)))))); done) (by first | exact fun _ h => h | (intro r hr; cases hr; done) | (simp; done) | exact fun _ h => List.mem_append_left _ h | (intro r hr; simp [hr]; done))
  | cons x t =>
    simp only [List.length_cons] at hn
    obtain ⟨b, o, rfl, hm⟩ := hS.pos (by omega)
    have hr : (its (x :: t))[0]? = some [.int .i64 x.1, .int .i64 x.2.1, .int .i64 x.2.2.1, .bool x.2.2.2] := rfl
    refine fn_intro Try.func115 rfl Try.ntmps115 rfl (fun E => ?_)
    (repeat (first | ((first | (apply wo_v; rfl) ); (· first | (apply pv_ev; rfl) | (apply pv_fld; rfl) | (apply g_load; first | (apply pv_ld; rfl; (· (repeat (first | apply sel_here | apply sel_there))); rfl) | (apply pv_lda; rfl; (· (repeat (first | apply sel_there))); (· (repeat (first | fail )))) | (apply pv_ld_owna; rfl; (· (repeat (first | apply sel_there))); (· assumption)) | (apply pv_ld_roa; rfl; (· (first | assumption )); (· assumption))) | (apply g_bi; first | (apply pv_len_sl; rfl) ) | (apply g_idx; first | (apply pv_idx; rfl; rfl; omega) | (apply (pv_idx_e 0); rfl; rfl; rfl; omega) ) )) | apply wo_nil | apply wc_seq | apply wc_region | apply wc_skip | apply wc_ret | (apply wc_true; rfl) | (apply wc_false; rfl) | (apply a_dec_t; rfl; (· first | assumption | omega)) | (apply a_dec_f; rfl; (· first | assumption | omega)) | (apply wo_alloc; rfl; intro bx) | (apply wo_sta; rfl; rfl; rfl; rfl; (· (repeat (first | apply sel_here ))); (· (repeat (first | apply LayAt.nil | apply LayAt.here ))); rfl) ))
    exact retv rfl (by (repeat (first | apply RV.nil | (apply RV.tmp; rfl) | (apply RV.agg; rfl; (· (repeat (first | apply sel_here ))); infer_instance; (· (repeat (first | apply Cut.here0 | apply Cut.here )))) )); done) (⟨by simp [outV], rfl, rfl⟩) (by (repeat (first | apply sub_nil | (apply sub_cons; (· (repeat (first | apply sel_here | apply sel_there)))))); done) (by first | exact fun _ h => h | (intro r hr; cases hr; done) | (simp; done) | exact fun _ h => List.mem_append_left _ h | (intro r hr; simp [hr]; done))
theorem qPop (q : Nat) (fr mo : Int) (ao : Option Addr) (n c : Nat) (bk : Bool) (l : List It4) (R : List Ro) (hS : SR R 4 ao n c (its l)) (ha : allS l) :
    Fn Try.prog 116 #[.pointer (some ⟨q, 0, none⟩)] [Qc q fr mo ao n c (sumS l) bk] R
      (fun v L' R' => ∃ ao' n' c', v = .tuple #[.agg (itr ((l.head?).getD itz)).toArray, .bool (decide (l ≠ []))] ∧ L' = [Qc q fr mo ao' n' c' (sumS l.tail) bk] ∧ SR R' 4 ao' n' c' (its l.tail)) := by
  have hn : n = l.length := by rw [← hS.len]; exact its_len l
  cases l with
  | nil =>
    simp only [List.length_nil] at hn
    subst hn
    refine fn_intro Try.func116 rfl Try.ntmps116 rfl (fun E => ?_)
    (repeat (first | ((first | (apply wo_v; rfl) ); (· first | (apply pv_ev; rfl) | (apply pv_fld; rfl) | (apply g_load; first | (apply pv_ld; rfl; (· (repeat (first | apply sel_here | apply sel_there))); rfl) ) | (apply g_bi; first | (apply pv_len_sl; rfl) ) | (apply g_build; apply pv_build; (· (repeat (first | apply Bld.nil )))) )) | apply wo_nil | apply wc_seq | apply wc_region | apply wc_ret | (apply wc_true; rfl) | (apply wo_alloc; rfl; intro bx) | (apply wo_sta; rfl; rfl; rfl; rfl; (· (repeat (first | apply sel_here ))); (· (repeat (first | apply LayAt.nil | apply LayAt.here ))); rfl) ))
    exact retv rfl (by (repeat (first | apply RV.nil | (apply RV.tmp; rfl) | (apply RV.agg; rfl; (· (repeat (first | apply sel_here ))); infer_instance; (· (repeat (first | apply Cut.here0 | apply Cut.here )))) )); done) (⟨ao, 0, c, by simp [itz, outV], rfl, hS⟩) (by (repeat (first | apply sub_nil | (apply sub_cons; (· (repeat (first | apply sel_here | apply sel_there)))))); done) (by first | exact fun _ h => h | (intro r hr; cases hr; done) | (simp; done) | exact fun _ h => List.mem_append_left _ h | (intro r hr; simp [hr]; done))
  | cons x t =>
    simp only [List.length_cons] at hn
    have hs : sumS (x :: t) = x.2.1 + sumS t := rfl
    have h1 := ha.1 x (.head _)
    have h2 := sumS_pos ha.tail.1
    have h3 := ha.2.1
    have e1 : sumS (x :: t) - x.2.1 = sumS t := by omega
    have h0 : ¬ ((n : Int) = 0) := by omega
    refine fn_intro Try.func116 rfl Try.ntmps116 rfl (fun E => ?_)
    (repeat (first | ((first | (apply wo_v; rfl) ); (· first | (apply pv_ev; rfl) | (apply pv_fld; rfl) | (apply g_load; first | (apply pv_ld; rfl; (· (repeat (first | apply sel_here | apply sel_there))); rfl) ) | (apply g_bi; first | (apply pv_len_sl; rfl) ) )) | apply wo_nil | apply wc_seq | apply wc_region | apply wc_skip | (apply wc_true; rfl) | (apply wc_false; rfl) | (apply a_dec_t; rfl; (· first | assumption | omega)) | (apply a_dec_f; rfl; (· first | assumption | omega)) | (apply wo_alloc; rfl; intro bx) ))
    (refine wo_call (qShift q fr mo ao n c x t (sumS (x :: t)) bk R hS (by omega)) rfl (by (repeat (first | apply sub_nil | (apply sub_cons; (· (repeat (first | apply sel_here | apply sel_there)))))); done) (by first | exact fun _ h => h | (intro r hr; cases hr; done) | (simp; done) | exact fun _ h => List.mem_append_left _ h | (intro r hr; simp [hr]; done)) rfl ?_; rintro v L' R' ⟨rfl, ao1, rfl, hS1⟩ H' hH RR hR; simp only [List.cons_append, List.nil_append] at hH hR; subst hH; have hR := hR.symm; subst hR)
    (repeat (first | ((first | (apply wo_v; rfl) ); (· first | (apply pv_ev; rfl) )) | apply wo_nil | apply wc_ret | (apply wo_sta; rfl; rfl; rfl; rfl; (· (repeat (first | apply sel_here | apply sel_there))); (· (repeat (first | apply LayAt.nil | apply LayAt.here ))); rfl) ))
    rw [e1]
    exact retv rfl (by (repeat (first | apply RV.nil | (apply RV.tmp; rfl) | (apply RV.agg; rfl; (· (repeat (first | apply sel_here ))); infer_instance; (· (repeat (first | apply Cut.here0 | apply Cut.here )))) )); done) (⟨ao1, n - 1, c - 1, by simp [outV], rfl, hS1⟩) (by (repeat (first | apply sub_nil | (apply sub_cons; (· (repeat (first | apply sel_here | apply sel_there)))))); done) (by first | exact fun _ h => h | (intro r hr; cases hr; done) | (simp; done) | exact fun _ h => List.mem_append_left _ h | (intro r hr; simp [hr]; done))
theorem qNew (fr mo : Int) (hb : 1 ≤ fr ∧ fr ≤ 1024 ∧ 1 ≤ mo ∧ mo ≤ 16777216) :
    Fn Try.prog 109 #[.int .i64 fr, .int .i64 mo] [] [] (fun v L' R' => ∃ q, v = .tuple #[.pointer (some ⟨q, 0, none⟩), .int .i64 0] ∧ L' = [Qc q fr mo none 0 0 0 true] ∧ R' = []) := by
  refine fn_intro Try.func109 rfl Try.ntmps109 rfl (fun E => ?_)
  (repeat (first | ((first | (apply wo_v; rfl) ); (· first | (apply pv_ev; rfl) | (apply g_pick; first | (apply pv_pick_t; rfl; rfl) | (apply pv_pick_f; rfl; rfl)) | (apply g_build; apply pv_build; (· (repeat (first | apply Bld.nil | (apply Bld.one; rfl; rfl; (· (repeat (first | apply SetAt.here | apply SetAt.there)))) )))) )) | apply wo_nil | apply wc_seq | apply wc_region | apply wc_skip | apply wc_ret | (apply wc_true; rfl) | (apply wc_false; rfl) | (apply a_dec_t; rfl; (· first | assumption | omega)) | (apply a_dec_f; rfl; (· first | assumption | omega)) | (apply wo_run; rfl; rfl) | (apply wo_skip; rfl; rfl; rfl; rfl) | (apply wo_skip_u; rfl; rfl; rfl) | (apply a_gt; rfl; rfl; (· first | assumption | omega)) | (apply a_gf; rfl; rfl; (· first | assumption | omega)) | (apply wo_box1; rfl; rfl; rfl; intro bx) | (apply wo_boxa; rfl; rfl; intro bx) ))
  exact ret2 rfl rfl rfl ⟨_, rfl, rfl, rfl⟩ (by (repeat (first | apply sub_nil )); done) (by first | exact fun _ h => h | (intro r hr; cases hr; done) | (simp; done) | exact fun _ h => List.mem_append_left _ h | (intro r hr; simp [hr]; done))
end Go.Proofs.Ytlhlidmhlhodiaa

/-
  Drawn regions with classes, where some operations read what no other operation changes ('stable readers').
-/
namespace Go.Proofs.Ytlhlidmhlhodiaa
set_option linter.unusedSimpArgs false
set_option linter.unusedVariables false
open Go.RowKit
def PVF (P : Program) (E : Env) (B0 : List It) (ro : List Ro) (Fm : List It → Prop) (o : Oper) (a : Act) (v : Value) : Prop := ∀ L F w, Fm L → Sat E.B E.S E.T (B0 ++ (L ++ F)) ro w → (execOp a.eval o).run P w = .ok (.value v) w
section
variable (P : Program) (E : Env) (B0 : List It) (ro : List Ro) (ops : Array Oper) (cls : Nat → List Nat) (tbl : Nat → List (List It) → Value → List (List It) → Prop) (Fm : List It → Prop)
def safeF (i : Nat) (o : Oper) (a : Act) (m : Nat → List It) : Prop :=
  if Region.wanted o (yielded ops a.tmps) then
    if cls i = [] then ∃ v, PVF P E B0 ro Fm o a v
    else (∃ v Ms, tbl i ((cls i).map m) v Ms ∧ Ms.length = (cls i).length) ∧ Outc P E B0 ro o a ((cls i).map m).flatten (fun v M => ∃ Ms, tbl i ((cls i).map m) v Ms ∧ Ms.length = (cls i).length ∧ M = Ms.flatten)
  else True
def outF (i : Nat) (o : Oper) (a : Act) (m : Nat → List It) (v : Value) (m' : Nat → List It) : Prop :=
  if Region.wanted o (yielded ops a.tmps) then
    if cls i = [] then PVF P E B0 ro Fm o a v ∧ m' = m
    else ∃ Ms, tbl i ((cls i).map m) v Ms ∧ Ms.length = (cls i).length ∧ m' = updL m (cls i) Ms
  else v = undef ∧ m' = m
def rOpF (i : Nat) (K : Act → (Nat → List It) → Prop) (a : Act) (m : Nat → List It) : Prop :=
  ∀ o, ops[i]? = some o → safeF P E B0 ro ops cls tbl Fm i o a m ∧ ∀ v m', outF P E B0 ro ops cls tbl Fm i o a m v m' → K (a.put o.dst v) m'
end
section
variable {P : Program} {E : Env} {B0 : List It} {ro : List Ro} {ops : Array Oper} {cls : Nat → List Nat} {tbl : Nat → List (List It) → Value → List (List It) → Prop} {Fm : List It → Prop} {md : Region.Mode}
theorem safe_outF {i : Nat} {o : Oper} {a : Act} {m : Nat → List It} (h : safeF P E B0 ro ops cls tbl Fm i o a m) : ∃ v m', outF P E B0 ro ops cls tbl Fm i o a m v m' := by
  unfold safeF at h
  unfold outF
  split at h
  · rename_i hw
    simp only [hw, if_true]
    split at h
    · rename_i hc
      simp only [hc, if_true]
      obtain ⟨v, hv⟩ := h
      exact ⟨v, m, hv, rfl⟩
    · rename_i hc
      simp only [hc, if_false]
      obtain ⟨⟨v, Ms, hv, hl⟩, _⟩ := h
      exact ⟨v, _, Ms, hv, hl, rfl⟩
  · rename_i hw
    simp only [hw]
    exact ⟨undef, m, rfl, rfl⟩
theorem rOpF_mono {i : Nat} {a : Act} {m : Nat → List It} {K K' : Act → (Nat → List It) → Prop} (h : ∀ a m, K a m → K' a m) (hh : rOpF P E B0 ro ops cls tbl Fm i K a m) : rOpF P E B0 ro ops cls tbl Fm i K' a m :=
  fun o ho => ⟨(hh o ho).1, fun v m' hv => h _ _ ((hh o ho).2 v m' hv)⟩
section
variable {i j : Nat} {oi oj : Oper} {a : Act} {m m' : Nat → List It} {u v : Value} {dst : Option Tmp}
theorem safe_putF (hs : ∀ cs b, oj.op ≠ .select cs b) (h : ∀ d, dst = some d → d ∉ oj.looksAt ops) : safeF P E B0 ro ops cls tbl Fm j oj (a.put dst v) m = safeF P E B0 ro ops cls tbl Fm j oj a m := by
  unfold safeF PVF Outc
  rw [wanted_put oj a dst v h, execOp_put oj hs a dst v h]
theorem out_putF (hs : ∀ cs b, oj.op ≠ .select cs b) (h : ∀ d, dst = some d → d ∉ oj.looksAt ops) : outF P E B0 ro ops cls tbl Fm j oj (a.put dst v) m u m' = outF P E B0 ro ops cls tbl Fm j oj a m u m' := by
  unfold outF PVF
  rw [wanted_put oj a dst v h, execOp_put oj hs a dst v h]
theorem out_otherF (h : outF P E B0 ro ops cls tbl Fm i oi a m v m') {ds : List Nat} (hc : ∀ d ∈ ds, d ∉ cls i) : ds.map m' = ds.map m := by
  unfold outF at h
  split at h
  · split at h
    · rw [h.2]
    · obtain ⟨Ms, _, _, rfl⟩ := h
      exact map_updL hc
  · rw [h.2]
theorem safe_otherF (h : outF P E B0 ro ops cls tbl Fm i oi a m v m') (hc : ∀ d ∈ cls j, d ∉ cls i) : safeF P E B0 ro ops cls tbl Fm j oj a m' = safeF P E B0 ro ops cls tbl Fm j oj a m := by
  unfold safeF
  rw [out_otherF h hc]
theorem out_diamondF {m1 m2 : Nat → List It} (hc : ∀ d ∈ cls j, d ∉ cls i) (h1 : outF P E B0 ro ops cls tbl Fm j oj a m u m1) (h2 : outF P E B0 ro ops cls tbl Fm i oi a m1 v m2) :
    ∃ m3, outF P E B0 ro ops cls tbl Fm i oi a m v m3 ∧ outF P E B0 ro ops cls tbl Fm j oj a m3 u m2 := by
  have key : (cls i).map m1 = (cls i).map m := out_otherF h1 (fun d hd hd' => hc d hd' hd)
  unfold outF at h1 h2 ⊢
  by_cases wi : Region.wanted oi (yielded ops a.tmps) = true
  · simp only [wi, if_true] at h2 ⊢
    by_cases wj : Region.wanted oj (yielded ops a.tmps) = true
    · simp only [wj, if_true] at h1 ⊢
      by_cases ci : cls i = []
      · simp only [ci, if_true] at h2 ⊢
        obtain ⟨h2, rfl⟩ := h2
        exact ⟨m, ⟨h2, rfl⟩, h1⟩
      · simp only [ci, if_false] at h2 ⊢
        rw [key] at h2
        obtain ⟨Ms, h2, hl, rfl⟩ := h2
        refine ⟨updL m (cls i) Ms, ⟨Ms, h2, hl, rfl⟩, ?_⟩
        by_cases cj : cls j = []
        · simp only [cj, if_true] at h1 ⊢
          exact ⟨h1.1, by rw [h1.2]⟩
        · simp only [cj, if_false] at h1 ⊢
          obtain ⟨Ns, h1, hl', rfl⟩ := h1
          refine ⟨Ns, by rw [map_updL hc]; exact h1, hl', ?_⟩
          exact (updL_comm (cls j) Ns (cls i) Ms m hc).symm
    · simp only [wj] at h1 ⊢
      obtain ⟨rfl, rfl⟩ := h1
      exact ⟨m2, h2, rfl, rfl⟩
  · simp only [wi] at h2 ⊢
    obtain ⟨rfl, rfl⟩ := h2
    exact ⟨m, ⟨rfl, rfl⟩, h1⟩
theorem rOp_swapF {K : Act → (Nat → List It) → Prop} (hi : ops[i]? = some oi) (hj : ops[j]? = some oj) (hap : oi.apart ops oj = true) (hc : ∀ d ∈ cls j, d ∉ cls i) (hsi : ∀ cs b, oi.op ≠ .select cs b) (hsj : ∀ cs b, oj.op ≠ .select cs b)
    (H : rOpF P E B0 ro ops cls tbl Fm i (rOpF P E B0 ro ops cls tbl Fm j K) a m) : rOpF P E B0 ro ops cls tbl Fm j (rOpF P E B0 ro ops cls tbl Fm i K) a m := by
  obtain ⟨h1, h2, h3⟩ := Oper.apart_spec hap
  obtain ⟨Hs, Ho⟩ := H oi hi
  intro o ho
  obtain rfl : oj = o := by rw [hj] at ho; exact Option.some.inj ho
  refine ⟨?_, fun u m1 hu o ho => ?_⟩
  · obtain ⟨v, m1, hv⟩ := safe_outF Hs
    have := (Ho v m1 hv oj hj).1
    rw [safe_putF hsj h1, safe_otherF hv hc] at this
    exact this
  · obtain rfl : oi = o := by rw [hi] at ho; exact Option.some.inj ho
    refine ⟨?_, fun v m2 hv => ?_⟩
    · rw [safe_putF hsi h3, safe_otherF hu (fun d hd hd' => hc d hd' hd)]
      exact Hs
    · rw [out_putF hsi h3] at hv
      obtain ⟨m3, h4, h5⟩ := out_diamondF hc hu hv
      have := (Ho v m3 h4 oj hj).2 u m2 (by rw [out_putF hsj h1]; exact h5)
      rw [← Act.put_comm a v u h2]
      exact this
end
def wpAnyF (P : Program) (E : Env) (B0 : List It) (ro : List Ro) (ops : Array Oper) (cls : Nat → List Nat) (tbl : Nat → List (List It) → Value → List (List It) → Prop) (Fm : List It → Prop) (md : Region.Mode) (Q : Act → (Nat → List It) → Prop) : Nat → Array Bool → Act → (Nat → List It) → Prop
  | 0, listed, a, m => Region.ready md ops listed = [] ∧ Q a m
  | fuel + 1, listed, a, m => (Region.ready md ops listed = [] → Q a m) ∧ ∀ i ∈ Region.ready md ops listed, rOpF P E B0 ro ops cls tbl Fm i (wpAnyF P E B0 ro ops cls tbl Fm md Q fuel (listed.setIfInBounds i true)) a m
def wpF (P : Program) (E : Env) (B0 : List It) (ro : List Ro) (ops : Array Oper) (cls : Nat → List Nat) (tbl : Nat → List (List It) → Value → List (List It) → Prop) (Fm : List It → Prop) (Q : Act → (Nat → List It) → Prop) : List Oper → Nat → Act → (Nat → List It) → Prop
  | [], _, a, m => Q a m
  | o :: l, k, a, m => rOpF P E B0 ro ops cls tbl Fm k (wpF P E B0 ro ops cls tbl Fm Q l (k + 1)) a m
theorem out_rdrF {i : Nat} {oi : Oper} {a : Act} {m m' : Nat → List It} {v : Value} (hr : Rdr tbl i) (h : outF P E B0 ro ops cls tbl Fm i oi a m v m') : m' = m := by
  unfold outF at h
  split at h
  · split at h
    · exact h.2
    · obtain ⟨Ms, h1, _, rfl⟩ := h
      rw [hr _ _ _ h1]; exact updL_self _ _
  · exact h.2
theorem rOp_swapFR {i j : Nat} {oi oj : Oper} {a : Act} {m : Nat → List It} {K : Act → (Nat → List It) → Prop} (hi : ops[i]? = some oi) (hj : ops[j]? = some oj) (hap : oi.apart ops oj = true) (ri : Rdr tbl i) (rj : Rdr tbl j) (hsi : ∀ cs b, oi.op ≠ .select cs b) (hsj : ∀ cs b, oj.op ≠ .select cs b)
    (H : rOpF P E B0 ro ops cls tbl Fm i (rOpF P E B0 ro ops cls tbl Fm j K) a m) : rOpF P E B0 ro ops cls tbl Fm j (rOpF P E B0 ro ops cls tbl Fm i K) a m := by
  obtain ⟨h1, h2, h3⟩ := Oper.apart_spec hap
  obtain ⟨Hs, Ho⟩ := H oi hi
  intro o ho
  obtain rfl : oj = o := by rw [hj] at ho; exact Option.some.inj ho
  refine ⟨?_, fun u m1 hu o ho => ?_⟩
  · obtain ⟨v, m1, hv⟩ := safe_outF Hs
    have := (Ho v m1 hv oj hj).1
    rw [safe_putF hsj h1, out_rdrF ri hv] at this
    exact this
  · obtain rfl : oi = o := by rw [hi] at ho; exact Option.some.inj ho
    obtain rfl := out_rdrF rj hu
    refine ⟨?_, fun v m2 hv => ?_⟩
    · rw [safe_putF hsi h3]
      exact Hs
    · rw [out_putF hsi h3] at hv
      obtain rfl := out_rdrF ri hv
      have := (Ho v _ hv oj hj).2 u _ (by rw [out_putF hsj h1]; exact hu)
      rw [← Act.put_comm a v u h2]
      exact this
theorem wpAnyF_first {Q : Act → (Nat → List It) → Prop} {i : Nat} {oi : Oper} (hi : ops[i]? = some oi) (hsel : ∀ (j : Nat) (o : Oper) cs b, ops[j]? = some o → o.op ≠ .select cs b)
    (hcls : ∀ (j : Nat) (listed : Array Bool), j ≠ i → Closed md ops listed → (∀ k, k < i → listed.getD k true = true) → listed.getD i true = false → j ∈ Region.ready md ops listed → (∀ d ∈ cls j, d ∉ cls i) ∨ (Rdr tbl i ∧ Rdr tbl j)) :
    ∀ (fuel : Nat) (listed : Array Bool) (a : Act) (m : Nat → List It), Closed md ops listed → (∀ k, k < i → listed.getD k true = true) →
      (∀ j oj, ops[j]? = some oj → j ≠ i → listed.getD j true = false → (∀ e ∈ oj.after, Region.binds md e = true → e.on ≠ i) → oi.apart ops oj = true) →
      i ∈ Region.ready md ops listed → rOpF P E B0 ro ops cls tbl Fm i (wpAnyF P E B0 ro ops cls tbl Fm md Q fuel (listed.setIfInBounds i true)) a m → wpAnyF P E B0 ro ops cls tbl Fm md Q (fuel + 1) listed a m := by
  intro fuel
  induction fuel with
  | zero =>
    intro listed a m _ _ _ hr H
    refine ⟨fun h => (by rw [h] at hr; cases hr), fun j hj => ?_⟩
    by_cases hji : j = i
    · subst hji; exact H
    · have := ready_mono hj hji
      obtain ⟨hs, ho⟩ := H oi hi
      obtain ⟨v, m', hv⟩ := safe_outF hs
      rw [(ho v m' hv).1] at this
      cases this
  | succ fuel ih =>
    intro listed a m hcl hpre hfree hr H
    refine ⟨fun h => (by rw [h] at hr; cases hr), fun j hj => ?_⟩
    by_cases hji : j = i
    · subst hji; exact H
    · obtain ⟨hjun, oj, hoj, hall⟩ := mem_ready.1 hj
      have hnot : ∀ e ∈ oj.after, Region.binds md e = true → e.on ≠ i := fun e he hb heq => by
        have h1 := hall e he hb
        have h0 := (mem_ready.1 hr).1
        rw [heq] at h1
        rcases Nat.lt_or_ge i listed.size with h' | h'
        · simp [h'] at h0 h1; rw [h0] at h1; cases h1
        · simp [Array.getElem?_eq_none h'] at h1
      have h1 := rOpF_mono (fun a' m' h => h.2 j (ready_mono hj hji)) H
      have f1 := hfree j oj hoj hji hjun hnot
      have f2 := hcls j listed hji hcl hpre (mem_ready.1 hr).1 hj
      have h2 := f2.elim (fun f2 => rOp_swapF hi hoj f1 f2 (fun cs b => hsel i oi cs b hi) (fun cs b => hsel j oj cs b hoj) h1) (fun f2 => rOp_swapFR hi hoj f1 f2.1 f2.2 (fun cs b => hsel i oi cs b hi) (fun cs b => hsel j oj cs b hoj) h1)
      refine rOpF_mono (fun a' m' h3 => ih (listed.setIfInBounds j true) a' m' (hcl.set hj) (fun k hk => ?_) (fun k ok hk hki hun hno => ?_) (ready_mono hr (Ne.symm hji)) ?_) h2
      · by_cases hjk : j = k
        · subst hjk
          rcases Nat.lt_or_ge j listed.size with h2 | h2
          · simp [h2]
          · simp [h2]
        · rw [getD_set_ne true hjk]; exact hpre k hk
      · refine hfree k ok hk hki ?_ hno
        by_cases hjk : j = k
        · subst hjk; exact hjun
        · rw [getD_set_ne true hjk] at hun; exact hun
      · rw [Array.setIfInBounds_comm _ _ hji]
        exact h3
theorem wpAnyF_lex {Q : Act → (Nat → List It) → Prop} {rd : List Nat} (hs : Region.noSelect ops = true) (hcl : clsR md ops cls rd = true) (hrd : ∀ k ∈ rd, Rdr tbl k) : ∀ (l : List Oper) (k : Nat) (listed : Array Bool) (a : Act) (m : Nat → List It), Closed md ops listed → ops.size = listed.size → (∀ j, l[j]? = ops[k + j]?) → (∀ j, j < k → listed.getD j true = true) →
    Region.lexFrom md ops l.length k listed = true → wpF P E B0 ro ops cls tbl Fm Q l k a m → wpAnyF P E B0 ro ops cls tbl Fm md Q l.length listed a m
  | [], _, _, _, _, _, _, _, _, hB, h => ⟨by simpa [Region.lexFrom] using hB, h⟩
  | o :: l, k, listed, a, m, hC, hz, hl, hk, hB, h => by
    have h0 : ops[k]? = some o := by simpa using (hl 0).symm
    simp only [List.length_cons, Region.lexFrom, Bool.and_eq_true] at hB
    obtain ⟨⟨hr, hf⟩, hB'⟩ := hB
    have hr' : k ∈ Region.ready md ops listed := by simpa using hr
    refine wpAnyF_first h0 (Region.noSelect_spec hs) (fun j ld hjk hCl hpre hun hj => ?_) l.length listed a m hC hk (fun j oj hj hjk hun hno => Region.free_spec h0 hf j oj hj hjk hun hno) hr' ?_
    · obtain ⟨hjun, oj, hoj, hall⟩ := mem_ready.1 hj
      have hle := lex_lt hpre hjun
      have hks : k < ld.size := by
        rcases Nat.lt_or_ge k ld.size with h' | h'
        · exact h'
        · simp [Array.getD, Nat.not_lt.2 h'] at hun
      rcases clsR_spec hcl hoj (show k < j by omega) with h1 | ⟨h1, h2⟩ | h1
      · exact .inl h1
      · exact .inr ⟨hrd _ h1, hrd _ h2⟩
      · exfalso
        obtain ⟨o2, h2, e, he, hb, hne⟩ := reach_not hCl hun hks _ _ h1
        rw [hoj] at h2
        obtain rfl := Option.some.inj h2
        rw [hall e he hb] at hne; cases hne
    · refine rOpF_mono (fun a' m' h' => wpAnyF_lex hs hcl hrd l (k + 1) _ a' m' (hC.set hr') (by simpa using hz) (fun j => by have := hl (j + 1); simpa [Nat.add_assoc, Nat.add_comm 1 j] using this) (fun j hj => ?_) hB' h') h
      rcases Nat.lt_or_ge j k with h1 | h1
      · rw [getD_set_ne true (show k ≠ j by omega)]; exact hk j h1
      · obtain rfl : j = k := by omega
        rcases Nat.lt_or_ge j listed.size with h2 | h2
        · simp [h2]
        · simp [h2]
theorem wpAny_of_F {all : List Nat} (hn : all.Nodup) {c0 : Nat} (hc0 : c0 ∈ all) (hFam : ∀ i (m : Nat → List It) v Ms, Fm (m c0) → tbl i ((cls i).map m) v Ms → Ms.length = (cls i).length → Fm (updL m (cls i) Ms c0)) (hcs : ∀ i, (cls i).Nodup ∧ ∀ c ∈ cls i, c ∈ all) {Q : Act → (Nat → List It) → Prop} {Q' : Exit → Act → World → Prop} (hQ : ∀ a m w, Sat E.B E.S E.T (Hp B0 all m) ro w → Q a m → Q' .normal a w) :
    ∀ (fuel : Nat) (listed : Array Bool) (a : Act) (m : Nat → List It) (w : World), Fm (m c0) → Sat E.B E.S E.T (Hp B0 all m) ro w → wpAnyF P E B0 ro ops cls tbl Fm md Q fuel listed a m → wpAny P md ops Q' fuel listed a w
  | 0, _, _, _, _, _, hw, h => ⟨h.1, hQ _ _ _ hw h.2⟩
  | fuel + 1, listed, a, m, w, hF, hw, h => ⟨fun h0 => hQ _ _ _ hw (h.1 h0), fun i hi => by
    obtain ⟨_, o, ho, _⟩ := mem_ready.1 hi
    obtain ⟨hs, hk⟩ := h.2 i hi o ho
    have ih := wpAny_of_F hn hc0 hFam hcs hQ fuel (listed.setIfInBounds i true)
    unfold wpOp
    simp only [ho]
    unfold safeF at hs
    unfold outF at hk
    split
    · rename_i hwt
      simp only [hwt, if_true] at hs hk
      refine .inl ?_
      by_cases hc : cls i = []
      · simp only [hc, if_true] at hs hk
        obtain ⟨v, hv⟩ := hs
        unfold Oper.wp
        have hpF : (Hp B0 all m).Perm (B0 ++ (m c0 ++ (all.filter fun c => ![c0].contains c).flatMap m)) := by
          unfold Hp
          have := flat_split hn (cs := [c0]) (by simp) (fun c hc => by rcases List.mem_singleton.1 hc with rfl; exact hc0) m
          simp only [List.map_cons, List.map_nil, List.flatten_cons, List.flatten_nil, List.append_nil] at this
          exact this.append_left B0
        rw [hv _ _ w hF (hw.perm hpF)]
        exact ih _ _ _ hF hw (hk v m ⟨hv, rfl⟩)
      · simp only [hc, if_false] at hs hk
        have hp1 : (Hp B0 all m).Perm (((cls i).map m).flatten ++ (B0 ++ (all.filter fun c => !(cls i).contains c).flatMap m)) := by
          unfold Hp
          exact ((flat_split hn (hcs i).1 (hcs i).2 m).append_left B0).trans (by rw [← List.append_assoc, ← List.append_assoc]; exact List.perm_append_comm.append_right _)
        have hp2 : ∀ Ms : List (List It), Ms.length = (cls i).length → (Ms.flatten ++ (B0 ++ (all.filter fun c => !(cls i).contains c).flatMap m)).Perm (Hp B0 all (updL m (cls i) Ms)) := fun Ms hl => by
          unfold Hp
          refine List.Perm.trans ?_ ((flat_split hn (hcs i).1 (hcs i).2 (updL m (cls i) Ms)).append_left B0).symm
          rw [flat_updL (hcs i).1 hl, rest_same, ← List.append_assoc, ← List.append_assoc]
          exact List.perm_append_comm.append_right _
        have h1 := hs.2 _ w (hw.perm hp1)
        unfold Oper.wp
        generalize (execOp a.eval o).run P w = r at h1
        cases r with
        | ok n w' =>
          cases n <;> simp only [outcU] at h1 <;> simp only [Oper.upon] <;> first | exact h1.elim | skip
          case value u => obtain ⟨M, ⟨Ms, h2, hl, rfl⟩, h3⟩ := h1; exact ih _ _ _ (hFam i m _ Ms hF h2 hl) (h3.perm (hp2 Ms hl)) (hk _ _ ⟨Ms, h2, hl, rfl⟩)
          case skip => obtain ⟨M, ⟨Ms, h2, hl, rfl⟩, h3⟩ := h1; exact ih _ _ _ (hFam i m _ Ms hF h2 hl) (h3.perm (hp2 Ms hl)) (hk _ _ ⟨Ms, h2, hl, rfl⟩)
          case enter f args =>
            obtain ⟨rfl, h2⟩ := h1
            refine h2.mono fun e w'' ⟨v, M, he, ⟨Ms, h3, hl, hM⟩, h4⟩ => ?_
            subst he; subst hM
            exact ih _ _ _ (hFam i m _ Ms hF h3 hl) (h4.perm (hp2 Ms hl)) (hk _ _ ⟨Ms, h3, hl, rfl⟩)
        | halt x w' => simp only [outcU] at h1
    · rename_i hwt
      simp only [hwt] at hk
      exact ih _ _ _ hF hw (hk undef m ⟨rfl, rfl⟩)⟩
theorem HdM.soundF {N : Nat} {K : List (Nat × Value) → (Nat → List It) → Prop} {k : Nat} {l : List Oper} {fr : List (Nat × Value)} {m : Nat → List It} (h : HdM P N E B0 ro ops cls tbl K k l fr m) (hw0 : ∃ L F w, Fm L ∧ Sat E.B E.S E.T (B0 ++ (L ++ F)) ro w) {Q : Act → (Nat → List It) → Prop}
    (hQ : ∀ fr a m, K fr m → Holds N fr a → Q a m) : (∀ j, j < l.length → l[j]? = ops[k + j]?) → ∀ a, Holds N fr a → wpF P E B0 ro ops cls tbl Fm Q l k a m := by
  have shift : ∀ {o : Oper} {l : List Oper} {k : Nat}, (∀ j, j < (o :: l).length → (o :: l)[j]? = ops[k + j]?) → ops[k]? = some o ∧ ∀ j, j < l.length → l[j]? = ops[k + 1 + j]? := fun h =>
    ⟨by simpa using (h 0 (by simp)).symm, fun j hj => by have := h (j + 1) (by simp; omega); simpa [Nat.add_assoc, Nat.add_comm 1 j] using this⟩
  induction h with
  | nil h => exact fun _ a ha => hQ _ a _ h ha
  | @val k fr m op ty pos af rest d v g hd hc hg hv _ ih =>
    intro hl a ha o ho
    obtain ⟨h0, hl'⟩ := shift hl
    rw [h0] at ho
    obtain rfl := Option.some.inj ho
    have hpv : PVF P E B0 ro Fm ⟨some d, op, ty, pos, af, g⟩ a v := fun L F w _ hw => hv N E a w _ _ _ _ _ ⟨ha, hw.left⟩
    unfold safeF outF
    simp only [hg.wanted ha, if_true, hc]
    refine ⟨⟨v, hpv⟩, fun v' m' ⟨hv', hm'⟩ => ?_⟩
    subst hm'
    obtain ⟨L, F, w, hL, hw⟩ := hw0
    have e : v' = v := by
      have h1 := hpv L F w hL hw
      have h2 := hv' L F w hL hw
      rw [h1] at h2
      injection h2 with h2 _
      injection h2 with h2
      exact h2.symm
    subst e
    exact ih hl' _ (ha.put (Nat.le_of_ble_eq_true hd) _)
  | @eff k fr m dst op ty pos af rest cs Ls g hc hne hm hd hg ho hin _ ih =>
    intro hl a ha o ho'
    obtain ⟨h0, hl'⟩ := shift hl
    rw [h0] at ho'
    obtain rfl := Option.some.inj ho'
    unfold safeF outF
    simp only [hg.wanted ha, if_true, hc, hne, if_false, hm]
    refine ⟨⟨hin, ho a ha⟩, fun v' m' ⟨Ms, hv', hlen, hm'⟩ => ?_⟩
    subst hm'
    exact ih v' Ms hv' hlen hl' _ (ha.putF hd _)
  | @skip k fr m d op ty pos af rest j s b c hg hs hb hd _ ih =>
    intro hl a ha o ho
    obtain ⟨h0, hl'⟩ := shift hl
    rw [h0] at ho
    obtain rfl := Option.some.inj ho
    have hwt : ¬ Region.wanted (⟨some d, op, ty, pos, af, some (j, c)⟩ : Oper) (yielded ops a.tmps) = true := by simp [Region.wanted, yielded_of ha hg hs]; simpa using hb
    unfold safeF outF
    simp only [hwt]
    refine ⟨trivial, fun v' m' ⟨hv', hm'⟩ => ?_⟩
    subst hv'; subst hm'
    exact ih hl' _ (ha.put (Nat.le_of_ble_eq_true hd) _)
  | @skipu k fr m d op ty pos af rest j s c hg hs hd _ ih =>
    intro hl a ha o ho
    obtain ⟨h0, hl'⟩ := shift hl
    rw [h0] at ho
    obtain rfl := Option.some.inj ho
    have hwt : ¬ Region.wanted (⟨some d, op, ty, pos, af, some (j, c)⟩ : Oper) (yielded ops a.tmps) = true := by simp [Region.wanted, yielded_undef ha hg hs]
    unfold safeF outF
    simp only [hwt]
    refine ⟨trivial, fun v' m' ⟨hv', hm'⟩ => ?_⟩
    subst hv'; subst hm'
    exact ih hl' _ (ha.put (Nat.le_of_ble_eq_true hd) _)
  | @dec k fr m rest s p _ hs _ _ iht ihf =>
    intro hl a ha
    by_cases hp : p
    · exact iht hp hl a (ha.same hs (by simp [hp]))
    · exact ihf hp hl a (ha.same hs (by simp [hp]))
inductive HdF (P : Program) (N : Nat) (E : Env) (B0 : List It) (ro : List Ro) (ops : Array Oper) (cls : Nat → List Nat) (tbl : Nat → List (List It) → Value → List (List It) → Prop) (Fm : List It → Prop) (K : List (Nat × Value) → (Nat → List It) → Prop) : Nat → List Oper → List (Nat × Value) → (Nat → List It) → Prop
  | done {k rest fr m} (h : HdM P N E B0 ro ops cls tbl K k rest fr m) : HdF P N E B0 ro ops cls tbl Fm K k rest fr m
  | val {k fr m op ty pos af rest d v} (hd : Nat.ble (d + 1) N = true) (hc : cls k = []) (hv : Pv P ⟨fr, B0, ro⟩ op v) (h : HdF P N E B0 ro ops cls tbl Fm K (k + 1) rest ((d, v) :: fr) m) :
      HdF P N E B0 ro ops cls tbl Fm K k (⟨some d, op, ty, pos, af, none⟩ :: rest) fr m
  | vst {k fr m op ty pos af rest d v} (hd : Nat.ble (d + 1) N = true) (hc : cls k = []) (hv : ∀ L, Fm L → Pv P ⟨fr, L ++ B0, ro⟩ op v) (h : HdF P N E B0 ro ops cls tbl Fm K (k + 1) rest ((d, v) :: fr) m) :
      HdF P N E B0 ro ops cls tbl Fm K k (⟨some d, op, ty, pos, af, none⟩ :: rest) fr m
  | eff {k fr m dst op ty pos af rest cs Ls g} (hc : cls k = cs) (hne : cs ≠ []) (hm : cs.map m = Ls) (hd : dstOk dst N = true) (hg : GOk ops fr g) (ho : ∀ a, Holds N fr a → Outc P E B0 ro ⟨dst, op, ty, pos, af, g⟩ a Ls.flatten (fun v M => ∃ Ms, tbl k Ls v Ms ∧ Ms.length = cs.length ∧ M = Ms.flatten))
      (hin : ∃ v Ms, tbl k Ls v Ms ∧ Ms.length = cs.length) (h : ∀ v Ms, tbl k Ls v Ms → Ms.length = cs.length → HdF P N E B0 ro ops cls tbl Fm K (k + 1) rest (putF dst v fr) (updL m cs Ms)) : HdF P N E B0 ro ops cls tbl Fm K k (⟨dst, op, ty, pos, af, g⟩ :: rest) fr m
theorem HdF.sound {N : Nat} {K : List (Nat × Value) → (Nat → List It) → Prop} {k : Nat} {l : List Oper} {fr : List (Nat × Value)} {m : Nat → List It} (h : HdF P N E B0 ro ops cls tbl Fm K k l fr m) (hw0 : ∃ L F w, Fm L ∧ Sat E.B E.S E.T (B0 ++ (L ++ F)) ro w) {Q : Act → (Nat → List It) → Prop}
    (hQ : ∀ fr a m, K fr m → Holds N fr a → Q a m) : (∀ j, j < l.length → l[j]? = ops[k + j]?) → ∀ a, Holds N fr a → wpF P E B0 ro ops cls tbl Fm Q l k a m := by
  have shift : ∀ {o : Oper} {l : List Oper} {k : Nat}, (∀ j, j < (o :: l).length → (o :: l)[j]? = ops[k + j]?) → ops[k]? = some o ∧ ∀ j, j < l.length → l[j]? = ops[k + 1 + j]? := fun h =>
    ⟨by simpa using (h 0 (by simp)).symm, fun j hj => by have := h (j + 1) (by simp; omega); simpa [Nat.add_assoc, Nat.add_comm 1 j] using this⟩
  have hgn : ∀ {fr : List (Nat × Value)}, GOk ops fr none := fun {fr} => gok_none
  have core : ∀ {k : Nat} {fr : List (Nat × Value)} {m : Nat → List It} {op : Op} {ty : TypeId} {pos : String} {af : Array Edge} {rest : List Oper} {d : Tmp} {v : Value}, Nat.ble (d + 1) N = true → cls k = [] → (∀ a, Holds N fr a → PVF P E B0 ro Fm ⟨some d, op, ty, pos, af, none⟩ a v) →
      ((∀ j, j < rest.length → rest[j]? = ops[k + 1 + j]?) → ∀ a, Holds N ((d, v) :: fr) a → wpF P E B0 ro ops cls tbl Fm Q rest (k + 1) a m) →
      (∀ j, j < ((⟨some d, op, ty, pos, af, none⟩ : Oper) :: rest).length → ((⟨some d, op, ty, pos, af, none⟩ : Oper) :: rest)[j]? = ops[k + j]?) → ∀ a, Holds N fr a → wpF P E B0 ro ops cls tbl Fm Q (⟨some d, op, ty, pos, af, none⟩ :: rest) k a m := by
    intro k fr m op ty pos af rest d v hd hc hpv' ih hl a ha o ho
    obtain ⟨h0, hl'⟩ := shift hl
    rw [h0] at ho
    obtain rfl := Option.some.inj ho
    have hpv := hpv' a ha
    unfold safeF outF
    simp only [hgn.wanted ha, if_true, hc]
    refine ⟨⟨v, hpv⟩, fun v' m' ⟨hv', hm'⟩ => ?_⟩
    subst hm'
    obtain ⟨L, F, w, hL, hw⟩ := hw0
    have e : v' = v := by
      have h1 := hpv L F w hL hw
      have h2 := hv' L F w hL hw
      rw [h1] at h2
      injection h2 with h2 _
      injection h2 with h2
      exact h2.symm
    subst e
    exact ih hl' _ (ha.put (Nat.le_of_ble_eq_true hd) _)
  induction h with
  | done h => exact h.soundF hw0 hQ
  | @val k fr m op ty pos af rest d v hd hc hv _ ih =>
    exact core hd hc (fun a ha L F w _ hw => hv N E a w _ _ _ _ _ ⟨ha, hw.left⟩) ih
  | @vst k fr m op ty pos af rest d v hd hc hv _ ih =>
    exact core hd hc (fun a ha L F w hL hw => hv L hL N E a w _ _ _ _ _ ⟨ha, (hw.perm (List.append_assoc B0 L F ▸ (List.perm_append_comm (l₁ := B0) (l₂ := L)).append_right F)).left⟩) ih
  | @eff k fr m dst op ty pos af rest cs Ls g hc hne hm hd hg ho hin _ ih =>
    intro hl a ha o ho'
    obtain ⟨h0, hl'⟩ := shift hl
    rw [h0] at ho'
    obtain rfl := Option.some.inj ho'
    unfold safeF outF
    simp only [hg.wanted ha, if_true, hc, hne, if_false, hm]
    refine ⟨⟨hin, ho a ha⟩, fun v' m' ⟨Ms, hv', hlen, hm'⟩ => ?_⟩
    subst hm'
    exact ih v' Ms hv' hlen hl' _ (ha.putF hd _)
theorem wc_regF (Fm : List It → Prop) (c0 : Nat) {N : Nat} {fr : List (Nat × Value)} {hp : List It} {Kn Kr : St → Prop} {Kx : List (Nat × (St → Prop))} {id : Nat} {l : List Oper} (rd all : List Nat) (cls : Nat → List Nat) (tbl : Nat → List (List It) → Value → List (List It) → Prop) (B0 : List It) (m0 : Nat → List It)
    (hm : P.follows .mixedOrders = true) (hB : Region.lexB .any l.toArray = true) (hcl : clsR .any l.toArray cls rd = true) (hrd : ∀ k ∈ rd, Rdr tbl k) (hn : all.Nodup) (hc0 : c0 ∈ all) (hFam : ∀ i (m : Nat → List It) v Ms, Fm (m c0) → tbl i ((cls i).map m) v Ms → Ms.length = (cls i).length → Fm (updL m (cls i) Ms c0)) (hF0 : Fm (m0 c0)) (hcs : ∀ i, (cls i).Nodup ∧ ∀ c ∈ cls i, c ∈ all) (hperm : hp.Perm (Hp B0 all m0))
    (h : HdF P N E B0 ro l.toArray cls tbl Fm (fun fr m => ∀ H, H = Hp B0 all m → Kn ⟨fr, H, ro⟩) 0 l fr m0) : WC P N E (.region id l.toArray true) ⟨fr, hp, ro⟩ Kn Kx Kr := fun a w ok => by
  simp only [Region.lexB, Bool.and_eq_true] at hB
  have hw : Sat E.B E.S E.T (Hp B0 all m0) ro _ := (ok.s.drawn (w.drawn + 1)).perm hperm
  refine wp_region_any hm (wpAny_of_F (ro := ro) (tbl := tbl) (Q := fun a m => ∃ fr', Kn ⟨fr', Hp B0 all m, ro⟩ ∧ Holds N fr' a) hn hc0 hFam hcs (fun a m w' hs ⟨fr', hk, ha⟩ => ⟨_, hk, ha, hs⟩) _ _ a m0 _ hF0 hw ?_)
  have hpF : (Hp B0 all m0).Perm (B0 ++ (m0 c0 ++ (all.filter fun c => ![c0].contains c).flatMap m0)) := by
    unfold Hp
    have := flat_split hn (cs := [c0]) (by simp) (fun c hc => by rcases List.mem_singleton.1 hc with rfl; exact hc0) m0
    simp only [List.map_cons, List.map_nil, List.flatten_cons, List.flatten_nil, List.append_nil] at this
    exact this.append_left B0
  have := wpAnyF_lex (P := P) (E := E) (B0 := B0) (ro := ro) (tbl := tbl) (md := .any) hB.1 hcl hrd l 0 (Array.replicate l.toArray.size false) a m0 closed0 (by simp) (by simp) (fun j hj => by omega) (by simpa using hB.2)
    (h.sound (Q := fun a m => ∃ fr', Kn ⟨fr', Hp B0 all m, ro⟩ ∧ Holds N fr' a) ⟨_, _, _, hF0, hw.perm hpF⟩ (fun fr a m hk ha => ⟨fr, hk _ rfl, ha⟩) (fun j _ => by simp) a ok.h)
  simpa using this
end
theorem Fn.wide {P : Program} {f : FuncId} {args : Array Value} {L : List It} {R : List Ro} {Post : Value → List It → List Ro → Prop} (h : Fn P f args L R Post) (X : List It) : Fn P f args (L ++ X) R Post := fun w hw => by
  have hs : ∀ b ∈ feet L, b ∈ feet (L ++ X) := fun b hb => by
    obtain ⟨x, h1, h2⟩ := mem_feet.1 hb
    exact mem_feet.2 ⟨x, List.mem_append_left _ h1, h2⟩
  have hl := hw.left
  refine (h w ⟨Frm.refl _ _, hl.sat, fun x hx b hb => .inl (mem_feet.2 ⟨x, hx, hb⟩), hl.dis, hl.rds, hl.rod, fun r hr => .inr (.inl (List.mem_map.2 ⟨r, hr, rfl⟩))⟩).mono fun e w' ⟨v, L', R', he, hP, hS⟩ => ⟨v, L', R', he, hP, ⟨hS.frm.os, hS.frm.tape, hS.frm.output, hS.frm.size, fun k hk hn => hS.frm.block k hk (fun hm => hn (hs k hm))⟩, hS.sat, fun x hx b hb => (hS.own x hx b hb).imp (hs b) id, hS.dis, hS.rds, hS.rod, fun r hr => (hS.rok r hr).imp (hs _) id⟩
end Go.Proofs.Ytlhlidmhlhodiaa

/-
  Package egress, with two flows of pictures.
-/
namespace Go.Proofs.Ytlhlidmhlhodiaa
set_option linter.unusedSimpArgs false
set_option linter.unusedVariables false
open Go.RowKit
instance : TZV Try.prog 243 (.agg #[.pointer none, .bool false]) := ⟨by kernel_rfl⟩
attribute [local irreducible] Pv WO WC Fn
set_option maxRecDepth 100000

abbrev eoI (e mf gs : Nat) (cr sn : Int) : It := .ob e (.cells #[.int .i64 5, .int .i64 1000, .int .i64 100, .int .i64 40, .int .i64 3, .map (some mf), .pointer (some ⟨gs, 0, none⟩), .int .i64 cr, .int .i64 sn] 240 (0, 0))
abbrev flV (q : Nat) : Value := .agg #[.pointer (some ⟨q, 0, none⟩), .bool true]
abbrev flN (b : Nat) : It := .ob b (.cells #[.pointer none, .bool false] 243 (0, 0))
abbrev flB (b q : Nat) : It := .ob b (.cells #[.pointer (some ⟨q, 0, none⟩), .bool true] 243 (0, 0))
theorem eNew : Fn Try.prog 50 #[.agg #[.int .i64 5, .int .i64 1000, .int .i64 100, .int .i64 40, .int .i64 3]] [] [] (fun v L' R' => ∃ e mf gs ms ml, v = .tuple #[.pointer (some ⟨e, 0, none⟩), .int .i64 0] ∧ L' = [eoI e mf gs 0 0, .ob mf (mob .i64 []), scI gs ms ml 0 false, .ob ms (mob .i64 []), .ob ml (mob .i64 [])] ∧ R' = []) := by
  have qc : Fn Try.prog 106 #[.agg #[.int .i64 5, .int .i64 1000, .int .i64 100, .int .i64 40, .int .i64 3]] [] [] (fun v L' R' => v = .int .i64 0 ∧ L' = [] ∧ R' = []) := by
    refine fn_intro Try.func106 rfl Try.ntmps106 rfl (fun E => ?_)
    (repeat (first | ((first | (apply wo_v; rfl) ); (· first | (apply pv_ev; rfl) | (apply pv_fld; rfl) | (apply g_load; first | (apply pv_ld; rfl; (· (repeat (first | apply sel_here ))); rfl) ) | (apply g_pick; first | (apply pv_pick_t; rfl; rfl) | (apply pv_pick_f; rfl; rfl)) )) | apply wo_nil | apply wc_seq | apply wc_region | apply wc_block | apply wc_skip | apply wc_ret | (apply wc_true; rfl) | (apply wc_false; rfl) | (apply wo_run; rfl; rfl) | (apply wo_box1; rfl; rfl; rfl; intro bx) | (apply wo_boxa; rfl; rfl; intro bx) ))
    exact retv rfl (by (repeat (first | apply RV.nil | (apply RV.tmp; rfl) )); done) (⟨rfl, rfl, rfl⟩) (by (repeat (first | apply sub_nil )); done) (by first | exact fun _ h => h | (intro r hr; cases hr; done) | (simp; done) | exact fun _ h => List.mem_append_left _ h | (intro r hr; simp [hr]; done))
  refine fn_intro Try.func50 rfl Try.ntmps50 rfl (fun E => ?_)
  (repeat (first | ((first | (apply wo_v; rfl) ); (· first | (apply pv_ev; rfl) | (apply g_load; first | (apply pv_lda; rfl; (· (repeat (first | apply sel_here ))); (· (repeat (first | apply Cut.here0 | apply Cut.here )))) ) )) | apply wo_nil | apply wc_seq | apply wc_region | (apply wo_box1; rfl; rfl; rfl; intro bx) | (apply wo_boxa; rfl; rfl; intro bx) ))
  (refine wo_call (qc) rfl (by (repeat (first | apply sub_nil )); done) (by first | exact fun _ h => h | (intro r hr; cases hr; done) | (simp; done) | exact fun _ h => List.mem_append_left _ h | (intro r hr; simp [hr]; done)) rfl ?_; rintro v L' R' ⟨rfl, rfl, rfl⟩ H' hH RR hR; simp only [List.cons_append, List.nil_append] at hH hR; subst hH; have hR := hR.symm; subst hR)
  (repeat (first | ((first | (apply wo_v; rfl) ); (· first | (apply pv_ev; rfl) | (apply pv_fld; rfl) | (apply g_load; first | (apply pv_ld; rfl; (· (repeat (first | apply sel_here ))); rfl) ) )) | apply wo_nil | apply wc_seq | apply wc_region | apply wc_skip | (apply wc_true; rfl) | (apply wc_false; rfl) ))
  (refine wo_call (dNew) rfl (by (repeat (first | apply sub_nil )); done) (by first | exact fun _ h => h | (intro r hr; cases hr; done) | (simp; done) | exact fun _ h => List.mem_append_left _ h | (intro r hr; simp [hr]; done)) rfl ?_; rintro v L' R' ⟨gs, ms, ml, rfl, rfl, rfl⟩ H' hH RR hR; simp only [List.cons_append, List.nil_append] at hH hR; subst hH; have hR := hR.symm; subst hR)
  (repeat (first | ((first | (apply wo_v; rfl) ); (· first | (apply pv_ev; rfl) | (apply g_load; first | (apply pv_lda; rfl; (· (repeat (first | apply sel_here | apply sel_there))); (· (repeat (first | apply Cut.here0 | apply Cut.here )))) ) )) | apply wo_nil | apply wc_seq | apply wc_region | apply wc_skip | (apply wc_true; rfl) | (apply wc_false; rfl) ))
  refine wo_mmake .i64 rfl (fun mf => ?_)
  (repeat (first | ((first | (apply wo_v; rfl) ); (· first | (apply pv_ev; rfl) | (apply g_build; apply pv_build; (· (repeat (first | apply Bld.nil | (apply Bld.one; rfl; rfl; (· (repeat (first | apply SetAt.here | apply SetAt.there)))) | (apply Bld.agg; rfl; rfl; (· (repeat (first | apply LayAt.nil | apply LayAt.here )))))))) )) | apply wo_nil | apply wc_ret | (apply wo_box1; rfl; rfl; rfl; intro bx) | (apply wo_boxa; rfl; rfl; intro bx) ))
  exact ret2 rfl rfl rfl ⟨_, mf, gs, ms, ml, rfl, rfl, rfl⟩ ((by (repeat (first | apply sub_nil )); done) : List.Perm _ ([_, _, _, _, _] ++ _)) (by first | exact fun _ h => h | (intro r hr; cases hr; done) | (simp; done) | exact fun _ h => List.mem_append_left _ h | (intro r hr; simp [hr]; done))
def tblAd : Nat → List (List It) → Value → List (List It) → Prop := fun k Ls v Ms => match k, Ls with
  | 10, _ => ∃ q, v = .tuple #[.pointer (some ⟨q, 0, none⟩), .int .i64 0] ∧ Ms = [[Qc q 5 1000 none 0 0 0 true]]
  | _, _ => False
theorem eAdd (e mf gs ms ml : Nat) (id sh : Int) (fq sm : List (Int × Value)) (hf : alook fq id = none) (hk : alook sm id = none) (hs : 40 ≤ sh ∧ sh ≤ 200) :
    Fn Try.prog 51 #[.pointer (some ⟨e, 0, none⟩), .int .i64 id, .bool true, .int .i64 sh] [eoI e mf gs 0 0, .ob mf (mob .i64 fq), scI gs ms ml 0 false, .ob ms (mob .i64 sm)] []
      (fun v L' R' => ∃ q, v = .int .i64 0 ∧ L' = [eoI e mf gs 0 0, .ob mf (mob .i64 (aset fq id (flV q))), scI gs ms ml 0 false, .ob ms (mob .i64 (aset sm id (.int .i64 sh))), Qc q 5 1000 none 0 0 0 true] ∧ R' = []) := by
  have qA := dAdd gs ms ml id sh sm hk hs
  have qN := qNew 5 1000 (by omega)
  refine fn_intro Try.func51 rfl Try.ntmps51 rfl (fun E => ?_)
  (repeat (first | ((first | (apply wo_v; rfl) ); (· first | (apply pv_ev; rfl) | (apply pv_fld; rfl) | (apply g_load; first | (apply pv_ld; rfl; (· (repeat (first | apply sel_here ))); rfl) ) )) | apply wo_nil | apply wc_seq | apply wc_region ))
  refine wo_v rfl (pv_mlko_n rfl rfl (by (repeat (first | apply sel_here | apply sel_there)); done) hf) ?_
  (repeat (first | ((first | (apply wo_v; rfl) ); (· first | (apply pv_ev; rfl) | (apply pv_fld; rfl) | (apply g_load; first | (apply pv_ld; rfl; (· (repeat (first | apply sel_here | apply sel_there))); rfl) ) )) | apply wo_nil | apply wc_seq | apply wc_region | apply wc_skip | (apply wc_true; rfl) | (apply wc_false; rfl) | (apply wo_alloc; rfl; intro bx) | (apply wo_sta; rfl; rfl; rfl; rfl; (· (repeat (first | apply sel_here ))); (· (repeat (first | apply LayAt.nil | apply LayAt.here ))); rfl) ))
  (refine wo_call (qA) rfl (by (repeat (first | apply sub_nil | (apply sub_cons; (· (repeat (first | apply sel_here | apply sel_there)))))); done) (by first | exact fun _ h => h | (intro r hr; cases hr; done) | (simp; done) | exact fun _ h => List.mem_append_left _ h | (intro r hr; simp [hr]; done)) rfl ?_; rintro v L' R' ⟨rfl, rfl, rfl⟩ H' hH RR hR; simp only [List.cons_append, List.nil_append] at hH hR; subst hH; have hR := hR.symm; subst hR)
  (repeat (first | ((first | (apply wo_v; rfl) ); (· first | (apply pv_ev; rfl) )) | apply wo_nil | apply wc_seq | apply wc_region | apply wc_skip | (apply wc_true; rfl) | (apply wc_false; rfl) ))
  obtain ⟨b9, hb9⟩ : ∃ g, g = bx := ⟨_, rfl⟩
  subst hb9
  (refine wc_regM [0] (aslL [(10, [0])]) (tblAd) ([scI gs ms ml 0 false, .ob ms (mob .i64 (aset sm id (.int .i64 sh))), flN b9, eoI e mf gs 0 0, .ob mf (mob .i64 fq)]) (fm [(0, [])]) mixed (by kernel_rfl) (by kernel_rfl) (by decide) (aslL_ok (by decide)) (by (repeat (first | (apply prm_cons; (· (repeat (first | apply sel_here )))) | apply List.Perm.nil )); done) ?_; (repeat (first | (apply HdM.val; rfl; rfl; (· first | apply gok_none ); (· first | (apply pv_ev; rfl) | (apply pv_fld; rfl) | (apply g_load; first | (apply pv_ld; rfl; (· (repeat (first | apply sel_here | apply sel_there))); rfl) ) )) )))
  (refine hm_eff (cs := [0]) rfl (by decide) rfl rfl (by first | exact gok_none | exact gok_run rfl rfl) (fun a ha => outc_mono (outc_call (F1 := _) (T := fun v M => ∃ q, v = .tuple #[.pointer (some ⟨q, 0, none⟩), .int .i64 0] ∧ M = [Qc q 5 1000 none 0 0 0 true]) qN rfl (by (repeat (first | apply sub_nil )); done) (by first | exact fun _ h => h | (intro r hr; cases hr; done) | (simp; done) | exact fun _ h => List.mem_append_left _ h | (intro r hr; simp [hr]; done)) (by rintro v L' R' ⟨q, rfl, rfl, _⟩; exact ⟨_, ⟨q, rfl, rfl⟩, (by (repeat (first | (apply prm_cons; (· (repeat (first | apply sel_here )))) | apply List.Perm.nil )); done)⟩) a ha) (fun v M h => Exists.elim h fun b h => ⟨[M], Exists.intro b (And.intro h.1 (congrArg (fun x => [x]) h.2)), rfl, by simp⟩)) (⟨_, _, Exists.intro 0 (And.intro rfl rfl), rfl⟩) ?_; rintro v Ms ⟨q, rfl, rfl⟩ _; simp only [setls, setl, reduceIte, Nat.reduceEqDiff]; (repeat (first | (apply HdM.val; rfl; rfl; (· first | apply gok_none ); (· first | (apply pv_ev; rfl) )) )))
  (refine HdM.nil ?_; intro H hH; simp only [Hp, fm, look, setl, List.flatMap_cons, List.flatMap_nil, reduceIte, Nat.reduceEqDiff, Option.getD_some, List.append_nil, List.cons_append, List.nil_append] at hH; subst hH)
  (repeat (first | ((first | (apply wo_v; rfl) ); (· first | (apply pv_ev; rfl) | (apply pv_fld; rfl) | (apply g_load; first | (apply pv_ld; rfl; (· (repeat (first | apply sel_here | apply sel_there))); rfl) ) | (apply g_build; apply pv_build; (· (repeat (first | apply Bld.nil | (apply Bld.one; rfl; rfl; (· (repeat (first | apply SetAt.here | apply SetAt.there)))) )))) )) | (apply wo_mput; rfl; rfl; rfl; (· (repeat (first | apply sel_here | apply sel_there))); rfl) | apply wo_nil | apply wc_seq | apply wc_region | apply wc_skip | apply wc_ret | (apply wc_true; rfl) | (apply wc_false; rfl) ))
  exact ret1 rfl rfl ⟨q, rfl, rfl, rfl⟩ ((by (repeat (first | apply sub_nil | (apply sub_cons; (· (repeat (first | apply sel_here | apply sel_there)))))); done) : List.Perm _ ([_, _, _, _, _] ++ _)) (by first | exact fun _ h => h | (intro r hr; cases hr; done) | (simp; done) | exact fun _ h => List.mem_append_left _ h | (intro r hr; simp [hr]; done))
abbrev fmM (q1 q2 : Nat) : List (Int × Value) := [(1, flV q1), (2, flV q2)]
theorem fm1 (q1 q2 : Nat) : alook (fmM q1 q2) 1 = some (flV q1) := rfl
theorem fm2 (q1 q2 : Nat) : alook (fmM q1 q2) 2 = some (flV q2) := rfl
theorem eWaits (e mf gs : Nat) (cr sn id : Int) (fq : List (Int × Value)) (q : Nat) (ao : Option Addr) (n c : Nat) (sz : Int) (bk : Bool) (hf : alook fq id = some (flV q)) :
    Fn Try.prog 52 #[.pointer (some ⟨e, 0, none⟩), .int .i64 id] [eoI e mf gs cr sn, .ob mf (mob .i64 fq), Qc q 5 1000 ao n c sz bk] [] (fun v L' R' => v = .tuple #[.int .i64 n, .int .i64 sz] ∧ L' = [eoI e mf gs cr sn, .ob mf (mob .i64 fq), Qc q 5 1000 ao n c sz bk] ∧ R' = []) := by
  have hL := qLen q 5 1000 ao n c sz bk []
  have hZ := qSize q 5 1000 ao n c sz bk []
  refine fn_intro Try.func52 rfl Try.ntmps52 rfl (fun E => ?_)
  (repeat (first | ((first | (apply wo_v; rfl) ); (· first | (apply pv_ev; rfl) | (apply pv_fld; rfl) | (apply g_load; first | (apply pv_ld; rfl; (· (repeat (first | apply sel_here ))); rfl) ) | (apply g_un; first | (apply pv_not_t; rfl) ) )) | ((apply wo_v; rfl); (· first | (apply g_lk; first | (apply pv_mlko_n; rfl; rfl; (· (repeat (first | apply sel_here | apply sel_there))); (· assumption)) | (apply pv_mlko_s; rfl; rfl; (· (repeat (first | apply sel_here | apply sel_there))); (· assumption))) )) | apply wo_nil | apply wc_seq | apply wc_region | apply wc_skip | (apply wc_true; rfl) | (apply wc_false; rfl) | (apply wo_alloc; rfl; intro bx) | (apply wo_sta; rfl; rfl; rfl; rfl; (· (repeat (first | apply sel_here ))); (· (repeat (first | apply LayAt.nil | apply LayAt.here ))); rfl) ))
  (refine wc_quiet mixed (by kernel_rfl) ?_; (repeat (first | ((first | (apply hd_v; rfl) ); (· first | (apply pv_ev; rfl) | (apply pv_fld; rfl) | (apply g_load; first | (apply pv_ld; rfl; (· (repeat (first | apply sel_here ))); rfl) ) )) )))
  (refine Hd.call rfl inferInstance (Fn.mono (hL) (fun _ _ _ h => ⟨h.1, h.2.1⟩)) rfl (by (repeat (first | apply sub_nil | (apply sub_cons; (· (repeat (first | apply sel_here | apply sel_there)))))); done) (by first | exact fun _ h => h | (intro r hr; cases hr; done) | (simp; done) | exact fun _ h => List.mem_append_left _ h | (intro r hr; simp [hr]; done)) rfl ?_; (repeat (first | ((first | (apply hd_v; rfl) ); (· first | (apply pv_ev; rfl) | (apply pv_fld; rfl) | (apply g_load; first | (apply pv_ld; rfl; (· (repeat (first | apply sel_here ))); rfl) ) )) )))
  (refine Hd.call rfl inferInstance (Fn.mono (hZ) (fun _ _ _ h => ⟨h.1, h.2.1⟩)) rfl (by (repeat (first | apply sub_nil | (apply sub_cons; (· (repeat (first | apply sel_here | apply sel_there)))))); done) (by first | exact fun _ h => h | (intro r hr; cases hr; done) | (simp; done) | exact fun _ h => List.mem_append_left _ h | (intro r hr; simp [hr]; done)) rfl ?_; (repeat (first | ((first | (apply hd_v; rfl) ); (· first | (apply pv_ev; rfl) )) | apply Hd.nil | apply wc_ret )))
  (repeat (first | fail ))
  exact ret2 rfl rfl rfl ⟨rfl, rfl, rfl⟩ ((by (repeat (first | apply sub_nil | (apply sub_cons; (· (repeat (first | apply sel_here | apply sel_there)))))); done) : List.Perm _ ([_, _, _] ++ _)) (by first | exact fun _ h => h | (intro r hr; cases hr; done) | (simp; done) | exact fun _ h => List.mem_append_left _ h | (intro r hr; simp [hr]; done))
theorem eGrant (e mf gs : Nat) (cr sn k : Int) (h : 0 ≤ cr ∧ cr ≤ 100000 ∧ 0 ≤ k ∧ k ≤ 1000) :
    Fn Try.prog 54 #[.pointer (some ⟨e, 0, none⟩), .int .i64 k] [eoI e mf gs cr sn] [] (fun v L' R' => v = .tuple #[] ∧ L' = [eoI e mf gs (cr + k) sn] ∧ R' = []) := by
  have e1 : min (max k 0) 1099511627776 = k := by omega
  have e2 : min (cr + k) 1099511627776 = cr + k := by omega
  refine fn_intro Try.func54 rfl Try.ntmps54 rfl (fun E => ?_)
  (repeat (first | ((first | (apply wo_v; rfl) ); (· first | (apply pv_ev; rfl) | (apply pv_fld; rfl) | (apply g_load; first | (apply pv_ld; rfl; (· (repeat (first | apply sel_here ))); rfl) ) | (apply g_bin; first | (apply a_add; rfl; rfl; infer_instance; omega) ) | (apply g_bi; first | (apply pv_min; rfl; rfl) | (apply pv_max; rfl; rfl)) )) | apply wo_nil | apply wc_region | (apply wo_st; rfl; rfl; rfl; (· (repeat (first | apply sel_here ))); (· (repeat (first | apply SetAt.here | apply SetAt.there))); rfl) ))
  rw [e1, e2]
  exact ret0 rfl ⟨rfl, rfl, rfl⟩ ((by (repeat (first | apply sub_nil )); done) : List.Perm _ ([_] ++ _)) (by first | exact fun _ h => h | (intro r hr; cases hr; done) | (simp; done) | exact fun _ h => List.mem_append_left _ h | (intro r hr; simp [hr]; done))
theorem eAll0 (id : Int) (A : Option Addr) (c : Nat) : Fn Try.prog 113 #[.int .i64 id, .slice A 0 c] [] [] (fun v L' R' => v = .slice none 0 0 ∧ L' = [] ∧ R' = []) := by
  refine fn_intro Try.func113 rfl Try.ntmps113 rfl (fun E => ?_)
  (repeat (first | ((first | (apply wo_v; rfl) ); (· first | (apply pv_ev; rfl) | (apply g_bi; first | (apply pv_len_sl; rfl) ) )) | apply wo_nil | apply wc_seq | apply wc_region ))
  refine wc_block ?_
  refine wc_loop' (fun w st => w = 0 ∧ st = ⟨[(5, .slice none 0 0), (9, .int .i64 0), (10, .int .i64 0)], [], []⟩) ⟨rfl, rfl⟩ (wk_mk (by (repeat (first | apply wkf_nil | (apply wkf_cons; rfl))); done) (by (repeat (first | apply sub_nil )); done) (by first | exact fun _ h => h | (intro r hr; cases hr; done) | (simp; done) | exact fun _ h => List.mem_append_left _ h | (intro r hr; simp [hr]; done))) ?_
  rintro w st ⟨rfl, rfl⟩
  (repeat (first | ((first | (apply wo_v; rfl) ); (· first | (apply pv_ev; rfl) )) | apply wo_nil | apply wc_seq | apply wc_region | (apply wc_exit; rfl) | apply wc_ret | (apply wc_true; rfl) | (apply wc_false; rfl) ))
  exact ret1 rfl rfl ⟨rfl, rfl, rfl⟩ ((by (repeat (first | apply sub_nil )); done) : List.Perm _ ([] ++ _)) (by first | exact fun _ h => h | (intro r hr; cases hr; done) | (simp; done) | exact fun _ h => List.mem_append_left _ h | (intro r hr; simp [hr]; done))
/-- a queue of items, all of one size -/
structure QI (sz : Int) (l : List It4) : Prop where
  it : ∀ x ∈ l, x.2.1 = sz ∧ x.2.2.2 = true
theorem QI.sum {sz : Int} : ∀ {l : List It4}, QI sz l → sumS l = sz * l.length
  | [], _ => by simp [sumS]
  | x :: l, h => by
    show x.2.1 + sumS l = sz * ((l.length + 1 : Nat) : Int)
    rw [(h.it x (.head _)).1, QI.sum ⟨fun y hy => h.it y (.tail _ hy)⟩, Int.natCast_add, Int.mul_add]
    simp only [Int.natCast_one, Int.mul_one]; omega
theorem QI.all {sz : Int} {l : List It4} (h : QI sz l) (h1 : 1 ≤ sz ∧ sz ≤ 40) (h2 : l.length ≤ 5) : allS l := by
  refine ⟨fun x hx => by rw [(h.it x hx).1]; omega, ?_, by omega⟩
  rw [h.sum]
  have : sz * (l.length : Int) ≤ 40 * (l.length : Int) := Int.mul_le_mul_of_nonneg_right h1.2 (by omega)
  omega
theorem QI.put {sz : Int} {l : List It4} (h : QI sz l) (h1 : 1 ≤ sz ∧ sz ≤ 40) (h2 : l.length < 5) (bk : Bool) (n : Int) : putM 5 1000 l bk (n, sz, 0, true) = ([], true, l ++ [(n, sz, 0, true)], false) := by
  have hs : sumS l + sz ≤ 1000 := by
    rw [h.sum]
    have : sz * (l.length : Int) ≤ 40 * (l.length : Int) := Int.mul_le_mul_of_nonneg_right h1.2 (by omega)
    omega
  have hg : putG 5 1000 sz l bk = ([], l, bk) := by
    cases l with
    | nil => exact putG_nil
    | cons x t => exact putG_end (by simp only [List.length_cons] at h2; omega)
  unfold putM
  dsimp only
  rw [if_neg (by simp; omega), hg]
  simp
theorem QI.snoc {sz : Int} {l : List It4} (h : QI sz l) (n : Int) : QI sz (l ++ [(n, sz, 0, true)]) := ⟨fun x hx => by
  rcases List.mem_append.1 hx with hx | hx
  · exact h.it x hx
  · rw [List.mem_singleton.1 hx]; exact ⟨rfl, rfl⟩⟩
theorem QI.tail {sz : Int} {l : List It4} (h : QI sz l) : QI sz l.tail := ⟨fun x hx => h.it x (List.mem_of_mem_tail hx)⟩
theorem ePut (e mf gs : Nat) (cr sn id num sz : Int) (fq : List (Int × Value)) (q : Nat) (ao : Option Addr) (n c : Nat) (l : List It4) (bk : Bool) (R : List Ro) (hS : SR R 4 ao n c (its l)) (hf : alook fq id = some (flV q)) (hQ : QI sz l) (h1 : 1 ≤ sz ∧ sz ≤ 40) (h2 : l.length < 5) :
    Fn Try.prog 53 #[.pointer (some ⟨e, 0, none⟩), .int .i64 id, .agg #[.int .i64 num, .int .i64 sz, .int .i64 0, .bool true]] [eoI e mf gs cr sn, .ob mf (mob .i64 fq), Qc q 5 1000 ao n c (sumS l) bk] R
      (fun v L' R' => ∃ ao' n' c', v = .tuple #[.slice none 0 0, .bool true] ∧ L' = [eoI e mf gs cr sn, .ob mf (mob .i64 fq), Qc q 5 1000 ao' n' c' (sumS (l ++ [(num, sz, 0, true)])) false] ∧ SR R' 4 ao' n' c' (its (l ++ [(num, sz, 0, true)]))) := by
  have hP := qPut q 5 1000 ao n c num sz 0 true l bk R hS (hQ.all h1 (by omega)) (by omega) (by omega)
  rw [hQ.put h1 h2 bk num] at hP
  dsimp only at hP
  refine fn_intro Try.func53 rfl Try.ntmps53 rfl (fun E => ?_)
  (repeat (first | ((first | (apply wo_v; rfl) ); (· first | (apply pv_ev; rfl) | (apply pv_fld; rfl) | (apply g_load; first | (apply pv_ld; rfl; (· (repeat (first | apply sel_here | apply sel_there))); rfl) ) )) | ((apply wo_v; rfl); (· first | (apply g_lk; first | (apply pv_mlko_n; rfl; rfl; (· (repeat (first | apply sel_here | apply sel_there))); (· assumption)) | (apply pv_mlko_s; rfl; rfl; (· (repeat (first | apply sel_here | apply sel_there))); (· assumption))) )) | apply wo_nil | apply wc_seq | apply wc_region | (apply wo_box1; rfl; rfl; rfl; intro bx) | (apply wo_boxa; rfl; rfl; intro bx) | (apply wo_alloc; rfl; intro bx) | (apply wo_sta; rfl; rfl; rfl; rfl; (· (repeat (first | apply sel_here ))); (· (repeat (first | apply LayAt.nil | apply LayAt.here ))); rfl) ))
  (refine wc_quiet mixed (by kernel_rfl) ?_; (repeat (first | ((first | (apply wo_v; rfl) | (apply hd_v; rfl) ); (· first | (apply pv_ev; rfl) | (apply pv_fld; rfl) | (apply g_load; first | (apply pv_ld; rfl; (· (repeat (first | apply sel_here | apply sel_there))); rfl) | (apply pv_lda; rfl; (· (repeat (first | apply sel_here ))); (· (repeat (first | apply Cut.here0 | apply Cut.here )))) ) | (apply g_pick; first | (apply pv_pick_t; rfl; rfl) | (apply pv_pick_f; rfl; rfl)) | (apply g_un; first | (apply pv_not_t; rfl) ) )) | apply wo_nil | apply Hd.nil | apply wc_seq | apply wc_region | apply wc_skip | (apply wc_true; rfl) | (apply wc_false; rfl) | (apply a_dec_t; rfl; (· first | assumption | omega)) | (apply a_dec_f; rfl; (· first | assumption | omega)) | (apply wo_run; rfl; rfl) | (apply wo_skip; rfl; rfl; rfl; rfl) | (apply wo_st; rfl; rfl; rfl; (· (repeat (first | apply sel_here | apply sel_there))); (· (repeat (first | apply SetAt.here | apply SetAt.there))); rfl) | (apply Hd.run; rfl; rfl) )))
  (repeat (first | ((first | (apply wo_v; rfl) ); (· first | (apply pv_ev; rfl) )) ))
  (refine wo_call (hP) rfl (by (repeat (first | apply sub_nil | (apply sub_cons; (· (repeat (first | apply sel_here | apply sel_there)))))); done) (by first | exact fun _ h => h | (intro r hr; cases hr; done) | (simp; done) | exact fun _ h => List.mem_append_left _ h | (intro r hr; simp [hr]; done)) rfl ?_; rintro v L' R' ⟨ao1, n1, c1, ao2, m, c2, rfl, rfl, hS1, hS2⟩ H' hH RR hR; simp only [List.cons_append, List.nil_append] at hH hR; subst hH; have hR := hR.symm; subst hR)
  have hm : m = 0 := by rw [← hS2.len]; rfl
  subst hm
  have hA := eAll0 id ao2 c2
  (repeat (first | ((first | (apply wo_v; rfl) ); (· first | (apply pv_ev; rfl) )) | apply wo_nil | apply wc_seq | apply wc_region ))
  (refine wo_call (hA) rfl (by (repeat (first | apply sub_nil )); done) (by first | exact fun _ h => h | (intro r hr; cases hr; done) | (simp; done) | exact fun _ h => List.mem_append_left _ h | (intro r hr; simp [hr]; done)) rfl ?_; rintro v L' R' ⟨rfl, rfl, rfl⟩ H' hH RR hR; simp only [List.cons_append, List.nil_append] at hH hR; subst hH; have hR := hR.symm; subst hR)
  (repeat (first | ((first | (apply wo_v; rfl) ); (· first | (apply pv_ev; rfl) )) | apply wo_nil | apply wc_ret ))
  exact retv rfl (by (repeat (first | apply RV.nil | (apply RV.tmp; rfl) )); done) (⟨ao1, n1, c1, rfl, rfl, hS1⟩) (by (repeat (first | apply sub_nil | (apply sub_cons; (· (repeat (first | apply sel_here | apply sel_there)))))); done) (by first | exact fun _ h => h | (intro r hr; cases hr; done) | (simp; done) | exact fun _ h => List.mem_append_left _ h | (intro r hr; simp [hr]; done))
theorem fl_ok (q1 q2 : Nat) : MOk (mEnt .i64 0 (fmM q1 q2)).toArray 2 := by
  refine ⟨⟨fun x hx => ?_, ?_, ?_⟩, by simp [mEnt], fun x hx => ?_⟩
  · have : x ∈ mEnt .i64 0 (fmM q1 q2) := by simpa using hx
    have := (mEnt_mem this).2.1
    simpa using this
  · simpa using mEnt_nodup .i64 (fmM q1 q2) 0
  · simp [mEnt]
  · have : x ∈ mEnt .i64 0 (fmM q1 q2) := by simpa using hx
    obtain ⟨_, _, a, v, h1, h2, _⟩ := mEnt_mem this
    have ha : a = 1 ∨ a = 2 := by
      simp at h1
      omega
    exact ⟨a, h2, by rcases ha with rfl | rfl <;> decide⟩
theorem fl_keys (q1 q2 : Nat) : mKeys (mEnt .i64 0 (fmM q1 q2)).toArray = [1, 2] := by simp [mKeys, mEnt, kInt]
abbrev sz5 (e mf gs q1 q2 : Nat) (cr sn : Int) (a1 : Option Addr) (n1 c1 : Nat) (s1 : Int) (a2 : Option Addr) (n2 c2 : Nat) (s2 : Int) : List It := [eoI e mf gs cr sn, .ob mf (mob .i64 (fmM q1 q2)), Qc q1 5 1000 a1 n1 c1 s1 false, Qc q2 5 1000 a2 n2 c2 s2 false]
theorem eIdsF (e mf gs q1 q2 : Nat) (cr sn : Int) : Fn Try.prog 145 #[.pointer (some ⟨e, 0, none⟩), .bool false] [eoI e mf gs cr sn, .ob mf (mob .i64 (fmM q1 q2))] [] (fun v L' R' => v = .slice none 0 0 ∧ L' = [eoI e mf gs cr sn, .ob mf (mob .i64 (fmM q1 q2))] ∧ R' = []) := by
  have f1 := fm1 q1 q2
  have f2 := fm2 q1 q2
  have r0 : ([1, 2].map fun x : Int => [Value.int .i64 x])[0]? = some [.int .i64 1] := rfl
  have r1 : ([1, 2].map fun x : Int => [Value.int .i64 x])[1]? = some [.int .i64 2] := rfl
  refine fn_intro Try.func145 rfl Try.ntmps145 rfl (fun E => ?_)
  (repeat (first | ((first | (apply wo_v; rfl) ); (· first | (apply pv_ev; rfl) | (apply pv_fld; rfl) | (apply g_load; first | (apply pv_ld; rfl; (· (repeat (first | apply sel_here ))); rfl) ) )) | apply wo_nil | apply wc_seq | apply wc_region ))
  (refine wo_call (itKeysA (some mf)) rfl (by (repeat (first | apply sub_nil )); done) (by first | exact fun _ h => h | (intro r hr; cases hr; done) | (simp; done) | exact fun _ h => List.mem_append_left _ h | (intro r hr; simp [hr]; done)) rfl ?_; rintro v L' R' ⟨bk, rfl, rfl, rfl⟩ H' hH RR hR; simp only [List.cons_append, List.nil_append] at hH hR; subst hH; have hR := hR.symm; subst hR)
  have hSo := sSorted 177 238 bk mf (mEnt .i64 0 (fmM q1 q2)).toArray 2 (.inl (fl_keys q1 q2)) (itColA bk mf (mEnt .i64 0 (fmM q1 q2)).toArray 2 (fl_ok q1 q2))
  (refine wo_call (hSo) rfl (by (repeat (first | apply sub_nil | (apply sub_cons; (· (repeat (first | apply sel_here | apply sel_there)))))); done) (by first | exact fun _ h => h | (intro r hr; cases hr; done) | (simp; done) | exact fun _ h => List.mem_append_left _ h | (intro r hr; simp [hr]; done)) rfl ?_; rintro v L' R' ⟨ai, ci, rfl, rfl, rfl⟩ H' hH RR hR; simp only [List.cons_append, List.nil_append] at hH hR; subst hH; have hR := hR.symm; subst hR)
  refine wo_some (ao := ai) (n := 2) (by (repeat (first | apply sel_here )); done) (by omega) ?_
  rintro bi oi rfl
  show WO _ _ _ _ _ ⟨_, [inO (some ⟨bi, oi, none⟩) 2 ci [1, 2], .ob bk (.cells #[.map (some mf)] 238 (0, 0)), .ob mf (mob .i64 (fmM q1 q2)), eoI e mf gs cr sn], _⟩ _
  (repeat (first | ((first | (apply wo_v; rfl) ); (· first | (apply pv_ev; rfl) | (apply g_bi; first | (apply pv_len_sl; rfl) ) )) | apply wo_nil ))
  refine wc_block ?_
  refine wc_loop' (fun w st => ∃ i : Nat, (i = 0 ∨ i = 1 ∨ i = 2) ∧ w = 2 - i ∧ st = ⟨[(0, .pointer (some ⟨e, 0, none⟩)), (1, .bool false), (5, .slice none 0 0), (14, .slice (some ⟨bi, oi, none⟩) 2 ci), (15, .int .i64 2), (16, .int .i64 i)], [inO (some ⟨bi, oi, none⟩) 2 ci [1, 2], .ob mf (mob .i64 (fmM q1 q2)), eoI e mf gs cr sn], []⟩) ⟨0, .inl rfl, rfl, rfl⟩ (wk_mk (by (repeat (first | apply wkf_nil | (apply wkf_cons; rfl))); done) (by (repeat (first | apply sub_nil | (apply sub_cons; (· (repeat (first | apply sel_here | apply sel_there)))))); done) (by first | exact fun _ h => h | (intro r hr; cases hr; done) | (simp; done) | exact fun _ h => List.mem_append_left _ h | (intro r hr; simp [hr]; done))) ?_
  rintro w st ⟨i, rfl | rfl | rfl, rfl, rfl⟩
  · (repeat (first | ((first | (apply wo_v; rfl) ); (· first | (apply pv_ev; rfl) )) | apply wo_nil | apply wc_seq | apply wc_region | apply wc_skip | (apply wc_true; rfl) ))
    refine wc_block ?_
    (repeat (first | ((first | (apply wo_v; rfl) ); (· first | (apply pv_ev; rfl) | (apply pv_fld; rfl) | (apply g_load; first | (apply pv_ld; rfl; (· (repeat (first | apply sel_here | apply sel_there))); rfl) | (apply pv_ld_ownf; rfl; (· (repeat (first | fail ))); (· assumption); rfl) | (apply pv_ld_own1; rfl; (· (repeat (first | apply sel_here ))); (· assumption)) ) | (apply g_pick; first | (apply pv_pick_t; rfl; rfl) | (apply pv_pick_f; rfl; rfl)) | (apply g_bin; first | (apply a_add; rfl; rfl; infer_instance; omega) | (apply pv_eql_b; rfl; rfl) ) | (apply g_idx; first | (apply pv_idx; rfl; rfl; omega) ) )) | ((apply wo_v; rfl); (· first | (apply g_lk; first | (apply pv_mlk_n; rfl; rfl; (· (repeat (first | apply sel_here | apply sel_there))); (· assumption)) | (apply pv_mlk_s; rfl; rfl; (· (repeat (first | apply sel_here | apply sel_there))); (· assumption)) ) )) | apply wo_nil | apply wc_seq | apply wc_region | apply wc_skip | (apply wc_true; rfl) | (apply wc_false; rfl) | (apply wo_run; rfl; rfl) | (apply wo_skip; rfl; rfl; rfl; rfl) | (apply wo_alloc; rfl; intro bx) | (apply wo_sta; rfl; rfl; rfl; rfl; (· (repeat (first | apply sel_here ))); (· (repeat (first | apply LayAt.nil | apply LayAt.here ))); rfl) ))
    exact loop_end ⟨1, .inr (.inl rfl), rfl, rfl⟩ (by omega) (wk_mk (by (repeat (first | apply wkf_nil | (apply wkf_cons; rfl))); done) (by (repeat (first | apply sub_nil | (apply sub_cons; (· (repeat (first | apply sel_here | apply sel_there)))))); done) (by first | exact fun _ h => h | (intro r hr; cases hr; done) | (simp; done) | exact fun _ h => List.mem_append_left _ h | (intro r hr; simp [hr]; done)))
  · (repeat (first | ((first | (apply wo_v; rfl) ); (· first | (apply pv_ev; rfl) )) | apply wo_nil | apply wc_seq | apply wc_region | apply wc_skip | (apply wc_true; rfl) ))
    refine wc_block ?_
    (repeat (first | ((first | (apply wo_v; rfl) ); (· first | (apply pv_ev; rfl) | (apply pv_fld; rfl) | (apply g_load; first | (apply pv_ld; rfl; (· (repeat (first | apply sel_here | apply sel_there))); rfl) | (apply pv_ld_ownf; rfl; (· (repeat (first | fail ))); (· assumption); rfl) | (apply pv_ld_own1; rfl; (· (repeat (first | apply sel_here ))); (· assumption)) ) | (apply g_pick; first | (apply pv_pick_t; rfl; rfl) | (apply pv_pick_f; rfl; rfl)) | (apply g_bin; first | (apply a_add; rfl; rfl; infer_instance; omega) | (apply pv_eql_b; rfl; rfl) ) | (apply g_idx; first | (apply pv_idx; rfl; rfl; omega) ) )) | ((apply wo_v; rfl); (· first | (apply g_lk; first | (apply pv_mlk_n; rfl; rfl; (· (repeat (first | apply sel_here | apply sel_there))); (· assumption)) | (apply pv_mlk_s; rfl; rfl; (· (repeat (first | apply sel_here | apply sel_there))); (· assumption)) ) )) | apply wo_nil | apply wc_seq | apply wc_region | apply wc_skip | (apply wc_true; rfl) | (apply wc_false; rfl) | (apply wo_run; rfl; rfl) | (apply wo_skip; rfl; rfl; rfl; rfl) | (apply wo_alloc; rfl; intro bx) | (apply wo_sta; rfl; rfl; rfl; rfl; (· (repeat (first | apply sel_here ))); (· (repeat (first | apply LayAt.nil | apply LayAt.here ))); rfl) ))
    exact loop_end ⟨2, .inr (.inr rfl), rfl, rfl⟩ (by omega) (wk_mk (by (repeat (first | apply wkf_nil | (apply wkf_cons; rfl))); done) (by (repeat (first | apply sub_nil | (apply sub_cons; (· (repeat (first | apply sel_here | apply sel_there)))))); done) (by first | exact fun _ h => h | (intro r hr; cases hr; done) | (simp; done) | exact fun _ h => List.mem_append_left _ h | (intro r hr; simp [hr]; done)))
  · (repeat (first | ((first | (apply wo_v; rfl) ); (· first | (apply pv_ev; rfl) )) | apply wo_nil | apply wc_seq | apply wc_region | (apply wc_exit; rfl) | apply wc_ret | (apply wc_true; rfl) | (apply wc_false; rfl) ))
    exact ret1 rfl rfl ⟨rfl, rfl, rfl⟩ ((by (repeat (first | apply sub_nil | (apply sub_cons; (· (repeat (first | apply sel_here | apply sel_there)))))); done) : List.Perm _ ([_, _] ++ _)) (by first | exact fun _ h => h | (intro r hr; cases hr; done) | (simp; done) | exact fun _ h => List.mem_append_left _ h | (intro r hr; simp [hr]; done))
def tk12 : Nat → List Int
  | 0 => []
  | 1 => [1]
  | _ => [1, 2]
theorem eIdsT (e mf gs q1 q2 : Nat) (cr sn : Int) (a1 : Option Addr) (n1 c1 : Nat) (s1 : Int) (a2 : Option Addr) (n2 c2 : Nat) (s2 : Int) (h1 : 0 < n1) (h2 : 0 < n2) (k1 k2 : Bool) : Fn Try.prog 145 #[.pointer (some ⟨e, 0, none⟩), .bool true] [eoI e mf gs cr sn, .ob mf (mob .i64 (fmM q1 q2)), Qc q1 5 1000 a1 n1 c1 s1 k1, Qc q2 5 1000 a2 n2 c2 s2 k2] [] (fun v L' R' => ∃ ao c, v = .slice ao 2 c ∧ L' = [inO ao 2 c [1, 2], eoI e mf gs cr sn, .ob mf (mob .i64 (fmM q1 q2)), Qc q1 5 1000 a1 n1 c1 s1 k1, Qc q2 5 1000 a2 n2 c2 s2 k2] ∧ R' = []) := by
  have f1 := fm1 q1 q2
  have f2 := fm2 q1 q2
  have hL1 := qLen q1 5 1000 a1 n1 c1 s1 k1 []
  have hL2 := qLen q2 5 1000 a2 n2 c2 s2 k2 []
  have r0 : ([1, 2].map fun x : Int => [Value.int .i64 x])[0]? = some [.int .i64 1] := rfl
  have r1 : ([1, 2].map fun x : Int => [Value.int .i64 x])[1]? = some [.int .i64 2] := rfl
  refine fn_intro Try.func145 rfl Try.ntmps145 rfl (fun E => ?_)
  (repeat (first | ((first | (apply wo_v; rfl) ); (· first | (apply pv_ev; rfl) | (apply pv_fld; rfl) | (apply g_load; first | (apply pv_ld; rfl; (· (repeat (first | apply sel_here ))); rfl) ) )) | apply wo_nil | apply wc_seq | apply wc_region ))
  (refine wo_call (itKeysA (some mf)) rfl (by (repeat (first | apply sub_nil )); done) (by first | exact fun _ h => h | (intro r hr; cases hr; done) | (simp; done) | exact fun _ h => List.mem_append_left _ h | (intro r hr; simp [hr]; done)) rfl ?_; rintro v L' R' ⟨bk, rfl, rfl, rfl⟩ H' hH RR hR; simp only [List.cons_append, List.nil_append] at hH hR; subst hH; have hR := hR.symm; subst hR)
  have hSo := sSorted 177 238 bk mf (mEnt .i64 0 (fmM q1 q2)).toArray 2 (.inl (fl_keys q1 q2)) (itColA bk mf (mEnt .i64 0 (fmM q1 q2)).toArray 2 (fl_ok q1 q2))
  (refine wo_call (hSo) rfl (by (repeat (first | apply sub_nil | (apply sub_cons; (· (repeat (first | apply sel_here | apply sel_there)))))); done) (by first | exact fun _ h => h | (intro r hr; cases hr; done) | (simp; done) | exact fun _ h => List.mem_append_left _ h | (intro r hr; simp [hr]; done)) rfl ?_; rintro v L' R' ⟨ai, ci, rfl, rfl, rfl⟩ H' hH RR hR; simp only [List.cons_append, List.nil_append] at hH hR; subst hH; have hR := hR.symm; subst hR)
  refine wo_some (ao := ai) (n := 2) (by (repeat (first | apply sel_here )); done) (by omega) ?_
  rintro bi oi rfl
  show WO _ _ _ _ _ ⟨_, [inO (some ⟨bi, oi, none⟩) 2 ci [1, 2], .ob bk (.cells #[.map (some mf)] 238 (0, 0)), .ob mf (mob .i64 (fmM q1 q2)), eoI e mf gs cr sn, Qc q1 5 1000 a1 n1 c1 s1 k1, Qc q2 5 1000 a2 n2 c2 s2 k2], _⟩ _
  (repeat (first | ((first | (apply wo_v; rfl) ); (· first | (apply pv_ev; rfl) | (apply g_bi; first | (apply pv_len_sl; rfl) ) )) | apply wo_nil ))
  refine wc_own0 3 1 ?_
  refine wc_block ?_
  refine wc_loop' (fun w st => ∃ (i : Nat) (ao : Option Addr) (c : Nat), (i = 0 ∨ i = 1 ∨ i = 2) ∧ w = 2 - i ∧ st = ⟨[(0, .pointer (some ⟨e, 0, none⟩)), (1, .bool true), (5, .slice ao i c), (14, .slice (some ⟨bi, oi, none⟩) 2 ci), (15, .int .i64 2), (16, .int .i64 i)], [inO (some ⟨bi, oi, none⟩) 2 ci [1, 2], inO ao i c (tk12 i), .ob mf (mob .i64 (fmM q1 q2)), eoI e mf gs cr sn, Qc q1 5 1000 a1 n1 c1 s1 k1, Qc q2 5 1000 a2 n2 c2 s2 k2], []⟩) ⟨0, none, 0, .inl rfl, rfl, rfl⟩ (wk_mk (by (repeat (first | apply wkf_nil | (apply wkf_cons; rfl))); done) (by (repeat (first | apply sub_nil | (apply sub_cons; (· (repeat (first | apply sel_here | apply sel_there)))))); done) (by first | exact fun _ h => h | (intro r hr; cases hr; done) | (simp; done) | exact fun _ h => List.mem_append_left _ h | (intro r hr; simp [hr]; done))) ?_
  rintro w st ⟨i, ao, c, rfl | rfl | rfl, rfl, rfl⟩
  · (repeat (first | ((first | (apply wo_v; rfl) ); (· first | (apply pv_ev; rfl) )) | apply wo_nil | apply wc_seq | apply wc_region | apply wc_skip | (apply wc_true; rfl) ))
    refine wc_block ?_
    (repeat (first | ((first | (apply wo_v; rfl) ); (· first | (apply pv_ev; rfl) | (apply pv_fld; rfl) | (apply g_load; first | (apply pv_ld; rfl; (· (repeat (first | apply sel_here | apply sel_there))); rfl) | (apply pv_ld_ownf; rfl; (· (repeat (first | fail ))); (· assumption); rfl) | (apply pv_ld_own1; rfl; (· (repeat (first | apply sel_here ))); (· assumption)) ) | (apply g_bin; first | (apply pv_eql_b; rfl; rfl) ) | (apply g_idx; first | (apply pv_idx; rfl; rfl; omega) ) )) | ((apply wo_v; rfl); (· first | (apply g_lk; first | (apply pv_mlk_n; rfl; rfl; (· (repeat (first | apply sel_here | apply sel_there))); (· assumption)) | (apply pv_mlk_s; rfl; rfl; (· (repeat (first | apply sel_here | apply sel_there))); (· assumption)) ) )) | apply wo_nil | apply wc_seq | apply wc_region | (apply wo_run; rfl; rfl) | (apply wo_alloc; rfl; intro bx) | (apply wo_sta; rfl; rfl; rfl; rfl; (· (repeat (first | apply sel_here ))); (· (repeat (first | apply LayAt.nil | apply LayAt.here ))); rfl) ))
    (refine wo_call (hL1) rfl (by (repeat (first | apply sub_nil | (apply sub_cons; (· (repeat (first | apply sel_here | apply sel_there)))))); done) (by first | exact fun _ h => h | (intro r hr; cases hr; done) | (simp; done) | exact fun _ h => List.mem_append_left _ h | (intro r hr; simp [hr]; done)) rfl ?_; rintro v L' R' ⟨rfl, rfl, rfl⟩ H' hH RR hR; simp only [List.cons_append, List.nil_append] at hH hR; subst hH; have hR := hR.symm; subst hR)
    (repeat (first | ((first | (apply wo_v; rfl) ); (· first | (apply pv_ev; rfl) | (apply g_pick; first | (apply pv_pick_t; rfl; rfl) ) | (apply g_bi; first | fail ) )) | ((apply wo_v; rfl); (· first | fail )) | apply wo_nil | apply wc_region | (apply wc_true; rfl) | (apply wc_false; rfl) | (apply a_dec_t; rfl; (· first | assumption | omega)) | (apply wo_run; rfl; rfl) | (apply wo_bsl; (· (repeat (first | apply Rws'.nil | (apply Rws'.one; rfl; rfl; rfl) ))); rfl; rfl; rfl; rfl; intro bx) ))
    refine wo_app (ao := ao) (n := 0) (m := 1) rfl rfl (by (repeat (first | apply sel_here | apply sel_there)); done) (by (repeat (first | apply sel_here )); done) (by unfold maxLen; omega) (by omega) rfl (fun a3 c3 => ?_)
    (repeat (first | ((first | (apply wo_v; rfl) ); (· first | (apply pv_ev; rfl) | (apply g_bin; first | (apply a_add; rfl; rfl; infer_instance; omega) ) )) | apply wo_nil | apply wc_region ))
    exact loop_end ⟨1, a3, c3, .inr (.inl rfl), rfl, rfl⟩ (by omega) (wk_mk (by (repeat (first | apply wkf_nil | (apply wkf_cons; rfl))); done) (by (repeat (first | apply sub_nil | (apply sub_cons; (· (repeat (first | apply sel_here | apply sel_there)))))); done) (by first | exact fun _ h => h | (intro r hr; cases hr; done) | (simp; done) | exact fun _ h => List.mem_append_left _ h | (intro r hr; simp [hr]; done)))
  · (repeat (first | ((first | (apply wo_v; rfl) ); (· first | (apply pv_ev; rfl) )) | apply wo_nil | apply wc_seq | apply wc_region | apply wc_skip | (apply wc_true; rfl) ))
    refine wc_block ?_
    (repeat (first | ((first | (apply wo_v; rfl) ); (· first | (apply pv_ev; rfl) | (apply pv_fld; rfl) | (apply g_load; first | (apply pv_ld; rfl; (· (repeat (first | apply sel_here | apply sel_there))); rfl) | (apply pv_ld_ownf; rfl; (· (repeat (first | fail ))); (· assumption); rfl) | (apply pv_ld_own1; rfl; (· (repeat (first | apply sel_here ))); (· assumption)) ) | (apply g_bin; first | (apply pv_eql_b; rfl; rfl) ) | (apply g_idx; first | (apply pv_idx; rfl; rfl; omega) ) )) | ((apply wo_v; rfl); (· first | (apply g_lk; first | (apply pv_mlk_n; rfl; rfl; (· (repeat (first | apply sel_here | apply sel_there))); (· assumption)) | (apply pv_mlk_s; rfl; rfl; (· (repeat (first | apply sel_here | apply sel_there))); (· assumption)) ) )) | apply wo_nil | apply wc_seq | apply wc_region | (apply wo_run; rfl; rfl) | (apply wo_alloc; rfl; intro bx) | (apply wo_sta; rfl; rfl; rfl; rfl; (· (repeat (first | apply sel_here ))); (· (repeat (first | apply LayAt.nil | apply LayAt.here ))); rfl) ))
    (refine wo_call (hL2) rfl (by (repeat (first | apply sub_nil | (apply sub_cons; (· (repeat (first | apply sel_here | apply sel_there)))))); done) (by first | exact fun _ h => h | (intro r hr; cases hr; done) | (simp; done) | exact fun _ h => List.mem_append_left _ h | (intro r hr; simp [hr]; done)) rfl ?_; rintro v L' R' ⟨rfl, rfl, rfl⟩ H' hH RR hR; simp only [List.cons_append, List.nil_append] at hH hR; subst hH; have hR := hR.symm; subst hR)
    (repeat (first | ((first | (apply wo_v; rfl) ); (· first | (apply pv_ev; rfl) | (apply g_pick; first | (apply pv_pick_t; rfl; rfl) ) | (apply g_bi; first | fail ) )) | ((apply wo_v; rfl); (· first | fail )) | apply wo_nil | apply wc_region | (apply wc_true; rfl) | (apply wc_false; rfl) | (apply a_dec_t; rfl; (· first | assumption | omega)) | (apply wo_run; rfl; rfl) | (apply wo_bsl; (· (repeat (first | apply Rws'.nil | (apply Rws'.one; rfl; rfl; rfl) ))); rfl; rfl; rfl; rfl; intro bx) ))
    refine wo_app (ao := ao) (n := 1) (m := 1) rfl rfl (by (repeat (first | apply sel_here | apply sel_there)); done) (by (repeat (first | apply sel_here )); done) (by unfold maxLen; omega) (by omega) rfl (fun a3 c3 => ?_)
    (repeat (first | ((first | (apply wo_v; rfl) ); (· first | (apply pv_ev; rfl) | (apply g_bin; first | (apply a_add; rfl; rfl; infer_instance; omega) ) )) | apply wo_nil | apply wc_region ))
    exact loop_end ⟨2, a3, c3, .inr (.inr rfl), rfl, rfl⟩ (by omega) (wk_mk (by (repeat (first | apply wkf_nil | (apply wkf_cons; rfl))); done) (by (repeat (first | apply sub_nil | (apply sub_cons; (· (repeat (first | apply sel_here | apply sel_there)))))); done) (by first | exact fun _ h => h | (intro r hr; cases hr; done) | (simp; done) | exact fun _ h => List.mem_append_left _ h | (intro r hr; simp [hr]; done)))
  · (repeat (first | ((first | (apply wo_v; rfl) ); (· first | (apply pv_ev; rfl) )) | apply wo_nil | apply wc_seq | apply wc_region | (apply wc_exit; rfl) | apply wc_ret | (apply wc_true; rfl) | (apply wc_false; rfl) ))
    exact ret1 rfl rfl ⟨ao, c, rfl, rfl, rfl⟩ ((by (repeat (first | apply sub_nil | (apply sub_cons; (· (repeat (first | apply sel_here | apply sel_there)))))); done) : List.Perm _ ([_, _, _, _, _] ++ _)) (by first | exact fun _ h => h | (intro r hr; cases hr; done) | (simp; done) | exact fun _ h => List.mem_append_left _ h | (intro r hr; simp [hr]; done))
end Go.Proofs.Ytlhlidmhlhodiaa

/-
  Sparse frames: interface values: making one, asserting one, calling through one.
-/
namespace Go.Proofs.Ytlhlidmhlhodiaa
set_option linter.unusedSimpArgs false
set_option linter.unusedVariables false
open Go.RowKit

class TIfc (P : Program) (T : TypeId) : Prop where h : ∀ (x : Value) (w : World), (Instr.makeInterface T x).run P w = .ok (.iface T x) w
class TAs (P : Program) (xT T U : TypeId) (f : outParam (Value → Value)) : Prop where h : ∀ (v : Value) (w : World), (Instr.typeAssert (.iface T v) xT U true).run P w = .ok (f v) w
class TInv (P : Program) (T : TypeId) (m : String) (f : outParam FuncId) : Prop where h : ∀ (v : Value) (args : Array Value) (w : World), (callMethod (.iface T v) m args).run P w = .ok (.enter f (#[v] ++ args)) w
section
variable {P : Program} {N : Nat} {E : Env} {fr : List (Nat × Value)} {hp F : List It} {ro : List Ro} {T U xT : TypeId} {x : Operand} {v : Value} {Kn Kr : St → Prop} {Kx : List (Nat × (St → Prop))} {ops : Array Oper} {rest : List Oper} {dst : Option Tmp} {ty : TypeId} {pos : String} {af : Array Edge}
theorem pv_mki (hx : opd fr x = some v) (hT : TIfc P T) : Pv P ⟨fr, hp, ro⟩ (.makeInterface T x) (.iface T v) := fun N E ac w dst ty pos af g ok => by
  simp only [execOp, ok.h.eval hx]; simp [hT.h, go_sem]
theorem pv_tas {f : Value → Value} (hx : opd fr x = some (.iface T v)) (hT : TAs P xT T U f) : Pv P ⟨fr, hp, ro⟩ (.typeAssert x xT U true) (f v) := fun N E ac w dst ty pos af g ok => by
  simp only [execOp, ok.h.eval hx]; simp [hT.h, go_sem]
theorem inv_enter {f : FuncId} {m : String} {a : Act} {l : List Operand} {ats : Array TypeId} {g : Option (Nat × Bool)} (hT : TInv P T m f) (hx : a.eval x = .iface T v) (w : World) :
    (execOp a.eval ⟨dst, .call ⟨.invoke x m, l.toArray, ats⟩, ty, pos, af, g⟩).run P w = .ok (.enter f (v :: l.map a.eval).toArray) w := by
  have e : ∀ r : Array Value, (#[Value.iface T v] ++ r)[0]? = some (Value.iface T v) := fun r => by
    rw [Array.getElem?_append_left (Nat.zero_lt_one)]; rfl
  have e2 : ∀ r : Array Value, (#[Value.iface T v] ++ r).extract 1 (#[Value.iface T v] ++ r).size = r := fun r => by
    apply Array.ext'; simp
  have e3 : (execOp a.eval ⟨dst, .call ⟨.invoke x m, l.toArray, ats⟩, ty, pos, af, g⟩).run P w = (Go.invoke (.fn (.method m) #[]) (#[Value.iface T v] ++ l.toArray.map a.eval)).run P w := by
    simp only [execOp, resolve, hx, Sem.run_bind, Sem.run_pure, Result.andThen_ok]
  rw [e3]
  unfold Go.invoke
  rw [e]
  simp only [e2]
  rw [hT.h]
  simp
theorem wo_inv {f : FuncId} {m : String} {vs : List Value} {L F : List It} {R : List Ro} {Post : Value → List It → List Ro → Prop} {l : List Operand} {ats : Array TypeId}
    (hx : opd fr x = some (.iface T v)) (hT : TInv P T m f) (hF : Fn P f (v :: vs).toArray L R Post) (ha : opdL fr l = some vs) (hs : hp.Perm (L ++ F)) (hr : ∀ r ∈ R, r ∈ ro) (hd : dstOk dst N = true)
    (h : ∀ v L' R', Post v L' R' → ∀ H, H = L' ++ F → ∀ RR, RR = R' ++ ro → WO P N E ops rest ⟨putF dst v fr, H, RR⟩ Kn) :
    WO P N E ops (⟨dst, .call ⟨.invoke x m, l.toArray, ats⟩, ty, pos, af, none⟩ :: rest) ⟨fr, hp, ro⟩ Kn := by
  intro Q hQ a w ok
  unfold wpList
  rw [if_pos (by simp [Region.wanted])]
  refine .inl ?_
  unfold Oper.wp
  rw [inv_enter hT (ok.h.eval hx) w, ok.h.evalL ha]
  refine (hF w (ok.s.start hs hr)).mono fun e w' ⟨v, L', R', he, hP, hS⟩ => ?_
  subst he
  exact h v L' R' hP _ rfl _ rfl Q hQ _ w' ⟨ok.h.putF hd v, ok.s.step hs (fun b hb => by
    obtain ⟨r, h1, h2⟩ := mem_blks.1 hb; exact mem_blks.2 ⟨r, hr r h1, h2⟩) hS⟩
theorem outc_inv {f : FuncId} {m : String} {B0 : List It} {vs : List Value} {L Lc F1 : List It} {R : List Ro} {Post : Value → List It → List Ro → Prop} {TT : Value → List It → Prop} {l : List Operand} {ats : Array TypeId} {g : Option (Nat × Bool)}
    (hx : opd fr x = some (.iface T v)) (hT : TInv P T m f) (hF : Fn P f (v :: vs).toArray L R Post) (ha : opdL fr l = some vs) (hs : (Lc ++ B0).Perm (L ++ F1)) (hr : ∀ r ∈ R, r ∈ ro) (hTT : ∀ v L' R', Post v L' R' → ∃ M, TT v M ∧ (L' ++ F1).Perm (M ++ B0)) :
    ∀ a, Holds N fr a → Outc P E B0 ro ⟨dst, .call ⟨.invoke x m, l.toArray, ats⟩, ty, pos, af, g⟩ a Lc TT := fun a hh F w hw => by
  rw [inv_enter hT (hh.eval hx) w, hh.evalL ha]
  refine ⟨rfl, ?_⟩
  have hp1 : (Lc ++ (B0 ++ F)).Perm (L ++ (F1 ++ F)) := by
    rw [← List.append_assoc, ← List.append_assoc]; exact hs.append_right F
  have hw1 := hw.perm hp1
  refine (hF w (hw1.start (.refl _) hr)).mono fun e w' ⟨v, L', R', he, hP, hS⟩ => ?_
  obtain ⟨M, h1, h2⟩ := hTT v L' R' hP
  have h3 := (hw1.step (.refl _) (fun b hb => by obtain ⟨r, h1, h2⟩ := mem_blks.1 hb; exact mem_blks.2 ⟨r, hr r h1, h2⟩) hS).some_ro (fun r hr => List.mem_append_right _ hr)
  refine ⟨v, M, he, h1, h3.perm ?_⟩
  rw [← List.append_assoc, ← List.append_assoc]
  exact h2.append_right F
theorem outc_app_g {t e sz by_ n c m c2 : Nat} {B0 : List It} {ao ao2 : Option Addr} {xs ys : List (List Value)} {x y : Operand} {g : Option (Nat × Bool)} [TSl P t e sz by_] (hx : opd fr x = some (.slice ao n c)) (hy : opd fr y = some (.slice ao2 m c2))
    (b1 : n + m ≤ maxLen) (b2 : (n + m) * by_ ≤ 140737488355328) :
    ∀ a, Holds N fr a → Outc P E B0 ro ⟨dst, .call ⟨.builtin .append, #[x, y], #[t, t]⟩, ty, pos, af, g⟩ a [.own e sz ao n c xs, .own e sz ao2 m c2 ys] (fun v M => ∃ ao' c', v = .slice ao' (n + m) c' ∧ M = [.own e sz ao' (n + m) c' (xs ++ ys), .own e sz ao2 m c2 ys]) := by
  cases ao2 with
  | some ad =>
    intro a hh F w hw
    have hS2 : OwnSat w e sz (some ad) m c2 ys := hw.get (.swap _ _ _)
    obtain ⟨hsp, _⟩ := hS2.at_ _ rfl
    obtain ⟨b, o, s⟩ := ad
    simp only at hsp
    subst hsp
    exact outc_app hx hy b1 b2 a hh F w hw
  | none =>
    intro a hh F w hw
    obtain ⟨i, z, h1, h2, h3, h4, h5, h6, h7⟩ := sl_und (TSl.h (P := P) (T := t))
    have hS : OwnSat w e sz ao n c xs := hw.get (.refl _)
    have hS2 : OwnSat w e sz none m c2 ys := hw.get (.swap _ _ _)
    have hc0 := hS2.nil rfl
    have hle := hS2.le
    obtain rfl : m = 0 := by omega
    obtain rfl : ys = [] := List.eq_nil_of_length_eq_zero hS2.len
    have hr : (Builtin.append_ #[t, t] ty #[.slice ao n c, .slice none 0 c2]).run P w = .ok (.slice ao n c) w := by
      have hn0 : n + 0 ≤ c := by have := hS.le; omega
      cases ao <;> simp [Builtin.append_, run_underlying h1, sizeOf, typeInfo, h2, Builtin.lenOf, hn0, Builtin.firstCells, storeCells, go_sem] <;> (have := hS.le; omega)
    rw [exec_append (hh.eval hx) (hh.eval hy) hr]
    exact ⟨_, ⟨ao, c, rfl, rfl⟩, by simpa using hw⟩
/-- a field of a structure that is a value -/
def fld1B (P : Program) (T i : Nat) : Option Nat := match P.underlying T with
  | some (.struct fs) => match fs[i]? with
    | some f => if oneB P f.type then some f.offset else none
    | none => none
  | _ => none
class FO (P : Program) (T i : Nat) (off : outParam Nat) : Prop where h : fld1B P T i = some off
theorem pv_field {i off : Nat} {l : List Value} (hx : opd fr x = some (.agg l.toArray)) (hF : FO P T i off) (hl : l[off]? = some v) : Pv P ⟨fr, hp, ro⟩ (.field T x i) v := fun N E ac w dst ty pos af g ok => by
  have h := hF.h
  unfold fld1B at h
  split at h
  · rename_i fs hu
    split at h
    · rename_i f hf
      split at h
      · rename_i h1
        simp only [Option.some.injEq] at h
        subst h
        haveI : TOne P f.type := ⟨h1⟩
        simp only [execOp, ok.h.eval hx]
        have e := run_part_one (P := P) (T := f.type) (w := w) hl
        simp only [Instr.field, Sem.run_bind, run_underlying hu, Result.andThen_ok, hf, asAgg, Sem.run_pure, e]
      · cases h
    · cases h
  · cases h
end
theorem outc_ld {P : Program} {N : Nat} {E : Env} {fr : List (Nat × Value)} {L B0 : List It} {ro : List Ro} {op : Op} {v : Value} {dst : Option Tmp} {ty : TypeId} {pos : String} {af : Array Edge} {g : Option (Nat × Bool)} (h : Pv P ⟨fr, L, ro⟩ op v) :
    ∀ a, Holds N fr a → Outc P E B0 ro ⟨dst, op, ty, pos, af, g⟩ a L (fun v' M => v' = v ∧ M = L) := fun a hh F w hw => by
  unfold Pv at h
  rw [h N E a w dst ty pos af g ⟨hh, hw.left⟩]
  exact ⟨L, ⟨rfl, rfl⟩, hw⟩
theorem outc_fr {P : Program} {E : Env} {B0 X L : List It} {ro : List Ro} {o : Oper} {a : Act} {T : Value → List It → Prop} (h : Outc P E B0 ro o a L T) : Outc P E B0 ro o a (X ++ L) (fun v M => ∃ M0, T v M0 ∧ M = X ++ M0) := fun F w hw => by
  have pm : ∀ Y : List It, ((X ++ Y) ++ (B0 ++ F)).Perm (Y ++ (B0 ++ (X ++ F))) := fun Y => by
    rw [List.append_assoc]
    refine List.perm_append_comm.trans ?_
    rw [List.append_assoc, List.append_assoc]
    refine List.Perm.append_left Y ?_
    exact List.Perm.append_left B0 List.perm_append_comm
  have h1 := h (X ++ F) w (hw.perm (pm L))
  cases hr : (execOp a.eval o).run P w with
  | ok v w' =>
    rw [hr] at h1
    cases v with
    | value v =>
      obtain ⟨M, h2, h3⟩ := h1
      exact ⟨X ++ M, ⟨M, h2, rfl⟩, h3.perm (pm M).symm⟩
    | skip =>
      obtain ⟨M, h2, h3⟩ := h1
      exact ⟨X ++ M, ⟨M, h2, rfl⟩, h3.perm (pm M).symm⟩
    | enter f args =>
      obtain ⟨h0, h1⟩ := h1
      exact ⟨h0, h1.mono fun e w'' ⟨v, M, h2, h3, h4⟩ => ⟨v, X ++ M, h2, ⟨M, h3, rfl⟩, h4.perm (pm M).symm⟩⟩
    | _ => exact h1
  | _ => rw [hr] at h1; exact h1
theorem outc_frA {P : Program} {N : Nat} {E : Env} {fr : List (Nat × Value)} {B0 X L : List It} {ro : List Ro} {o : Oper} {T : Value → List It → Prop} (h : ∀ a, Holds N fr a → Outc P E B0 ro o a L T) : ∀ a, Holds N fr a → Outc P E B0 ro o a (X ++ L) (fun v M => ∃ M0, T v M0 ∧ M = X ++ M0) := fun a ha => outc_fr (h a ha)
end Go.Proofs.Ytlhlidmhlhodiaa

/-
  What interface values of this seat's program do, as instances. (Written by wip/tools/ifaces.py.)
-/
namespace Go.Proofs.Ytlhlidmhlhodiaa
set_option linter.unusedVariables false

instance : TIfc Try.prog 75 := ⟨fun _ _ => by kernel_rfl⟩
instance : TIfc Try.prog 77 := ⟨fun _ _ => by kernel_rfl⟩
instance : TIfc Try.prog 190 := ⟨fun _ _ => by kernel_rfl⟩
instance : TIfc Try.prog 194 := ⟨fun _ _ => by kernel_rfl⟩
instance : TIfc Try.prog 197 := ⟨fun _ _ => by kernel_rfl⟩
instance : TIfc Try.prog 267 := ⟨fun _ _ => by kernel_rfl⟩
instance : TIfc Try.prog 269 := ⟨fun _ _ => by kernel_rfl⟩
instance : TIfc Try.prog 273 := ⟨fun _ _ => by kernel_rfl⟩
instance : TIfc Try.prog 312 := ⟨fun _ _ => by kernel_rfl⟩
instance : TAs Try.prog 179 75 75 (fun v => .tuple #[v, .bool true]) := ⟨fun _ _ => by kernel_rfl⟩
instance : TAs Try.prog 179 77 75 (fun _ => .tuple #[.agg #[.int .u32 0, .int .u32 0, .slice none 0 0], .bool false]) := ⟨fun _ _ => by kernel_rfl⟩
instance : TAs Try.prog 179 190 75 (fun _ => .tuple #[.agg #[.int .u32 0, .int .u32 0, .slice none 0 0], .bool false]) := ⟨fun _ _ => by kernel_rfl⟩
instance : TAs Try.prog 179 194 75 (fun _ => .tuple #[.agg #[.int .u32 0, .int .u32 0, .slice none 0 0], .bool false]) := ⟨fun _ _ => by kernel_rfl⟩
instance : TAs Try.prog 179 197 75 (fun _ => .tuple #[.agg #[.int .u32 0, .int .u32 0, .slice none 0 0], .bool false]) := ⟨fun _ _ => by kernel_rfl⟩
instance : TAs Try.prog 179 267 75 (fun _ => .tuple #[.agg #[.int .u32 0, .int .u32 0, .slice none 0 0], .bool false]) := ⟨fun _ _ => by kernel_rfl⟩
instance : TAs Try.prog 179 269 75 (fun _ => .tuple #[.agg #[.int .u32 0, .int .u32 0, .slice none 0 0], .bool false]) := ⟨fun _ _ => by kernel_rfl⟩
instance : TAs Try.prog 179 273 75 (fun _ => .tuple #[.agg #[.int .u32 0, .int .u32 0, .slice none 0 0], .bool false]) := ⟨fun _ _ => by kernel_rfl⟩
instance : TAs Try.prog 179 312 75 (fun _ => .tuple #[.agg #[.int .u32 0, .int .u32 0, .slice none 0 0], .bool false]) := ⟨fun _ _ => by kernel_rfl⟩
instance : TAs Try.prog 179 75 77 (fun _ => .tuple #[.agg #[.int .u32 0, .int .u32 0], .bool false]) := ⟨fun _ _ => by kernel_rfl⟩
instance : TAs Try.prog 179 77 77 (fun v => .tuple #[v, .bool true]) := ⟨fun _ _ => by kernel_rfl⟩
instance : TAs Try.prog 179 190 77 (fun _ => .tuple #[.agg #[.int .u32 0, .int .u32 0], .bool false]) := ⟨fun _ _ => by kernel_rfl⟩
instance : TAs Try.prog 179 194 77 (fun _ => .tuple #[.agg #[.int .u32 0, .int .u32 0], .bool false]) := ⟨fun _ _ => by kernel_rfl⟩
instance : TAs Try.prog 179 197 77 (fun _ => .tuple #[.agg #[.int .u32 0, .int .u32 0], .bool false]) := ⟨fun _ _ => by kernel_rfl⟩
instance : TAs Try.prog 179 267 77 (fun _ => .tuple #[.agg #[.int .u32 0, .int .u32 0], .bool false]) := ⟨fun _ _ => by kernel_rfl⟩
instance : TAs Try.prog 179 269 77 (fun _ => .tuple #[.agg #[.int .u32 0, .int .u32 0], .bool false]) := ⟨fun _ _ => by kernel_rfl⟩
instance : TAs Try.prog 179 273 77 (fun _ => .tuple #[.agg #[.int .u32 0, .int .u32 0], .bool false]) := ⟨fun _ _ => by kernel_rfl⟩
instance : TAs Try.prog 179 312 77 (fun _ => .tuple #[.agg #[.int .u32 0, .int .u32 0], .bool false]) := ⟨fun _ _ => by kernel_rfl⟩
instance : TAs Try.prog 179 75 190 (fun _ => .tuple #[.agg #[.int .u32 0, .slice none 0 0], .bool false]) := ⟨fun _ _ => by kernel_rfl⟩
instance : TAs Try.prog 179 77 190 (fun _ => .tuple #[.agg #[.int .u32 0, .slice none 0 0], .bool false]) := ⟨fun _ _ => by kernel_rfl⟩
instance : TAs Try.prog 179 190 190 (fun v => .tuple #[v, .bool true]) := ⟨fun _ _ => by kernel_rfl⟩
instance : TAs Try.prog 179 194 190 (fun _ => .tuple #[.agg #[.int .u32 0, .slice none 0 0], .bool false]) := ⟨fun _ _ => by kernel_rfl⟩
instance : TAs Try.prog 179 197 190 (fun _ => .tuple #[.agg #[.int .u32 0, .slice none 0 0], .bool false]) := ⟨fun _ _ => by kernel_rfl⟩
instance : TAs Try.prog 179 267 190 (fun _ => .tuple #[.agg #[.int .u32 0, .slice none 0 0], .bool false]) := ⟨fun _ _ => by kernel_rfl⟩
instance : TAs Try.prog 179 269 190 (fun _ => .tuple #[.agg #[.int .u32 0, .slice none 0 0], .bool false]) := ⟨fun _ _ => by kernel_rfl⟩
instance : TAs Try.prog 179 273 190 (fun _ => .tuple #[.agg #[.int .u32 0, .slice none 0 0], .bool false]) := ⟨fun _ _ => by kernel_rfl⟩
instance : TAs Try.prog 179 312 190 (fun _ => .tuple #[.agg #[.int .u32 0, .slice none 0 0], .bool false]) := ⟨fun _ _ => by kernel_rfl⟩
instance : TAs Try.prog 179 75 194 (fun _ => .tuple #[.agg #[.int .u32 0, .int .u64 0, .slice none 0 0], .bool false]) := ⟨fun _ _ => by kernel_rfl⟩
instance : TAs Try.prog 179 77 194 (fun _ => .tuple #[.agg #[.int .u32 0, .int .u64 0, .slice none 0 0], .bool false]) := ⟨fun _ _ => by kernel_rfl⟩
instance : TAs Try.prog 179 190 194 (fun _ => .tuple #[.agg #[.int .u32 0, .int .u64 0, .slice none 0 0], .bool false]) := ⟨fun _ _ => by kernel_rfl⟩
instance : TAs Try.prog 179 194 194 (fun v => .tuple #[v, .bool true]) := ⟨fun _ _ => by kernel_rfl⟩
instance : TAs Try.prog 179 197 194 (fun _ => .tuple #[.agg #[.int .u32 0, .int .u64 0, .slice none 0 0], .bool false]) := ⟨fun _ _ => by kernel_rfl⟩
instance : TAs Try.prog 179 267 194 (fun _ => .tuple #[.agg #[.int .u32 0, .int .u64 0, .slice none 0 0], .bool false]) := ⟨fun _ _ => by kernel_rfl⟩
instance : TAs Try.prog 179 269 194 (fun _ => .tuple #[.agg #[.int .u32 0, .int .u64 0, .slice none 0 0], .bool false]) := ⟨fun _ _ => by kernel_rfl⟩
instance : TAs Try.prog 179 273 194 (fun _ => .tuple #[.agg #[.int .u32 0, .int .u64 0, .slice none 0 0], .bool false]) := ⟨fun _ _ => by kernel_rfl⟩
instance : TAs Try.prog 179 312 194 (fun _ => .tuple #[.agg #[.int .u32 0, .int .u64 0, .slice none 0 0], .bool false]) := ⟨fun _ _ => by kernel_rfl⟩
instance : TAs Try.prog 179 75 197 (fun _ => .tuple #[.agg #[.slice none 0 0, .string ByteArray.empty], .bool false]) := ⟨fun _ _ => by kernel_rfl⟩
instance : TAs Try.prog 179 77 197 (fun _ => .tuple #[.agg #[.slice none 0 0, .string ByteArray.empty], .bool false]) := ⟨fun _ _ => by kernel_rfl⟩
instance : TAs Try.prog 179 190 197 (fun _ => .tuple #[.agg #[.slice none 0 0, .string ByteArray.empty], .bool false]) := ⟨fun _ _ => by kernel_rfl⟩
instance : TAs Try.prog 179 194 197 (fun _ => .tuple #[.agg #[.slice none 0 0, .string ByteArray.empty], .bool false]) := ⟨fun _ _ => by kernel_rfl⟩
instance : TAs Try.prog 179 197 197 (fun v => .tuple #[v, .bool true]) := ⟨fun _ _ => by kernel_rfl⟩
instance : TAs Try.prog 179 267 197 (fun _ => .tuple #[.agg #[.slice none 0 0, .string ByteArray.empty], .bool false]) := ⟨fun _ _ => by kernel_rfl⟩
instance : TAs Try.prog 179 269 197 (fun _ => .tuple #[.agg #[.slice none 0 0, .string ByteArray.empty], .bool false]) := ⟨fun _ _ => by kernel_rfl⟩
instance : TAs Try.prog 179 273 197 (fun _ => .tuple #[.agg #[.slice none 0 0, .string ByteArray.empty], .bool false]) := ⟨fun _ _ => by kernel_rfl⟩
instance : TAs Try.prog 179 312 197 (fun _ => .tuple #[.agg #[.slice none 0 0, .string ByteArray.empty], .bool false]) := ⟨fun _ _ => by kernel_rfl⟩
instance : TAs Try.prog 179 75 274 (fun v => .tuple #[.iface 75 v, .bool true]) := ⟨fun _ _ => by kernel_rfl⟩
instance : TAs Try.prog 179 77 274 (fun v => .tuple #[.iface 77 v, .bool true]) := ⟨fun _ _ => by kernel_rfl⟩
instance : TAs Try.prog 179 190 274 (fun v => .tuple #[.iface 190 v, .bool true]) := ⟨fun _ _ => by kernel_rfl⟩
instance : TAs Try.prog 179 194 274 (fun v => .tuple #[.iface 194 v, .bool true]) := ⟨fun _ _ => by kernel_rfl⟩
instance : TAs Try.prog 179 197 274 (fun v => .tuple #[.iface 197 v, .bool true]) := ⟨fun _ _ => by kernel_rfl⟩
instance : TAs Try.prog 179 267 274 (fun v => .tuple #[.iface 267 v, .bool true]) := ⟨fun _ _ => by kernel_rfl⟩
instance : TAs Try.prog 179 269 274 (fun v => .tuple #[.iface 269 v, .bool true]) := ⟨fun _ _ => by kernel_rfl⟩
instance : TAs Try.prog 179 273 274 (fun v => .tuple #[.iface 273 v, .bool true]) := ⟨fun _ _ => by kernel_rfl⟩
instance : TAs Try.prog 179 312 274 (fun v => .tuple #[.iface 312 v, .bool true]) := ⟨fun _ _ => by kernel_rfl⟩
instance : TInv Try.prog 75 "Head" 219 := ⟨fun _ _ _ => by kernel_rfl⟩
instance : TInv Try.prog 77 "Head" 221 := ⟨fun _ _ _ => by kernel_rfl⟩
instance : TInv Try.prog 190 "Head" 228 := ⟨fun _ _ _ => by kernel_rfl⟩
instance : TInv Try.prog 194 "Head" 230 := ⟨fun _ _ _ => by kernel_rfl⟩
instance : TInv Try.prog 197 "Head" 233 := ⟨fun _ _ _ => by kernel_rfl⟩
instance : TInv Try.prog 267 "Head" 237 := ⟨fun _ _ _ => by kernel_rfl⟩
instance : TInv Try.prog 269 "Head" 240 := ⟨fun _ _ _ => by kernel_rfl⟩
instance : TInv Try.prog 273 "Head" 242 := ⟨fun _ _ _ => by kernel_rfl⟩
instance : TInv Try.prog 312 "Head" 246 := ⟨fun _ _ _ => by kernel_rfl⟩
instance : TInv Try.prog 75 "antiphon/rtcp.put" 220 := ⟨fun _ _ _ => by kernel_rfl⟩
instance : TInv Try.prog 77 "antiphon/rtcp.put" 222 := ⟨fun _ _ _ => by kernel_rfl⟩
instance : TInv Try.prog 190 "antiphon/rtcp.put" 229 := ⟨fun _ _ _ => by kernel_rfl⟩
instance : TInv Try.prog 194 "antiphon/rtcp.put" 231 := ⟨fun _ _ _ => by kernel_rfl⟩
instance : TInv Try.prog 197 "antiphon/rtcp.put" 234 := ⟨fun _ _ _ => by kernel_rfl⟩
instance : TInv Try.prog 267 "antiphon/rtcp.put" 238 := ⟨fun _ _ _ => by kernel_rfl⟩
instance : TInv Try.prog 269 "antiphon/rtcp.put" 241 := ⟨fun _ _ _ => by kernel_rfl⟩
instance : TInv Try.prog 273 "antiphon/rtcp.put" 243 := ⟨fun _ _ _ => by kernel_rfl⟩
instance : TInv Try.prog 312 "antiphon/rtcp.put" 247 := ⟨fun _ _ _ => by kernel_rfl⟩
instance : FO Try.prog 218 2 2 := ⟨by kernel_rfl⟩
instance : FO Try.prog 243 0 0 := ⟨by kernel_rfl⟩
end Go.Proofs.Ytlhlidmhlhodiaa
