/-
  The laws of rewrite: Made, later.
-/
import Derived.Test.YtnjicnadlhfocaaRwF
namespace Go.Proofs.Ytnjicnadlhfocaa
set_option linter.unusedSimpArgs false
set_option linter.unusedVariables false
open Go.RowKit
attribute [local irreducible] Pv WO WC Fn
set_option maxRecDepth 100000
attribute [local irreducible] ByteArray.extract

abbrev acR (src lt : Int) (bk : Bool) (A : Option Addr) (n c : Nat) : List Value := [.int .i64 src, .int .i64 lt, .bool bk, .slice A n c]
abbrev acI (b : Nat) (src lt : Int) (bk : Bool) (A : Option Addr) (n c : Nat) : It := .ob b (.cells (acR src lt bk A n c).toArray 103 (0, 0))
def ltM (t lt : Int) (bk : Bool) : Int := if bk = true then max (t - lt % 65536) 0 else t + lt % 65536
theorem lLater (t src lt : Int) (bk : Bool) (A : Option Addr) (n c : Nat) (hb : 0 ≤ t ∧ t ≤ 1099511627776) :
    Fn Try.prog 35 #[.int .i64 t, .agg (acR src lt bk A n c).toArray] [] [] (fun v L' R' => v = .int .i64 (ltM t lt bk) ∧ L' = [] ∧ R' = []) := by
  have q1 : bits .and .i64 lt 65535 = lt % 65536 := and_ones lt 16 (by omega)
  unfold ltM
  rw [← q1]
  cases bk with
  | true =>
    rw [if_pos rfl]
    refine fn_intro Try.func35 rfl Try.ntmps35 rfl (fun E => ?_)
    (repeat (first | ((first | (apply wo_v; rfl) ); (· first | (apply pv_ev; rfl) | (apply pv_fld; rfl) | (apply g_load; first | (apply pv_ld; rfl; (· (repeat (first | apply sel_here ))); rfl) ) | (apply g_bin; first | (apply a_sub; rfl; rfl; infer_instance; omega) | (apply pv_and; rfl; rfl) ) | (apply g_bi; first | (apply pv_max; rfl; rfl)) )) | apply wo_nil | apply wc_seq | apply wc_region | apply wc_ret | (apply wc_true; rfl) | (apply wo_box1; rfl; rfl; rfl; intro bx) | (apply wo_boxa; rfl; rfl; intro bx) ))
    exact ret1 rfl rfl ⟨rfl, rfl, rfl⟩ ((by (repeat (first | apply sub_nil )); done) : List.Perm _ ([] ++ _)) (by first | exact fun _ h => h | (intro r hr; cases hr; done) | (simp; done) | exact fun _ h => List.mem_append_left _ h | (intro r hr; simp [hr]; done))
  | false =>
    rw [if_neg (by simp)]
    refine fn_intro Try.func35 rfl Try.ntmps35 rfl (fun E => ?_)
    (repeat (first | ((first | (apply wo_v; rfl) ); (· first | (apply pv_ev; rfl) | (apply pv_fld; rfl) | (apply g_load; first | (apply pv_ld; rfl; (· (repeat (first | apply sel_here ))); rfl) ) | (apply g_bin; first | (apply a_add; rfl; rfl; infer_instance; omega) | (apply pv_and; rfl; rfl) ) )) | apply wo_nil | apply wc_seq | apply wc_region | apply wc_skip | apply wc_ret | (apply wc_true; rfl) | (apply wc_false; rfl) | (apply wo_box1; rfl; rfl; rfl; intro bx) | (apply wo_boxa; rfl; rfl; intro bx) ))
    exact ret1 rfl rfl ⟨rfl, rfl, rfl⟩ ((by (repeat (first | apply sub_nil )); done) : List.Perm _ ([] ++ _)) (by first | exact fun _ h => h | (intro r hr; cases hr; done) | (simp; done) | exact fun _ h => List.mem_append_left _ h | (intro r hr; simp [hr]; done))
def mdU (tx : Nat → ByteArray) (t : Int) (n : Nat) (i : Nat) : List Un := (List.range i).map fun (j : Nat) => ⟨(j : Int), t, decide ((j : Int) = min (n : Int) 4 - 1), false, false, cutS (tx j) 60, 0⟩
theorem mdU_len (tx : Nat → ByteArray) (t : Int) (n i : Nat) : (mdU tx t n i).length = i := by simp [mdU]
theorem mdU_succ (tx : Nat → ByteArray) (t : Int) (n i : Nat) : mdU tx t n (i + 1) = mdU tx t n i ++ [⟨i, t, decide ((i : Int) = min (n : Int) 4 - 1), false, false, cutS (tx i) 60, 0⟩] := by
  unfold mdU; rw [List.range_succ, List.map_append]; rfl
def tblD (p : ByteArray) (r : List Value) : Nat → List It → Value → List It → Prop := fun k L v M => match k, L with
  | 14, _ => v = .string p ∧ M = []
  | 16, _ => ∃ b, v = .pointer (some ⟨b, 0, none⟩) ∧ M = [.ob b (.cells #[.int .i64 0, .int .i64 0, .bool false, .bool false, .bool false, .string ByteArray.empty, .int .i64 0] 109 (0, 0))]
  | _, [.ob b _] => v = undef ∧ M = [.ob b (.cells r.toArray 109 (0, 0))]
  | _, _ => False
abbrev fuO (ao : Option Addr) (c : Nat) (U : List Un) : It := .own 109 7 ao U.length c (urs U)
abbrev tuO (ao : Option Addr) (c : Nat) (U : List Un) : It := .own 165 7 ao U.length c (urs U)
theorem fuO_snoc (ao : Option Addr) (c : Nat) (U : List Un) (a t : Int) (m : Bool) (s : ByteArray) : fuO ao c (U ++ [⟨a, t, m, false, false, s, 0⟩]) = .own 109 7 ao (U.length + 1) c (urs U ++ [[.int .i64 a, .int .i64 t, .bool m, .bool false, .bool false, .string s, .int .i64 0]]) := by simp [fuO, urow]
theorem tuO_snoc (ao : Option Addr) (c : Nat) (U : List Un) (a t : Int) (m : Bool) (s : ByteArray) : tuO ao c (U ++ [⟨a, t, m, false, false, s, 0⟩]) = .own 165 7 ao (U.length + 1) c (urs U ++ [[.int .i64 a, .int .i64 t, .bool m, .bool false, .bool false, .string s, .int .i64 0]]) := by simp [tuO, urow]
abbrev ffI (b : Nat) (ao : Option Addr) (n c : Nat) : It := .ob b (.cells #[.slice ao n c] 98 (0, 0))
set_option maxHeartbeats 16000000 in
theorem lMade (src lt : Int) (bk : Bool) (A : Option Addr) (n c : Nat) (tx : Nat → ByteArray) (t : Int) (R : List Ro) (hn : n ≤ 9223372036854775807) (hA : 0 < n → ∃ b o, A = some ⟨b, o, none⟩ ∧ ⟨b, o, 1, sseg tx n⟩ ∈ R) :
    Fn Try.prog 30 #[.agg (acR src lt bk A n c).toArray, .int .i64 t] [] R
      (fun v L' R' => ∃ ao c' ao2 c2, v = .tuple #[.agg #[.slice ao (mdU tx t n (min n 4)).length c'], .slice ao2 (mdU tx t n (min n 4)).length c2] ∧ L' = [fuO ao c' (mdU tx t n (min n 4)), tuO ao2 c2 (mdU tx t n (min n 4))] ∧ R' = []) := by
  refine fn_intro Try.func30 rfl Try.ntmps30 rfl (fun E => ?_)
  (repeat (first | ((first | (apply wo_v; rfl) ); (· first | (apply pv_ev; rfl) )) | apply wo_nil | apply wc_seq | apply wc_region | (apply wo_box1; rfl; rfl; rfl; intro bx) | (apply wo_boxa; rfl; rfl; intro bx) | (apply wo_alloc; rfl; intro bx) ))
  rename_i ba bc
  obtain ⟨bf, hbf⟩ : ∃ g, g = bx := ⟨_, rfl⟩
  subst hbf
  refine wc_join0 (fun st => ∃ ao c' ao2 c2, st = ⟨[(4, .pointer (some ⟨bc, 0, none⟩)), (6, .pointer (some ⟨bf, 0, none⟩)), (7, .slice ao2 (mdU tx t n (min n 4)).length c2)], [ffI bc none 0 0, ffI bf ao (mdU tx t n (min n 4)).length c', fuO ao c' (mdU tx t n (min n 4)), tuO ao2 c2 (mdU tx t n (min n 4))], R⟩) ?_ ?_
  · refine wc_block ?_
    refine wc_own0 109 7 ?_
    refine wc_own0 165 7 ?_
    refine wc_loop' (fun q st => ∃ (i : Nat) (ao : Option Addr) (c' : Nat) (ao2 : Option Addr) (c2 : Nat) (U : List Un), q = 5 - i ∧ i ≤ 4 ∧ i ≤ n ∧ U = mdU tx t n i ∧ st = ⟨[(1, .int .i64 t), (2, .pointer (some ⟨ba, 0, none⟩)), (4, .pointer (some ⟨bc, 0, none⟩)), (6, .pointer (some ⟨bf, 0, none⟩)), (7, .slice ao2 U.length c2), (8, .int .i64 i)], [acI ba src lt bk A n c, ffI bc none 0 0, ffI bf ao U.length c', fuO ao c' U, tuO ao2 c2 U], R⟩)
      ⟨0, none, 0, none, 0, [], rfl, by omega, by omega, rfl, rfl⟩ (wk_mk (by (repeat (first | apply wkf_nil | (apply wkf_cons; rfl))); done) (by (repeat (first | apply sub_nil | (apply sub_cons; (· (repeat (first | apply sel_here | apply sel_there)))))); done) (by first | exact fun _ h => h | (intro r hr; cases hr; done) | (simp; done) | exact fun _ h => List.mem_append_left _ h | (intro r hr; simp [hr]; done))) ?_
    rintro q st ⟨i, ao, c', ao2, c2, U, rfl, hi4, hin, hU, rfl⟩
    have hUl : U.length = i := by rw [hU]; exact mdU_len ..
    by_cases hlt : i < n ∧ i < 4
    · obtain ⟨h1, h2⟩ := hlt
      obtain ⟨b, o, rfl, hmem⟩ := hA (by omega)
      have hr := sseg_at (S := tx) h1
      have e1 := mdU_succ tx t n i
      rw [← hU] at e1
      have hC := octCut (tx i) 60
      generalize cutS (tx i) 60 = s at hC e1
      (repeat (first | ((first | (apply wo_v; rfl) ); (· first | (apply pv_ev; rfl) | (apply pv_fld; rfl) | (apply g_load; first | (apply pv_ld; rfl; (· (repeat (first | apply sel_here ))); rfl) ) | (apply g_pick; first | (apply pv_pick_t; rfl; rfl) ) | (apply g_bi; first | (apply pv_len_sl; rfl) ) )) | apply wo_nil | apply wc_seq | apply wc_region | apply wc_skip | (apply wc_true; rfl) | (apply wc_false; rfl) | (apply a_dec_t; rfl; (· first | assumption | omega)) | (apply wo_run; rfl; rfl) | (apply wo_skip; rfl; rfl; rfl; rfl) | (apply wo_skip_u; rfl; rfl; rfl) | (apply a_gt; rfl; rfl; (· first | assumption | omega)) ))
      refine wc_block ?_
      (repeat (first | apply wc_seq ))
      (refine wc_reg [0, 1] (asl [(14, 1), (16, 0), (17, 0)]) (tblD s [.int .i64 i, .int .i64 t, .bool (decide ((i : Int) = min (n : Int) 4 - 1)), .bool false, .bool false, .string s, .int .i64 0]) ([acI ba src lt bk (some ⟨b, o, none⟩) n c, ffI bc none 0 0, ffI bf ao U.length c', fuO ao c' U, tuO ao2 c2 U]) (fm [(0, []), (1, [])]) mixed (by kernel_rfl) (by kernel_rfl) (by decide) (asl_mem (by decide)) (by (repeat (first | (apply prm_cons; (· (repeat (first | apply sel_here )))) | apply List.Perm.nil )); done) ?_; (repeat (first | ((first | (apply HdE.val; rfl; rfl; (· first | apply gok_none ))); (· first | (apply pv_ev; rfl) | (apply pv_fld; rfl) | (apply g_load; first | (apply pv_ld; rfl; (· (repeat (first | apply sel_here | apply sel_there))); rfl) | (apply pv_ld_ownf; rfl; (· (repeat (first | fail ))); (· assumption); rfl) | (apply pv_ld_own1; rfl; (· (repeat (first | apply sel_there))); (· assumption)) | (apply pv_ld_rof; rfl; (· (first | assumption )); (· assumption); rfl) | (apply pv_ld_ro1; rfl; (· (first | assumption )); (· assumption)) ) | (apply g_bin; first | (apply a_sub; rfl; rfl; infer_instance; omega) ) | (apply g_bi; first | (apply pv_len_sl; rfl) | (apply pv_min; rfl; rfl) ) | (apply g_idx; first | (apply pv_idx; rfl; rfl; omega) ) )) )))
      (refine he_eff rfl rfl rfl (by first | exact gok_none | exact gok_run rfl rfl) (outc_call (F1 := _) (hC) rfl (by (repeat (first | apply sub_nil )); done) (by first | exact fun _ h => h | (intro r hr; cases hr; done) | (simp; done) | exact fun _ h => List.mem_append_left _ h | (intro r hr; simp [hr]; done)) ?_) ⟨_, _, rfl, rfl⟩ ?_; (· rintro v L' R' ⟨rfl, rfl, _⟩; exact ⟨_, ⟨rfl, rfl⟩, (by (repeat (first | (apply prm_cons; (· (repeat (first | apply sel_here )))) | apply List.Perm.nil )); done)⟩); rintro v M ⟨rfl, rfl⟩; simp only [setl, reduceIte, Nat.reduceEqDiff]; (repeat (first | ((first | (apply HdE.val; rfl; rfl; (· first | apply gok_none ))); (· first | (apply pv_ev; rfl) | (apply g_build; apply pv_build; (· (repeat (first | apply Bld.nil | (apply Bld.one; rfl; rfl; (· (repeat (first | apply SetAt.here | apply SetAt.there)))) )))) )) )))
      (refine he_eff rfl rfl rfl (by first | exact gok_none | exact gok_run rfl rfl) outc_alloc ⟨_, _, 0, rfl, rfl⟩ ?_; rintro v M ⟨bz, rfl, rfl⟩; simp only [setl, reduceIte, Nat.reduceEqDiff]; (repeat (first | fail )))
      (refine he_eff rfl rfl rfl (by first | exact gok_none | exact gok_run rfl rfl) (outc_sta rfl rfl rfl rfl (by (repeat (first | apply LayAt.nil | apply LayAt.here )); done)) ⟨_, _, rfl, rfl⟩ ?_; rintro v M ⟨rfl, rfl⟩; simp only [setl, reduceIte, Nat.reduceEqDiff]; (repeat (first | fail )))
      (refine HdE.nil ?_; intro H hH; simp only [Hp, fm, look, setl, List.flatMap_cons, List.flatMap_nil, reduceIte, Nat.reduceEqDiff, Option.getD_some, List.append_nil, List.cons_append, List.nil_append] at hH; subst hH)
      (repeat (first | ((first | (apply wo_v; rfl) ); (· first | (apply pv_ev; rfl) | (apply pv_fld; rfl) | (apply g_load; first | (apply pv_ld; rfl; (· (repeat (first | apply sel_here | apply sel_there))); rfl) | (apply pv_lda; rfl; (· (repeat (first | apply sel_here | apply sel_there))); (· (repeat (first | apply Cut.here0 | apply Cut.here )))) ) | (apply g_bi; first | fail ) )) | apply wc_seq | apply wc_region | (apply wo_bsl; (· (repeat (first | apply Rws'.nil | (apply Rws'.one; rfl; rfl; rfl) | (apply Rws'.agg; rfl; rfl; rfl)))); rfl; rfl; rfl; rfl; intro bx) ))
      refine wo_app rfl rfl (by (repeat (first | apply sel_here | apply sel_there)); done) (by (repeat (first | apply sel_here )); done) (by unfold maxLen; omega) (by omega) rfl (fun ao3 c3 => ?_)
      (repeat (first | ((first | (apply wo_v; rfl) ); (· first | (apply pv_ev; rfl) | (apply pv_fld; rfl) | (apply g_load; first | (apply pv_lda; rfl; (· (repeat (first | apply sel_here | apply sel_there))); (· (repeat (first | apply Cut.here0 | apply Cut.here )))) ) | (apply g_bi; first | fail ) )) | apply wo_nil | apply wc_region | (apply wo_st; rfl; rfl; rfl; (· (repeat (first | apply sel_here | apply sel_there))); (· (repeat (first | apply SetAt.here ))); rfl) | (apply wo_bsl; (· (repeat (first | apply Rws'.nil | (apply Rws'.one; rfl; rfl; rfl) | (apply Rws'.agg; rfl; rfl; rfl)))); rfl; rfl; rfl; rfl; intro bx) ))
      refine wo_app rfl rfl (by (repeat (first | apply sel_here | apply sel_there)); done) (by (repeat (first | apply sel_here )); done) (by unfold maxLen; omega) (by omega) rfl (fun ao4 c4 => ?_)
      (repeat (first | ((first | (apply wo_v; rfl) ); (· first | (apply pv_ev; rfl) | (apply g_bin; first | (apply a_add; rfl; rfl; infer_instance; omega) ) )) | apply wo_nil | apply wc_region ))
      exact loop_end ⟨i + 1, ao3, c3, ao4, c4, U ++ [⟨i, t, decide ((i : Int) = min (n : Int) 4 - 1), false, false, s, 0⟩], rfl, by omega, by omega, e1.symm, by rw [fuO_snoc, tuO_snoc, List.length_append, List.length_singleton]⟩ (by omega) (wk_mk (by (repeat (first | apply wkf_nil | (apply wkf_cons; rfl))); done) (by (repeat (first | apply sub_nil | (apply sub_cons; (· (repeat (first | apply sel_here | apply sel_there)))))); done) (by first | exact fun _ h => h | (intro r hr; cases hr; done) | (simp; done) | exact fun _ h => List.mem_append_left _ h | (intro r hr; simp [hr]; done)))
    · have hex2 : ¬ (i < n) ∨ (i < n ∧ ¬ i < 4) := by omega
      have e : min n 4 = i := by omega
      rw [e]
      subst hU
      rcases hex2 with h | ⟨h, h'⟩
      all_goals
        (repeat (first | ((first | (apply wo_v; rfl) ); (· first | (apply pv_ev; rfl) | (apply pv_fld; rfl) | (apply g_load; first | (apply pv_ld; rfl; (· (repeat (first | apply sel_here ))); rfl) ) | (apply g_pick; first | (apply pv_pick_t; rfl; rfl) | (apply pv_pick_f; rfl; rfl)) | (apply g_bi; first | (apply pv_len_sl; rfl) ) )) | apply wo_nil | apply wc_seq | apply wc_region | (apply wc_exit; rfl) | (apply wc_true; rfl) | (apply wc_false; rfl) | (apply a_dec_t; rfl; (· first | assumption | omega)) | (apply a_dec_f; rfl; (· first | assumption | omega)) | (apply wo_run; rfl; rfl) | (apply wo_skip; rfl; rfl; rfl; rfl) | (apply wo_skip_u; rfl; rfl; rfl) | (apply a_gt; rfl; rfl; (· first | assumption | omega)) | (apply a_gf; rfl; rfl; (· first | assumption | omega)) ))
        exact cut_end ⟨ao, c', ao2, c2, rfl⟩ (wk_mk (by (repeat (first | apply wkf_nil | (apply wkf_cons; rfl))); done) (by (repeat (first | apply sub_nil | (apply sub_cons; (· (repeat (first | apply sel_here | apply sel_there)))))); done) (by first | exact fun _ h => h | (intro r hr; cases hr; done) | (simp; done) | exact fun _ h => List.mem_append_left _ h | (intro r hr; simp [hr]; done)))
  rintro st ⟨ao, c', ao2, c2, rfl⟩
  (repeat (first | ((first | (apply wo_v; rfl) ); (· first | (apply pv_ev; rfl) | (apply g_load; first | (apply pv_lda; rfl; (· (repeat (first | apply sel_here | apply sel_there))); (· (repeat (first | apply Cut.here0 | apply Cut.here )))) ) )) | apply wo_nil | apply wc_seq | apply wc_region | apply wc_ret | (apply wo_sta; rfl; rfl; rfl; rfl; (· (repeat (first | apply sel_here ))); (· (repeat (first | apply LayAt.nil | apply LayAt.here ))); rfl) ))
  exact retv rfl (by (repeat (first | apply RV.nil | (apply RV.tmp; rfl) | (apply RV.agg; rfl; (· (repeat (first | apply sel_here ))); infer_instance; (· (repeat (first | apply Cut.here0 | apply Cut.here )))) )); done) (⟨ao, c', ao2, c2, rfl, rfl, rfl⟩) (by (repeat (first | apply sub_nil | (apply sub_cons; (· (repeat (first | apply sel_here | apply sel_there)))))); done) (by first | exact fun _ h => h | (intro r hr; cases hr; done) | (simp; done) | exact fun _ h => List.mem_append_left _ h | (intro r hr; simp [hr]; done))
end Go.Proofs.Ytnjicnadlhfocaa
