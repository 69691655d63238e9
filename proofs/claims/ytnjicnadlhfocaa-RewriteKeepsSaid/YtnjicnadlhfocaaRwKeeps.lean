/-
  RewriteKeeps: what stands behind a payload's descriptor is as it came.
-/
import Derived.Test.YtnjicnadlhfocaaRwStream
import Derived.Test.YtnjicnadlhfocaaVpE
namespace Go.Proofs.Ytnjicnadlhfocaa
set_option linter.unusedSimpArgs false
set_option linter.unusedVariables false
open Go.RowKit
attribute [local irreducible] Pv WO WC Fn
set_option maxRecDepth 100000
attribute [local irreducible] ByteArray.extract

theorem kBit (c : Bool) (n : Int) : Fn Try.prog 90 #[.bool c, .int .i64 n] [] [] (fun v L' R' => v = .int .i64 (if c = true then n else 0) ∧ L' = [] ∧ R' = []) := by
  cases c with
  | true =>
    refine fn_intro Try.func90 rfl Try.ntmps90 rfl (fun E => ?_)
    (repeat (first | ((first | (apply wo_v; rfl) ); (· first | (apply pv_ev; rfl) )) | apply wo_nil | apply wc_seq | apply wc_region | apply wc_ret | (apply wc_true; rfl) ))
    exact ret1 rfl rfl ⟨rfl, rfl, rfl⟩ ((by (repeat (first | apply sub_nil )); done) : List.Perm _ ([] ++ _)) (by first | exact fun _ h => h | (intro r hr; cases hr; done) | (simp; done) | exact fun _ h => List.mem_append_left _ h | (intro r hr; simp [hr]; done))
  | false =>
    refine fn_intro Try.func90 rfl Try.ntmps90 rfl (fun E => ?_)
    (repeat (first | ((first | (apply wo_v; rfl) ); (· first | (apply pv_ev; rfl) )) | apply wo_nil | apply wc_seq | apply wc_region | apply wc_skip | apply wc_ret | (apply wc_true; rfl) | (apply wc_false; rfl) ))
    exact ret1 rfl rfl ⟨rfl, rfl, rfl⟩ ((by (repeat (first | apply sub_nil )); done) : List.Perm _ ([] ++ _)) (by first | exact fun _ h => h | (intro r hr; cases hr; done) | (simp; done) | exact fun _ h => List.mem_append_left _ h | (intro r hr; simp [hr]; done))
abbrev pk0 : List Value := [.bool false, .int .u8 0, .int .u16 0, .int .u32 0, .int .u32 0, .slice none 0 0, .bool false, .int .u16 0, .string ByteArray.empty, .string ByteArray.empty, .int .i64 0]
theorem kBitR (c : Bool) (n r : Int) (h : (if c = true then n else 0) = r) : Fn Try.prog 90 #[.bool c, .int .i64 n] [] [] (fun v L' R' => v = .int .i64 r ∧ L' = [] ∧ R' = []) := by subst h; exact kBit c n
theorem kHead0 : ∃ s : ByteArray, s.size = 12 ∧ Fn Try.prog 78 #[.agg pk0.toArray] [] [] (fun v L' R' => v = .string s ∧ L' = [] ∧ R' = []) := by
  refine ⟨numS 1 (128 + 0 + 0 + 0) ++ numS 1 (0 + 0) ++ (numS 2 0 ++ numS 4 0 ++ numS 4 0), by simp only [ByteArray.size_append, numS_size], ?_⟩
  have z1 := numS_size 1 (128 + 0 + 0 + 0)
  have z2 := numS_size 1 (0 + 0)
  have z3 := numS_size 2 0
  have z4 := numS_size 4 0
  refine fn_intro Try.func78 rfl Try.ntmps78 rfl (fun E => ?_)
  (repeat (first | ((first | (apply wo_v; rfl) ); (· first | (apply pv_ev; rfl) )) | apply wo_nil | apply wc_seq | apply wc_region | (apply wo_box1; rfl; rfl; rfl; intro bx) | (apply wo_boxa; rfl; rfl; intro bx) ))
  (refine wc_quiet mixed (by kernel_rfl) ?_; (repeat (first | ((first | (apply hd_v; rfl) ); (· first | (apply pv_ev; rfl) | (apply pv_fld; rfl) | (apply g_load; first | (apply pv_ld; rfl; (· (repeat (first | apply sel_here ))); rfl) ) )) )))
  (refine Hd.call rfl inferInstance (Fn.mono (kBitR _ 32 0 rfl) (fun _ _ _ h => ⟨h.1, h.2.1⟩)) rfl (by (repeat (first | apply sub_nil )); done) (by first | exact fun _ h => h | (intro r hr; cases hr; done) | (simp; done) | exact fun _ h => List.mem_append_left _ h | (intro r hr; simp [hr]; done)) rfl ?_; (repeat (first | ((first | (apply hd_v; rfl) ); (· first | (apply pv_ev; rfl) | (apply pv_fld; rfl) | (apply g_load; first | (apply pv_ld; rfl; (· (repeat (first | apply sel_here ))); rfl) ) | (apply g_bin; first | (apply a_add; rfl; rfl; infer_instance; omega) ) )) )))
  (refine Hd.call rfl inferInstance (Fn.mono (kBitR _ 16 0 rfl) (fun _ _ _ h => ⟨h.1, h.2.1⟩)) rfl (by (repeat (first | apply sub_nil )); done) (by first | exact fun _ h => h | (intro r hr; cases hr; done) | (simp; done) | exact fun _ h => List.mem_append_left _ h | (intro r hr; simp [hr]; done)) rfl ?_; (repeat (first | ((first | (apply hd_v; rfl) ); (· first | (apply pv_ev; rfl) | (apply pv_fld; rfl) | (apply g_load; first | (apply pv_ld; rfl; (· (repeat (first | apply sel_here ))); rfl) ) | (apply g_bin; first | (apply a_add; rfl; rfl; infer_instance; omega) ) | (apply g_bi; first | (apply pv_len_sl; rfl) ) | (apply g_conv; first | (apply a_conv; rfl; infer_instance; infer_instance; infer_instance; omega) ) )) )))
  (refine Hd.call rfl inferInstance (Fn.mono (rNum 1 (128 + 0 + 0 + 0) 1 rfl (by omega)) (fun _ _ _ h => ⟨h.1, h.2.1⟩)) rfl (by (repeat (first | apply sub_nil )); done) (by first | exact fun _ h => h | (intro r hr; cases hr; done) | (simp; done) | exact fun _ h => List.mem_append_left _ h | (intro r hr; simp [hr]; done)) rfl ?_; (repeat (first | ((first | (apply hd_v; rfl) ); (· first | (apply pv_ev; rfl) | (apply pv_fld; rfl) | (apply g_load; first | (apply pv_ld; rfl; (· (repeat (first | apply sel_here ))); rfl) ) )) )))
  (refine Hd.call rfl inferInstance (Fn.mono (kBitR _ 128 0 rfl) (fun _ _ _ h => ⟨h.1, h.2.1⟩)) rfl (by (repeat (first | apply sub_nil )); done) (by first | exact fun _ h => h | (intro r hr; cases hr; done) | (simp; done) | exact fun _ h => List.mem_append_left _ h | (intro r hr; simp [hr]; done)) rfl ?_; (repeat (first | ((first | (apply hd_v; rfl) ); (· first | (apply pv_ev; rfl) | (apply pv_fld; rfl) | (apply g_load; first | (apply pv_ld; rfl; (· (repeat (first | apply sel_here ))); rfl) ) | (apply g_bin; first | (apply a_add; rfl; rfl; infer_instance; omega) ) | (apply g_conv; first | (apply a_conv; rfl; infer_instance; infer_instance; infer_instance; omega) ) )) )))
  (refine Hd.call rfl inferInstance (Fn.mono (rNum 1 (0 + 0) 1 rfl (by omega)) (fun _ _ _ h => ⟨h.1, h.2.1⟩)) rfl (by (repeat (first | apply sub_nil )); done) (by first | exact fun _ h => h | (intro r hr; cases hr; done) | (simp; done) | exact fun _ h => List.mem_append_left _ h | (intro r hr; simp [hr]; done)) rfl ?_; (repeat (first | ((first | (apply hd_v; rfl) ); (· first | (apply pv_ev; rfl) | (apply g_bin; first | (apply a_add; rfl; rfl; infer_instance; omega) | (apply pv_add_s; rfl; rfl; omega) ) )) | apply Hd.nil | apply wc_seq )))
  generalize numS 1 (128 + 0 + 0 + 0) = a1, numS 1 (0 + 0) = a2 at z1 z2 ⊢
  (refine wc_quiet mixed (by kernel_rfl) ?_; (repeat (first | ((first | (apply hd_v; rfl) ); (· first | (apply pv_ev; rfl) | (apply pv_fld; rfl) | (apply g_load; first | (apply pv_ld; rfl; (· (repeat (first | apply sel_here ))); rfl) ) | (apply g_conv; first | (apply a_conv; rfl; infer_instance; infer_instance; infer_instance; omega) ) )) )))
  (refine Hd.call rfl inferInstance (Fn.mono (rNum 2 0 2 rfl (by omega)) (fun _ _ _ h => ⟨h.1, h.2.1⟩)) rfl (by (repeat (first | apply sub_nil )); done) (by first | exact fun _ h => h | (intro r hr; cases hr; done) | (simp; done) | exact fun _ h => List.mem_append_left _ h | (intro r hr; simp [hr]; done)) rfl ?_; (repeat (first | ((first | (apply hd_v; rfl) ); (· first | (apply pv_ev; rfl) | (apply pv_fld; rfl) | (apply g_load; first | (apply pv_ld; rfl; (· (repeat (first | apply sel_here ))); rfl) ) | (apply g_conv; first | (apply a_conv; rfl; infer_instance; infer_instance; infer_instance; omega) ) )) )))
  (refine Hd.call rfl inferInstance (Fn.mono (rNum 4 0 4 rfl (by omega)) (fun _ _ _ h => ⟨h.1, h.2.1⟩)) rfl (by (repeat (first | apply sub_nil )); done) (by first | exact fun _ h => h | (intro r hr; cases hr; done) | (simp; done) | exact fun _ h => List.mem_append_left _ h | (intro r hr; simp [hr]; done)) rfl ?_; (repeat (first | ((first | (apply hd_v; rfl) ); (· first | (apply pv_ev; rfl) | (apply pv_fld; rfl) | (apply g_load; first | (apply pv_ld; rfl; (· (repeat (first | apply sel_here ))); rfl) ) | (apply g_bin; first | (apply a_add; rfl; rfl; infer_instance; omega) | (apply pv_add_s; rfl; rfl; omega) ) | (apply g_conv; first | (apply a_conv; rfl; infer_instance; infer_instance; infer_instance; omega) ) )) )))
  (refine Hd.call rfl inferInstance (Fn.mono (rNum 4 0 4 rfl (by omega)) (fun _ _ _ h => ⟨h.1, h.2.1⟩)) rfl (by (repeat (first | apply sub_nil )); done) (by first | exact fun _ h => h | (intro r hr; cases hr; done) | (simp; done) | exact fun _ h => List.mem_append_left _ h | (intro r hr; simp [hr]; done)) rfl ?_; (repeat (first | ((first | (apply hd_v; rfl) ); (· first | (apply pv_ev; rfl) | (apply g_bin; first | (apply a_add; rfl; rfl; infer_instance; omega) | (apply pv_add_s; rfl; rfl; omega) | (apply a_add_u; rfl; rfl; infer_instance) | (apply pv_add_w; rfl; rfl) ) )) )))
  generalize numS 2 0 = a3, numS 4 0 = a4 at z3 z4 ⊢
  have z5 : (a1 ++ a2).size = 2 := by rw [ByteArray.size_append, z1, z2]
  have z6 : (a3 ++ a4).size = 6 := by rw [ByteArray.size_append, z3, z4]
  have z7 : (a3 ++ a4 ++ a4).size = 10 := by rw [ByteArray.size_append, z6, z4]
  have z8 : (a1 ++ a2 ++ (a3 ++ a4 ++ a4)).size = 12 := by rw [ByteArray.size_append, z5, z7]
  (repeat (first | ((first | (apply wo_v; rfl) | (apply hd_v; rfl) ); (· first | (apply pv_ev; rfl) | (apply pv_fld; rfl) | (apply g_load; first | (apply pv_ld; rfl; (· (repeat (first | apply sel_here ))); rfl) ) | (apply g_bin; first | (apply a_add; rfl; rfl; infer_instance; omega) | (apply pv_add_s; rfl; rfl; omega) ) | (apply g_bi; first | (apply pv_len_sl; rfl) ) )) | apply wo_nil | apply Hd.nil | apply wc_seq | apply wc_region ))
  generalize a1 ++ a2 ++ (a3 ++ a4 ++ a4) = s at z8 ⊢
  refine wc_join0 (fun st => st = ⟨[(1, .pointer (some ⟨bx, 0, none⟩)), (3, .string s)], [.ob bx (.cells pk0.toArray 115 (0, 0))], []⟩) ?_ ?_
  · refine wc_block ?_
    refine wc_loop' (fun q st => q = 1 ∧ st = ⟨[(1, .pointer (some ⟨bx, 0, none⟩)), (3, .string s), (49, .int .i64 0), (50, .int .i64 0)], [.ob bx (.cells pk0.toArray 115 (0, 0))], []⟩) ⟨rfl, rfl⟩ (wk_mk (by (repeat (first | apply wkf_nil | (apply wkf_cons; rfl))); done) (by (repeat (first | apply sub_nil )); done) (by first | exact fun _ h => h | (intro r hr; cases hr; done) | (simp; done) | exact fun _ h => List.mem_append_left _ h | (intro r hr; simp [hr]; done))) ?_
    rintro q st ⟨rfl, rfl⟩
    (repeat (first | ((first | (apply wo_v; rfl) ); (· first | (apply pv_ev; rfl) )) | apply wo_nil | apply wc_seq | apply wc_region | (apply wc_exit; rfl) | (apply wc_true; rfl) | (apply wc_false; rfl) ))
    exact cut_end rfl (wk_mk (by (repeat (first | apply wkf_nil | (apply wkf_cons; rfl))); done) (by (repeat (first | apply sub_nil )); done) (by first | exact fun _ h => h | (intro r hr; cases hr; done) | (simp; done) | exact fun _ h => List.mem_append_left _ h | (intro r hr; simp [hr]; done)))
  rintro st rfl
  (repeat (first | ((first | (apply wo_v; rfl) ); (· first | (apply pv_ev; rfl) | (apply pv_fld; rfl) | (apply g_load; first | (apply pv_ld; rfl; (· (repeat (first | apply sel_here ))); rfl) ) )) | apply wo_nil | apply wc_seq | apply wc_region | apply wc_skip | apply wc_ret | (apply wc_true; rfl) | (apply wc_false; rfl) ))
  exact ret1 rfl rfl ⟨rfl, rfl, rfl⟩ ((by (repeat (first | apply sub_nil )); done) : List.Perm _ ([] ++ _)) (by first | exact fun _ h => h | (intro r hr; cases hr; done) | (simp; done) | exact fun _ h => List.mem_append_left _ h | (intro r hr; simp [hr]; done))
theorem kText0 : ∃ s : ByteArray, s.size = 12 ∧ Fn Try.prog 64 #[.agg pk0.toArray] [] [] (fun v L' R' => v = .string s ∧ L' = [] ∧ R' = []) := by
  obtain ⟨s, hs, hH⟩ := kHead0
  have e0 : (ByteArray.empty).size = 0 := rfl
  have e1 : s ++ ByteArray.empty = s := by simp
  refine ⟨s, hs, ?_⟩
  refine fn_intro Try.func64 rfl Try.ntmps64 rfl (fun E => ?_)
  (repeat (first | ((first | (apply wo_v; rfl) ); (· first | (apply pv_ev; rfl) )) | apply wo_nil | apply wc_seq | apply wc_region | (apply wo_box1; rfl; rfl; rfl; intro bx) | (apply wo_boxa; rfl; rfl; intro bx) ))
  (refine wc_quiet mixed (by kernel_rfl) ?_; (repeat (first | ((first | (apply hd_v; rfl) ); (· first | (apply pv_ev; rfl) | (apply g_load; first | (apply pv_lda; rfl; (· (repeat (first | apply sel_here ))); (· (repeat (first | apply Cut.here0 | apply Cut.here )))) ) )) )))
  (refine Hd.call rfl inferInstance (Fn.mono (hH) (fun _ _ _ h => ⟨h.1, h.2.1⟩)) rfl (by (repeat (first | apply sub_nil )); done) (by first | exact fun _ h => h | (intro r hr; cases hr; done) | (simp; done) | exact fun _ h => List.mem_append_left _ h | (intro r hr; simp [hr]; done)) rfl ?_; (repeat (first | ((first | (apply wo_v; rfl) | (apply hd_v; rfl) ); (· first | (apply pv_ev; rfl) | (apply pv_fld; rfl) | (apply g_load; first | (apply pv_ld; rfl; (· (repeat (first | apply sel_here ))); rfl) ) | (apply g_bin; first | (apply a_add; rfl; rfl; infer_instance; omega) | (apply pv_add_s; rfl; rfl; omega) ) )) | apply wo_nil | apply Hd.nil | apply wc_seq | apply wc_region | apply wc_block )))
  rw [e1]
  refine wc_loop' (fun q st => q = 1 ∧ st = ⟨[(1, .pointer (some ⟨bx, 0, none⟩)), (3, .string s), (4, .int .i64 1)], [.ob bx (.cells pk0.toArray 115 (0, 0))], []⟩) ⟨rfl, rfl⟩ (wk_mk (by (repeat (first | apply wkf_nil | (apply wkf_cons; rfl))); done) (by (repeat (first | apply sub_nil )); done) (by first | exact fun _ h => h | (intro r hr; cases hr; done) | (simp; done) | exact fun _ h => List.mem_append_left _ h | (intro r hr; simp [hr]; done))) ?_
  rintro q st ⟨rfl, rfl⟩
  (repeat (first | ((first | (apply wo_v; rfl) ); (· first | (apply pv_ev; rfl) | (apply pv_fld; rfl) | (apply g_load; first | (apply pv_ld; rfl; (· (repeat (first | apply sel_here ))); rfl) ) )) | apply wo_nil | apply wc_seq | apply wc_region | apply wc_skip | (apply wc_exit; rfl) | apply wc_ret | (apply wc_true; rfl) | (apply wc_false; rfl) ))
  exact ret1 rfl rfl ⟨rfl, rfl, rfl⟩ ((by (repeat (first | apply sub_nil )); done) : List.Perm _ ([] ++ _)) (by first | exact fun _ h => h | (intro r hr; cases hr; done) | (simp; done) | exact fun _ h => List.mem_append_left _ h | (intro r hr; simp [hr]; done))
theorem kCheck0 : Fn Try.prog 33 #[.agg pk0.toArray] [] [] (fun v L' R' => v = .int .i64 0 ∧ L' = [] ∧ R' = []) := by
  obtain ⟨s, hs, hT⟩ := kText0
  have e0 : (ByteArray.empty).size = 0 := rfl
  refine fn_intro Try.func33 rfl Try.ntmps33 rfl (fun E => ?_)
  (repeat (first | ((first | (apply wo_v; rfl) ); (· first | (apply pv_ev; rfl) | (apply pv_fld; rfl) | (apply g_load; first | (apply pv_ld; rfl; (· (repeat (first | apply sel_here ))); rfl) | (apply pv_lda; rfl; (· (repeat (first | apply sel_here ))); (· (repeat (first | apply Cut.here0 | apply Cut.here )))) ) | (apply g_pick; first | (apply pv_pick_t; rfl; rfl) | (apply pv_pick_f; rfl; rfl)) | (apply g_bin; first | (apply a_quo; rfl; rfl; infer_instance; omega) | (apply pv_rem; rfl; rfl; omega) | (apply pv_neq_s; rfl; rfl) ) | (apply g_bi; first | (apply pv_len_sl; rfl) | (apply pv_len_str; rfl) ) | (apply g_un; first | (apply pv_not_t; rfl) | (apply pv_not_f; rfl) ) )) | apply wo_nil | apply wc_seq | apply wc_region | apply wc_skip | (apply wc_true; rfl) | (apply wc_false; rfl) | (apply wo_run; rfl; rfl) | (apply wo_box1; rfl; rfl; rfl; intro bx) | (apply wo_boxa; rfl; rfl; intro bx) ))
  (refine wo_call (hT) rfl (by (repeat (first | apply sub_nil )); done) (by first | exact fun _ h => h | (intro r hr; cases hr; done) | (simp; done) | exact fun _ h => List.mem_append_left _ h | (intro r hr; simp [hr]; done)) rfl ?_; rintro v L' R' ⟨rfl, rfl, rfl⟩ H' hH RR hR; simp only [List.cons_append, List.nil_append] at hH hR; subst hH; have hR := hR.symm; subst hR)
  (repeat (first | ((first | (apply wo_v; rfl) ); (· first | (apply pv_ev; rfl) | (apply g_bi; first | (apply pv_len_str; rfl) ) )) | apply wo_nil | apply wc_seq | apply wc_region | apply wc_skip | apply wc_ret | (apply wc_true; rfl) | (apply wc_false; rfl) | (apply a_dec_t; rfl; (· first | assumption | omega)) | (apply a_dec_f; rfl; (· first | assumption | omega)) ))
  exact ret1 rfl rfl ⟨rfl, rfl, rfl⟩ ((by (repeat (first | apply sub_nil )); done) : List.Perm _ ([] ++ _)) (by first | exact fun _ h => h | (intro r hr; cases hr; done) | (simp; done) | exact fun _ h => List.mem_append_left _ h | (intro r hr; simp [hr]; done))
theorem pkN_pl {vi : Bool} {kd sq t ss pic lv : Int} {U : List Un} : ∀ {i : Nat}, i ≤ U.length → ∀ {j : Nat} {p : Pm}, (pkN vi kd sq t ss pic lv U i)[j]? = some p → ∃ u, U[j]? = some u ∧ p.pl = payM vi pic lv u.tx
  | 0, _, j, p, h => by simp [pkN] at h
  | i + 1, hi, j, p, h => by
    have hl := pkN_len vi kd sq t ss pic lv U i (by omega)
    have hu : U[i]? = some U[i] := List.getElem?_eq_getElem (show i < U.length by omega)
    rw [pkN, hu] at h
    simp only at h
    by_cases hj : j < i
    · rw [List.getElem?_append_left (by omega)] at h
      exact pkN_pl (by omega) h
    · rw [List.getElem?_append_right (by omega), hl] at h
      have : j - i = 0 := by
        have := (List.getElem?_eq_some_iff.1 h).1; simp at this; omega
      rw [this] at h
      simp at h
      subst h
      have e : j = i := by omega
      subst e
      exact ⟨_, hu, rfl⟩
def tblK (ot : It) (Q : List Pm) : Nat → List (List It) → Value → List (List It) → Prop := fun _ _ v Ms => ∃ b o c, v = .slice (some ⟨b, o, none⟩) Q.length c ∧ Ms = [[ot], [pkO (some ⟨b, o, none⟩) c Q]]
def tblK0 : Nat → List (List It) → Value → List (List It) → Prop := fun _ _ v Ms => v = .slice none 0 0 ∧ Ms = [[]]
set_option maxHeartbeats 64000000 in
theorem rewriteKeeps_fn (A : Option Addr) (m c0 : Nat) (rows : List (List Value)) (R : List Ro) (h : Deep R a15Fd A m c0 rows) :
    Fn Try.prog 7 #[.slice A m c0] [] R (fun v _ _ => v = .bool true) := by
  obtain ⟨d1, d2, d3, d4, d5⟩ := h
  have hmx : m ≤ 9223372036854775807 := by unfold maxLen at d2; omega
  refine fn_intro Try.func7 rfl Try.ntmps7 rfl (fun E => ?_)
  (repeat (first | ((first | (apply wo_v; rfl) ); (· first | (apply pv_ev; rfl) )) | apply wo_nil | apply wc_seq | apply wc_region ))
  (refine wo_call (awake15) rfl (by (repeat (first | apply sub_nil )); done) (by first | exact fun _ h => h | (intro r hr; cases hr; done) | (simp; done) | exact fun _ h => List.mem_append_left _ h | (intro r hr; simp [hr]; done)) rfl ?_; rintro v L' R' ⟨rfl, rfl⟩ H' hH RR hR; simp only [List.cons_append, List.nil_append] at hH hR; subst hH; have hR := hR.symm; subst hR)
  (repeat (first | ((first | (apply wo_v; rfl) ); (· first | (apply pv_ev; rfl) | (apply g_un; first | (apply pv_not_t; rfl) ) )) | apply wo_nil | apply wc_seq | apply wc_region | apply wc_skip | (apply wc_true; rfl) | (apply wc_false; rfl) ))
  (refine wo_call (rwNew true 7 96 0 96 (by decide)) rfl (by (repeat (first | apply sub_nil )); done) (by first | exact fun _ h => h | (intro r hr; cases hr; done) | (simp; done) | exact fun _ h => List.mem_append_left _ h | (intro r hr; simp [hr]; done)) rfl ?_; rintro v L' R' ⟨g, rfl, rfl, rfl⟩ H' hH RR hR; simp only [List.cons_append, List.nil_append] at hH hR; subst hH; have hR := hR.symm; subst hR)
  (repeat (first | ((first | (apply wo_v; rfl) ); (· first | (apply pv_ev; rfl) )) | apply wo_nil | apply wc_seq | apply wc_region ))
  refine wc_join0 (fun st => ∃ RR, st = ⟨[], [], RR⟩) ?_ ?_
  · refine wc_block ?_
    refine wc_loop' (fun q st => ∃ (i : Nat) (sq pic lv src sh la : Int) (be : Bool) (fr pk by_ : Int) (RR : List Ro), q = 41 - i ∧ st = ⟨[(0, .slice A m c0), (3, .pointer (some ⟨g, 0, none⟩)), (4, .int .i64 pic), (5, .int .i64 i)], [otI g true 7 96 sq pic lv src sh la be fr pk by_], RR⟩
        ∧ (∀ r ∈ R, r ∈ RR) ∧ i ≤ 40 ∧ i ≤ m ∧ 0 ≤ la ∧ la ≤ 4400000000 + 65535 * 101 * i ∧ (be = true → (i : Int) + sh ≤ la + 65535 * i) ∧ -4400000000 ≤ sh ∧ sh ≤ 10000000000 ∧ (be = false → sh = 0) ∧ -1 ≤ pic ∧ pic < i ∧ -1 ≤ lv ∧ lv ≤ 300 ∧ 0 ≤ fr ∧ fr ≤ i ∧ 0 ≤ pk ∧ pk ≤ 4 * i ∧ 0 ≤ by_ ∧ by_ ≤ 4032 * i)
      ⟨0, 0, -1, -1, 0, 0, 0, false, 0, 0, 0, _, rfl, rfl, fun r h => List.mem_append_right _ h, by omega, by omega, by omega, by omega, fun e => (by cases e), by omega, by omega, fun _ => rfl, by omega, by omega, by omega, by omega, by omega, by omega, by omega, by omega, by omega, by omega⟩ (wk_mk (by (repeat (first | apply wkf_nil | (apply wkf_cons; rfl))); done) (by (repeat (first | apply sub_nil )); done) (by first | exact fun _ h => h | (intro r hr; cases hr; done) | (simp; done) | exact fun _ h => List.mem_append_left _ h | (intro r hr; simp [hr]; done))) ?_
    rintro q st ⟨i, sq, pic, lv, src, sh, la, be, fr, pk, by_, RR, rfl, rfl, hRR, hi1, hi2, l1, l2, k1, k2, k3, k4, p1, p2, v1, v2, f1, f2, g1, g2, y1, y2⟩
    by_cases hlt : i < m ∧ i < 40
    · obtain ⟨h1, h2⟩ := hlt
      obtain ⟨b, o, rfl, hmem⟩ := d5 (by omega)
      replace hmem : ⟨b, o, 4, rows⟩ ∈ RR := hRR _ hmem
      obtain ⟨row, hr⟩ : ∃ row, rows[i]? = some row := ⟨_, List.getElem?_eq_getElem (by omega)⟩
      obtain ⟨sx, lt, bk, A2, an, ac, tx, rfl, hn2c, hc2, hA2⟩ := row_a15 (d4 row (List.mem_of_getElem? hr))
      unfold maxLen at hc2
      replace hA2 : 0 < an → ∃ b o, A2 = some ⟨b, o, none⟩ ∧ ⟨b, o, 1, sseg tx an⟩ ∈ RR := fun h => by obtain ⟨b, o, h3, h4⟩ := hA2 h; exact ⟨b, o, h3, hRR _ h4⟩
      have hMd := lMade sx lt bk A2 an ac tx i RR (by omega) hA2
      have hml := mdU_len tx i an (min an 4)
      have hmt := mdU_tx tx i an (min an 4)
      generalize mdU tx i an (min an 4) = U at hMd hml hmt
      clear d4
      (repeat (first | ((first | (apply wo_v; rfl) ); (· first | (apply pv_ev; rfl) | (apply g_pick; first | (apply pv_pick_t; rfl; rfl) ) | (apply g_bi; first | (apply pv_len_sl; rfl) ) )) | apply wo_nil | apply wc_seq | apply wc_region | apply wc_skip | (apply wc_true; rfl) | (apply wc_false; rfl) | (apply a_dec_t; rfl; (· first | assumption | omega)) | (apply wo_run; rfl; rfl) | (apply wo_skip; rfl; rfl; rfl; rfl) | (apply wo_skip_u; rfl; rfl; rfl) | (apply a_gt; rfl; rfl; (· first | assumption | omega)) ))
      refine wc_block ?_
      (repeat (first | ((first | (apply wo_v; rfl) ); (· first | (apply pv_ev; rfl) | (apply g_load; first | (apply pv_lda; rfl; (· (repeat (first | apply sel_there))); (· (repeat (first | fail )))) | (apply pv_ld_owna; rfl; (· (repeat (first | apply sel_there))); (· assumption)) | (apply pv_ld_roa; rfl; (· (first | assumption )); (· assumption))) | (apply g_idx; first | (apply pv_idx; rfl; rfl; omega) ) )) | apply wc_seq | apply wc_region ))
      (refine wo_call (hMd) rfl (by (repeat (first | apply sub_nil )); done) (by first | exact fun _ h => h | (intro r hr; cases hr; done) | (simp; done) | exact fun _ h => List.mem_append_left _ h | (intro r hr; simp [hr]; done)) rfl ?_; rintro v L' R' ⟨au, cu, at2, ct, rfl, rfl, rfl⟩ H' hH RR hR; simp only [List.cons_append, List.nil_append] at hH hR; subst hH; have hR := hR.symm; subst hR)
      (repeat (first | ((first | (apply wo_v; rfl) ); (· first | (apply pv_ev; rfl) | (apply pv_fld; rfl) | (apply g_load; first | (apply pv_ld; rfl; (· (repeat (first | apply sel_here ))); rfl) ) | (apply g_bi; first | (apply pv_len_sl; rfl) ) )) | apply wo_nil | apply wc_seq | apply wc_region | (apply wc_true; rfl) | (apply wc_false; rfl) | (apply a_dec_t; rfl; (· first | assumption | omega)) | (apply a_dec_f; rfl; (· first | assumption | omega)) | (apply a_dec_t; rfl; (· first | (simp; done) | (simp; omega))) | (apply a_dec_f; rfl; (· first | (simp; done) | (simp; omega))) | (apply wo_alloc; rfl; intro bx) | (apply wo_sta; rfl; rfl; rfl; rfl; (· (repeat (first | apply sel_here ))); (· (repeat (first | apply LayAt.nil | apply LayAt.here ))); rfl) ))
      refine wc_still (e := 109) (by (repeat (first | apply sel_here | apply sel_there)); done) (fun R2 hS => ?_)
      replace hRR : ∀ r ∈ R, r ∈ R2 ++ RR := fun r h => List.mem_append_right _ (hRR r h)
      replace hmem : ⟨b, o, 4, rows⟩ ∈ R2 ++ RR := List.mem_append_right _ hmem
      generalize R2 ++ RR = RR2 at hS hRR hmem
      clear hMd hA2
      rcases U with _ | ⟨u, U⟩
      · (repeat (first | apply wc_seq | apply wc_skip | (apply wc_true; rfl) | (apply wc_false; rfl) ))
        (refine wc_regM [1] (aslL [(7, [1])]) (tblK0) ([ffI bx au 0 cu, tuO at2 ct [], otI g true 7 96 sq pic lv src sh la be fr pk by_]) (fm [(1, [])]) mixed (by kernel_rfl) (by kernel_rfl) (by decide) (aslL_ok (by decide)) (by (repeat (first | (apply prm_cons; (· (repeat (first | apply sel_here )))) | apply List.Perm.nil )); done) ?_; (repeat (first | (apply HdM.val; rfl; rfl; (· first | apply gok_none ); (· first | (apply pv_ev; rfl) | (apply pv_fld; rfl) | (apply g_load; first | (apply pv_ld; rfl; (· (repeat (first | apply sel_there))); rfl) | (apply pv_lda; rfl; (· (repeat (first | apply sel_here ))); (· (repeat (first | apply Cut.here0 | apply Cut.here )))) | (apply pv_ld_ownf; rfl; (· (repeat (first | apply sel_there))); (· assumption); rfl) | (apply pv_ld_own1; rfl; (· (repeat (first | fail ))); (· assumption)) | (apply pv_ld_rof; rfl; (· (first | assumption )); (· assumption); rfl) ) | (apply g_idx; first | (apply pv_idx; rfl; rfl; omega) ) )) )))
        (refine hm_eff (cs := [1]) rfl (by decide) rfl rfl (by first | exact gok_none | exact gok_run rfl rfl) (fun a ha => outc_mono (outc_call (F1 := _) (T := fun v M => v = .slice none 0 0 ∧ M = []) (rwFrame0 g true 7 96 sq pic lv src sh la be fr pk by_ sx au cu) rfl (by (repeat (first | apply sub_nil | (apply sub_cons; (· (repeat (first | apply sel_here | apply sel_there)))))); done) (by first | exact fun _ h => h | (intro r hr; cases hr; done) | (simp; done) | exact fun _ h => List.mem_append_left _ h | (intro r hr; simp [hr]; done)) (by rintro v L' R' ⟨rfl, rfl, _⟩; exact ⟨_, ⟨rfl, rfl⟩, (by (repeat (first | (apply prm_cons; (· (repeat (first | apply sel_here | apply sel_there)))) | apply List.Perm.nil )); done)⟩) a ha) (fun v M h => ⟨[[]], And.intro h.1 rfl, rfl, h.2⟩)) ⟨_, _, And.intro rfl rfl, rfl⟩ ?_; rintro v Ms ⟨rfl, rfl⟩ _; simp only [setls, setl, reduceIte, Nat.reduceEqDiff]; (repeat (first | (apply HdM.val; rfl; rfl; (· first | apply gok_none ); (· first | (apply pv_ev; rfl) | (apply g_bi; first | (apply pv_len_sl; rfl) ) )) )))
        (refine HdM.nil ?_; intro H hH; simp only [Hp, fm, look, setl, List.flatMap_cons, List.flatMap_nil, reduceIte, Nat.reduceEqDiff, Option.getD_some, List.append_nil, List.cons_append, List.nil_append] at hH; subst hH)
        (repeat (first | fail ))
        refine wc_block ?_
        refine wc_loop' (fun q st => q = 1 ∧ st = ⟨[(0, .slice (some ⟨b, o, none⟩) m c0), (3, .pointer (some ⟨g, 0, none⟩)), (4, .int .i64 pic), (5, .int .i64 i), (53, .int .i64 0), (54, .int .i64 0)], [otI g true 7 96 sq pic lv src sh la be fr pk by_], RR2⟩) ⟨rfl, rfl⟩ (wk_mk (by (repeat (first | apply wkf_nil | (apply wkf_cons; rfl))); done) (by (repeat (first | apply sub_nil | (apply sub_cons; (· (repeat (first | apply sel_here | apply sel_there)))))); done) (by first | exact fun _ h => h | (intro r hr; cases hr; done) | (simp; done) | exact fun _ h => List.mem_append_left _ h | (intro r hr; simp [hr]; done))) ?_
        rintro q st ⟨rfl, rfl⟩
        (repeat (first | ((first | (apply wo_v; rfl) ); (· first | (apply pv_ev; rfl) | (apply g_bin; first | (apply a_add; rfl; rfl; infer_instance; omega) ) )) | apply wo_nil | apply wc_seq | apply wc_region | (apply wc_exit; rfl) | (apply wc_true; rfl) | (apply wc_false; rfl) ))
        exact loop_end ⟨i + 1, sq, pic, lv, src, sh, la, be, fr, pk, by_, RR2, rfl, rfl, hRR, by omega, by omega, by omega, by omega, fun e => by have := k1 e; omega, by omega, by omega, k4, by omega, by omega, by omega, by omega, by omega, by omega, by omega, by omega, by omega, by omega⟩ (by omega) (wk_mk (by (repeat (first | apply wkf_nil | (apply wkf_cons; rfl))); done) (by (repeat (first | apply sub_nil )); done) (by first | exact fun _ h => h | (intro r hr; cases hr; done) | (simp; done) | exact fun _ h => List.mem_append_left _ h | (intro r hr; simp [hr]; done)))
      · have hti : u.ti = i := (hmt u (.head _)).2
        have hF := rwFrame g true 7 96 sq pic lv src sh la be fr pk by_ sx au (u :: U).length cu u U RR2 hS (by omega) ⟨by omega, by omega, v1, v2⟩ (by omega) (fun x hx => (hmt x hx).1) (by simp at hml; omega)
        rw [hti] at hF
        have htm := tm_step (s := sx) (now := (i : Int)) (i := i) (by omega) (by omega) l1 (fun e => by have := k1 e; omega) k2 (src := src) (sh := sh) (la := la) (be := be)
        generalize laM src sh la be sx i = la2, shM src sh la be sx i = sh2 at hF htm
        have hpc : picM true pic = pic + 1 := by show (pic + 1) % 32768 = pic + 1; omega
        have hlv : lvM true lv u.tx = nlM lv u.tx := rfl
        have hlb := nl_b ⟨v1, v2⟩ u.tx
        rw [hpc, hlv] at hF
        generalize nlM lv u.tx = lv2 at hF hlb
        have hby := byN_b true (pic + 1) lv2 (u :: U) (fun x hx => (hmt x hx).1) (u :: U).length
        have hQl := pkN_len true 96 sq (la2 % 4294967296) 7 (pic + 1) lv2 (u :: U) _ (Nat.le_refl _)
        have hQp := fun j p => pkN_pl (vi := true) (kd := 96) (sq := sq) (t := la2 % 4294967296) (ss := 7) (pic := pic + 1) (lv := lv2) (U := u :: U) (i := (u :: U).length) (Nat.le_refl _) (j := j) (p := p)
        generalize pkN true 96 sq (la2 % 4294967296) 7 (pic + 1) lv2 (u :: U) (u :: U).length = Q at hF hQl hQp
        generalize byN true (pic + 1) lv2 (u :: U) (u :: U).length = by2 at hF hby
        generalize sqI sq (u :: U).length = sq2 at hF
        have hV0 : 0 < (u :: U).length := by simp
        generalize u :: U = V at *
        obtain ⟨bu, ou, rfl, hmu⟩ := hS.pos hV0
        (repeat (first | ((first | (apply wo_v; rfl) ); (· first | (apply pv_ev; rfl) | (apply g_bin; first | (apply a_add; rfl; rfl; infer_instance; omega) ) )) | apply wo_nil | apply wc_seq | apply wc_region | (apply wc_true; rfl) | (apply wc_false; rfl) | (apply a_dec_t; rfl; (· first | assumption | omega)) ))
        (refine wc_regM [0, 1] (aslL [(7, [0, 1])]) (tblK (otI g true 7 96 sq2 (pic + 1) lv2 sx sh2 la2 true (fr + 1) (pk + V.length) (by_ + by2)) Q) ([ffI bx (some ⟨bu, ou, none⟩) V.length cu, tuO at2 ct V]) (fm [(0, [otI g true 7 96 sq pic lv src sh la be fr pk by_]), (1, [])]) mixed (by kernel_rfl) (by kernel_rfl) (by decide) (aslL_ok (by decide)) (by (repeat (first | (apply prm_cons; (· (repeat (first | apply sel_here )))) | apply List.Perm.nil )); done) ?_; (repeat (first | (apply HdM.val; rfl; rfl; (· first | apply gok_none ); (· first | (apply pv_ev; rfl) | (apply pv_fld; rfl) | (apply g_load; first | (apply pv_ld; rfl; (· (repeat (first | apply sel_there))); rfl) | (apply pv_lda; rfl; (· (repeat (first | apply sel_here ))); (· (repeat (first | apply Cut.here0 | apply Cut.here )))) | (apply pv_ld_ownf; rfl; (· (repeat (first | apply sel_there))); (· assumption); rfl) | (apply pv_ld_own1; rfl; (· (repeat (first | fail ))); (· assumption)) | (apply pv_ld_rof; rfl; (· (first | assumption )); (· assumption); rfl) ) | (apply g_idx; first | (apply pv_idx; rfl; rfl; omega) ) )) )))
        (refine hm_eff (cs := [0, 1]) rfl (by decide) rfl rfl (by first | exact gok_none | exact gok_run rfl rfl) (fun a ha => outc_mono (outc_call (F1 := _) (T := fun v M => ∃ b o c, v = .slice (some ⟨b, o, none⟩) Q.length c ∧ M = [otI g true 7 96 sq2 (pic + 1) lv2 sx sh2 la2 true (fr + 1) (pk + V.length) (by_ + by2), pkO (some ⟨b, o, none⟩) c Q]) hF rfl (by (repeat (first | apply sub_nil )); done) (by first | exact fun _ h => h | (intro r hr; cases hr; done) | (simp; done) | exact fun _ h => List.mem_append_left _ h | (intro r hr; simp [hr]; done)) (by rintro v L' R' ⟨ao', c', ⟨b, o, rfl⟩, rfl, rfl, _⟩; exact ⟨_, ⟨b, o, c', rfl, rfl⟩, (by (repeat (first | (apply prm_cons; (· (repeat (first | apply sel_here )))) | apply List.Perm.nil )); done)⟩) a ha) (fun v M h => by obtain ⟨b, o, c, h1, h2⟩ := h; exact ⟨[[_], [_]], ⟨b, o, c, h1, rfl⟩, rfl, h2⟩)) (⟨_, _, ⟨0, 0, 0, rfl, rfl⟩, rfl⟩) ?_; rintro v Ms ⟨bq, oq, cq, rfl, rfl⟩ _; simp only [setls, setl, reduceIte, Nat.reduceEqDiff]; (repeat (first | (apply HdM.val; rfl; rfl; (· first | apply gok_none ); (· first | (apply pv_ev; rfl) | (apply g_bi; first | (apply pv_len_sl; rfl) ) )) )))
        (refine HdM.nil ?_; intro H hH; simp only [Hp, fm, look, setl, List.flatMap_cons, List.flatMap_nil, reduceIte, Nat.reduceEqDiff, Option.getD_some, List.append_nil, List.cons_append, List.nil_append] at hH; subst hH)
        (repeat (first | fail ))
        have hla2 : 0 ≤ la2 ∧ la2 ≤ 4400000000 + 65535 * 101 * (i + 1) := by
          cases be with
          | true => have := htm.1 rfl; omega
          | false => have := htm.2.1 rfl; omega
        obtain ⟨_, _, ht3, ht4⟩ := htm
        refine wc_block ?_
        refine wc_loop' (fun q st => ∃ j : Nat, q = Q.length - j ∧ j ≤ Q.length ∧ st = ⟨[(0, .slice (some ⟨b, o, none⟩) m c0), (3, .pointer (some ⟨g, 0, none⟩)), (4, .int .i64 (pic + 1)), (5, .int .i64 i), (6, .pointer (some ⟨bx, 0, none⟩)), (52, .slice (some ⟨bq, oq, none⟩) Q.length cq), (53, .int .i64 Q.length), (54, .int .i64 j)], [otI g true 7 96 sq2 (pic + 1) lv2 sx sh2 la2 true (fr + 1) (pk + V.length) (by_ + by2), ffI bx (some ⟨bu, ou, none⟩) V.length cu, pkO (some ⟨bq, oq, none⟩) cq Q], RR2⟩)
          ⟨0, rfl, Nat.zero_le _, rfl⟩ (wk_mk (by (repeat (first | apply wkf_nil | (apply wkf_cons; rfl))); done) (by (repeat (first | apply sub_nil | (apply sub_cons; (· (repeat (first | apply sel_here | apply sel_there)))))); done) (by first | exact fun _ h => h | (intro r hr; cases hr; done) | (simp; done) | exact fun _ h => List.mem_append_left _ h | (intro r hr; simp [hr]; done))) ?_
        rintro q st ⟨j, rfl, hj, rfl⟩
        by_cases hlt : j < Q.length
        · obtain ⟨p, hp⟩ : ∃ p, Q[j]? = some p := ⟨_, List.getElem?_eq_getElem hlt⟩
          have hr := prs'_at hp
          obtain ⟨x, hx, hpl⟩ := hQp j p hp
          have hr2 := urs_at hx
          have hxs := (hmt x (List.mem_of_getElem? hx)).1
          have hps := payM_le true (pic + 1) lv2 x.tx
          rw [← hpl] at hps
          obtain ⟨mrk, kd, sq', t, ss, pl⟩ := p
          dsimp only at hr hpl hps
          have hp1 := vParse x.tx (by omega)
          have hp2 := vParse pl (by omega)
          rcases prs_e x.tx with he | he
          · obtain ⟨hA, hF2, _⟩ := prs_ok he
            have hok := withM_ok hA hF2 (pic + 1) (max lv2 0)
            have e2 : prs pl = (withM (prs x.tx).1 (pic + 1) (max lv2 0), (prs x.tx).2.1, 0) := by
              rw [hpl, payM, if_pos ⟨rfl, he⟩]
              exact prs_txt hok.1 hok.2 _
            rw [e2] at hp2
            obtain ⟨_, _, a3, a4, _⟩ := hA
            generalize prs x.tx = qd at hp1 hp2 he a3 a4
            obtain ⟨⟨nr, st, pt, dpic, wd, dlv, ly, sy, ky⟩, r, e⟩ := qd
            dsimp only [dv, withM] at hp1 hp2 he a3 a4
            subst he
            by_cases hd : 0 ≤ dpic
            · rw [if_pos hd, if_pos hd] at hp2
              rw [show (pic + 1) % 32768 = pic + 1 by omega] at hp2
              (repeat (first | ((first | (apply wo_v; rfl) ); (· first | (apply pv_ev; rfl) )) | apply wo_nil | apply wc_seq | apply wc_region | apply wc_skip | (apply wc_true; rfl) | (apply wc_false; rfl) | (apply a_dec_t; rfl; (· first | assumption | omega)) ))
              refine wc_block ?_
              (repeat (first | ((first | (apply wo_v; rfl) ); (· first | (apply pv_ev; rfl) | (apply pv_fld; rfl) | (apply g_load; first | (apply pv_ld; rfl; (· (repeat (first | apply sel_here | apply sel_there))); rfl) | (apply pv_lda; rfl; (· (repeat (first | apply sel_there))); (· (repeat (first | fail )))) | (apply pv_ld_ownf; rfl; (· (repeat (first | apply sel_there))); (· assumption); rfl) | (apply pv_ld_own1; rfl; (· (repeat (first | fail ))); (· assumption)) | (apply pv_ld_owna; rfl; (· (repeat (first | apply sel_here | apply sel_there))); (· assumption)) | (apply pv_ld_rof; rfl; (· (first | assumption )); (· assumption); rfl) ) | (apply g_idx; first | (apply pv_idx; rfl; rfl; omega) ) )) | apply wo_nil | apply wc_seq | apply wc_region | (apply wo_alloc; rfl; intro bx) | (apply wo_sta; rfl; rfl; rfl; rfl; (· (repeat (first | apply sel_here ))); (· (repeat (first | apply LayAt.nil | apply LayAt.here ))); rfl) ))
              (refine wo_call (hp1) rfl (by (repeat (first | apply sub_nil )); done) (by first | exact fun _ h => h | (intro r hr; cases hr; done) | (simp; done) | exact fun _ h => List.mem_append_left _ h | (intro r hr; simp [hr]; done)) rfl ?_; rintro v L' R' ⟨rfl, rfl, rfl⟩ H' hH RR hR; simp only [List.cons_append, List.nil_append] at hH hR; subst hH; have hR := hR.symm; subst hR)
              (repeat (first | ((first | (apply wo_v; rfl) ); (· first | (apply pv_ev; rfl) | (apply pv_fld; rfl) | (apply g_load; first | (apply pv_ld; rfl; (· (repeat (first | apply sel_here | apply sel_there))); rfl) ) )) | apply wo_nil | apply wc_seq | apply wc_region | (apply wo_alloc; rfl; intro bx) | (apply wo_sta; rfl; rfl; rfl; rfl; (· (repeat (first | apply sel_here ))); (· (repeat (first | apply LayAt.nil | apply LayAt.here ))); rfl) ))
              (refine wo_call (hp2) rfl (by (repeat (first | apply sub_nil )); done) (by first | exact fun _ h => h | (intro r hr; cases hr; done) | (simp; done) | exact fun _ h => List.mem_append_left _ h | (intro r hr; simp [hr]; done)) rfl ?_; rintro v L' R' ⟨rfl, rfl, rfl⟩ H' hH RR hR; simp only [List.cons_append, List.nil_append] at hH hR; subst hH; have hR := hR.symm; subst hR)
              (repeat (first | ((first | (apply wo_v; rfl) ); (· first | (apply pv_ev; rfl) | (apply pv_fld; rfl) | (apply g_load; first | (apply pv_ld; rfl; (· (repeat (first | apply sel_here | apply sel_there))); rfl) ) | (apply g_pick; first | (apply pv_pick_t; rfl; rfl) | (apply pv_pick_f; rfl; rfl)) | (apply g_bin; first | (apply a_add; rfl; rfl; infer_instance; omega) | (apply pv_neq_b; rfl; rfl) | (apply pv_neq_s; rfl; rfl) ) )) | apply wo_nil | apply wc_seq | apply wc_region | apply wc_skip | (apply wc_true; rfl) | (apply wc_false; rfl) | (apply wo_run; rfl; rfl) | (apply wo_skip; rfl; rfl; rfl; rfl) | (apply wo_skip_u; rfl; rfl; rfl) | (apply a_gt; rfl; rfl; (· first | assumption | omega)) | (apply a_gf; rfl; rfl; (· first | assumption | omega)) | (apply a_gt; rfl; rfl; (· first | (simp; done) | (simp; omega))) | (apply a_gf; rfl; rfl; (· first | (simp; done) | (simp; omega))) | (apply wo_alloc; rfl; intro bx) | (apply wo_sta; rfl; rfl; rfl; rfl; (· (repeat (first | apply sel_here ))); (· (repeat (first | apply LayAt.nil | apply LayAt.here ))); rfl) ))
              exact loop_end ⟨j + 1, rfl, by omega, rfl⟩ (by omega) (wk_mk (by (repeat (first | apply wkf_nil | (apply wkf_cons; rfl))); done) (by (repeat (first | apply sub_nil | (apply sub_cons; (· (repeat (first | apply sel_here | apply sel_there)))))); done) (by first | exact fun _ h => h | (intro r hr; cases hr; done) | (simp; done) | exact fun _ h => List.mem_append_left _ h | (intro r hr; simp [hr]; done)))
            · rw [if_neg hd, if_neg hd] at hp2
              (repeat (first | ((first | (apply wo_v; rfl) ); (· first | (apply pv_ev; rfl) )) | apply wo_nil | apply wc_seq | apply wc_region | apply wc_skip | (apply wc_true; rfl) | (apply wc_false; rfl) | (apply a_dec_t; rfl; (· first | assumption | omega)) ))
              refine wc_block ?_
              (repeat (first | ((first | (apply wo_v; rfl) ); (· first | (apply pv_ev; rfl) | (apply pv_fld; rfl) | (apply g_load; first | (apply pv_ld; rfl; (· (repeat (first | apply sel_here | apply sel_there))); rfl) | (apply pv_lda; rfl; (· (repeat (first | apply sel_there))); (· (repeat (first | fail )))) | (apply pv_ld_ownf; rfl; (· (repeat (first | apply sel_there))); (· assumption); rfl) | (apply pv_ld_own1; rfl; (· (repeat (first | fail ))); (· assumption)) | (apply pv_ld_owna; rfl; (· (repeat (first | apply sel_here | apply sel_there))); (· assumption)) | (apply pv_ld_rof; rfl; (· (first | assumption )); (· assumption); rfl) ) | (apply g_idx; first | (apply pv_idx; rfl; rfl; omega) ) )) | apply wo_nil | apply wc_seq | apply wc_region | (apply wo_alloc; rfl; intro bx) | (apply wo_sta; rfl; rfl; rfl; rfl; (· (repeat (first | apply sel_here ))); (· (repeat (first | apply LayAt.nil | apply LayAt.here ))); rfl) ))
              (refine wo_call (hp1) rfl (by (repeat (first | apply sub_nil )); done) (by first | exact fun _ h => h | (intro r hr; cases hr; done) | (simp; done) | exact fun _ h => List.mem_append_left _ h | (intro r hr; simp [hr]; done)) rfl ?_; rintro v L' R' ⟨rfl, rfl, rfl⟩ H' hH RR hR; simp only [List.cons_append, List.nil_append] at hH hR; subst hH; have hR := hR.symm; subst hR)
              (repeat (first | ((first | (apply wo_v; rfl) ); (· first | (apply pv_ev; rfl) | (apply pv_fld; rfl) | (apply g_load; first | (apply pv_ld; rfl; (· (repeat (first | apply sel_here | apply sel_there))); rfl) ) )) | apply wo_nil | apply wc_seq | apply wc_region | (apply wo_alloc; rfl; intro bx) | (apply wo_sta; rfl; rfl; rfl; rfl; (· (repeat (first | apply sel_here ))); (· (repeat (first | apply LayAt.nil | apply LayAt.here ))); rfl) ))
              (refine wo_call (hp2) rfl (by (repeat (first | apply sub_nil )); done) (by first | exact fun _ h => h | (intro r hr; cases hr; done) | (simp; done) | exact fun _ h => List.mem_append_left _ h | (intro r hr; simp [hr]; done)) rfl ?_; rintro v L' R' ⟨rfl, rfl, rfl⟩ H' hH RR hR; simp only [List.cons_append, List.nil_append] at hH hR; subst hH; have hR := hR.symm; subst hR)
              (repeat (first | ((first | (apply wo_v; rfl) ); (· first | (apply pv_ev; rfl) | (apply pv_fld; rfl) | (apply g_load; first | (apply pv_ld; rfl; (· (repeat (first | apply sel_here | apply sel_there))); rfl) ) | (apply g_pick; first | (apply pv_pick_t; rfl; rfl) | (apply pv_pick_f; rfl; rfl)) | (apply g_bin; first | (apply a_add; rfl; rfl; infer_instance; omega) | (apply pv_neq_b; rfl; rfl) | (apply pv_neq_s; rfl; rfl) ) )) | apply wo_nil | apply wc_seq | apply wc_region | apply wc_skip | (apply wc_true; rfl) | (apply wc_false; rfl) | (apply a_dec_t; rfl; (· first | assumption | omega)) | (apply a_dec_f; rfl; (· first | assumption | omega)) | (apply wo_run; rfl; rfl) | (apply wo_skip; rfl; rfl; rfl; rfl) | (apply wo_skip_u; rfl; rfl; rfl) | (apply a_gt; rfl; rfl; (· first | assumption | omega)) | (apply a_gf; rfl; rfl; (· first | assumption | omega)) | (apply a_gt; rfl; rfl; (· first | (simp; done) | (simp; omega))) | (apply a_gf; rfl; rfl; (· first | (simp; done) | (simp; omega))) | (apply wo_alloc; rfl; intro bx) | (apply wo_sta; rfl; rfl; rfl; rfl; (· (repeat (first | apply sel_here ))); (· (repeat (first | apply LayAt.nil | apply LayAt.here ))); rfl) ))
              exact loop_end ⟨j + 1, rfl, by omega, rfl⟩ (by omega) (wk_mk (by (repeat (first | apply wkf_nil | (apply wkf_cons; rfl))); done) (by (repeat (first | apply sub_nil | (apply sub_cons; (· (repeat (first | apply sel_here | apply sel_there)))))); done) (by first | exact fun _ h => h | (intro r hr; cases hr; done) | (simp; done) | exact fun _ h => List.mem_append_left _ h | (intro r hr; simp [hr]; done)))
          · have e1 : pl = x.tx := by rw [hpl, payM, if_neg (by rw [he]; simp)]
            subst e1
            rw [he] at hp1 hp2
            dsimp only [dv, Dc0] at hp1 hp2
            (repeat (first | ((first | (apply wo_v; rfl) ); (· first | (apply pv_ev; rfl) )) | apply wo_nil | apply wc_seq | apply wc_region | apply wc_skip | (apply wc_true; rfl) | (apply wc_false; rfl) | (apply a_dec_t; rfl; (· first | assumption | omega)) ))
            refine wc_block ?_
            (repeat (first | ((first | (apply wo_v; rfl) ); (· first | (apply pv_ev; rfl) | (apply pv_fld; rfl) | (apply g_load; first | (apply pv_ld; rfl; (· (repeat (first | apply sel_here | apply sel_there))); rfl) | (apply pv_lda; rfl; (· (repeat (first | apply sel_there))); (· (repeat (first | fail )))) | (apply pv_ld_ownf; rfl; (· (repeat (first | apply sel_there))); (· assumption); rfl) | (apply pv_ld_own1; rfl; (· (repeat (first | fail ))); (· assumption)) | (apply pv_ld_owna; rfl; (· (repeat (first | apply sel_here | apply sel_there))); (· assumption)) | (apply pv_ld_rof; rfl; (· (first | assumption )); (· assumption); rfl) ) | (apply g_idx; first | (apply pv_idx; rfl; rfl; omega) ) )) | apply wo_nil | apply wc_seq | apply wc_region | (apply wo_alloc; rfl; intro bx) | (apply wo_sta; rfl; rfl; rfl; rfl; (· (repeat (first | apply sel_here ))); (· (repeat (first | apply LayAt.nil | apply LayAt.here ))); rfl) ))
            (refine wo_call (hp1) rfl (by (repeat (first | apply sub_nil )); done) (by first | exact fun _ h => h | (intro r hr; cases hr; done) | (simp; done) | exact fun _ h => List.mem_append_left _ h | (intro r hr; simp [hr]; done)) rfl ?_; rintro v L' R' ⟨rfl, rfl, rfl⟩ H' hH RR hR; simp only [List.cons_append, List.nil_append] at hH hR; subst hH; have hR := hR.symm; subst hR)
            (repeat (first | ((first | (apply wo_v; rfl) ); (· first | (apply pv_ev; rfl) | (apply pv_fld; rfl) | (apply g_load; first | (apply pv_ld; rfl; (· (repeat (first | apply sel_here | apply sel_there))); rfl) ) )) | apply wo_nil | apply wc_seq | apply wc_region | (apply wo_alloc; rfl; intro bx) | (apply wo_sta; rfl; rfl; rfl; rfl; (· (repeat (first | apply sel_here ))); (· (repeat (first | apply LayAt.nil | apply LayAt.here ))); rfl) ))
            (refine wo_call (hp2) rfl (by (repeat (first | apply sub_nil )); done) (by first | exact fun _ h => h | (intro r hr; cases hr; done) | (simp; done) | exact fun _ h => List.mem_append_left _ h | (intro r hr; simp [hr]; done)) rfl ?_; rintro v L' R' ⟨rfl, rfl, rfl⟩ H' hH RR hR; simp only [List.cons_append, List.nil_append] at hH hR; subst hH; have hR := hR.symm; subst hR)
            (repeat (first | ((first | (apply wo_v; rfl) ); (· first | (apply pv_ev; rfl) | (apply pv_fld; rfl) | (apply g_load; first | (apply pv_ld; rfl; (· (repeat (first | apply sel_here | apply sel_there))); rfl) ) | (apply g_bin; first | (apply a_add; rfl; rfl; infer_instance; omega) | (apply pv_neq_s; rfl; rfl) ) )) | apply wo_nil | apply wc_seq | apply wc_region | apply wc_skip | (apply wc_exit; rfl) | (apply wc_true; rfl) | (apply wc_false; rfl) | (apply a_dec_t; rfl; (· first | assumption | omega)) | (apply a_dec_f; rfl; (· first | assumption | omega)) | (apply a_dec_t; rfl; (· first | (simp; done) | (simp; omega))) | (apply a_dec_f; rfl; (· first | (simp; done) | (simp; omega))) | (apply wo_alloc; rfl; intro bx) | (apply wo_sta; rfl; rfl; rfl; rfl; (· (repeat (first | apply sel_here ))); (· (repeat (first | apply LayAt.nil | apply LayAt.here ))); rfl) ))
            exact loop_end ⟨j + 1, rfl, by omega, rfl⟩ (by omega) (wk_mk (by (repeat (first | apply wkf_nil | (apply wkf_cons; rfl))); done) (by (repeat (first | apply sub_nil | (apply sub_cons; (· (repeat (first | apply sel_here | apply sel_there)))))); done) (by first | exact fun _ h => h | (intro r hr; cases hr; done) | (simp; done) | exact fun _ h => List.mem_append_left _ h | (intro r hr; simp [hr]; done)))
        · have e : j = Q.length := by omega
          subst e
          (repeat (first | ((first | (apply wo_v; rfl) ); (· first | (apply pv_ev; rfl) | (apply g_bin; first | (apply a_add; rfl; rfl; infer_instance; omega) ) )) | apply wo_nil | apply wc_seq | apply wc_region | (apply wc_exit; rfl) | (apply wc_true; rfl) | (apply wc_false; rfl) | (apply a_dec_t; rfl; (· first | assumption | omega)) | (apply a_dec_f; rfl; (· first | assumption | omega)) ))
          exact loop_end ⟨i + 1, sq2, pic + 1, lv2, sx, sh2, la2, true, fr + 1, pk + V.length, by_ + by2, RR2, rfl, rfl, hRR, by omega, by omega, by omega, by omega, fun e => by omega, by omega, by omega, fun e => (by cases e), by omega, by omega, by omega, by omega, by omega, by omega, by omega, by omega, by omega, by omega⟩ (by omega) (wk_mk (by (repeat (first | apply wkf_nil | (apply wkf_cons; rfl))); done) (by (repeat (first | apply sub_nil )); done) (by first | exact fun _ h => h | (intro r hr; cases hr; done) | (simp; done) | exact fun _ h => List.mem_append_left _ h | (intro r hr; simp [hr]; done)))
    · have hex2 : ¬ (i < m) ∨ (i < m ∧ ¬ i < 40) := by omega
      rcases hex2 with h | ⟨h, h'⟩
      all_goals
        (repeat (first | ((first | (apply wo_v; rfl) ); (· first | (apply pv_ev; rfl) | (apply g_pick; first | (apply pv_pick_t; rfl; rfl) | (apply pv_pick_f; rfl; rfl)) | (apply g_bi; first | (apply pv_len_sl; rfl) ) )) | apply wo_nil | apply wc_seq | apply wc_region | (apply wc_exit; rfl) | (apply wc_true; rfl) | (apply wc_false; rfl) | (apply a_dec_t; rfl; (· first | assumption | omega)) | (apply a_dec_f; rfl; (· first | assumption | omega)) | (apply wo_run; rfl; rfl) | (apply wo_skip; rfl; rfl; rfl; rfl) | (apply wo_skip_u; rfl; rfl; rfl) | (apply a_gt; rfl; rfl; (· first | assumption | omega)) | (apply a_gf; rfl; rfl; (· first | assumption | omega)) ))
        exact cut_end ⟨RR, rfl⟩ (wk_mk (by (repeat (first | apply wkf_nil )); done) (by (repeat (first | apply sub_nil )); done) (by first | exact fun _ h => h | (intro r hr; cases hr; done) | (simp; done) | exact fun _ h => List.mem_append_left _ h | (intro r hr; simp [hr]; done)))
  rintro st ⟨RR, rfl⟩
  (repeat (first | ((first | (apply wo_v; rfl) ); (· first | (apply pv_ev; rfl) | (apply g_build; apply pv_build; (· (repeat (first | apply Bld.nil )))) )) | apply wc_seq | apply wc_region ))
  (refine wo_call (kCheck0) rfl (by (repeat (first | apply sub_nil )); done) (by first | exact fun _ h => h | (intro r hr; cases hr; done) | (simp; done) | exact fun _ h => List.mem_append_left _ h | (intro r hr; simp [hr]; done)) rfl ?_; rintro v L' R' ⟨rfl, rfl, rfl⟩ H' hH RR hR; simp only [List.cons_append, List.nil_append] at hH hR; subst hH; have hR := hR.symm; subst hR)
  (repeat (first | ((first | (apply wo_v; rfl) ); (· first | (apply pv_ev; rfl) )) | apply wo_nil | apply wc_ret ))
  exact ret1 rfl rfl (by simp) ((by (repeat (first | apply sub_nil )); done) : List.Perm _ ([] ++ _)) (by first | exact fun _ h => h | (intro r hr; cases hr; done) | (simp; done) | exact fun _ h => List.mem_append_left _ h | (intro r hr; simp [hr]; done))
theorem rewriteKeeps_walk {w : World} (A : Option Addr) (n c : Nat) (rows : List (List Value)) (R : List Ro) (hR : ∀ r ∈ R, r.sat w) (h : Deep R a15Fd A n c rows) :
    Calls Try.prog 7 #[.slice A n c] w fun e w' => e = .returned (.bool true) ∧ Below w.heap.size w w' :=
  walk_of (rewriteKeeps_fn A n c rows R h) hR
end Go.Proofs.Ytnjicnadlhfocaa
