/-
  Package ring.
-/
import Derived.Test.YtnjicnadlhfocaaSpA
import Derived.Test.YtnjicnadlhfocaaTy
namespace Go.Proofs.Ytnjicnadlhfocaa
set_option linter.unusedSimpArgs false
set_option linter.unusedVariables false
open Go.RowKit
attribute [local irreducible] Pv WO WC Fn

abbrev Pk := Int × ByteArray × Int × Int
def prow (p : Pk) : List Value := [.bool true, .int .u16 p.1, .string p.2.1, .int .i64 p.2.2.1, .int .i64 p.2.2.2]
def srow : Option Pk → List Value
  | some p => prow p
  | none => [.bool false, .int .u16 0, .string ByteArray.empty, .int .i64 0, .int .i64 0]
abbrev rgO (g b k : Nat) (put mt mg sent : Int) : It := .ob g (.cells #[.slice (some ⟨b, 0, none⟩) k k, .int .i64 put, .int .i64 mt, .int .i64 mg, .int .i64 sent] 151 (0, 0))
abbrev slO (b k : Nat) (xs : List (List Value)) : It := .own 153 5 (some ⟨b, 0, none⟩) k k xs
abbrev rgH (g b k : Nat) (S : List (Option Pk)) (put mt mg sent : Int) : List It := [rgO g b k put mt mg sent, slO b k (S.map srow)]
theorem map_srow_none (k : Nat) : List.replicate k [.bool false, .int .u16 0, .string ByteArray.empty, .int .i64 0, .int .i64 0] = (List.replicate k none).map srow := by simp [srow]

theorem ringNew_ok (k : Nat) (mt mg : Int) (h : 1 ≤ k ∧ k ≤ 4096) (h2 : 0 ≤ mt) (h3 : 0 ≤ mg) : Fn Try.prog 22 #[.int .i64 k, .int .i64 mt, .int .i64 mg] [] []
    (fun v L' R' => ∃ g b, v = .tuple #[.pointer (some ⟨g, 0, none⟩), .int .i64 0] ∧ L' = rgH g b k (List.replicate k none) 0 mt mg 0 ∧ R' = []) := by
  refine fn_intro Try.func22 rfl Try.ntmps22 rfl (fun E => ?_)
  (repeat (first | ((first | (apply wo_v; rfl) ); (· first | (apply pv_ev; rfl) | (apply g_pick; first | (apply pv_pick_t; rfl; rfl) | (apply pv_pick_f; rfl; rfl)) )) | apply wo_nil | apply wc_seq | apply wc_region | apply wc_skip | (apply wc_true; rfl) | (apply wc_false; rfl) | (apply a_dec_t; rfl; (· first | assumption | omega)) | (apply a_dec_f; rfl; (· first | assumption | omega)) | (apply wo_run; rfl; rfl) | (apply wo_skip; rfl; rfl; rfl; rfl) | (apply wo_skip_u; rfl; rfl; rfl) | (apply a_gt; rfl; rfl; (· first | assumption | omega)) | (apply a_gf; rfl; rfl; (· first | assumption | omega)) ))
  refine wo_make rfl rfl rfl rfl (Nat.le_refl _) (by omega) (by omega) rfl rfl rfl (fun bw => ?_)
  rw [map_srow_none]
  (repeat (first | ((first | (apply wo_v; rfl) ); (· first | (apply pv_ev; rfl) | (apply g_build; apply pv_build; (· (repeat (first | apply Bld.nil | (apply Bld.one; rfl; rfl; (· (repeat (first | apply SetAt.here | apply SetAt.there)))) )))) )) | apply wo_nil | apply wc_ret | (apply wo_box1; rfl; rfl; rfl; intro bx) | (apply wo_boxa; rfl; rfl; intro bx) ))
  exact ret2 rfl rfl rfl ⟨_, _, rfl, rfl, rfl⟩ (by (repeat (first | apply sub_nil )); done) (by first | exact fun _ h => h | (intro r hr; cases hr; done) | (simp; done) | exact fun _ h => List.mem_append_left _ h | (intro r hr; simp [hr]; done))
theorem ringNew_no (a mt mg : Int) (h : ¬ (1 ≤ a ∧ a ≤ 4096 ∧ 0 ≤ mt ∧ 0 ≤ mg)) : Fn Try.prog 22 #[.int .i64 a, .int .i64 mt, .int .i64 mg] [] []
    (fun v L' R' => v = .tuple #[.pointer none, .int .i64 5] ∧ L' = [] ∧ R' = []) := by
  by_cases h1 : a < 1
  · refine fn_intro Try.func22 rfl Try.ntmps22 rfl (fun E => ?_)
    (repeat (first | ((first | (apply wo_v; rfl) ); (· first | (apply pv_ev; rfl) | (apply g_pick; first | (apply pv_pick_t; rfl; rfl) ) )) | apply wo_nil | apply wc_seq | apply wc_region | apply wc_ret | (apply wc_true; rfl) | (apply wo_run; rfl; rfl) | (apply wo_skip; rfl; rfl; rfl; rfl) | (apply wo_skip_u; rfl; rfl; rfl) | (apply a_gt; rfl; rfl; (· first | assumption | omega)) ))
    exact ret2 rfl rfl rfl ⟨rfl, rfl, rfl⟩ (by (repeat (first | apply sub_nil )); done) (by first | exact fun _ h => h | (intro r hr; cases hr; done) | (simp; done) | exact fun _ h => List.mem_append_left _ h | (intro r hr; simp [hr]; done))
  by_cases h2 : 4096 < a
  · refine fn_intro Try.func22 rfl Try.ntmps22 rfl (fun E => ?_)
    (repeat (first | ((first | (apply wo_v; rfl) ); (· first | (apply pv_ev; rfl) | (apply g_pick; first | (apply pv_pick_t; rfl; rfl) | (apply pv_pick_f; rfl; rfl)) )) | apply wo_nil | apply wc_seq | apply wc_region | apply wc_ret | (apply wc_true; rfl) | (apply wo_run; rfl; rfl) | (apply wo_skip; rfl; rfl; rfl; rfl) | (apply wo_skip_u; rfl; rfl; rfl) | (apply a_gt; rfl; rfl; (· first | assumption | omega)) | (apply a_gf; rfl; rfl; (· first | assumption | omega)) ))
    exact ret2 rfl rfl rfl ⟨rfl, rfl, rfl⟩ (by (repeat (first | apply sub_nil )); done) (by first | exact fun _ h => h | (intro r hr; cases hr; done) | (simp; done) | exact fun _ h => List.mem_append_left _ h | (intro r hr; simp [hr]; done))
  by_cases h3 : mt < 0
  · refine fn_intro Try.func22 rfl Try.ntmps22 rfl (fun E => ?_)
    (repeat (first | ((first | (apply wo_v; rfl) ); (· first | (apply pv_ev; rfl) | (apply g_pick; first | (apply pv_pick_t; rfl; rfl) | (apply pv_pick_f; rfl; rfl)) )) | apply wo_nil | apply wc_seq | apply wc_region | apply wc_ret | (apply wc_true; rfl) | (apply wo_run; rfl; rfl) | (apply wo_skip; rfl; rfl; rfl; rfl) | (apply wo_skip_u; rfl; rfl; rfl) | (apply a_gt; rfl; rfl; (· first | assumption | omega)) | (apply a_gf; rfl; rfl; (· first | assumption | omega)) ))
    exact ret2 rfl rfl rfl ⟨rfl, rfl, rfl⟩ (by (repeat (first | apply sub_nil )); done) (by first | exact fun _ h => h | (intro r hr; cases hr; done) | (simp; done) | exact fun _ h => List.mem_append_left _ h | (intro r hr; simp [hr]; done))
  refine fn_intro Try.func22 rfl Try.ntmps22 rfl (fun E => ?_)
  (repeat (first | ((first | (apply wo_v; rfl) ); (· first | (apply pv_ev; rfl) | (apply g_pick; first | (apply pv_pick_t; rfl; rfl) | (apply pv_pick_f; rfl; rfl)) )) | apply wo_nil | apply wc_seq | apply wc_region | apply wc_ret | (apply wc_true; rfl) | (apply wc_false; rfl) | (apply a_dec_t; rfl; (· first | assumption | omega)) | (apply wo_run; rfl; rfl) | (apply wo_skip; rfl; rfl; rfl; rfl) | (apply wo_skip_u; rfl; rfl; rfl) | (apply a_gt; rfl; rfl; (· first | assumption | omega)) | (apply a_gf; rfl; rfl; (· first | assumption | omega)) ))
  exact ret2 rfl rfl rfl ⟨rfl, rfl, rfl⟩ (by (repeat (first | apply sub_nil )); done) (by first | exact fun _ h => h | (intro r hr; cases hr; done) | (simp; done) | exact fun _ h => List.mem_append_left _ h | (intro r hr; simp [hr]; done))
theorem ringLen (g b k : Nat) (S : List (Option Pk)) (put mt mg sent : Int) : Fn Try.prog 83 #[.pointer (some ⟨g, 0, none⟩)] (rgH g b k S put mt mg sent) []
    (fun v L' R' => v = .int .i64 (min put k) ∧ L' = rgH g b k S put mt mg sent ∧ R' = []) := by
  refine fn_intro Try.func83 rfl Try.ntmps83 rfl (fun E => ?_)
  (repeat (first | ((first | (apply wo_v; rfl) ); (· first | (apply pv_ev; rfl) )) | apply wo_nil | apply wc_seq | apply wc_region ))
  (refine wc_quiet mixed (by kernel_rfl) ?_; (repeat (first | ((first | (apply hd_v; rfl) ); (· first | (apply pv_ev; rfl) | (apply pv_fld; rfl) | (apply g_load; first | (apply pv_ld; rfl; (· (repeat (first | apply sel_here ))); rfl) ) | (apply g_bi; first | (apply pv_len_sl; rfl) | (apply pv_min; rfl; rfl) ) )) | apply Hd.nil | apply wc_ret )))
  exact ret1 rfl rfl ⟨rfl, rfl, rfl⟩ (by (repeat (first | apply sub_nil )); done) (by first | exact fun _ h => h | (intro r hr; cases hr; done) | (simp; done) | exact fun _ h => List.mem_append_left _ h | (intro r hr; simp [hr]; done))
set_option maxHeartbeats 1000000 in
theorem ringPut (g b k : Nat) (S : List (Option Pk)) (put : Nat) (mt mg sent num : Int) (d : ByteArray) (hk : 1 ≤ k) (hS : S.length = k) (hp : put ≤ 1000000) : Fn Try.prog 24 #[.pointer (some ⟨g, 0, none⟩), .int .u16 num, .string d] (rgH g b k S put mt mg sent) []
    (fun v L' R' => v = .tuple #[] ∧ L' = rgH g b k (S.set (put % k) (some (num, d, 0, 0))) ((put + 1 : Nat) : Int) mt mg sent ∧ R' = []) := by
  have hq : ((put : Int) % (k : Int)) = ((put % k : Nat) : Int) := by simp
  have hlt : put % k < k := Nat.mod_lt _ (by omega)
  have h1 : 0 ≤ (put : Int) % (k : Int) ∧ (put : Int) % (k : Int) < (k : Int) := by rw [hq]; omega
  have hn : ((put : Int) % (k : Int)).toNat = put % k := by rw [hq]; exact Int.toNat_natCast _
  obtain ⟨row, hr⟩ : ∃ row, (S.map srow)[((put : Int) % (k : Int)).toNat]? = some row := by
    rw [hn]; exact ⟨_, List.getElem?_eq_getElem (by simp; omega)⟩
  have e1 : (S.map srow).set ((put : Int) % (k : Int)).toNat [.bool true, .int .u16 num, .string d, .int .i64 0, .int .i64 0] = (S.set (put % k) (some (num, d, 0, 0))).map srow := by
    rw [hn, List.map_set]; rfl
  have e2 : (put : Int) + 1 = ((put + 1 : Nat) : Int) := by simp
  clear hq hn
  refine fn_intro Try.func24 rfl Try.ntmps24 rfl (fun E => ?_)
  (repeat (first | apply wc_seq ))
  (refine wc_tail 18 mixed (by kernel_rfl) ?_; (repeat (first | ((first | (apply wo_v; rfl) | (apply hd_v; rfl) ); (· first | (apply pv_ev; rfl) | (apply pv_fld; rfl) | (apply g_load; first | (apply pv_ld; rfl; (· (repeat (first | apply sel_here | apply sel_there))); rfl) ) | (apply g_bin; first | (apply a_add; rfl; rfl; infer_instance; omega) | (apply pv_rem; rfl; rfl; omega) ) | (apply g_bi; first | (apply pv_len_sl; rfl) ) | (apply g_idx; first | (apply pv_idx; rfl; rfl; omega) | (apply (pv_idx_e 0); rfl; rfl; rfl; omega) | (apply pv_idx_n; rfl; rfl; omega) ) | (apply g_build; apply pv_build; (· (repeat (first | apply Bld.nil | (apply Bld.one; rfl; rfl; (· (repeat (first | apply SetAt.here | apply SetAt.there)))) )))) )) | apply wo_nil | apply Hd.nil | apply wc_region | (apply wo_st; rfl; rfl; rfl; (· (repeat (first | apply sel_here | apply sel_there))); (· (repeat (first | apply SetAt.here | apply SetAt.there))); rfl) | (apply wo_sta; rfl; rfl; rfl; rfl; (· (repeat (first | apply sel_there))); (· (repeat (first | fail ))); rfl) | (apply wo_st_owna; rfl; rfl; rfl; rfl; (· (repeat (first | apply sel_here | apply sel_there))); (· assumption); rfl) )))
  exact ret0 rfl ⟨rfl, rfl, rfl⟩ (by rw [e1, e2]; exact (by (repeat (first | apply sub_nil )); done)) (by first | exact fun _ h => h | (intro r hr; cases hr; done) | (simp; done) | exact fun _ h => List.mem_append_left _ h | (intro r hr; simp [hr]; done))

/-- the packet put i puts ago lies in slot (put - i) mod k -/
structure Lay (S : List (Option Pk)) (put k : Nat) (Q : List Pk) : Prop where
  len : S.length = k
  qlen : Q.length = min put k
  at_ : ∀ i p, 1 ≤ i → i ≤ Q.length → Q[Q.length - i]? = some p → S[(put - i) % k]? = some (some p)
set_option maxHeartbeats 4000000 in
theorem ringFind (g b k : Nat) (S : List (Option Pk)) (put : Nat) (mt mg sent num : Int) (Q : List Pk) (hk : 1 ≤ k) (hL : Lay S put k Q) (hp : put ≤ 1000000) (r : Option Addr)
    (hs : ∀ i p, 1 ≤ i → i ≤ Q.length → Q[Q.length - i]? = some p → p.1 = num → (∀ j p', 1 ≤ j → j < i → Q[Q.length - j]? = some p' → p'.1 ≠ num) → r = some ⟨b, elt 0 ((put - i) % k) 5, none⟩) (hnone : (∀ p ∈ Q, p.1 ≠ num) → r = none) :
    Fn Try.prog 72 #[.pointer (some ⟨g, 0, none⟩), .int .u16 num] (rgH g b k S put mt mg sent) []
    (fun v L' R' => v = .pointer r ∧ L' = rgH g b k S put mt mg sent ∧ R' = []) := by
  obtain ⟨l1, l2, l3⟩ := hL
  refine fn_intro Try.func72 rfl Try.ntmps72 rfl (fun E => ?_)
  (repeat (first | ((first | (apply wo_v; rfl) ); (· first | (apply pv_ev; rfl) )) | apply wo_nil | apply wc_seq | apply wc_region | apply wc_block ))
  refine wc_loop' (fun m st => ∃ (i : Nat), m = 1000001 - i ∧ st = ⟨[(0, .pointer (some ⟨g, 0, none⟩)), (1, .int .u16 num), (5, .int .i64 i)], rgH g b k S put mt mg sent, []⟩ ∧ 1 ≤ i ∧ i ≤ Q.length + 1 ∧ ∀ j p', 1 ≤ j → j < i → Q[Q.length - j]? = some p' → p'.1 ≠ num)
    ⟨1, rfl, rfl, by omega, by omega, fun j p' h1 h2 => by omega⟩ (wk_mk (by (repeat (first | apply wkf_nil | (apply wkf_cons; rfl))); done) (by (repeat (first | apply sub_nil )); done) (by first | exact fun _ h => h | (intro r hr; cases hr; done) | (simp; done) | exact fun _ h => List.mem_append_left _ h | (intro r hr; simp [hr]; done))) ?_
  rintro m st ⟨i, rfl, rfl, hi1, hi2, hnot⟩
  by_cases hlt : i ≤ Q.length
  · obtain ⟨p, hQ⟩ : ∃ p, Q[Q.length - i]? = some p := ⟨_, List.getElem?_eq_getElem (by omega)⟩
    have hS := l3 i p hi1 hlt hQ
    have hc : ((put : Int) - (i : Int)) = ((put - i : Nat) : Int) := by omega
    have hq : (((put : Int) - (i : Int)) % (k : Int)) = (((put - i) % k : Nat) : Int) := by rw [hc]; simp
    have hlt2 : (put - i) % k < k := Nat.mod_lt _ (by omega)
    have h1 : 0 ≤ ((put : Int) - (i : Int)) % (k : Int) ∧ ((put : Int) - (i : Int)) % (k : Int) < (k : Int) := by rw [hq]; omega
    have hn : (((put : Int) - (i : Int)) % (k : Int)).toNat = (put - i) % k := by rw [hq]; exact Int.toNat_natCast _
    have hr : (S.map srow)[(put - i) % k]? = some [.bool true, .int .u16 p.1, .string p.2.1, .int .i64 p.2.2.1, .int .i64 p.2.2.2] := by rw [List.getElem?_map, hS]; rfl
    clear hq hc
    (repeat (first | ((first | (apply wo_v; rfl) ); (· first | (apply pv_ev; rfl) )) | apply wc_seq | apply wc_region ))
    (refine wo_call (ringLen g b k S put mt mg sent) rfl (by (repeat (first | apply sub_nil )); done) (by first | exact fun _ h => h | (intro r hr; cases hr; done) | (simp; done) | exact fun _ h => List.mem_append_left _ h | (intro r hr; simp [hr]; done)) rfl ?_; rintro v L' R' ⟨rfl, rfl, rfl⟩ H' hH RR hR; simp only [List.cons_append, List.nil_append] at hH hR; subst hH; have hR := hR.symm; subst hR)
    (repeat (first | ((first | (apply wo_v; rfl) ); (· first | (apply pv_ev; rfl) )) | apply wo_nil | apply wc_seq | apply wc_block | apply wc_skip | (apply wc_true; rfl) | (apply wc_false; rfl) | (apply a_dec_t; rfl; (· first | assumption | omega)) ))
    (refine wc_quiet mixed (by kernel_rfl) ?_; (repeat (first | ((first | (apply wo_v; rfl) | (apply hd_v; rfl) ); (· first | (apply pv_ev; rfl) | (apply pv_fld; rfl) | (apply g_load; first | (apply pv_ld; rfl; (· (repeat (first | apply sel_here | apply sel_there))); rfl) | (apply pv_ld_ownf; rfl; (· (repeat (first | apply sel_here | apply sel_there))); (· assumption); rfl) | (apply pv_ld_own1; rfl; (· (repeat (first | fail ))); (· assumption)) | (apply pv_ld_rof; rfl; (· (first | assumption )); (· assumption); rfl) | (apply pv_ld_ro1; rfl; (· (first | assumption )); (· assumption)) ) | (apply g_bin; first | (apply a_sub; rfl; rfl; infer_instance; omega) | (apply pv_rem; rfl; rfl; omega) ) | (apply g_bi; first | (apply pv_len_sl; rfl) ) | (apply g_idx; first | (apply pv_idx; rfl; rfl; omega) | (apply (pv_idx_e 0); rfl; rfl; rfl; omega) | (apply pv_idx_n; rfl; rfl; omega) ) )) | apply Hd.nil | apply wc_seq | apply wc_region )))
    rw [hn]
    clear h1 hn
    by_cases hm : p.1 = num
    · have hres := hs i p hi1 hlt hQ hm hnot
      (repeat (first | ((first | (apply wo_v; rfl) ); (· first | (apply pv_ev; rfl) | (apply pv_fld; rfl) | (apply g_load; first | (apply pv_ld; rfl; (· (repeat (first | apply sel_there))); rfl) | (apply pv_ld_ownf; rfl; (· (repeat (first | apply sel_here | apply sel_there))); (· assumption); rfl) ) | (apply g_pick; first | (apply pv_pick_t; rfl; rfl) ) )) | apply wo_nil | apply wc_seq | apply wc_region | apply wc_ret | (apply wc_true; rfl) | (apply wc_false; rfl) | (apply a_dec_t; rfl; (· first | assumption | omega)) | (apply wo_run; rfl; rfl) ))
      exact ret1 rfl rfl ⟨by rw [hres], rfl, rfl⟩ (by (repeat (first | apply sub_nil )); done) (by first | exact fun _ h => h | (intro r hr; cases hr; done) | (simp; done) | exact fun _ h => List.mem_append_left _ h | (intro r hr; simp [hr]; done))
    · (repeat (first | ((first | (apply wo_v; rfl) ); (· first | (apply pv_ev; rfl) | (apply pv_fld; rfl) | (apply g_load; first | (apply pv_ld; rfl; (· (repeat (first | apply sel_there))); rfl) | (apply pv_ld_ownf; rfl; (· (repeat (first | apply sel_here | apply sel_there))); (· assumption); rfl) ) | (apply g_pick; first | (apply pv_pick_t; rfl; rfl) ) | (apply g_bin; first | (apply a_add; rfl; rfl; infer_instance; omega) ) )) | apply wo_nil | apply wc_region | apply wc_skip | (apply wc_true; rfl) | (apply wc_false; rfl) | (apply a_dec_t; rfl; (· first | assumption | omega)) | (apply a_dec_f; rfl; (· first | assumption | omega)) | (apply wo_run; rfl; rfl) ))
      refine loop_end ⟨i + 1, rfl, rfl, by omega, by omega, fun j p' h1 h2 h3 => ?_⟩ (by omega) (wk_mk (by (repeat (first | apply wkf_nil | (apply wkf_cons; rfl))); done) (by (repeat (first | apply sub_nil )); done) (by first | exact fun _ h => h | (intro r hr; cases hr; done) | (simp; done) | exact fun _ h => List.mem_append_left _ h | (intro r hr; simp [hr]; done)))
      by_cases hji : j = i
      · subst hji; rw [hQ] at h3; injection h3 with h3; subst h3; exact hm
      · exact hnot j p' h1 (by omega) h3
  · have hres := hnone fun p hpm => by
      obtain ⟨j, hj, hpj⟩ := List.getElem_of_mem hpm
      exact hnot (Q.length - j) p (by omega) (by omega) (by rw [show Q.length - (Q.length - j) = j by omega, List.getElem?_eq_getElem hj, hpj])
    (repeat (first | ((first | (apply wo_v; rfl) ); (· first | (apply pv_ev; rfl) )) | apply wc_seq | apply wc_region ))
    (refine wo_call (ringLen g b k S put mt mg sent) rfl (by (repeat (first | apply sub_nil )); done) (by first | exact fun _ h => h | (intro r hr; cases hr; done) | (simp; done) | exact fun _ h => List.mem_append_left _ h | (intro r hr; simp [hr]; done)) rfl ?_; rintro v L' R' ⟨rfl, rfl, rfl⟩ H' hH RR hR; simp only [List.cons_append, List.nil_append] at hH hR; subst hH; have hR := hR.symm; subst hR)
    (repeat (first | ((first | (apply wo_v; rfl) ); (· first | (apply pv_ev; rfl) )) | apply wo_nil | apply wc_seq | apply wc_region | (apply wc_exit; rfl) | apply wc_ret | (apply wc_true; rfl) | (apply wc_false; rfl) | (apply a_dec_t; rfl; (· first | assumption | omega)) | (apply a_dec_f; rfl; (· first | assumption | omega)) ))
    exact ret1 rfl rfl ⟨by rw [hres], rfl, rfl⟩ (by (repeat (first | apply sub_nil )); done) (by first | exact fun _ h => h | (intro r hr; cases hr; done) | (simp; done) | exact fun _ h => List.mem_append_left _ h | (intro r hr; simp [hr]; done))
end Go.Proofs.Ytnjicnadlhfocaa
