/-
  Texts of this proof, laid together (part 6 of 7).
-/
import Derived.Test.YteaccbbmphcmnaaB5
/-
  Package rtcp: sound, Check.
-/
namespace Go.Proofs.Yteaccbbmphcmnaa
set_option linter.unusedSimpArgs false
set_option linter.unusedVariables false
open Go.RowKit
attribute [local irreducible] Pv WO WC Fn
set_option maxRecDepth 100000
attribute [local irreducible] ByteArray.extract

def sdK : Pkt → Bool
  | .sender _ _ _ _ _ bl => !(bl.any fun b => decide (16777216 ≤ b.tt))
  | .receiver _ bl => !(bl.any fun b => decide (16777216 ≤ b.tt))
  | .sdes ch => !(ch.any fun c => c.2.any fun x => decide (x.1 = 0))
  | .remb _ rt ss => decide (ss.length < 256 ∧ rt / 2 ^ exM rt * 2 ^ exM rt = rt)
  | .other kd ct bd => decide (192 ≤ kd ∧ kd ≤ 223 ∧ ct < 32 ∧ bd.size % 4 = 0 ∧ knB kd ct = false)
  | _ => true
def inK : Pkt → Prop
  | .remb _ rt _ => in64 rt
  | _ => True
abbrev SdC (R : List Ro) (v : Value) (q : Bool) : Prop := Fn Try.prog 40 #[v] [] R (fun u L' R' => u = .bool q ∧ L' = [] ∧ R' = [])
set_option maxHeartbeats 8000000 in
theorem cSdRemb (f0 rt : Int) (ss : List Int) (A : Option Addr) (c : Nat) (R : List Ro) (h : in64 rt) : SdC R (.iface 111 (.agg #[.int .u32 f0, .int .u64 rt, .slice A ss.length c])) (sdK (.remb f0 rt ss)) := by
  have hx := exM_le h
  have qe := qExp rt h
  have hrt : 0 ≤ rt ∧ rt ≤ 18446744073709551615 := h
  unfold sdK
  dsimp only
  obtain ⟨e, he⟩ : ∃ e, exM rt = e := ⟨_, rfl⟩
  rw [he] at hx qe ⊢
  have hp : (0 : Int) < 2 ^ e := Int.pow_pos (by omega)
  have hmin : min (e : Int).toNat IntKind.u64.bits = e := by show min e 64 = e; omega
  have hq : rt / 2 ^ e * 2 ^ e ≤ rt := by have := Int.ediv_mul_le rt (show (2 : Int) ^ e ≠ 0 by omega); exact this
  have hq0 : 0 ≤ rt / 2 ^ e * 2 ^ e := Int.mul_nonneg (Int.ediv_nonneg hrt.1 (by omega)) (by omega)
  have hraw : IntKind.u64.wrap (rt.fdiv (2 ^ (min (e : Int).toNat IntKind.u64.bits)) * 2 ^ (min (e : Int).toNat IntKind.u64.bits)) = rt / 2 ^ e * 2 ^ e := by
    rw [hmin, Int.fdiv_eq_ediv_of_nonneg _ (by omega), IntKind.wrap_u64]
    generalize rt / 2 ^ e * 2 ^ e = z at *
    omega
  by_cases hs : ss.length < 256
  · refine fn_intro Try.func40 rfl Try.ntmps40 rfl (fun E => ?_)
    (repeat (first | ((first | (apply wo_v; rfl) ); (· first | (apply pv_ev; rfl) | (apply pv_tas; rfl; infer_instance) )) | apply wo_nil | apply wc_seq | apply wc_region | apply wc_block | (apply wc_true; rfl) | (apply wc_false; rfl) | (apply wo_alloc; rfl; intro bx) | (apply wo_sta; rfl; rfl; rfl; rfl; (· (repeat (first | apply sel_here ))); (· (repeat (first | apply LayAt.nil | apply LayAt.here ))); rfl) ))
    (refine wc_quiet mixed (by kernel_rfl) ?_; (repeat (first | ((first | (apply hd_v; rfl) ); (· first | (apply pv_ev; rfl) | (apply pv_fld; rfl) | (apply g_load; first | (apply pv_ld; rfl; (· (repeat (first | apply sel_here ))); rfl) ) | (apply g_bi; first | (apply pv_len_sl; rfl) ) )) | (apply Hd.run; rfl; rfl) | (apply Hd.skip; rfl; rfl; rfl; rfl) | (apply Hd.skipu; rfl; rfl; rfl) | (apply ah_gt; rfl; rfl; (· first | assumption | omega)) )))
    (refine Hd.call rfl inferInstance (Fn.mono (qe) (fun _ _ _ h => ⟨h.1, h.2.1⟩)) rfl (by (repeat (first | apply sub_nil )); done) (by first | exact fun _ h => h | (intro r hr; cases hr; done) | (simp; done) | exact fun _ h => List.mem_append_left _ h | (intro r hr; simp [hr]; done)) rfl ?_; (repeat (first | ((first | (apply hd_v; rfl) ); (· first | (apply pv_ev; rfl) | (apply pv_fld; rfl) | (apply g_load; first | (apply pv_ld; rfl; (· (repeat (first | apply sel_here ))); rfl) ) | (apply g_bin; first | (apply a_shr; rfl; rfl; rfl; omega; rfl) | (apply pv_shr; rfl; rfl; omega) ) )) | (apply Hd.run; rfl; rfl) )))
    (refine Hd.call rfl inferInstance (Fn.mono (qe) (fun _ _ _ h => ⟨h.1, h.2.1⟩)) rfl (by (repeat (first | apply sub_nil )); done) (by first | exact fun _ h => h | (intro r hr; cases hr; done) | (simp; done) | exact fun _ h => List.mem_append_left _ h | (intro r hr; simp [hr]; done)) rfl ?_; (repeat (first | ((first | (apply hd_v; rfl) ); (· first | (apply pv_ev; rfl) | (apply pv_fld; rfl) | (apply g_load; first | (apply pv_ld; rfl; (· (repeat (first | apply sel_here ))); rfl) ) | (apply g_pick; first | (apply pv_pick_t; rfl; rfl) ) | (apply g_bin; first | (apply a_shl; rfl; rfl; rfl; omega; rfl; infer_instance; omega) | (apply a_shl_u; rfl; rfl; rfl; omega; rfl; infer_instance) | (apply pv_shl; rfl; rfl; omega) ) )) | apply Hd.nil | apply wc_ret | (apply Hd.run; rfl; rfl) )))
    rw [hraw]
    exact ret1 rfl rfl ⟨congrArg Value.bool (decide_eq_decide.2 ⟨fun h => ⟨hs, h⟩, fun h => h.2⟩), rfl, rfl⟩ ((by (repeat (first | apply sub_nil )); done) : List.Perm _ ([] ++ _)) (by first | exact fun _ h => h | (intro r hr; cases hr; done) | (simp; done) | exact fun _ h => List.mem_append_left _ h | (intro r hr; simp [hr]; done))
  · refine fn_intro Try.func40 rfl Try.ntmps40 rfl (fun E => ?_)
    (repeat (first | ((first | (apply wo_v; rfl) ); (· first | (apply pv_ev; rfl) | (apply pv_tas; rfl; infer_instance) )) | apply wo_nil | apply wc_seq | apply wc_region | apply wc_block | (apply wc_true; rfl) | (apply wc_false; rfl) | (apply wo_alloc; rfl; intro bx) | (apply wo_sta; rfl; rfl; rfl; rfl; (· (repeat (first | apply sel_here ))); (· (repeat (first | apply LayAt.nil | apply LayAt.here ))); rfl) ))
    (refine wc_quiet mixed (by kernel_rfl) ?_; (repeat (first | ((first | (apply hd_v; rfl) ); (· first | (apply pv_ev; rfl) | (apply pv_fld; rfl) | (apply g_load; first | (apply pv_ld; rfl; (· (repeat (first | apply sel_here ))); rfl) ) | (apply g_pick; first | (apply pv_pick_t; rfl; rfl) | (apply pv_pick_f; rfl; rfl)) | (apply g_bi; first | (apply pv_len_sl; rfl) ) )) | apply Hd.nil | apply wc_ret | (apply Hd.run; rfl; rfl) | (apply Hd.skip; rfl; rfl; rfl; rfl) | (apply Hd.skipu; rfl; rfl; rfl) | (apply ah_gt; rfl; rfl; (· first | assumption | omega)) | (apply ah_gf; rfl; rfl; (· first | assumption | omega)) )))
    exact ret1 rfl rfl ⟨congrArg Value.bool (decide_eq_false (fun h => hs h.1)).symm, rfl, rfl⟩ ((by (repeat (first | apply sub_nil )); done) : List.Perm _ ([] ++ _)) (by first | exact fun _ h => h | (intro r hr; cases hr; done) | (simp; done) | exact fun _ h => List.mem_append_left _ h | (intro r hr; simp [hr]; done))
theorem cSdOther (kd ct : Int) (bd : ByteArray) (R : List Ro) (hb : bd.size ≤ 1000000) : SdC R (.iface 114 (.agg #[.int .u8 kd, .int .u8 ct, .string bd])) (sdK (.other kd ct bd)) := by
  have qk := cKnown kd ct
  have e4 : (bd.size : Int).tmod 4 = (bd.size : Int) % 4 := Int.tmod_eq_emod_of_nonneg (by omega)
  unfold sdK
  dsimp only
  by_cases h1 : 192 ≤ kd
  · by_cases h2 : kd ≤ 223
    · by_cases h3 : ct < 32
      · by_cases h4 : (bd.size : Int) % 4 = 0
        · cases hk : knB kd ct
          all_goals
            rw [hk] at qk
            refine fn_intro Try.func40 rfl Try.ntmps40 rfl (fun E => ?_)
            (repeat (first | ((first | (apply wo_v; rfl) ); (· first | (apply pv_ev; rfl) | (apply pv_fld; rfl) | (apply g_load; first | (apply pv_ld; rfl; (· (repeat (first | apply sel_here ))); rfl) ) | (apply g_pick; first | (apply pv_pick_t; rfl; rfl) ) | (apply g_bin; first | (apply pv_rem; rfl; rfl; omega) ) | (apply g_bi; first | (apply pv_len_str; rfl) ) | (apply pv_tas; rfl; infer_instance) )) | apply wo_nil | apply wc_seq | apply wc_region | apply wc_block | (apply wc_true; rfl) | (apply wc_false; rfl) | (apply wo_run; rfl; rfl) | (apply wo_skip; rfl; rfl; rfl; rfl) | (apply wo_skip_u; rfl; rfl; rfl) | (apply a_gt; rfl; rfl; (· first | assumption | omega)) | (apply wo_alloc; rfl; intro bx) | (apply wo_sta; rfl; rfl; rfl; rfl; (· (repeat (first | apply sel_here ))); (· (repeat (first | apply LayAt.nil | apply LayAt.here ))); rfl) ))
            (refine wo_call (qk) rfl (by (repeat (first | apply sub_nil )); done) (by first | exact fun _ h => h | (intro r hr; cases hr; done) | (simp; done) | exact fun _ h => List.mem_append_left _ h | (intro r hr; simp [hr]; done)) rfl ?_; rintro v L' R' ⟨rfl, rfl, rfl⟩ H' hH RR hR; simp only [List.cons_append, List.nil_append] at hH hR; subst hH; have hR := hR.symm; subst hR)
            (repeat (first | ((first | (apply wo_v; rfl) ); (· first | (apply pv_ev; rfl) | (apply g_pick; first | (apply pv_pick_t; rfl; rfl) ) | (apply g_un; first | (apply pv_not_t; rfl) | (apply pv_not_f; rfl) ) )) | apply wo_nil | apply wc_ret | (apply wo_run; rfl; rfl) ))
            exact ret1 rfl rfl ⟨by simp [h1, h2, h3, (by omega : bd.size % 4 = 0)], rfl, rfl⟩ ((by (repeat (first | apply sub_nil )); done) : List.Perm _ ([] ++ _)) (by first | exact fun _ h => h | (intro r hr; cases hr; done) | (simp; done) | exact fun _ h => List.mem_append_left _ h | (intro r hr; simp [hr]; done))
        · refine fn_intro Try.func40 rfl Try.ntmps40 rfl (fun E => ?_)
          (repeat (first | ((first | (apply wo_v; rfl) ); (· first | (apply pv_ev; rfl) | (apply pv_fld; rfl) | (apply g_load; first | (apply pv_ld; rfl; (· (repeat (first | apply sel_here ))); rfl) ) | (apply g_pick; first | (apply pv_pick_t; rfl; rfl) | (apply pv_pick_f; rfl; rfl)) | (apply g_bin; first | (apply pv_rem; rfl; rfl; omega) ) | (apply g_bi; first | (apply pv_len_str; rfl) ) | (apply pv_tas; rfl; infer_instance) )) | apply wo_nil | apply wc_seq | apply wc_region | apply wc_block | apply wc_ret | (apply wc_true; rfl) | (apply wc_false; rfl) | (apply wo_run; rfl; rfl) | (apply wo_skip; rfl; rfl; rfl; rfl) | (apply wo_skip_u; rfl; rfl; rfl) | (apply a_gt; rfl; rfl; (· first | assumption | omega)) | (apply a_gf; rfl; rfl; (· first | assumption | omega)) | (apply wo_alloc; rfl; intro bx) | (apply wo_sta; rfl; rfl; rfl; rfl; (· (repeat (first | apply sel_here ))); (· (repeat (first | apply LayAt.nil | apply LayAt.here ))); rfl) ))
          exact ret1 rfl rfl ⟨congrArg Value.bool (decide_eq_false (fun h => h4 (by have := h.2.2.2.1; omega))).symm, rfl, rfl⟩ ((by (repeat (first | apply sub_nil )); done) : List.Perm _ ([] ++ _)) (by first | exact fun _ h => h | (intro r hr; cases hr; done) | (simp; done) | exact fun _ h => List.mem_append_left _ h | (intro r hr; simp [hr]; done))
      · refine fn_intro Try.func40 rfl Try.ntmps40 rfl (fun E => ?_)
        (repeat (first | ((first | (apply wo_v; rfl) ); (· first | (apply pv_ev; rfl) | (apply pv_fld; rfl) | (apply g_load; first | (apply pv_ld; rfl; (· (repeat (first | apply sel_here ))); rfl) ) | (apply g_pick; first | (apply pv_pick_t; rfl; rfl) | (apply pv_pick_f; rfl; rfl)) | (apply pv_tas; rfl; infer_instance) )) | apply wo_nil | apply wc_seq | apply wc_region | apply wc_block | apply wc_ret | (apply wc_true; rfl) | (apply wc_false; rfl) | (apply wo_run; rfl; rfl) | (apply wo_skip; rfl; rfl; rfl; rfl) | (apply wo_skip_u; rfl; rfl; rfl) | (apply a_gt; rfl; rfl; (· first | assumption | omega)) | (apply a_gf; rfl; rfl; (· first | assumption | omega)) | (apply wo_alloc; rfl; intro bx) | (apply wo_sta; rfl; rfl; rfl; rfl; (· (repeat (first | apply sel_here ))); (· (repeat (first | apply LayAt.nil | apply LayAt.here ))); rfl) ))
        exact ret1 rfl rfl ⟨congrArg Value.bool (decide_eq_false (fun h => h3 h.2.2.1)).symm, rfl, rfl⟩ ((by (repeat (first | apply sub_nil )); done) : List.Perm _ ([] ++ _)) (by first | exact fun _ h => h | (intro r hr; cases hr; done) | (simp; done) | exact fun _ h => List.mem_append_left _ h | (intro r hr; simp [hr]; done))
    · refine fn_intro Try.func40 rfl Try.ntmps40 rfl (fun E => ?_)
      (repeat (first | ((first | (apply wo_v; rfl) ); (· first | (apply pv_ev; rfl) | (apply pv_fld; rfl) | (apply g_load; first | (apply pv_ld; rfl; (· (repeat (first | apply sel_here ))); rfl) ) | (apply g_pick; first | (apply pv_pick_t; rfl; rfl) | (apply pv_pick_f; rfl; rfl)) | (apply pv_tas; rfl; infer_instance) )) | apply wo_nil | apply wc_seq | apply wc_region | apply wc_block | apply wc_ret | (apply wc_true; rfl) | (apply wc_false; rfl) | (apply wo_run; rfl; rfl) | (apply wo_skip; rfl; rfl; rfl; rfl) | (apply wo_skip_u; rfl; rfl; rfl) | (apply a_gt; rfl; rfl; (· first | assumption | omega)) | (apply a_gf; rfl; rfl; (· first | assumption | omega)) | (apply wo_alloc; rfl; intro bx) | (apply wo_sta; rfl; rfl; rfl; rfl; (· (repeat (first | apply sel_here ))); (· (repeat (first | apply LayAt.nil | apply LayAt.here ))); rfl) ))
      exact ret1 rfl rfl ⟨congrArg Value.bool (decide_eq_false (fun h => h2 h.2.1)).symm, rfl, rfl⟩ ((by (repeat (first | apply sub_nil )); done) : List.Perm _ ([] ++ _)) (by first | exact fun _ h => h | (intro r hr; cases hr; done) | (simp; done) | exact fun _ h => List.mem_append_left _ h | (intro r hr; simp [hr]; done))
  · refine fn_intro Try.func40 rfl Try.ntmps40 rfl (fun E => ?_)
    (repeat (first | ((first | (apply wo_v; rfl) ); (· first | (apply pv_ev; rfl) | (apply pv_fld; rfl) | (apply g_load; first | (apply pv_ld; rfl; (· (repeat (first | apply sel_here ))); rfl) ) | (apply g_pick; first | (apply pv_pick_t; rfl; rfl) | (apply pv_pick_f; rfl; rfl)) | (apply pv_tas; rfl; infer_instance) )) | apply wo_nil | apply wc_seq | apply wc_region | apply wc_block | apply wc_ret | (apply wc_true; rfl) | (apply wc_false; rfl) | (apply wo_run; rfl; rfl) | (apply wo_skip; rfl; rfl; rfl; rfl) | (apply wo_skip_u; rfl; rfl; rfl) | (apply a_gt; rfl; rfl; (· first | assumption | omega)) | (apply a_gf; rfl; rfl; (· first | assumption | omega)) | (apply wo_alloc; rfl; intro bx) | (apply wo_sta; rfl; rfl; rfl; rfl; (· (repeat (first | apply sel_here ))); (· (repeat (first | apply LayAt.nil | apply LayAt.here ))); rfl) ))
    exact ret1 rfl rfl ⟨congrArg Value.bool (decide_eq_false (fun h => h1 h.1)).symm, rfl, rfl⟩ ((by (repeat (first | apply sub_nil )); done) : List.Perm _ ([] ++ _)) (by first | exact fun _ h => h | (intro r hr; cases hr; done) | (simp; done) | exact fun _ h => List.mem_append_left _ h | (intro r hr; simp [hr]; done))
theorem dec_not (b : Bool) : decide (b = false) = !b := by cases b <;> rfl
theorem cSound {R : List Ro} : ∀ {p : Pkt} {v : Value}, szK p → inK p → (∀ kd ct bd, p = .other kd ct bd → bd.size ≤ 1000000) → PkV R p v → SdC R v (sdK p)
  | .sender ss ntp t pk oc bl, v, hz, _, _, hv => by
    obtain ⟨A, n, c, rfl, hS⟩ := hv
    have q := cContB bl A n c R hS hz
    refine fn_intro Try.func40 rfl Try.ntmps40 rfl (fun E => ?_)
    (repeat (first | ((first | (apply wo_v; rfl) ); (· first | (apply pv_ev; rfl) | (apply pv_fld; rfl) | (apply g_load; first | (apply pv_ld; rfl; (· (repeat (first | apply sel_here ))); rfl) ) | (apply pv_tas; rfl; infer_instance) )) | apply wo_nil | apply wc_seq | apply wc_region | apply wc_block | (apply wc_true; rfl) | (apply wo_alloc; rfl; intro bx) | (apply wo_sta; rfl; rfl; rfl; rfl; (· (repeat (first | apply sel_here ))); (· (repeat (first | apply LayAt.nil | apply LayAt.here ))); rfl) ))
    (refine wo_call (q) rfl (by (repeat (first | apply sub_nil )); done) (by first | exact fun _ h => h | (intro r hr; cases hr; done) | (simp; done) | exact fun _ h => List.mem_append_left _ h | (intro r hr; simp [hr]; done)) rfl ?_; rintro v L' R' ⟨rfl, rfl, rfl⟩ H' hH RR hR; simp only [List.cons_append, List.nil_append] at hH hR; subst hH; have hR := hR.symm; subst hR)
    (repeat (first | ((first | (apply wo_v; rfl) ); (· first | (apply pv_ev; rfl) | (apply g_un; first | (apply pv_not_t; rfl) | (apply pv_not_f; rfl) | (apply a_not_d; rfl) | (apply pv_not; rfl) ) )) | apply wo_nil | apply wc_ret ))
    exact ret1 rfl rfl ⟨congrArg Value.bool (dec_not _), rfl, rfl⟩ ((by (repeat (first | apply sub_nil )); done) : List.Perm _ ([] ++ _)) (by first | exact fun _ h => h | (intro r hr; cases hr; done) | (simp; done) | exact fun _ h => List.mem_append_left _ h | (intro r hr; simp [hr]; done))
  | .receiver ss bl, v, hz, _, _, hv => by
    obtain ⟨A, n, c, rfl, hS⟩ := hv
    have q := cContB bl A n c R hS hz
    refine fn_intro Try.func40 rfl Try.ntmps40 rfl (fun E => ?_)
    (repeat (first | ((first | (apply wo_v; rfl) ); (· first | (apply pv_ev; rfl) | (apply pv_fld; rfl) | (apply g_load; first | (apply pv_ld; rfl; (· (repeat (first | apply sel_here ))); rfl) ) | (apply pv_tas; rfl; infer_instance) )) | apply wo_nil | apply wc_seq | apply wc_region | apply wc_block | (apply wc_true; rfl) | (apply wc_false; rfl) | (apply wo_alloc; rfl; intro bx) | (apply wo_sta; rfl; rfl; rfl; rfl; (· (repeat (first | apply sel_here ))); (· (repeat (first | apply LayAt.nil | apply LayAt.here ))); rfl) ))
    (refine wo_call (q) rfl (by (repeat (first | apply sub_nil )); done) (by first | exact fun _ h => h | (intro r hr; cases hr; done) | (simp; done) | exact fun _ h => List.mem_append_left _ h | (intro r hr; simp [hr]; done)) rfl ?_; rintro v L' R' ⟨rfl, rfl, rfl⟩ H' hH RR hR; simp only [List.cons_append, List.nil_append] at hH hR; subst hH; have hR := hR.symm; subst hR)
    (repeat (first | ((first | (apply wo_v; rfl) ); (· first | (apply pv_ev; rfl) | (apply g_un; first | (apply pv_not_t; rfl) | (apply pv_not_f; rfl) | (apply a_not_d; rfl) | (apply pv_not; rfl) ) )) | apply wo_nil | apply wc_ret ))
    exact ret1 rfl rfl ⟨congrArg Value.bool (dec_not _), rfl, rfl⟩ ((by (repeat (first | apply sub_nil )); done) : List.Perm _ ([] ++ _)) (by first | exact fun _ h => h | (intro r hr; cases hr; done) | (simp; done) | exact fun _ h => List.mem_append_left _ h | (intro r hr; simp [hr]; done))
  | .sdes ch, v, hz, _, _, hv => by
    obtain ⟨A, n, c, rows, rfl, hS, hV⟩ := hv
    have q := cContC ch rows A n c R hS hV hz.1 hz.2
    refine fn_intro Try.func40 rfl Try.ntmps40 rfl (fun E => ?_)
    (repeat (first | ((first | (apply wo_v; rfl) ); (· first | (apply pv_ev; rfl) | (apply pv_fld; rfl) | (apply g_load; first | (apply pv_ld; rfl; (· (repeat (first | apply sel_here ))); rfl) ) | (apply pv_tas; rfl; infer_instance) )) | apply wo_nil | apply wc_seq | apply wc_region | apply wc_block | (apply wc_true; rfl) | (apply wc_false; rfl) | (apply wo_alloc; rfl; intro bx) | (apply wo_sta; rfl; rfl; rfl; rfl; (· (repeat (first | apply sel_here ))); (· (repeat (first | apply LayAt.nil | apply LayAt.here ))); rfl) ))
    (refine wo_call (q) rfl (by (repeat (first | apply sub_nil )); done) (by first | exact fun _ h => h | (intro r hr; cases hr; done) | (simp; done) | exact fun _ h => List.mem_append_left _ h | (intro r hr; simp [hr]; done)) rfl ?_; rintro v L' R' ⟨rfl, rfl, rfl⟩ H' hH RR hR; simp only [List.cons_append, List.nil_append] at hH hR; subst hH; have hR := hR.symm; subst hR)
    (repeat (first | ((first | (apply wo_v; rfl) ); (· first | (apply pv_ev; rfl) | (apply g_un; first | (apply pv_not_t; rfl) | (apply pv_not_f; rfl) | (apply a_not_d; rfl) | (apply pv_not; rfl) ) )) | apply wo_nil | apply wc_ret ))
    exact ret1 rfl rfl ⟨congrArg Value.bool (dec_not _), rfl, rfl⟩ ((by (repeat (first | apply sub_nil )); done) : List.Perm _ ([] ++ _)) (by first | exact fun _ h => h | (intro r hr; cases hr; done) | (simp; done) | exact fun _ h => List.mem_append_left _ h | (intro r hr; simp [hr]; done))
  | .bye ss rs, v, hz, _, _, hv => by
    obtain ⟨A, n, c, rfl, hS⟩ := hv
    refine fn_intro Try.func40 rfl Try.ntmps40 rfl (fun E => ?_)
    (repeat (first | ((first | (apply wo_v; rfl) ); (· first | (apply pv_ev; rfl) | (apply pv_tas; rfl; infer_instance) )) | apply wo_nil | apply wc_seq | apply wc_region | apply wc_block | apply wc_skip | apply wc_ret | (apply wc_true; rfl) | (apply wc_false; rfl) ))
    exact ret1 rfl rfl ⟨rfl, rfl, rfl⟩ ((by (repeat (first | apply sub_nil )); done) : List.Perm _ ([] ++ _)) (by first | exact fun _ h => h | (intro r hr; cases hr; done) | (simp; done) | exact fun _ h => List.mem_append_left _ h | (intro r hr; simp [hr]; done))
  | .nack fm to ps, v, hz, _, _, hv => by
    obtain ⟨A, n, c, rfl, hS⟩ := hv
    refine fn_intro Try.func40 rfl Try.ntmps40 rfl (fun E => ?_)
    (repeat (first | ((first | (apply wo_v; rfl) ); (· first | (apply pv_ev; rfl) | (apply pv_tas; rfl; infer_instance) )) | apply wo_nil | apply wc_seq | apply wc_region | apply wc_block | apply wc_skip | apply wc_ret | (apply wc_true; rfl) | (apply wc_false; rfl) ))
    exact ret1 rfl rfl ⟨rfl, rfl, rfl⟩ ((by (repeat (first | apply sub_nil )); done) : List.Perm _ ([] ++ _)) (by first | exact fun _ h => h | (intro r hr; cases hr; done) | (simp; done) | exact fun _ h => List.mem_append_left _ h | (intro r hr; simp [hr]; done))
  | .pli fm to, v, hz, _, _, hv => by
    obtain rfl := hv
    refine fn_intro Try.func40 rfl Try.ntmps40 rfl (fun E => ?_)
    (repeat (first | ((first | (apply wo_v; rfl) ); (· first | (apply pv_ev; rfl) | (apply pv_tas; rfl; infer_instance) )) | apply wo_nil | apply wc_seq | apply wc_region | apply wc_block | apply wc_skip | apply wc_ret | (apply wc_true; rfl) | (apply wc_false; rfl) ))
    exact ret1 rfl rfl ⟨rfl, rfl, rfl⟩ ((by (repeat (first | apply sub_nil )); done) : List.Perm _ ([] ++ _)) (by first | exact fun _ h => h | (intro r hr; cases hr; done) | (simp; done) | exact fun _ h => List.mem_append_left _ h | (intro r hr; simp [hr]; done))
  | .fir fm os, v, hz, _, _, hv => by
    obtain ⟨A, n, c, rfl, hS⟩ := hv
    refine fn_intro Try.func40 rfl Try.ntmps40 rfl (fun E => ?_)
    (repeat (first | ((first | (apply wo_v; rfl) ); (· first | (apply pv_ev; rfl) | (apply pv_tas; rfl; infer_instance) )) | apply wo_nil | apply wc_seq | apply wc_region | apply wc_block | apply wc_skip | apply wc_ret | (apply wc_true; rfl) | (apply wc_false; rfl) ))
    exact ret1 rfl rfl ⟨rfl, rfl, rfl⟩ ((by (repeat (first | apply sub_nil )); done) : List.Perm _ ([] ++ _)) (by first | exact fun _ h => h | (intro r hr; cases hr; done) | (simp; done) | exact fun _ h => List.mem_append_left _ h | (intro r hr; simp [hr]; done))
  | .remb fm rt ss, v, hz, hi, _, hv => by
    obtain ⟨A, n, c, rfl, hS⟩ := hv
    have hn : n = ss.length := by rw [← hS.len, c32_len]
    subst hn
    exact cSdRemb fm rt ss A c R hi
  | .other kd ct bd, v, hz, _, hb, hv => by
    obtain rfl := hv
    exact cSdOther kd ct bd R (hb _ _ _ rfl)
/-- packets whose numbers lie in their ranges -/
def rgK : Pkt → Prop
  | .sender ss ntp t pk oc bl => in32 ss ∧ in64 ntp ∧ in32 t ∧ in32 pk ∧ in32 oc ∧ bl.length ≤ 100000 ∧ ∀ b ∈ bl, b.ok
  | .receiver ss bl => in32 ss ∧ bl.length ≤ 100000 ∧ ∀ b ∈ bl, b.ok
  | .sdes ch => ch.length ≤ 100000 ∧ ∀ c ∈ ch, in32 c.1 ∧ c.2.length ≤ 1000 ∧ ∀ x ∈ c.2, in8 x.1
  | .bye ss _ => ∀ x ∈ ss, in32 x
  | .nack fm to ps => in32 fm ∧ in32 to ∧ ps.length ≤ 10000 ∧ ∀ x ∈ ps, in16 x.1 ∧ in16 x.2
  | .pli fm to => in32 fm ∧ in32 to
  | .fir fm os => in32 fm ∧ os.length ≤ 10000 ∧ ∀ x ∈ os, in32 x.1 ∧ in8 x.2
  | .remb fm rt ss => in32 fm ∧ in64 rt ∧ ∀ x ∈ ss, in32 x
  | .other kd ct bd => in8 kd ∧ in8 ct ∧ bd.size ≤ 100000
theorem mxI_le : ∀ (l : List (Int × ByteArray)) (m : Int), m ≤ mxI l m ∧ ∀ x ∈ l, (x.2.size : Int) ≤ mxI l m
  | [], m => ⟨Int.le_refl _, fun x hx => by cases hx⟩
  | x :: l, m => by
    obtain ⟨h1, h2⟩ := mxI_le l (max m (x.2.size : Int))
    have e : mxI (x :: l) m = mxI l (max m (x.2.size : Int)) := rfl
    rw [e]
    refine ⟨by omega, fun y hy => ?_⟩
    rcases List.mem_cons.1 hy with rfl | hy
    · omega
    · exact h2 y hy
theorem mxC_le : ∀ (l : List Ck5) (m : Int), m ≤ mxC l m ∧ ∀ c ∈ l, ∀ x ∈ c.2, (x.2.size : Int) ≤ mxC l m
  | [], m => ⟨Int.le_refl _, fun x hx => by cases hx⟩
  | c :: l, m => by
    obtain ⟨h1, h2⟩ := mxC_le l (mxI c.2 m)
    obtain ⟨h3, h4⟩ := mxI_le c.2 m
    have e : mxC (c :: l) m = mxC l (mxI c.2 m) := rfl
    rw [e]
    refine ⟨by omega, fun y hy x hx => ?_⟩
    rcases List.mem_cons.1 hy with rfl | hy
    · have := h4 x hx; omega
    · exact h2 y hy x hx
theorem not_any {α : Type} {l : List α} {f : α → Bool} (h : (!(l.any f)) = true) {x : α} (hx : x ∈ l) : f x = false := by
  cases hf : f x with
  | false => rfl
  | true => rw [List.any_eq_true.2 ⟨x, hx, hf⟩] at h; cases h
theorem okK_of {p : Pkt} (h : rgK p) (h1 : (lsK p).1 ≤ 31) (h2 : (lsK p).2 ≤ 255) (h3 : sdK p = true) : okK p := by
  cases p with
  | sender ss ntp t pk oc bl =>
    obtain ⟨a1, a2, a3, a4, a5, a6, a7⟩ := h
    simp only [lsK] at h1
    exact ⟨a1, a2, a3, a4, a5, by omega, fun b hb => ⟨a7 b hb, by have := not_any h3 hb; simp at this; omega⟩⟩
  | receiver ss bl =>
    obtain ⟨a1, a6, a7⟩ := h
    simp only [lsK] at h1
    exact ⟨a1, by omega, fun b hb => ⟨a7 b hb, by have := not_any h3 hb; simp at this; omega⟩⟩
  | sdes ch =>
    obtain ⟨a1, a2⟩ := h
    simp only [lsK] at h1 h2
    refine ⟨by omega, fun c hc => ⟨(a2 c hc).1, (a2 c hc).2.1, fun x hx => ⟨(a2 c hc).2.2 x hx, ?_, ?_⟩⟩⟩
    · have h4 := not_any h3 hc
      intro h0
      rw [List.any_eq_true.2 ⟨x, hx, by simpa using h0⟩] at h4
      cases h4
    · have := (mxC_le ch 0).2 c hc x hx
      omega
  | bye ss rs =>
    simp only [lsK] at h1 h2
    exact ⟨by omega, h, by omega⟩
  | nack fm to ps => exact h
  | pli fm to => exact h
  | fir fm os => exact h
  | remb fm rt ss =>
    obtain ⟨a1, a2, a3⟩ := h
    have h3 := of_decide_eq_true h3
    exact ⟨a1, a2, h3.2, by omega, a3⟩
  | other kd ct bd =>
    obtain ⟨a1, a2, a3⟩ := h
    obtain ⟨b1, b2, b3, b4, b5⟩ := of_decide_eq_true h3
    have a2 := a2.1
    exact ⟨b1, b2, a2, by omega, b4, a3, fun hk => by rw [knB_iff.2 hk] at b5; cases b5⟩
theorem rg_sz {p : Pkt} (h : rgK p) : szK p := by
  cases p with
  | sender ss ntp t pk oc bl => exact h.2.2.2.2.2.1
  | receiver ss bl => exact h.2.1
  | sdes ch => exact ⟨h.1, fun c hc => Nat.le_trans (h.2 c hc).2.1 (by omega)⟩
  | _ => trivial
theorem rg_in {p : Pkt} (h : rgK p) : inK p := by
  cases p with
  | remb fm rt ss => exact h.2.1
  | _ => trivial
/-- may it be? -/
def ckK (p : Pkt) : Int := if 31 < (lsK p).1 ∨ 255 < (lsK p).2 then 4 else if sdK p = false then 5 else if 1500 < (txs [p]).size then 4 else 0
theorem ckK_ok {p : Pkt} (h : rgK p) (hc : ckK p = 0) : okK p ∧ (txs [p]).size ≤ 1500 := by
  unfold ckK at hc
  by_cases h1 : 31 < (lsK p).1 ∨ 255 < (lsK p).2
  · rw [if_pos h1] at hc; exact absurd hc (by decide)
  · rw [if_neg h1] at hc
    by_cases h2 : sdK p = false
    · rw [if_pos h2] at hc; exact absurd hc (by decide)
    · rw [if_neg h2] at hc
      by_cases h3 : 1500 < (txs [p]).size
      · rw [if_pos h3] at hc; exact absurd hc (by decide)
      · exact ⟨okK_of h (by omega) (by omega) (by simpa using h2), by omega⟩
set_option maxHeartbeats 4000000 in
theorem cCheck {p : Pkt} {v : Value} {R : List Ro} (hr : rgK p) (hv : PkV R p v) (hz : okK p → (txK p).size ≤ 200000) : Fn Try.prog 16 #[v] [] R (fun u L' R' => u = .int .i64 (ckK p) ∧ L' = [] ∧ R' = []) := by
  have q1 := cLists (rg_sz hr) hv
  have q2 := cSound (rg_sz hr) (rg_in hr) (fun kd ct bd h => by subst h; have := hr.2.2; omega) hv
  have hk : (lsK p).1 ≤ 31 → (lsK p).2 ≤ 255 → sdK p = true → okK p := okK_of hr
  have hone := hv.one
  unfold ckK
  generalize lsK p = q at *
  generalize hsd : sdK p = sd at *
  obtain ⟨n, t⟩ := q
  dsimp only at *
  by_cases h1 : 31 < n ∨ 255 < t
  · rw [if_pos h1]
    have h1 : 31 < n ∨ (¬ 31 < n ∧ 255 < t) := by omega
    rcases h1 with h1 | ⟨h0, h1⟩
    all_goals
      refine fn_intro Try.func16 rfl Try.ntmps16 rfl (fun E => ?_)
      (repeat (first | ((first | (apply wo_v; rfl) ); (· first | (apply pv_ev; rfl) )) | apply wo_nil | apply wc_seq | apply wc_region ))
      (refine wo_call (q1) rfl (by (repeat (first | apply sub_nil )); done) (by first | exact fun _ h => h | (intro r hr; cases hr; done) | (simp; done) | exact fun _ h => List.mem_append_left _ h | (intro r hr; simp [hr]; done)) rfl ?_; rintro v L' R' ⟨rfl, rfl, rfl⟩ H' hH RR hR; simp only [List.cons_append, List.nil_append] at hH hR; subst hH; have hR := hR.symm; subst hR)
      (repeat (first | ((first | (apply wo_v; rfl) ); (· first | (apply pv_ev; rfl) | (apply g_pick; first | (apply pv_pick_t; rfl; rfl) | (apply pv_pick_f; rfl; rfl)) )) | apply wo_nil | apply wc_seq | apply wc_region | apply wc_block | apply wc_ret | (apply wc_true; rfl) | (apply wc_false; rfl) | (apply a_dec_t; rfl; (· first | assumption | omega)) | (apply wo_run; rfl; rfl) | (apply wo_skip; rfl; rfl; rfl; rfl) | (apply wo_skip_u; rfl; rfl; rfl) | (apply a_gt; rfl; rfl; (· first | assumption | omega)) | (apply a_gf; rfl; rfl; (· first | assumption | omega)) ))
      exact ret1 rfl rfl ⟨rfl, rfl, rfl⟩ ((by (repeat (first | apply sub_nil )); done) : List.Perm _ ([] ++ _)) (by first | exact fun _ h => h | (intro r hr; cases hr; done) | (simp; done) | exact fun _ h => List.mem_append_left _ h | (intro r hr; simp [hr]; done))
  · rw [if_neg h1]
    have h2 : ¬ 31 < n := by omega
    have h3 : ¬ 255 < t := by omega
    cases sd with
    | false =>
      rw [if_pos rfl]
      refine fn_intro Try.func16 rfl Try.ntmps16 rfl (fun E => ?_)
      (repeat (first | ((first | (apply wo_v; rfl) ); (· first | (apply pv_ev; rfl) )) | apply wo_nil | apply wc_seq | apply wc_region ))
      (refine wo_call (q1) rfl (by (repeat (first | apply sub_nil )); done) (by first | exact fun _ h => h | (intro r hr; cases hr; done) | (simp; done) | exact fun _ h => List.mem_append_left _ h | (intro r hr; simp [hr]; done)) rfl ?_; rintro v L' R' ⟨rfl, rfl, rfl⟩ H' hH RR hR; simp only [List.cons_append, List.nil_append] at hH hR; subst hH; have hR := hR.symm; subst hR)
      (repeat (first | ((first | (apply wo_v; rfl) ); (· first | (apply pv_ev; rfl) | (apply g_pick; first | (apply pv_pick_t; rfl; rfl) | (apply pv_pick_f; rfl; rfl)) )) | apply wo_nil | apply wc_seq | apply wc_region | apply wc_block | (apply wc_true; rfl) | (apply wc_false; rfl) | (apply a_dec_t; rfl; (· first | assumption | omega)) | (apply a_dec_f; rfl; (· first | assumption | omega)) | (apply wo_run; rfl; rfl) | (apply wo_skip; rfl; rfl; rfl; rfl) | (apply wo_skip_u; rfl; rfl; rfl) | (apply a_gt; rfl; rfl; (· first | assumption | omega)) | (apply a_gf; rfl; rfl; (· first | assumption | omega)) ))
      (refine wo_call (q2) rfl (by (repeat (first | apply sub_nil )); done) (by first | exact fun _ h => h | (intro r hr; cases hr; done) | (simp; done) | exact fun _ h => List.mem_append_left _ h | (intro r hr; simp [hr]; done)) rfl ?_; rintro v L' R' ⟨rfl, rfl, rfl⟩ H' hH RR hR; simp only [List.cons_append, List.nil_append] at hH hR; subst hH; have hR := hR.symm; subst hR)
      (repeat (first | ((first | (apply wo_v; rfl) ); (· first | (apply pv_ev; rfl) | (apply g_un; first | (apply pv_not_t; rfl) | (apply pv_not_f; rfl) ) )) | apply wo_nil | apply wc_seq | apply wc_region | apply wc_ret | (apply wc_true; rfl) ))
      exact ret1 rfl rfl ⟨rfl, rfl, rfl⟩ ((by (repeat (first | apply sub_nil )); done) : List.Perm _ ([] ++ _)) (by first | exact fun _ h => h | (intro r hr; cases hr; done) | (simp; done) | exact fun _ h => List.mem_append_left _ h | (intro r hr; simp [hr]; done))
    | true =>
      rw [if_neg (by simp)]
      have hok := hk (by omega) (by omega) rfl
      have qT := fun A R' hS hV => tTextK [p] [v] A 1 1 R' hS hV (fun q hq => by rcases List.mem_singleton.1 hq with rfl; exact hok) (by simp) (fun q hq => by rcases List.mem_singleton.1 hq with rfl; exact hz hok)
      refine fn_intro Try.func16 rfl Try.ntmps16 rfl (fun E => ?_)
      (repeat (first | ((first | (apply wo_v; rfl) ); (· first | (apply pv_ev; rfl) )) | apply wo_nil | apply wc_seq | apply wc_region ))
      (refine wo_call (q1) rfl (by (repeat (first | apply sub_nil )); done) (by first | exact fun _ h => h | (intro r hr; cases hr; done) | (simp; done) | exact fun _ h => List.mem_append_left _ h | (intro r hr; simp [hr]; done)) rfl ?_; rintro v L' R' ⟨rfl, rfl, rfl⟩ H' hH RR hR; simp only [List.cons_append, List.nil_append] at hH hR; subst hH; have hR := hR.symm; subst hR)
      (repeat (first | ((first | (apply wo_v; rfl) ); (· first | (apply pv_ev; rfl) | (apply g_pick; first | (apply pv_pick_t; rfl; rfl) | (apply pv_pick_f; rfl; rfl)) )) | apply wo_nil | apply wc_seq | apply wc_region | apply wc_block | (apply wc_true; rfl) | (apply wc_false; rfl) | (apply a_dec_t; rfl; (· first | assumption | omega)) | (apply a_dec_f; rfl; (· first | assumption | omega)) | (apply wo_run; rfl; rfl) | (apply wo_skip; rfl; rfl; rfl; rfl) | (apply wo_skip_u; rfl; rfl; rfl) | (apply a_gt; rfl; rfl; (· first | assumption | omega)) | (apply a_gf; rfl; rfl; (· first | assumption | omega)) ))
      (refine wo_call (q2) rfl (by (repeat (first | apply sub_nil )); done) (by first | exact fun _ h => h | (intro r hr; cases hr; done) | (simp; done) | exact fun _ h => List.mem_append_left _ h | (intro r hr; simp [hr]; done)) rfl ?_; rintro v L' R' ⟨rfl, rfl, rfl⟩ H' hH RR hR; simp only [List.cons_append, List.nil_append] at hH hR; subst hH; have hR := hR.symm; subst hR)
      (repeat (first | ((first | (apply wo_v; rfl) ); (· first | (apply pv_ev; rfl) | (apply g_un; first | (apply pv_not_t; rfl) ) )) | apply wo_nil | apply wc_seq | apply wc_region | (apply wc_true; rfl) | (apply wc_false; rfl) | (apply wo_bsl; (· (repeat (first | (apply Rws'.one; rfl; rfl; rfl) | (apply Rws'.agg; rfl; rfl; rfl)))); rfl; rfl; rfl; rfl; intro bx) ))
      refine wo_bsl (xs := [[v]]) (Rws'.one rfl hone rfl .nil) rfl rfl rfl rfl (fun bx => ?_)
      refine wo_still (ao := some ⟨bx, 0, none⟩) (n := 1) (c := 1) (by (repeat (first | apply sel_here )); done) (fun R1 hS1 => ?_)
      have qT := qT _ _ hS1.sq ((PksV.nil _).snoc (hv.mono (fun r hr => List.mem_append_right _ hr)))
      (refine wo_call (qT) rfl (by (repeat (first | apply sub_nil )); done) (by first | exact fun _ h => h | (intro r hr; cases hr; done) | (simp; done) | exact fun _ h => List.mem_append_left _ h | (intro r hr; simp [hr]; done)) rfl ?_; rintro v L' R' ⟨rfl, rfl, rfl⟩ H' hH RR hR; simp only [List.cons_append, List.nil_append] at hH hR; subst hH; have hR := hR.symm; subst hR)
      by_cases h5 : 1500 < (txs [p]).size
      · rw [if_pos h5]
        (repeat (first | ((first | (apply wo_v; rfl) ); (· first | (apply pv_ev; rfl) | (apply g_bi; first | (apply pv_len_str; rfl) ) )) | apply wo_nil | apply wc_seq | apply wc_region | apply wc_ret | (apply wc_true; rfl) | (apply wc_false; rfl) | (apply a_dec_t; rfl; (· first | assumption | omega)) ))
        exact ret1 rfl rfl ⟨rfl, rfl, rfl⟩ ((by (repeat (first | apply sub_nil )); done) : List.Perm _ ([] ++ _)) (by first | exact fun _ h => h | (intro r hr; cases hr; done) | (simp; done) | exact fun _ h => List.mem_append_left _ h | (intro r hr; simp [hr]; done))
      · rw [if_neg h5]
        (repeat (first | ((first | (apply wo_v; rfl) ); (· first | (apply pv_ev; rfl) | (apply g_bi; first | (apply pv_len_str; rfl) ) )) | apply wo_nil | apply wc_seq | apply wc_region | apply wc_skip | apply wc_ret | (apply wc_true; rfl) | (apply wc_false; rfl) | (apply a_dec_t; rfl; (· first | assumption | omega)) | (apply a_dec_f; rfl; (· first | assumption | omega)) ))
        exact ret1 rfl rfl ⟨rfl, rfl, rfl⟩ ((by (repeat (first | apply sub_nil )); done) : List.Perm _ ([] ++ _)) (by first | exact fun _ h => h | (intro r hr; cases hr; done) | (simp; done) | exact fun _ h => List.mem_append_left _ h | (intro r hr; simp [hr]; done))
end Go.Proofs.Yteaccbbmphcmnaa

/-
  Layer 5: awake.
-/
namespace Go.Proofs.Yteaccbbmphcmnaa
set_option linter.unusedSimpArgs false
set_option linter.unusedVariables false
open Go.RowKit
attribute [local irreducible] Pv WO WC Fn
set_option maxRecDepth 100000
attribute [local irreducible] ByteArray.extract

abbrev pliS : ByteArray := ⟨#[129, 206, 0, 2, 0, 0, 0, 1, 0, 0, 0, 2]⟩
theorem pliS_txs : txs [.pli 1 2] = pliS := by decide
theorem pliS_ok : pkM pliS = ([.pli 1 2], 0) := by
  have h := pk_back5 (l := [.pli 1 2]) (fun p hp => by rcases List.mem_singleton.1 hp with rfl; exact ⟨by unfold in32; omega, by unfold in32; omega⟩) (by simp) (by rw [pliS_txs]; decide)
  rwa [pliS_txs] at h
instance tEqPli : TEq Try.prog 88 [.i .u32, .i .u32] := ⟨by kernel_rfl⟩
theorem ifPk : isIf Try.prog 51 = true := by kernel_rfl
theorem cmPli : cmpB Try.prog 88 = true := by kernel_rfl
theorem yBye1 (A : Option Addr) (c : Nat) (R : List Ro) (hS : SQ R 1 A 1 c [[.iface 88 (.agg #[.int .u32 1, .int .u32 2])]]) : Fn Try.prog 28 #[.slice A 1 c] [] R (fun v L' R' => v = .slice none 0 0 ∧ L' = [] ∧ R' = []) := by
  obtain ⟨a0, o0, rfl, hmem⟩ := hS.pos (by omega)
  have hr : ([[.iface 88 (.agg #[.int .u32 1, .int .u32 2])]] : List (List Value))[0]? = some [.iface 88 (.agg #[.int .u32 1, .int .u32 2])] := rfl
  refine fn_intro Try.func28 rfl Try.ntmps28 rfl (fun E => ?_)
  (repeat (first | ((first | (apply wo_v; rfl) ); (· first | (apply pv_ev; rfl) | (apply g_bi; first | (apply pv_len_sl; rfl) ) )) | apply wo_nil | apply wc_seq | apply wc_region ))
  refine wc_block ?_
  refine wc_loop' (fun q st => ∃ (i : Int), (q = 0 ∧ i = 1 ∨ q = 1 ∧ i = 0) ∧ st = ⟨[(3, .slice none 0 0), (8, .slice (some ⟨a0, o0, none⟩) 1 c), (9, .int .i64 1), (10, .int .i64 i)], [], R⟩) ⟨0, .inr ⟨rfl, rfl⟩, rfl⟩ (wk_mk (by (repeat (first | apply wkf_nil | (apply wkf_cons; rfl))); done) (by (repeat (first | apply sub_nil )); done) (by first | exact fun _ h => h | (intro r hr; cases hr; done) | (simp; done) | exact fun _ h => List.mem_append_left _ h | (intro r hr; simp [hr]; done))) ?_
  rintro q st ⟨i, ⟨rfl, rfl⟩ | ⟨rfl, rfl⟩, rfl⟩
  · (repeat (first | ((first | (apply wo_v; rfl) ); (· first | (apply pv_ev; rfl) )) | apply wo_nil | apply wc_seq | apply wc_region | (apply wc_exit; rfl) | apply wc_ret | (apply wc_true; rfl) | (apply wc_false; rfl) ))
    exact ret1 rfl rfl ⟨rfl, rfl, rfl⟩ ((by (repeat (first | apply sub_nil )); done) : List.Perm _ ([] ++ _)) (by first | exact fun _ h => h | (intro r hr; cases hr; done) | (simp; done) | exact fun _ h => List.mem_append_left _ h | (intro r hr; simp [hr]; done))
  · have hr2 : ([[.iface 88 (.agg #[.int .u32 1, .int .u32 2])]] : List (List Value))[(0 : Int).toNat]? = some [.iface 88 (.agg #[.int .u32 1, .int .u32 2])] := rfl
    (repeat (first | ((first | (apply wo_v; rfl) ); (· first | (apply pv_ev; rfl) )) | apply wo_nil | apply wc_seq | apply wc_region | apply wc_skip | (apply wc_true; rfl) ))
    refine wc_block ?_
    (repeat (first | ((first | (apply wo_v; rfl) ); (· first | (apply pv_ev; rfl) | (apply g_load; first | (apply pv_ld; rfl; (· (repeat (first | fail ))); rfl) | (apply pv_ld_ownf; rfl; (· (repeat (first | fail ))); (· assumption); rfl) | (apply pv_ld_own1; rfl; (· (repeat (first | fail ))); (· assumption)) | (apply pv_ld_rof; rfl; (· (first | assumption )); (· assumption); rfl) | (apply pv_ld_ro1; rfl; (· (first | assumption )); (· assumption)) ) | (apply g_bin; first | (apply a_add; rfl; rfl; infer_instance; omega) ) | (apply g_idx; first | (apply pv_idx; rfl; rfl; omega) | (apply (pv_idx_e 0); rfl; rfl; rfl; omega) ) | (apply pv_tas; rfl; infer_instance) )) | apply wo_nil | apply wc_seq | apply wc_region | apply wc_skip | (apply wc_true; rfl) | (apply wc_false; rfl) | (apply wo_alloc; rfl; intro bx) | (apply wo_sta; rfl; rfl; rfl; rfl; (· (repeat (first | apply sel_here ))); (· (repeat (first | apply LayAt.nil | apply LayAt.here ))); rfl) ))
    exact loop_end ⟨0 + 1, .inl ⟨rfl, rfl⟩, rfl⟩ (by omega) (wk_mk (by (repeat (first | apply wkf_nil | (apply wkf_cons; rfl))); done) (by (repeat (first | apply sub_nil )); done) (by first | exact fun _ h => h | (intro r hr; cases hr; done) | (simp; done) | exact fun _ h => List.mem_append_left _ h | (intro r hr; simp [hr]; done)))
abbrev pkO1 (b : Nat) : It := .own 51 1 (some ⟨b, 0, none⟩) 1 1 [[.iface 88 (.agg #[.int .u32 1, .int .u32 2])]]
def tblAw : Nat → List (List It) → Value → List (List It) → Prop := fun k Ls v Ms => match k with
  | 18 => ∃ b, v = .slice (some ⟨b, 0, none⟩) 1 1 ∧ Ms = [[.own 51 1 (some ⟨b, 0, none⟩) 1 1 [[.iface 88 (.agg #[.int .u32 1, .int .u32 2])]]]]
  | 19 => v = .string pliS ∧ ∃ b, Ms = [[.own 51 1 (some ⟨b, 0, none⟩) 1 1 [[.iface 88 (.agg #[.int .u32 1, .int .u32 2])]]]]
  | _ => v = .slice none 0 0 ∧ Ms = [[]]
abbrev plB (b : Nat) : It := .ob b (.cells #[.int .u32 1, .int .u32 2] 88 (0, 0))
theorem yText1 (R0 : List Ro) (b : Nat) : Fn Try.prog 11 #[.slice (some ⟨b, 0, none⟩) 1 1] [.own 51 1 (some ⟨b, 0, none⟩) 1 1 [[.iface 88 (.agg #[.int .u32 1, .int .u32 2])]]] [] (fun v L' R' => v = .string pliS ∧ L' = [.own 51 1 (some ⟨b, 0, none⟩) 1 1 [[.iface 88 (.agg #[.int .u32 1, .int .u32 2])]]] ∧ R' = []) := by
  refine (Fn.own (Q := fun v L0 => v = .string pliS ∧ L0 = []) (fun R hS => ?_)).mono ?_
  · have hV : PksV R [.pli 1 2] [.iface 88 (.agg #[.int .u32 1, .int .u32 2])] := (PksV.nil R).snoc (p := .pli 1 2) rfl
    have := tTextK [.pli 1 2] [.iface 88 (.agg #[.int .u32 1, .int .u32 2])] _ 1 1 R hS hV (fun p hp => by rcases List.mem_singleton.1 hp with rfl; exact ⟨by unfold in32; omega, by unfold in32; omega⟩) (by simp) (fun p hp => by rcases List.mem_singleton.1 hp with rfl; decide)
    rw [pliS_txs] at this
    exact this.mono (fun v L' R' h => ⟨⟨h.1, h.2.1⟩, h.2.2⟩)
  · rintro v L' R' ⟨L0, ⟨rfl, rfl⟩, rfl, rfl⟩
    exact ⟨rfl, rfl, rfl⟩
set_option maxHeartbeats 16000000 in
theorem awake05 : Fn Try.prog 10 #[] [] [] (fun v L' R' => v = .bool true ∧ L' = [] ∧ R' = []) := by
  have wP := kParse pliS (by decide)
  rw [pliS_ok] at wP
  dsimp only [List.length_cons, List.length_nil] at wP
  refine fn_intro Try.func10 rfl Try.ntmps10 rfl (fun E => ?_)
  (repeat (first | ((first | (apply wo_v; rfl) ); (· first | (apply pv_ev; rfl) )) | apply wo_nil | apply wc_seq | apply wc_region ))
  (refine wo_call (wP) rfl (by (repeat (first | apply sub_nil )); done) (by first | exact fun _ h => h | (intro r hr; cases hr; done) | (simp; done) | exact fun _ h => List.mem_append_left _ h | (intro r hr; simp [hr]; done)) rfl ?_; rintro v L' R' ⟨A, c, vs, rfl, hS, hV, _, rfl⟩ H' hH RR hR; simp only [List.cons_append, List.nil_append] at hH hR; subst hH; have hR := hR.symm; subst hR)
  have hvs : vs = [.iface 88 (.agg #[.int .u32 1, .int .u32 2])] := by
    have h1 := hV.1
    obtain ⟨v, h2, h3⟩ := hV.2 0 _ rfl
    match vs, h1, h2 with
    | [u], _, h2 =>
      have : u = v := by simpa using h2
      subst this
      rw [show u = _ from h3]
  subst hvs
  have hS := hS.mono (R' := R' ++ []) (fun r hr => List.mem_append_left _ hr)
  generalize R' ++ [] = RG at *
  obtain ⟨a0, o0, rfl, hmem⟩ := hS.pos (by omega)
  have hr : (one1 [.iface 88 (.agg #[.int .u32 1, .int .u32 2])])[0]? = some [.iface 88 (.agg #[.int .u32 1, .int .u32 2])] := rfl
  have q1 := yBye1 (some ⟨a0, o0, none⟩) c RG hS
  (repeat (first | ((first | (apply wo_v; rfl) ); (· first | (apply pv_ev; rfl) | (apply g_build; apply pv_build; (· (repeat (first | apply Bld.nil | (apply Bld.one; rfl; rfl; (· (repeat (first | apply SetAt.here | apply SetAt.there)))) )))) )) | apply wo_nil | apply wc_seq | apply wc_region | (apply wo_alloc; rfl; intro bx) | (apply wo_sta; rfl; rfl; rfl; rfl; (· (repeat (first | apply sel_here ))); (· (repeat (first | apply LayAt.nil | apply LayAt.here ))); rfl) ))
  obtain ⟨bp, hbp⟩ : ∃ g, g = bx := ⟨_, rfl⟩
  subst hbp
  (refine wc_regM [0, 1] (aslL [(18, [0]), (19, [0]), (24, [1])]) (tblAw) ([plB bp]) (fm [(0, []), (1, [])]) mixed (by kernel_rfl) (by kernel_rfl) (by decide) (aslL_ok (by decide)) (by (repeat (first | (apply prm_cons; (· (repeat (first | apply sel_here )))) | apply List.Perm.nil )); done) ?_; (repeat (first | (apply HdM.val; rfl; rfl; (· first | apply gok_none | (apply gok_run; rfl; rfl)); (· first | (apply pv_ev; rfl) | (apply g_load; first | (apply pv_ld; rfl; (· (repeat (first | apply sel_there))); rfl) | (apply pv_lda; rfl; (· (repeat (first | apply sel_here ))); (· (repeat (first | apply Cut.here0 | apply Cut.here )))) | (apply pv_ld_ownf; rfl; (· (repeat (first | fail ))); (· assumption); rfl) | (apply pv_ld_own1; rfl; (· (repeat (first | apply sel_there))); (· assumption)) | (apply pv_ld_rof; rfl; (· (first | assumption )); (· assumption); rfl) | (apply pv_ld_ro1; rfl; (· (first | assumption )); (· assumption)) ) | (apply g_pick; first | (apply pv_pick_t; rfl; rfl) ) | (apply g_bin; first | (apply pv_eql_s; rfl; rfl) | (apply pv_eql_a; rfl; rfl; infer_instance; rfl; rfl) ) | (apply g_bi; first | (apply pv_len_sl; rfl) ) | (apply g_idx; first | (apply pv_idx; rfl; rfl; omega) | (apply (pv_idx_e 0); rfl; rfl; rfl; omega) ) | (apply pv_mki; rfl; infer_instance) )) | (apply HdM.skip; rfl; rfl; rfl; rfl) | (apply HdM.skipu; rfl; rfl; rfl) | (apply am_gt; rfl; rfl; (· first | assumption | omega)) | (apply am_gf; rfl; rfl; (· first | assumption | omega)) | (apply am_gt; rfl; rfl; (· first | (simp; done) | (simp; omega))) | (apply am_gf; rfl; rfl; (· first | (simp; done) | (simp; omega))))))
  apply HdM.val
  · rfl
  · rfl
  · (· first | (apply gok_run; rfl; rfl))
  · exact pv_eql_if (r1 := [.int .u32 1, .int .u32 2]) (r2 := [.int .u32 1, .int .u32 2]) rfl rfl ifPk cmPli tEqPli rfl rfl
  (repeat (first | (apply HdM.val; rfl; rfl; (· first | apply gok_none | (apply gok_run; rfl; rfl)); (· first | (apply pv_ev; rfl) | (apply g_load; first | (apply pv_lda; rfl; (· (repeat (first | apply sel_here ))); (· (repeat (first | apply Cut.here0 | apply Cut.here )))) ) | (apply g_pick; first | (apply pv_pick_t; rfl; rfl) ) | (apply pv_mki; rfl; infer_instance) )) | (apply HdM.skip; rfl; rfl; rfl; rfl) | (apply HdM.skipu; rfl; rfl; rfl) | (apply am_gt; rfl; rfl; (· first | assumption | omega)) | (apply am_gf; rfl; rfl; (· first | assumption | omega)) | (apply am_gt; rfl; rfl; (· first | (simp; done) | (simp; omega))) | (apply am_gf; rfl; rfl; (· first | (simp; done) | (simp; omega)))))
  (refine hm_eff (cs := [0]) rfl (by decide) rfl rfl (by first | exact gok_none | exact gok_run rfl rfl) (fun a ha => outc_mono (outc_bsl (by (repeat (first | apply Rws'.nil | (apply Rws'.one; rfl; rfl; rfl) )); done) rfl rfl rfl a ha) (fun v M h => Exists.elim h fun b h => ⟨[M], Exists.intro b (And.intro h.1 (congrArg (fun x => [x]) h.2)), rfl, by simp⟩)) (⟨_, _, Exists.intro 0 (And.intro rfl rfl), rfl⟩) ?_; rintro v Ms ⟨b9, rfl, rfl⟩ _; simp only [setls, setl, reduceIte, Nat.reduceEqDiff]; (repeat (first | (apply HdM.val; rfl; rfl; (· first | fail ); (· first | fail )) | (apply HdM.skip; rfl; rfl; rfl; rfl) | (apply HdM.skipu; rfl; rfl; rfl) | (apply am_gt; rfl; rfl; (· first | assumption | omega)) | (apply am_gf; rfl; rfl; (· first | assumption | omega)) | (apply am_gt; rfl; rfl; (· first | (simp; done) | (simp; omega))) | (apply am_gf; rfl; rfl; (· first | (simp; done) | (simp; omega))))))
  (refine hm_eff (cs := [0]) rfl (by decide) rfl rfl (by first | exact gok_none | exact gok_run rfl rfl) (fun a ha => outc_mono (outc_call (F1 := _) (T := fun v M => v = .string pliS ∧ M = [pkO1 b9]) (yText1 [] b9) rfl (by (repeat (first | apply sub_nil )); done) (by first | exact fun _ h => h | (intro r hr; cases hr; done) | (simp; done) | exact fun _ h => List.mem_append_left _ h | (intro r hr; simp [hr]; done)) (by rintro v L' R' ⟨rfl, rfl, _⟩; exact ⟨_, ⟨rfl, rfl⟩, (by (repeat (first | (apply prm_cons; (· (repeat (first | apply sel_here )))) | apply List.Perm.nil )); done)⟩) a ha) (fun v M h => ⟨[M], And.intro h.1 (Exists.intro b9 (congrArg (fun x => [x]) h.2)), rfl, by simp⟩)) (⟨_, _, And.intro rfl (Exists.intro 0 rfl), rfl⟩) ?_; rintro v Ms ⟨rfl, b8, rfl⟩ _; simp only [setls, setl, reduceIte, Nat.reduceEqDiff]; (repeat (first | (apply HdM.val; rfl; rfl; (· first | apply gok_none | (apply gok_run; rfl; rfl)); (· first | (apply pv_ev; rfl) | (apply g_pick; first | (apply pv_pick_t; rfl; rfl) ) | (apply g_bin; first | (apply pv_eql_s; rfl; rfl) ) )) | (apply HdM.skip; rfl; rfl; rfl; rfl) | (apply HdM.skipu; rfl; rfl; rfl) | (apply am_gt; rfl; rfl; (· first | assumption | omega)) | (apply am_gf; rfl; rfl; (· first | assumption | omega)) | (apply am_gt; rfl; rfl; (· first | (simp; done) | (simp; omega))) | (apply am_gf; rfl; rfl; (· first | (simp; done) | (simp; omega))))))
  (refine hm_eff (cs := [1]) rfl (by decide) rfl rfl (by first | exact gok_none | exact gok_run rfl rfl) (fun a ha => outc_mono (outc_call (F1 := _) (T := fun v M => v = .slice none 0 0 ∧ M = []) (q1) rfl (by (repeat (first | apply sub_nil )); done) (by first | exact fun _ h => h | (intro r hr; cases hr; done) | (simp; done) | exact fun _ h => List.mem_append_left _ h | (intro r hr; simp [hr]; done)) (by rintro v L' R' ⟨rfl, rfl, _⟩; exact ⟨_, ⟨rfl, rfl⟩, (by (repeat (first | (apply prm_cons; (· (repeat (first | apply sel_here )))) | apply List.Perm.nil )); done)⟩) a ha) (fun v M h => ⟨[[]], And.intro h.1 rfl, rfl, h.2⟩)) ⟨_, _, And.intro rfl rfl, rfl⟩ ?_; rintro v Ms ⟨rfl, rfl⟩ _; simp only [setls, setl, reduceIte, Nat.reduceEqDiff]; (repeat (first | (apply HdM.val; rfl; rfl; (· first | apply gok_none | (apply gok_run; rfl; rfl)); (· first | (apply pv_ev; rfl) | (apply g_pick; first | (apply pv_pick_t; rfl; rfl) ) | (apply g_bi; first | (apply pv_len_sl; rfl) ) )) )))
  (refine HdM.nil ?_; intro H hH; simp only [Hp, fm, look, setl, List.flatMap_cons, List.flatMap_nil, reduceIte, Nat.reduceEqDiff, Option.getD_some, List.append_nil, List.cons_append, List.nil_append] at hH; subst hH)
  (repeat (first | apply wc_ret ))
  exact ret1 rfl rfl ⟨by simp, rfl, rfl⟩ ((by (repeat (first | apply sub_nil )); done) : List.Perm _ ([] ++ _)) (by first | exact fun _ h => h | (intro r hr; cases hr; done) | (simp; done) | exact fun _ h => List.mem_append_left _ h | (intro r hr; simp [hr]; done))
end Go.Proofs.Yteaccbbmphcmnaa

/-
  Layer 5's statements: what packets are made of: parts.
-/
namespace Go.Proofs.Yteaccbbmphcmnaa
set_option linter.unusedSimpArgs false
set_option linter.unusedVariables false
open Go.RowKit
attribute [local irreducible] Pv WO WC Fn
set_option maxRecDepth 100000
attribute [local irreducible] ByteArray.extract

structure Md where
  so : Int
  a : Int
  b : Int
  wide : Int
  nums : List Int
  tx : List ByteArray
  sm : Int
  ct : Int
  kd : Int
def Md.ok (m : Md) : Prop := in32 m.a ∧ in32 m.b ∧ in64 m.wide ∧ (∀ x ∈ m.nums, in32 x) ∧ in8 m.sm ∧ in8 m.ct ∧ in8 m.kd ∧ m.nums.length ≤ 9223372036854775807 ∧ m.tx.length ≤ 9223372036854775807
def cST (l : List ByteArray) : List (List Value) := l.map fun s => [.string s]
theorem cST_len (l : List ByteArray) : (cST l).length = l.length := by simp [cST]
theorem cST_at {l : List ByteArray} {i : Nat} {s : ByteArray} (h : l[i]? = some s) : (cST l)[i]? = some [.string s] := by simp [cST, h]
abbrev mdL (so a b wide : Int) (vn vt : Value) (sm ct kd : Int) : List Value := [.int .i64 so, .int .u32 a, .int .u32 b, .int .u64 wide, vn, vt, .int .u8 sm, .int .u8 ct, .int .u8 kd]
abbrev mdB (g : Nat) (so a b wide : Int) (vn vt : Value) (sm ct kd : Int) : It := .ob g (.cells (mdL so a b wide vn vt sm ct kd).toArray 62 (0, 0))
theorem ySsrcs (so a b wide : Int) (nums : List Int) (A : Option Addr) (n c : Nat) (vt : Value) (hvt : vt.oneCell' = true) (sm ct kd : Int) (R : List Ro) (hS : SQ R 1 A n c (c32 nums)) (hc : n ≤ c) (hn : n ≤ 9223372036854775807) :
    Fn Try.prog 36 #[.agg (mdL so a b wide (.slice A n c) vt sm ct kd).toArray] [] R (fun v L' R' => v = .slice A (min n 40) c ∧ L' = [] ∧ R' = []) := by
  by_cases h : 40 < n
  · obtain ⟨b0, o0, rfl, hmem⟩ := hS.pos (by omega)
    rw [Nat.min_eq_right (by omega)]
    refine fn_intro Try.func36 rfl Try.ntmps36 rfl (fun E => ?_)
    (repeat (first | ((first | (apply wo_v; rfl) ); (· first | (apply pv_ev; rfl) | (apply pv_fld; rfl) | (apply g_load; first | (apply pv_ld; rfl; (· (repeat (first | apply sel_here ))); rfl) ) | (apply g_bi; first | (apply pv_len_sl; rfl) ) )) | apply wo_nil | apply wc_seq | apply wc_region | (apply wc_true; rfl) | (apply wc_false; rfl) | (apply a_dec_t; rfl; (· first | assumption | omega)) | (apply wo_box1; rfl; rfl; rfl; intro bx) | (apply wo_boxa; rfl; rfl; intro bx) ))
    refine wo_cut_ro (l := 0) (h := 40) (m := c) rfl hmem (.hi rfl rfl (by omega)) (by omega) rfl (fun o3 ho3 => ?_)
    have e : o3 = o0 := by rw [ho3 (by omega)]; simp [elt]
    subst e
    (repeat (first | ((first | (apply wo_v; rfl) ); (· first | (apply pv_ev; rfl) )) | apply wo_nil | apply wc_ret ))
    exact ret1 rfl rfl ⟨rfl, rfl, rfl⟩ ((by (repeat (first | apply sub_nil )); done) : List.Perm _ ([] ++ _)) (by first | exact fun _ h => h | (intro r hr; cases hr; done) | (simp; done) | exact fun _ h => List.mem_append_left _ h | (intro r hr; simp [hr]; done))
  · rw [Nat.min_eq_left (by omega)]
    refine fn_intro Try.func36 rfl Try.ntmps36 rfl (fun E => ?_)
    (repeat (first | ((first | (apply wo_v; rfl) ); (· first | (apply pv_ev; rfl) | (apply pv_fld; rfl) | (apply g_load; first | (apply pv_ld; rfl; (· (repeat (first | apply sel_here ))); rfl) ) | (apply g_bi; first | (apply pv_len_sl; rfl) ) )) | apply wo_nil | apply wc_seq | apply wc_region | apply wc_skip | apply wc_ret | (apply wc_true; rfl) | (apply wc_false; rfl) | (apply a_dec_t; rfl; (· first | assumption | omega)) | (apply a_dec_f; rfl; (· first | assumption | omega)) | (apply wo_box1; rfl; rfl; rfl; intro bx) | (apply wo_boxa; rfl; rfl; intro bx) ))
    exact ret1 rfl rfl ⟨rfl, rfl, rfl⟩ ((by (repeat (first | apply sub_nil )); done) : List.Perm _ ([] ++ _)) (by first | exact fun _ h => h | (intro r hr; cases hr; done) | (simp; done) | exact fun _ h => List.mem_append_left _ h | (intro r hr; simp [hr]; done))
def fsM (tx : List ByteArray) (k : Nat) : ByteArray := match tx with
  | [] => E0
  | s :: _ => cutS s k
theorem yFirst (so a b wide : Int) (tx : List ByteArray) (vn : Value) (hvn : vn.oneCell' = true) (A : Option Addr) (n c : Nat) (sm ct kd : Int) (k : Nat) (R : List Ro) (hS : SQ R 1 A n c (cST tx)) :
    Fn Try.prog 37 #[.agg (mdL so a b wide vn (.slice A n c) sm ct kd).toArray, .int .i64 k] [] R (fun v L' R' => v = .string (fsM tx k) ∧ L' = [] ∧ R' = []) := by
  have hn : n = tx.length := by rw [← hS.len, cST_len]
  subst hn
  cases tx with
  | nil =>
    refine fn_intro Try.func37 rfl Try.ntmps37 rfl (fun E => ?_)
    (repeat (first | ((first | (apply wo_v; rfl) ); (· first | (apply pv_ev; rfl) | (apply pv_fld; rfl) | (apply g_load; first | (apply pv_ld; rfl; (· (repeat (first | apply sel_here ))); rfl) ) | (apply g_bi; first | (apply pv_len_sl; rfl) ) )) | apply wo_nil | apply wc_seq | apply wc_region | apply wc_ret | (apply wc_true; rfl) | (apply wo_box1; rfl; rfl; rfl; intro bx) | (apply wo_boxa; rfl; rfl; intro bx) ))
    exact ret1 rfl rfl ⟨rfl, rfl, rfl⟩ ((by (repeat (first | apply sub_nil )); done) : List.Perm _ ([] ++ _)) (by first | exact fun _ h => h | (intro r hr; cases hr; done) | (simp; done) | exact fun _ h => List.mem_append_left _ h | (intro r hr; simp [hr]; done))
  | cons s l =>
    have hC := octCut s k
    have hr : (cST (s :: l))[0]? = some [.string s] := rfl
    obtain ⟨b0, o0, rfl, hmem⟩ := hS.pos (by simp)
    have hlen : ¬ ((s :: l).length : Int) = 0 := by simp only [List.length_cons]; omega
    generalize hL : s :: l = L at *
    have hpos : 0 < L.length := by rw [← hL]; simp
    have e : fsM L k = cutS s k := by rw [← hL]; rfl
    rw [e]
    refine fn_intro Try.func37 rfl Try.ntmps37 rfl (fun E => ?_)
    (repeat (first | ((first | (apply wo_v; rfl) ); (· first | (apply pv_ev; rfl) | (apply pv_fld; rfl) | (apply g_load; first | (apply pv_ld; rfl; (· (repeat (first | apply sel_here | apply sel_there))); rfl) | (apply pv_ld_ownf; rfl; (· (repeat (first | fail ))); (· assumption); rfl) | (apply pv_ld_own1; rfl; (· (repeat (first | apply sel_there))); (· assumption)) | (apply pv_ld_rof; rfl; (· (first | assumption )); (· assumption); rfl) | (apply pv_ld_ro1; rfl; (· (first | assumption )); (· assumption)) ) | (apply g_bi; first | (apply pv_len_sl; rfl) ) | (apply g_idx; first | (apply pv_idx; rfl; rfl; omega) ) )) | apply wo_nil | apply wc_seq | apply wc_region | apply wc_skip | (apply wc_true; rfl) | (apply wc_false; rfl) | (apply a_dec_t; rfl; (· first | assumption | omega)) | (apply a_dec_f; rfl; (· first | assumption | omega)) | (apply wo_box1; rfl; rfl; rfl; intro bx) | (apply wo_boxa; rfl; rfl; intro bx) ))
    (refine wo_call (hC) rfl (by (repeat (first | apply sub_nil )); done) (by first | exact fun _ h => h | (intro r hr; cases hr; done) | (simp; done) | exact fun _ h => List.mem_append_left _ h | (intro r hr; simp [hr]; done)) rfl ?_; rintro v L' R' ⟨rfl, rfl, rfl⟩ H' hH RR hR; simp only [List.cons_append, List.nil_append] at hH hR; subst hH; have hR := hR.symm; subst hR)
    (repeat (first | ((first | (apply wo_v; rfl) ); (· first | (apply pv_ev; rfl) )) | apply wo_nil | apply wc_ret ))
    exact ret1 rfl rfl ⟨rfl, rfl, rfl⟩ ((by (repeat (first | apply sub_nil )); done) : List.Perm _ ([] ++ _)) (by first | exact fun _ h => h | (intro r hr; cases hr; done) | (simp; done) | exact fun _ h => List.mem_append_left _ h | (intro r hr; simp [hr]; done))
def bkM (sm a b n : Int) : Bk := ⟨n, sm, b, a, n / 2, 7, a⟩
def bksM (sm a b : Int) (nums : List Int) : List Bk := (nums.take 33).map (bkM sm a b)
def tblMb (x1 x2 x3 x4 x5 x7 : Int) : Nat → List (List It) → Value → List (List It) → Prop := fun k Ls v Ms => match k, Ls with
  | 20, _ => ∃ b, v = .pointer (some ⟨b, 0, none⟩) ∧ Ms = [[bkB b 0 0 0 0 0 0 0]]
  | 21, [[.ob b _]] => v = undef ∧ Ms = [[bkB b x1 x2 x3 x4 x5 7 x7]]
  | _, _ => False
abbrev bkOl (ao : Option Addr) (n c : Nat) (l : List Bk) : It := .own 160 7 ao n c (blkV l)
abbrev rkOl (ao : Option Addr) (n c : Nat) (l : List Bk) : It := .own 74 7 ao n c (blkV l)
theorem bkOl_snoc (ao : Option Addr) (n c : Nat) (l : List Bk) (b : Bk) : bkOl ao n c (l ++ [b]) = It.own 160 7 ao n c (blkV l ++ [[.int .u32 b.ss, .int .u8 b.lo, .int .u32 b.tt, .int .u32 b.la, .int .u32 b.ji, .int .u32 b.ls, .int .u32 b.dl]]) := by rw [bkOl, blkV_snoc]
theorem rkOl_snoc (ao : Option Addr) (n c : Nat) (l : List Bk) (b : Bk) : rkOl ao n c (l ++ [b]) = It.own 74 7 ao n c (blkV l ++ [[.int .u32 b.ss, .int .u8 b.lo, .int .u32 b.tt, .int .u32 b.la, .int .u32 b.ji, .int .u32 b.ls, .int .u32 b.dl]]) := by rw [rkOl, blkV_snoc]
set_option maxHeartbeats 8000000 in
theorem yBlocks (so a b wide : Int) (nums : List Int) (A : Option Addr) (n c : Nat) (vt : Value) (hvt : vt.oneCell' = true) (sm ct kd : Int) (R : List Ro) (hS : SQ R 1 A n c (c32 nums)) (hb : ∀ x ∈ nums, in32 x) (hn9 : n ≤ 9223372036854775807) :
    Fn Try.prog 61 #[.agg (mdL so a b wide (.slice A n c) vt sm ct kd).toArray] [] R (fun v L' R' => ∃ a1 c1 a2 c2, v = .tuple #[.slice a1 (bksM sm a b nums).length c1, .slice a2 (bksM sm a b nums).length c2] ∧ L' = [bkOl a1 (bksM sm a b nums).length c1 (bksM sm a b nums), rkOl a2 (bksM sm a b nums).length c2 (bksM sm a b nums)] ∧ R' = []) := by
  have hn : n = nums.length := by rw [← hS.len, c32_len]
  subst hn
  refine fn_intro Try.func61 rfl Try.ntmps61 rfl (fun E => ?_)
  (repeat (first | ((first | (apply wo_v; rfl) ); (· first | (apply pv_ev; rfl) )) | apply wo_nil | apply wc_seq | apply wc_region | (apply wo_box1; rfl; rfl; rfl; intro bx) | (apply wo_boxa; rfl; rfl; intro bx) ))
  obtain ⟨bm, hbm⟩ : ∃ g, g = bx := ⟨_, rfl⟩
  subst hbm
  refine wc_own0 160 7 ?_
  refine wc_own0 74 7 ?_
  refine wc_block ?_
  refine wc_loop' (fun q st => ∃ (i : Nat) (l : List Bk) (a1 a2 : Option Addr) (c1 c2 : Nat), q = 33 - i ∧ i ≤ 33 ∧ i ≤ nums.length ∧ l = (nums.take i).map (bkM sm a b) ∧ l.length = i ∧ st = ⟨[(1, .pointer (some ⟨bm, 0, none⟩)), (4, .slice a1 i c1), (5, .slice a2 i c2), (6, .int .i64 i)], [mdB bm so a b wide (.slice A nums.length c) vt sm ct kd, bkOl a1 i c1 l, rkOl a2 i c2 l], R⟩) ⟨0, [], none, none, 0, 0, rfl, by omega, by omega, by simp, rfl, rfl⟩ (wk_mk (by (repeat (first | apply wkf_nil | (apply wkf_cons; rfl))); done) (by (repeat (first | apply sub_nil | (apply sub_cons; (· (repeat (first | apply sel_here | apply sel_there)))))); done) (by first | exact fun _ h => h | (intro r hr; cases hr; done) | (simp; done) | exact fun _ h => List.mem_append_left _ h | (intro r hr; simp [hr]; done))) ?_
  rintro q st ⟨i, l, a1, a2, c1, c2, rfl, hi, hin, hl, hli, rfl⟩
  by_cases hlt : i < nums.length ∧ i < 33
  · obtain ⟨h1, h2⟩ := hlt
    obtain ⟨x, hx⟩ : ∃ x, nums[i]? = some x := ⟨_, List.getElem?_eq_getElem h1⟩
    have hr := c32_at hx
    have hxb : 0 ≤ x ∧ x ≤ 4294967295 := hb x (List.mem_of_getElem? hx)
    have hnx : (nums.take (i + 1)).map (bkM sm a b) = l ++ [⟨x, sm, b, a, x / 2, 7, a⟩] := by rw [List.take_add_one, hx, List.map_append, hl]; rfl
    obtain ⟨b0, o0, rfl, hmem⟩ := hS.pos (by omega)
    (repeat (first | ((first | (apply wo_v; rfl) ); (· first | (apply pv_ev; rfl) | (apply pv_fld; rfl) | (apply g_load; first | (apply pv_ld; rfl; (· (repeat (first | apply sel_here ))); rfl) ) | (apply g_pick; first | (apply pv_pick_t; rfl; rfl) ) | (apply g_bi; first | (apply pv_len_sl; rfl) ) )) | apply wo_nil | apply wc_seq | apply wc_region | apply wc_skip | (apply wc_true; rfl) | (apply wc_false; rfl) | (apply a_dec_t; rfl; (· first | assumption | omega)) | (apply wo_run; rfl; rfl) | (apply wo_skip; rfl; rfl; rfl; rfl) | (apply wo_skip_u; rfl; rfl; rfl) | (apply a_gt; rfl; rfl; (· first | assumption | omega)) ))
    refine wc_block ?_
    (repeat (first | apply wc_seq ))
    (refine wc_regM [0] (aslL [(20, [0]), (21, [0])]) (tblMb x sm b a (x / 2) a) ([mdB bm so a b wide (.slice (some ⟨b0, o0, none⟩) nums.length c) vt sm ct kd, bkOl a1 i c1 l, rkOl a2 i c2 l]) (fm [(0, [])]) mixed (by kernel_rfl) (by kernel_rfl) (by decide) (aslL_ok (by decide)) (by (repeat (first | (apply prm_cons; (· (repeat (first | apply sel_here )))) | apply List.Perm.nil )); done) ?_; (repeat (first | (apply HdM.val; rfl; rfl; (· first | apply gok_none ); (· first | (apply pv_ev; rfl) | (apply pv_fld; rfl) | (apply g_load; first | (apply pv_ld; rfl; (· (repeat (first | apply sel_here | apply sel_there))); rfl) | (apply pv_ld_ownf; rfl; (· (repeat (first | fail ))); (· assumption); rfl) | (apply pv_ld_own1; rfl; (· (repeat (first | apply sel_there))); (· assumption)) | (apply pv_ld_rof; rfl; (· (first | assumption )); (· assumption); rfl) | (apply pv_ld_ro1; rfl; (· (first | assumption )); (· assumption)) ) | (apply g_bin; first | (apply a_quo; rfl; rfl; infer_instance; omega) ) | (apply g_idx; first | (apply pv_idx; rfl; rfl; omega) ) | (apply g_build; apply pv_build; (· (repeat (first | apply Bld.nil | (apply Bld.one; rfl; rfl; (· (repeat (first | apply SetAt.here | apply SetAt.there)))) )))) )) )))
    (refine hm_eff (cs := [0]) rfl (by decide) rfl rfl (by first | exact gok_none | exact gok_run rfl rfl) (fun a ha => outc_mono (outc_alloc a ha) (fun v M h => Exists.elim h fun b h => ⟨[M], Exists.intro b (And.intro h.1 (congrArg (fun x => [x]) h.2)), rfl, by simp⟩)) (⟨_, _, Exists.intro 0 (And.intro rfl rfl), rfl⟩) ?_; rintro v Ms ⟨bk, rfl, rfl⟩ _; simp only [setls, setl, reduceIte, Nat.reduceEqDiff]; (repeat (first | fail )))
    (refine hm_eff (cs := [0]) rfl (by decide) rfl rfl (by first | exact gok_none | exact gok_run rfl rfl) (fun a ha => outc_mono (outc_sta rfl rfl rfl rfl (by (repeat (first | apply LayAt.nil | apply LayAt.here )); done) a ha) (fun v M h => ⟨[M], And.intro h.1 (congrArg (fun x => [x]) h.2), rfl, by simp⟩)) (⟨_, _, And.intro rfl rfl, rfl⟩) ?_; rintro v Ms ⟨rfl, rfl⟩ _; simp only [setls, setl, reduceIte, Nat.reduceEqDiff]; (repeat (first | fail )))
    (refine HdM.nil ?_; intro H hH; simp only [Hp, fm, look, setl, List.flatMap_cons, List.flatMap_nil, reduceIte, Nat.reduceEqDiff, Option.getD_some, List.append_nil, List.cons_append, List.nil_append] at hH; subst hH)
    (repeat (first | ((first | (apply wo_v; rfl) ); (· first | (apply pv_ev; rfl) | (apply g_load; first | (apply pv_lda; rfl; (· (repeat (first | apply sel_here | apply sel_there))); (· (repeat (first | apply Cut.here0 | apply Cut.here )))) ) | (apply g_bi; first | fail ) )) | apply wc_seq | apply wc_region | (apply wo_bsl; (· (repeat (first | apply Rws'.nil | (apply Rws'.one; rfl; rfl; rfl) | (apply Rws'.agg; rfl; rfl; rfl)))); rfl; rfl; rfl; rfl; intro bx) ))
    refine wo_app (ao := a1) (n := i) (m := 1) rfl rfl (by (repeat (first | apply sel_here | apply sel_there)); done) (by (repeat (first | apply sel_here )); done) (by unfold maxLen; omega) (by omega) rfl (fun a3 c3 => ?_)
    (repeat (first | ((first | (apply wo_v; rfl) ); (· first | (apply pv_ev; rfl) | (apply g_load; first | (apply pv_lda; rfl; (· (repeat (first | apply sel_here | apply sel_there))); (· (repeat (first | apply Cut.here0 | apply Cut.here )))) ) | (apply g_bi; first | fail ) )) | apply wo_nil | apply wc_region | (apply wo_bsl; (· (repeat (first | apply Rws'.nil | (apply Rws'.one; rfl; rfl; rfl) | (apply Rws'.agg; rfl; rfl; rfl)))); rfl; rfl; rfl; rfl; intro bx) ))
    rename_i bz
    refine wo_app (ao := a2) (n := i) (m := 1) rfl rfl (by (repeat (first | apply sel_here | apply sel_there)); done) (by (repeat (first | apply sel_here )); done) (by unfold maxLen; omega) (by omega) rfl (fun a4 c4 => ?_)
    (repeat (first | ((first | (apply wo_v; rfl) ); (· first | (apply pv_ev; rfl) | (apply g_bin; first | (apply a_add; rfl; rfl; infer_instance; omega) ) )) | apply wo_nil | apply wc_region ))
    exact loop_end ⟨i + 1, l ++ [⟨x, sm, b, a, x / 2, 7, a⟩], a3, a4, c3, c4, rfl, by omega, by omega, hnx.symm, by rw [List.length_append, List.length_singleton, hli], by rw [bkOl_snoc, rkOl_snoc]⟩ (by omega) (wk_mk (by (repeat (first | apply wkf_nil | (apply wkf_cons; rfl))); done) (by (repeat (first | apply sub_nil | (apply sub_cons; (· (repeat (first | apply sel_here | apply sel_there)))))); done) (by first | exact fun _ h => h | (intro r hr; cases hr; done) | (simp; done) | exact fun _ h => List.mem_append_left _ h | (intro r hr; simp [hr]; done)))
  · have hk : l = bksM sm a b nums ∧ i = (bksM sm a b nums).length := by
      have hi2 : i = min 33 nums.length := by omega
      have : l = bksM sm a b nums := by
        rw [hl, hi2]; unfold bksM
        congr 1
        rcases Nat.le_total 33 nums.length with h | h
        · rw [Nat.min_eq_left h]
        · rw [Nat.min_eq_right h, List.take_length, List.take_of_length_le h]
      exact ⟨this, by rw [← this, hli]⟩
    obtain ⟨rfl, hi3⟩ := hk
    rw [hi3] at hlt ⊢
    generalize (bksM sm a b nums).length = m at *
    have hc : ¬ m < nums.length ∨ (m < nums.length ∧ ¬ m < 33) := by omega
    rcases hc with h1 | ⟨h1, h2⟩
    all_goals
      (repeat (first | ((first | (apply wo_v; rfl) ); (· first | (apply pv_ev; rfl) | (apply pv_fld; rfl) | (apply g_load; first | (apply pv_ld; rfl; (· (repeat (first | apply sel_here ))); rfl) ) | (apply g_pick; first | (apply pv_pick_t; rfl; rfl) | (apply pv_pick_f; rfl; rfl)) | (apply g_bi; first | (apply pv_len_sl; rfl) ) )) | apply wo_nil | apply wc_seq | apply wc_region | (apply wc_exit; rfl) | apply wc_ret | (apply wc_true; rfl) | (apply wc_false; rfl) | (apply a_dec_t; rfl; (· first | assumption | omega)) | (apply a_dec_f; rfl; (· first | assumption | omega)) | (apply wo_run; rfl; rfl) | (apply wo_skip; rfl; rfl; rfl; rfl) | (apply wo_skip_u; rfl; rfl; rfl) | (apply a_gt; rfl; rfl; (· first | assumption | omega)) | (apply a_gf; rfl; rfl; (· first | assumption | omega)) ))
      exact ret2 rfl rfl rfl ⟨a1, c1, a2, c2, rfl, rfl, rfl⟩ ((by (repeat (first | apply sub_nil | (apply sub_cons; (· (repeat (first | apply sel_here | apply sel_there)))))); done) : List.Perm _ ([_, _] ++ _)) (by first | exact fun _ h => h | (intro r hr; cases hr; done) | (simp; done) | exact fun _ h => List.mem_append_left _ h | (intro r hr; simp [hr]; done))
def itM5 (sm : Int) : Nat → List ByteArray → List (Int × ByteArray)
  | _, [] => []
  | i, t :: l => (((i : Int) + sm % 2) % 256, cutS t 257) :: itM5 sm (i + 1) l
theorem itM5_app (sm : Int) : ∀ (i : Nat) (a b : List ByteArray), itM5 sm i (a ++ b) = itM5 sm i a ++ itM5 sm (i + a.length) b
  | i, [], b => rfl
  | i, t :: a, b => by
    show _ :: itM5 sm (i + 1) (a ++ b) = _ :: (itM5 sm (i + 1) a ++ itM5 sm (i + (a.length + 1)) b)
    rw [itM5_app sm (i + 1) a b, show i + 1 + a.length = i + (a.length + 1) by omega]
theorem itM5_len (sm : Int) : ∀ (i : Nat) (a : List ByteArray), (itM5 sm i a).length = a.length
  | i, [] => rfl
  | i, t :: a => congrArg (· + 1) (itM5_len sm (i + 1) a)
theorem itM5_take (sm : Int) {tx : List ByteArray} {i : Nat} {t : ByteArray} (h : tx[i]? = some t) : itM5 sm 0 (tx.take (i + 1)) = itM5 sm 0 (tx.take i) ++ [(((i : Int) + sm % 2) % 256, cutS t 257)] := by
  have hi : i < tx.length := by
    rcases Nat.lt_or_ge i tx.length with h1 | h1
    · exact h1
    · rw [List.getElem?_eq_none h1] at h; cases h
  rw [List.take_add_one, h, itM5_app, List.length_take, Nat.min_eq_left (by omega), Nat.zero_add]; rfl
def chM (sm : Int) (tx : List ByteArray) : List (Int × ByteArray) := itM5 sm 0 (tx.take 4)
def tblMc (a : Int) : Nat → List (List It) → Value → List (List It) → Prop := fun k Ls v Ms => match k, Ls with
  | 6, _ => ∃ b, v = .pointer (some ⟨b, 0, none⟩) ∧ Ms = [[.ob b (.cells #[.int .u32 0, .slice none 0 0] 152 (0, 0))]]
  | 7, _ => ∃ b, v = .pointer (some ⟨b, 0, none⟩) ∧ Ms = [[.ob b (.cells #[.int .u32 0, .slice none 0 0] 70 (0, 0))]]
  | 8, [[.ob b _]] => v = undef ∧ Ms = [[.ob b (.cells #[.int .u32 a, .slice none 0 0] 152 (0, 0))]]
  | 9, [[.ob b _]] => v = undef ∧ Ms = [[.ob b (.cells #[.int .u32 a, .slice none 0 0] 70 (0, 0))]]
  | _, _ => False
def tblMd (x : Int) (s : ByteArray) : Nat → List (List It) → Value → List (List It) → Prop := fun k Ls v Ms => match k, Ls with
  | 11, _ => v = .string s ∧ Ms = [[]]
  | 13, _ => ∃ b, v = .pointer (some ⟨b, 0, none⟩) ∧ Ms = [[itB b 0 E0]]
  | 14, [[.ob b _]] => v = undef ∧ Ms = [[itB b x s]]
  | _, _ => False
def tblMe (a : Int) (v1 v2 : Value) : Nat → List (List It) → Value → List (List It) → Prop := fun k Ls v Ms => match k, Ls with
  | 2, [[.ob b _]] => v = undef ∧ Ms = [[.ob b (.cells #[.int .u32 a, v1] 152 (0, 0))]]
  | 3, [[.ob b _]] => v = undef ∧ Ms = [[.ob b (.cells #[.int .u32 a, v2] 70 (0, 0))]]
  | _, _ => False
abbrev cA (b : Nat) (a : Int) (v : Value) : It := .ob b (.cells #[.int .u32 a, v] 152 (0, 0))
abbrev cB (b : Nat) (a : Int) (v : Value) : It := .ob b (.cells #[.int .u32 a, v] 70 (0, 0))
abbrev iOl (ao : Option Addr) (n c : Nat) (l : List (Int × ByteArray)) : It := .own 158 2 ao n c (itmV l)
abbrev jOl (ao : Option Addr) (n c : Nat) (l : List (Int × ByteArray)) : It := .own 72 2 ao n c (itmV l)
theorem iOl_snoc (ao : Option Addr) (n c : Nat) (l : List (Int × ByteArray)) (x : Int × ByteArray) : iOl ao n c (l ++ [x]) = It.own 158 2 ao n c (itmV l ++ [[.int .u8 x.1, .string x.2]]) := by rw [iOl, itmV_snoc]
theorem jOl_snoc (ao : Option Addr) (n c : Nat) (l : List (Int × ByteArray)) (x : Int × ByteArray) : jOl ao n c (l ++ [x]) = It.own 72 2 ao n c (itmV l ++ [[.int .u8 x.1, .string x.2]]) := by rw [jOl, itmV_snoc]
set_option maxHeartbeats 16000000 in
theorem yChunk (so a b wide : Int) (tx : List ByteArray) (vn : Value) (hvn : vn.oneCell' = true) (A : Option Addr) (n c : Nat) (sm ct kd : Int) (R : List Ro) (hS : SQ R 1 A n c (cST tx)) (hsm : 0 ≤ sm ∧ sm ≤ 255) (hn9 : n ≤ 9223372036854775807) :
    Fn Try.prog 62 #[.agg (mdL so a b wide vn (.slice A n c) sm ct kd).toArray] [] R (fun v L' R' => ∃ a1 c1 a2 c2, v = .tuple #[.agg #[.int .u32 a, .slice a1 (chM sm tx).length c1], .agg #[.int .u32 a, .slice a2 (chM sm tx).length c2]] ∧ L' = [iOl a1 (chM sm tx).length c1 (chM sm tx), jOl a2 (chM sm tx).length c2 (chM sm tx)] ∧ R' = []) := by
  have hn : n = tx.length := by rw [← hS.len, cST_len]
  subst hn
  refine fn_intro Try.func62 rfl Try.ntmps62 rfl (fun E => ?_)
  (repeat (first | ((first | (apply wo_v; rfl) ); (· first | (apply pv_ev; rfl) )) | apply wo_nil | apply wc_seq | apply wc_region | (apply wo_box1; rfl; rfl; rfl; intro bx) | (apply wo_boxa; rfl; rfl; intro bx) | (apply wo_alloc; rfl; intro bx) ))
  rename_i bm b2
  obtain ⟨b3, hb3⟩ : ∃ g, g = bx := ⟨_, rfl⟩
  subst hb3
  (refine wc_regM [0, 1] (aslL [(6, [0]), (7, [1]), (8, [0]), (9, [1])]) (tblMc a) ([cB b3 0 (.slice none 0 0), cA b2 0 (.slice none 0 0), mdB bm so a b wide vn (.slice A tx.length c) sm ct kd]) (fm [(0, []), (1, [])]) mixed (by kernel_rfl) (by kernel_rfl) (by decide) (aslL_ok (by decide)) (by (repeat (first | (apply prm_cons; (· (repeat (first | apply sel_here )))) | apply List.Perm.nil )); done) ?_; (repeat (first | (apply HdM.val; rfl; rfl; (· first | apply gok_none ); (· first | (apply pv_ev; rfl) | (apply pv_fld; rfl) | (apply g_load; first | (apply pv_ld; rfl; (· (repeat (first | apply sel_here | apply sel_there))); rfl) ) | (apply g_build; apply pv_build; (· (repeat (first | apply Bld.nil | (apply Bld.one; rfl; rfl; (· (repeat (first | apply SetAt.here )))) )))) )) )))
  (refine hm_eff (cs := [0]) rfl (by decide) rfl rfl (by first | exact gok_none | exact gok_run rfl rfl) (fun a ha => outc_mono (outc_alloc a ha) (fun v M h => Exists.elim h fun b h => ⟨[M], Exists.intro b (And.intro h.1 (congrArg (fun x => [x]) h.2)), rfl, by simp⟩)) (⟨_, _, Exists.intro 0 (And.intro rfl rfl), rfl⟩) ?_; rintro v Ms ⟨b4, rfl, rfl⟩ _; simp only [setls, setl, reduceIte, Nat.reduceEqDiff]; (repeat (first | (apply HdM.val; rfl; rfl; (· first | fail ); (· first | fail )) )))
  (refine hm_eff (cs := [1]) rfl (by decide) rfl rfl (by first | exact gok_none | exact gok_run rfl rfl) (fun a ha => outc_mono (outc_alloc a ha) (fun v M h => Exists.elim h fun b h => ⟨[M], Exists.intro b (And.intro h.1 (congrArg (fun x => [x]) h.2)), rfl, by simp⟩)) (⟨_, _, Exists.intro 0 (And.intro rfl rfl), rfl⟩) ?_; rintro v Ms ⟨b5, rfl, rfl⟩ _; simp only [setls, setl, reduceIte, Nat.reduceEqDiff]; (repeat (first | fail )))
  (refine hm_eff (cs := [0]) rfl (by decide) rfl rfl (by first | exact gok_none | exact gok_run rfl rfl) (fun a ha => outc_mono (outc_sta rfl rfl rfl rfl (by (repeat (first | apply LayAt.nil | apply LayAt.here )); done) a ha) (fun v M h => ⟨[M], And.intro h.1 (congrArg (fun x => [x]) h.2), rfl, by simp⟩)) (⟨_, _, And.intro rfl rfl, rfl⟩) ?_; rintro v Ms ⟨rfl, rfl⟩ _; simp only [setls, setl, reduceIte, Nat.reduceEqDiff]; (repeat (first | fail )))
  (refine hm_eff (cs := [1]) rfl (by decide) rfl rfl (by first | exact gok_none | exact gok_run rfl rfl) (fun a ha => outc_mono (outc_sta rfl rfl rfl rfl (by (repeat (first | apply LayAt.nil | apply LayAt.here )); done) a ha) (fun v M h => ⟨[M], And.intro h.1 (congrArg (fun x => [x]) h.2), rfl, by simp⟩)) (⟨_, _, And.intro rfl rfl, rfl⟩) ?_; rintro v Ms ⟨rfl, rfl⟩ _; simp only [setls, setl, reduceIte, Nat.reduceEqDiff]; (repeat (first | fail )))
  (refine HdM.nil ?_; intro H hH; simp only [Hp, fm, look, setl, List.flatMap_cons, List.flatMap_nil, reduceIte, Nat.reduceEqDiff, Option.getD_some, List.append_nil, List.cons_append, List.nil_append] at hH; subst hH)
  (repeat (first | ((first | (apply wo_v; rfl) ); (· first | (apply pv_ev; rfl) )) | apply wo_nil | apply wc_seq | apply wc_region ))
  refine wc_own0 158 2 ?_
  refine wc_own0 72 2 ?_
  refine wc_join0 (fun st => ∃ (a1 a2 : Option Addr) (c1 c2 : Nat), st = ⟨[(2, .pointer (some ⟨b2, 0, none⟩)), (3, .pointer (some ⟨b3, 0, none⟩)), (4, .pointer (some ⟨b4, 0, none⟩)), (5, .pointer (some ⟨b5, 0, none⟩))], [cA b2 0 (.slice none 0 0), cB b3 0 (.slice none 0 0), cA b4 a (.slice a1 (chM sm tx).length c1), cB b5 a (.slice a2 (chM sm tx).length c2), iOl a1 (chM sm tx).length c1 (chM sm tx), jOl a2 (chM sm tx).length c2 (chM sm tx)], R⟩) ?_ ?_
  · refine wc_block ?_
    refine wc_loop' (fun q st => ∃ (i : Nat) (l : List (Int × ByteArray)) (a1 a2 : Option Addr) (c1 c2 : Nat), q = 4 - i ∧ i ≤ 4 ∧ i ≤ tx.length ∧ l = itM5 sm 0 (tx.take i) ∧ l.length = i ∧ st = ⟨[(1, .pointer (some ⟨bm, 0, none⟩)), (2, .pointer (some ⟨b2, 0, none⟩)), (3, .pointer (some ⟨b3, 0, none⟩)), (4, .pointer (some ⟨b4, 0, none⟩)), (5, .pointer (some ⟨b5, 0, none⟩)), (6, .int .i64 i)], [mdB bm so a b wide vn (.slice A tx.length c) sm ct kd, cA b2 0 (.slice none 0 0), cB b3 0 (.slice none 0 0), cA b4 a (.slice a1 i c1), cB b5 a (.slice a2 i c2), iOl a1 i c1 l, jOl a2 i c2 l], R⟩) ⟨0, [], none, none, 0, 0, rfl, by omega, by omega, rfl, rfl, rfl⟩ (wk_mk (by (repeat (first | apply wkf_nil | (apply wkf_cons; rfl))); done) (by (repeat (first | apply sub_nil | (apply sub_cons; (· (repeat (first | apply sel_here | apply sel_there)))))); done) (by first | exact fun _ h => h | (intro r hr; cases hr; done) | (simp; done) | exact fun _ h => List.mem_append_left _ h | (intro r hr; simp [hr]; done))) ?_
    rintro q st ⟨i, l, a1, a2, c1, c2, rfl, hi, hin, hl, hli, rfl⟩
    by_cases hlt : i < tx.length ∧ i < 4
    · obtain ⟨h1, h2⟩ := hlt
      obtain ⟨s, hx⟩ : ∃ s, tx[i]? = some s := ⟨_, List.getElem?_eq_getElem h1⟩
      have hr := cST_at hx
      have hnx := itM5_take sm hx
      rw [← hl] at hnx
      have q1 := octCut s 257
      have x1 := and8_1 hsm
      rw [← x1] at hnx
      generalize cutS s 257 = s2 at *
      obtain ⟨b0, o0, rfl, hmem⟩ := hS.pos (by omega)
      have hbit : 0 ≤ bits .and .u8 sm 1 ∧ bits .and .u8 sm 1 ≤ 1 := by rw [x1]; omega
      (repeat (first | ((first | (apply wo_v; rfl) ); (· first | (apply pv_ev; rfl) | (apply pv_fld; rfl) | (apply g_load; first | (apply pv_ld; rfl; (· (repeat (first | apply sel_here ))); rfl) ) | (apply g_pick; first | (apply pv_pick_t; rfl; rfl) ) | (apply g_bi; first | (apply pv_len_sl; rfl) ) )) | apply wo_nil | apply wc_seq | apply wc_region | apply wc_skip | (apply wc_true; rfl) | (apply wc_false; rfl) | (apply a_dec_t; rfl; (· first | assumption | omega)) | (apply wo_run; rfl; rfl) | (apply wo_skip; rfl; rfl; rfl; rfl) | (apply wo_skip_u; rfl; rfl; rfl) | (apply a_gt; rfl; rfl; (· first | assumption | omega)) ))
      refine wc_block ?_
      (repeat (first | apply wc_seq ))
      (refine wc_regM [0, 1] (aslL [(11, [1]), (13, [0]), (14, [0])]) (tblMd (i + bits .and .u8 sm 1) s2) ([mdB bm so a b wide vn (.slice (some ⟨b0, o0, none⟩) tx.length c) sm ct kd, cA b2 0 (.slice none 0 0), cB b3 0 (.slice none 0 0), cA b4 a (.slice a1 i c1), cB b5 a (.slice a2 i c2), iOl a1 i c1 l, jOl a2 i c2 l]) (fm [(0, []), (1, [])]) mixed (by kernel_rfl) (by kernel_rfl) (by decide) (aslL_ok (by decide)) (by (repeat (first | (apply prm_cons; (· (repeat (first | apply sel_here )))) | apply List.Perm.nil )); done) ?_; (repeat (first | (apply HdM.val; rfl; rfl; (· first | apply gok_none ); (· first | (apply pv_ev; rfl) | (apply pv_fld; rfl) | (apply g_load; first | (apply pv_ld; rfl; (· (repeat (first | apply sel_here | apply sel_there))); rfl) | (apply pv_ld_ownf; rfl; (· (repeat (first | fail ))); (· assumption); rfl) | (apply pv_ld_own1; rfl; (· (repeat (first | apply sel_there))); (· assumption)) | (apply pv_ld_rof; rfl; (· (first | assumption )); (· assumption); rfl) | (apply pv_ld_ro1; rfl; (· (first | assumption )); (· assumption)) ) | (apply g_bin; first | (apply a_add; rfl; rfl; infer_instance; omega) | (apply pv_and; rfl; rfl) ) | (apply g_conv; first | (apply a_conv; rfl; infer_instance; infer_instance; infer_instance; omega) ) | (apply g_idx; first | (apply pv_idx; rfl; rfl; omega) ) )) )))
      (refine hm_eff (cs := [1]) rfl (by decide) rfl rfl (by first | exact gok_none | exact gok_run rfl rfl) (fun a ha => outc_mono (outc_call (F1 := _) (T := fun v M => v = .string s2 ∧ M = []) (q1) rfl (by (repeat (first | apply sub_nil )); done) (by first | exact fun _ h => h | (intro r hr; cases hr; done) | (simp; done) | exact fun _ h => List.mem_append_left _ h | (intro r hr; simp [hr]; done)) (by rintro v L' R' ⟨rfl, rfl, _⟩; exact ⟨_, ⟨rfl, rfl⟩, (by (repeat (first | (apply prm_cons; (· (repeat (first | apply sel_here )))) | apply List.Perm.nil )); done)⟩) a ha) (fun v M h => ⟨[[]], And.intro h.1 rfl, rfl, h.2⟩)) ⟨_, _, And.intro rfl rfl, rfl⟩ ?_; rintro v Ms ⟨rfl, rfl⟩ _; simp only [setls, setl, reduceIte, Nat.reduceEqDiff]; (repeat (first | (apply HdM.val; rfl; rfl; (· first | apply gok_none ); (· first | (apply pv_ev; rfl) | (apply g_build; apply pv_build; (· (repeat (first | apply Bld.nil | (apply Bld.one; rfl; rfl; (· (repeat (first | apply SetAt.here | apply SetAt.there)))) )))) )) )))
      (refine hm_eff (cs := [0]) rfl (by decide) rfl rfl (by first | exact gok_none | exact gok_run rfl rfl) (fun a ha => outc_mono (outc_alloc a ha) (fun v M h => Exists.elim h fun b h => ⟨[M], Exists.intro b (And.intro h.1 (congrArg (fun x => [x]) h.2)), rfl, by simp⟩)) (⟨_, _, Exists.intro 0 (And.intro rfl rfl), rfl⟩) ?_; rintro v Ms ⟨bi, rfl, rfl⟩ _; simp only [setls, setl, reduceIte, Nat.reduceEqDiff]; (repeat (first | fail )))
      (refine hm_eff (cs := [0]) rfl (by decide) rfl rfl (by first | exact gok_none | exact gok_run rfl rfl) (fun a ha => outc_mono (outc_sta rfl rfl rfl rfl (by (repeat (first | apply LayAt.nil | apply LayAt.here )); done) a ha) (fun v M h => ⟨[M], And.intro h.1 (congrArg (fun x => [x]) h.2), rfl, by simp⟩)) (⟨_, _, And.intro rfl rfl, rfl⟩) ?_; rintro v Ms ⟨rfl, rfl⟩ _; simp only [setls, setl, reduceIte, Nat.reduceEqDiff]; (repeat (first | fail )))
      (refine HdM.nil ?_; intro H hH; simp only [Hp, fm, look, setl, List.flatMap_cons, List.flatMap_nil, reduceIte, Nat.reduceEqDiff, Option.getD_some, List.append_nil, List.cons_append, List.nil_append] at hH; subst hH)
      rw [Int.emod_eq_of_lt (by omega) (by omega)] at hnx
      generalize (i : Int) + bits .and .u8 sm 1 = k at *
      (repeat (first | ((first | (apply wo_v; rfl) ); (· first | (apply pv_ev; rfl) | (apply pv_fld; rfl) | (apply g_load; first | (apply pv_ld; rfl; (· (repeat (first | apply sel_here | apply sel_there))); rfl) | (apply pv_lda; rfl; (· (repeat (first | apply sel_here | apply sel_there))); (· (repeat (first | apply Cut.here0 | apply Cut.here )))) ) | (apply g_bi; first | fail ) )) | apply wc_seq | apply wc_region | (apply wo_bsl; (· (repeat (first | apply Rws'.nil | (apply Rws'.one; rfl; rfl; rfl) | (apply Rws'.agg; rfl; rfl; rfl)))); rfl; rfl; rfl; rfl; intro bx) ))
      refine wo_app (ao := a1) (n := i) (m := 1) rfl rfl (by (repeat (first | apply sel_here | apply sel_there)); done) (by (repeat (first | apply sel_here )); done) (by unfold maxLen; omega) (by omega) rfl (fun a3 c3 => ?_)
      (repeat (first | ((first | (apply wo_v; rfl) ); (· first | (apply pv_ev; rfl) | (apply pv_fld; rfl) | (apply g_load; first | (apply pv_ld; rfl; (· (repeat (first | apply sel_here | apply sel_there))); rfl) | (apply pv_lda; rfl; (· (repeat (first | apply sel_here | apply sel_there))); (· (repeat (first | apply Cut.here0 | apply Cut.here )))) ) | (apply g_bi; first | fail ) )) | apply wo_nil | apply wc_region | (apply wo_st; rfl; rfl; rfl; (· (repeat (first | apply sel_here | apply sel_there))); (· (repeat (first | apply SetAt.here | apply SetAt.there))); rfl) | (apply wo_bsl; (· (repeat (first | apply Rws'.nil | (apply Rws'.one; rfl; rfl; rfl) | (apply Rws'.agg; rfl; rfl; rfl)))); rfl; rfl; rfl; rfl; intro bx) ))
      refine wo_app (ao := a2) (n := i) (m := 1) rfl rfl (by (repeat (first | apply sel_here | apply sel_there)); done) (by (repeat (first | apply sel_here )); done) (by unfold maxLen; omega) (by omega) rfl (fun a4 c4 => ?_)
      (repeat (first | ((first | (apply wo_v; rfl) ); (· first | (apply pv_ev; rfl) | (apply pv_fld; rfl) | (apply g_bin; first | (apply a_add; rfl; rfl; infer_instance; omega) ) )) | apply wo_nil | apply wc_region | (apply wo_st; rfl; rfl; rfl; (· (repeat (first | apply sel_here | apply sel_there))); (· (repeat (first | apply SetAt.here | apply SetAt.there))); rfl) ))
      exact loop_end ⟨i + 1, l ++ [(k, s2)], a3, a4, c3, c4, rfl, by omega, by omega, hnx.symm, by rw [List.length_append, List.length_singleton, hli], by rw [iOl_snoc, jOl_snoc]⟩ (by omega) (wk_mk (by (repeat (first | apply wkf_nil | (apply wkf_cons; rfl))); done) (by (repeat (first | apply sub_nil | (apply sub_cons; (· (repeat (first | apply sel_here | apply sel_there)))))); done) (by first | exact fun _ h => h | (intro r hr; cases hr; done) | (simp; done) | exact fun _ h => List.mem_append_left _ h | (intro r hr; simp [hr]; done)))
    · have hk : l = chM sm tx ∧ i = (chM sm tx).length := by
        have hi2 : i = min 4 tx.length := by omega
        have : l = chM sm tx := by
          rw [hl, hi2]; unfold chM
          congr 1
          rcases Nat.le_total 4 tx.length with h | h
          · rw [Nat.min_eq_left h]
          · rw [Nat.min_eq_right h, List.take_length, List.take_of_length_le h]
        exact ⟨this, by rw [← this, hli]⟩
      obtain ⟨rfl, hi3⟩ := hk
      rw [hi3] at hlt ⊢
      generalize (chM sm tx).length = m at *
      have hc : ¬ m < tx.length ∨ (m < tx.length ∧ ¬ m < 4) := by omega
      rcases hc with h1 | ⟨h1, h2⟩
      all_goals
        (repeat (first | ((first | (apply wo_v; rfl) ); (· first | (apply pv_ev; rfl) | (apply pv_fld; rfl) | (apply g_load; first | (apply pv_ld; rfl; (· (repeat (first | apply sel_here ))); rfl) ) | (apply g_pick; first | (apply pv_pick_t; rfl; rfl) | (apply pv_pick_f; rfl; rfl)) | (apply g_bi; first | (apply pv_len_sl; rfl) ) )) | apply wo_nil | apply wc_seq | apply wc_region | (apply wc_exit; rfl) | (apply wc_true; rfl) | (apply wc_false; rfl) | (apply a_dec_t; rfl; (· first | assumption | omega)) | (apply a_dec_f; rfl; (· first | assumption | omega)) | (apply wo_run; rfl; rfl) | (apply wo_skip; rfl; rfl; rfl; rfl) | (apply wo_skip_u; rfl; rfl; rfl) | (apply a_gt; rfl; rfl; (· first | assumption | omega)) | (apply a_gf; rfl; rfl; (· first | assumption | omega)) ))
        exact cut_end ⟨a1, a2, c1, c2, rfl⟩ (wk_mk (by (repeat (first | apply wkf_nil | (apply wkf_cons; rfl))); done) (by (repeat (first | apply sub_nil | (apply sub_cons; (· (repeat (first | apply sel_here | apply sel_there)))))); done) (by first | exact fun _ h => h | (intro r hr; cases hr; done) | (simp; done) | exact fun _ h => List.mem_append_left _ h | (intro r hr; simp [hr]; done)))
  rintro st ⟨a1, a2, c1, c2, rfl⟩
  generalize hL : chM sm tx = l at *
  (repeat (first | apply wc_seq ))
  (refine wc_regM [0, 1] (aslL [(2, [0]), (3, [1])]) (tblMe a (.slice a1 l.length c1) (.slice a2 l.length c2)) ([cA b4 a (.slice a1 l.length c1), cB b5 a (.slice a2 l.length c2), iOl a1 l.length c1 l, jOl a2 l.length c2 l]) (fm [(0, [cA b2 0 (.slice none 0 0)]), (1, [cB b3 0 (.slice none 0 0)])]) mixed (by kernel_rfl) (by kernel_rfl) (by decide) (aslL_ok (by decide)) (by (repeat (first | (apply prm_cons; (· (repeat (first | apply sel_here | apply sel_there)))) | apply List.Perm.nil )); done) ?_; (repeat (first | (apply HdM.val; rfl; rfl; (· first | apply gok_none ); (· first | (apply pv_ev; rfl) | (apply g_load; first | (apply pv_lda; rfl; (· (repeat (first | apply sel_here | apply sel_there))); (· (repeat (first | apply Cut.here0 | apply Cut.here )))) ) )) )))
  (refine hm_eff (cs := [0]) rfl (by decide) rfl rfl (by first | exact gok_none | exact gok_run rfl rfl) (fun a ha => outc_mono (outc_sta rfl rfl rfl rfl (by (repeat (first | apply LayAt.nil | apply LayAt.here )); done) a ha) (fun v M h => ⟨[M], And.intro h.1 (congrArg (fun x => [x]) h.2), rfl, by simp⟩)) (⟨_, _, And.intro rfl rfl, rfl⟩) ?_; rintro v Ms ⟨rfl, rfl⟩ _; simp only [setls, setl, reduceIte, Nat.reduceEqDiff]; (repeat (first | fail )))
  (refine hm_eff (cs := [1]) rfl (by decide) rfl rfl (by first | exact gok_none | exact gok_run rfl rfl) (fun a ha => outc_mono (outc_sta rfl rfl rfl rfl (by (repeat (first | apply LayAt.nil | apply LayAt.here )); done) a ha) (fun v M h => ⟨[M], And.intro h.1 (congrArg (fun x => [x]) h.2), rfl, by simp⟩)) (⟨_, _, And.intro rfl rfl, rfl⟩) ?_; rintro v Ms ⟨rfl, rfl⟩ _; simp only [setls, setl, reduceIte, Nat.reduceEqDiff]; (repeat (first | fail )))
  (refine HdM.nil ?_; intro H hH; simp only [Hp, fm, look, setl, List.flatMap_cons, List.flatMap_nil, reduceIte, Nat.reduceEqDiff, Option.getD_some, List.append_nil, List.cons_append, List.nil_append] at hH; subst hH)
  (repeat (first | apply wc_ret ))
  exact retv rfl (by (repeat (first | apply RV.nil | (apply RV.agg; rfl; (· (repeat (first | apply sel_here | apply sel_there))); infer_instance; (· (repeat (first | apply Cut.here0 | apply Cut.here )))) )); done) (⟨a1, c1, a2, c2, rfl, rfl, rfl⟩) (by (repeat (first | apply sub_nil | (apply sub_cons; (· (repeat (first | apply sel_here | apply sel_there)))))); done) (by first | exact fun _ h => h | (intro r hr; cases hr; done) | (simp; done) | exact fun _ h => List.mem_append_left _ h | (intro r hr; simp [hr]; done))
end Go.Proofs.Yteaccbbmphcmnaa

/-
  Layer 5's statements: made packets: reports.
-/
namespace Go.Proofs.Yteaccbbmphcmnaa
set_option linter.unusedSimpArgs false
set_option linter.unusedVariables false
open Go.RowKit
attribute [local irreducible] Pv WO WC Fn
set_option maxRecDepth 100000
attribute [local irreducible] ByteArray.extract

abbrev nilS : Value := .slice none 0 0
abbrev rfL (kd ct ss to ntp t pk oc : Int) (bl ch sr : Value) (tx : ByteArray) (ps os : Value) (rt : Int) : List Value := [.int .u8 kd, .int .u8 ct, .int .u32 ss, .int .u32 to, .int .u64 ntp, .int .u32 t, .int .u32 pk, .int .u32 oc, bl, ch, sr, .string tx, ps, os, .int .u64 rt]
abbrev rfA (l : List Value) : Value := .agg l.toArray
abbrev rfO (b : Nat) (l : List Value) : It := .ob b (.cells l.toArray 57 (0, 0))
abbrev rfZ : List Value := rfL 0 0 0 0 0 0 0 0 nilS nilS nilS E0 nilS nilS 0
/-- the document's record of a packet -/
def RefV (R : List Ro) : Pkt → Value → Prop
  | .sender ss ntp t pk oc bl, v => ∃ A n c, v = rfA (rfL 200 bl.length ss 0 ntp t pk oc (.slice A n c) nilS nilS E0 nilS nilS 0) ∧ SQ R 7 A n c (blkV bl)
  | .receiver ss bl, v => ∃ A n c, v = rfA (rfL 201 bl.length ss 0 0 0 0 0 (.slice A n c) nilS nilS E0 nilS nilS 0) ∧ SQ R 7 A n c (blkV bl)
  | .sdes ch, v => ∃ A n c rows, v = rfA (rfL 202 ch.length 0 0 0 0 0 0 nilS (.slice A n c) nilS E0 nilS nilS 0) ∧ SQ R 2 A n c rows ∧ ChsV R ch rows
  | .bye ss rs, v => ∃ A n c, v = rfA (rfL 203 ss.length 0 0 0 0 0 0 nilS nilS (.slice A n c) rs nilS nilS 0) ∧ SQ R 1 A n c (c32 ss)
  | .nack fm to ps, v => ∃ A n c, v = rfA (rfL 205 1 fm to 0 0 0 0 nilS nilS nilS E0 (.slice A n c) nilS 0) ∧ SQ R 2 A n c (pairV ps)
  | .pli fm to, v => v = rfA (rfL 206 1 fm to 0 0 0 0 nilS nilS nilS E0 nilS nilS 0)
  | .fir fm os, v => ∃ A n c, v = rfA (rfL 206 4 fm 0 0 0 0 0 nilS nilS nilS E0 nilS (.slice A n c) 0) ∧ SQ R 2 A n c (ordV os)
  | .remb fm rt ss, v => ∃ A n c, v = rfA (rfL 206 15 fm 0 0 0 0 0 nilS nilS (.slice A n c) E0 nilS nilS rt) ∧ SQ R 1 A n c (c32 ss)
  | .other kd ct bd, v => v = rfA (rfL kd ct 0 0 0 0 0 0 nilS nilS nilS bd nilS nilS 0)
def srt (so : Int) : Int := (bits .and .i64 so 255).tmod 9
def tblRf (row : List Value) : Nat → List (List It) → Value → List (List It) → Prop := fun k Ls v Ms => match Ls with
  | [[.ob b _]] => v = undef ∧ Ms = [[rfO b row]]
  | _ => False
abbrev PkR (R : List Ro) (p : Pkt) (v : Value) (L' : List It) (R' : List Ro) : Prop := ∃ u w, v = .tuple #[u, w] ∧ PkV R' p u ∧ RefV R' p w ∧ L' = []
abbrev RepC (R : List Ro) (row : List Value) (p : Pkt) : Prop := Fn Try.prog 38 #[.agg row.toArray] [] R (PkR R p)
set_option maxHeartbeats 16000000 in
theorem yRep0 (so a b wide : Int) (nums : List Int) (A : Option Addr) (n c : Nat) (vt : Value) (hvt : vt.oneCell' = true) (sm ct kd : Int) (R : List Ro) (hS : SQ R 1 A n c (c32 nums)) (hb : ∀ x ∈ nums, in32 x) (hn9 : n ≤ 9223372036854775807) (ht : (bits .and .i64 so 255).tmod 9 = 0) :
    RepC R (mdL so a b wide (.slice A n c) vt sm ct kd) (.sender a wide b 3 a (bksM sm a b nums)) := by
  have q1 := yBlocks so a b wide nums A n c vt hvt sm ct kd R hS hb hn9
  have hlen : (bksM sm a b nums).length ≤ 33 := by unfold bksM; rw [List.length_map, List.length_take]; omega
  generalize bksM sm a b nums = bl at *
  refine fn_intro Try.func38 rfl Try.ntmps38 rfl (fun E => ?_)
  (repeat (first | ((first | (apply wo_v; rfl) ); (· first | (apply pv_ev; rfl) | (apply g_load; first | (apply pv_lda; rfl; (· (repeat (first | apply sel_here | apply sel_there))); (· (repeat (first | apply Cut.here0 | apply Cut.here )))) ) )) | apply wo_nil | apply wc_seq | apply wc_region | (apply wo_box1; rfl; rfl; rfl; intro bx) | (apply wo_boxa; rfl; rfl; intro bx) | (apply wo_alloc; rfl; intro bx) ))
  (refine wo_call (q1) rfl (by (repeat (first | apply sub_nil )); done) (by first | exact fun _ h => h | (intro r hr; cases hr; done) | (simp; done) | exact fun _ h => List.mem_append_left _ h | (intro r hr; simp [hr]; done)) rfl ?_; rintro v L' R' ⟨a1, c1, a2, c2, rfl, rfl, rfl⟩ H' hH RR hR; simp only [List.cons_append, List.nil_append] at hH hR; subst hH; have hR := hR.symm; subst hR)
  refine wo_still (ao := a1) (n := bl.length) (c := c1) (sz := 7) (by (repeat (first | apply sel_here )); done) (fun R1 hS1 => ?_)
  refine wo_still (ao := a2) (n := bl.length) (c := c2) (sz := 7) (by (repeat (first | apply sel_here )); done) (fun R2 hS2 => ?_)
  rename_i bm
  obtain ⟨b3, hb3⟩ : ∃ g, g = bx := ⟨_, rfl⟩
  subst hb3
  (repeat (first | ((first | (apply wo_v; rfl) ); (· first | (apply pv_ev; rfl) | (apply pv_fld; rfl) | (apply g_load; first | (apply pv_ld; rfl; (· (repeat (first | apply sel_here | apply sel_there))); rfl) ) | (apply g_bin; first | (apply pv_rem; rfl; rfl; omega) | (apply pv_rem_t; rfl; rfl; omega) | (apply pv_and; rfl; rfl) ) )) | apply wo_nil | apply wc_seq | apply wc_region ))
  rw [ht]
  (repeat (first | ((first | (apply wo_v; rfl) ); (· first | (apply pv_ev; rfl) )) | apply wo_nil | apply wc_seq | apply wc_region | apply wc_block | (apply wc_true; rfl) ))
  (refine wc_regM [0] (aslL [(25, [0])]) (tblRf (rfL 200 bl.length a 0 wide b 3 a (.slice a2 bl.length c2) nilS nilS E0 nilS nilS 0)) ([mdB bm so a b wide (.slice A n c) vt sm ct kd]) (fm [(0, [rfO b3 rfZ])]) mixed (by kernel_rfl) (by kernel_rfl) (by decide) (aslL_ok (by decide)) (by (repeat (first | (apply prm_cons; (· (repeat (first | apply sel_here | apply sel_there)))) | apply List.Perm.nil )); done) ?_; (repeat (first | (apply HdM.val; rfl; rfl; (· first | apply gok_none ); (· first | (apply pv_ev; rfl) | (apply pv_fld; rfl) | (apply g_load; first | (apply pv_ld; rfl; (· (repeat (first | apply sel_here ))); rfl) ) | (apply g_bi; first | (apply pv_len_sl; rfl) ) | (apply g_conv; first | (apply a_conv; rfl; infer_instance; infer_instance; infer_instance; omega) ) | (apply g_build; apply pv_build; (· (repeat (first | apply Bld.nil | (apply Bld.one; rfl; rfl; (· (repeat (first | apply SetAt.here | apply SetAt.there)))) )))) | (apply pv_mki; rfl; infer_instance) )) )))
  (refine hm_eff (cs := [0]) rfl (by decide) rfl rfl (by first | exact gok_none | exact gok_run rfl rfl) (fun a ha => outc_mono (outc_sta rfl rfl rfl rfl (by (repeat (first | apply LayAt.nil | apply LayAt.here )); done) a ha) (fun v M h => ⟨[M], And.intro h.1 (congrArg (fun x => [x]) h.2), rfl, by simp⟩)) (⟨_, _, And.intro rfl rfl, rfl⟩) ?_; rintro v Ms ⟨rfl, rfl⟩ _; simp only [setls, setl, reduceIte, Nat.reduceEqDiff]; (repeat (first | fail )))
  (refine HdM.nil ?_; intro H hH; simp only [Hp, fm, look, setl, List.flatMap_cons, List.flatMap_nil, reduceIte, Nat.reduceEqDiff, Option.getD_some, List.append_nil, List.cons_append, List.nil_append] at hH; subst hH)
  (repeat (first | apply wc_ret ))
  exact retv rfl (by (repeat (first | apply RV.nil | (apply RV.tmp; rfl) | (apply RV.agg; rfl; (· (repeat (first | apply sel_here | apply sel_there))); infer_instance; (· (repeat (first | apply Cut.here0 | apply Cut.here )))) )); done) (⟨_, _, rfl, ⟨a1, _, c1, rfl, (hS1.sq).mono (fun r hr => List.mem_append_right _ hr)⟩, ⟨a2, _, c2, rfl, hS2.sq⟩, rfl⟩) (by (repeat (first | apply sub_nil )); done) (by first | exact fun _ h => h | (intro r hr; cases hr; done) | (simp; done) | exact fun _ h => List.mem_append_left _ h | (intro r hr; simp [hr]; done))
set_option maxHeartbeats 16000000 in
theorem yRep1 (so a b wide : Int) (nums : List Int) (A : Option Addr) (n c : Nat) (vt : Value) (hvt : vt.oneCell' = true) (sm ct kd : Int) (R : List Ro) (hS : SQ R 1 A n c (c32 nums)) (hb : ∀ x ∈ nums, in32 x) (hn9 : n ≤ 9223372036854775807) (ht : (bits .and .i64 so 255).tmod 9 = 1) :
    RepC R (mdL so a b wide (.slice A n c) vt sm ct kd) (.receiver a (bksM sm a b nums)) := by
  have q1 := yBlocks so a b wide nums A n c vt hvt sm ct kd R hS hb hn9
  have hlen : (bksM sm a b nums).length ≤ 33 := by unfold bksM; rw [List.length_map, List.length_take]; omega
  generalize bksM sm a b nums = bl at *
  refine fn_intro Try.func38 rfl Try.ntmps38 rfl (fun E => ?_)
  (repeat (first | ((first | (apply wo_v; rfl) ); (· first | (apply pv_ev; rfl) | (apply g_load; first | (apply pv_lda; rfl; (· (repeat (first | apply sel_here | apply sel_there))); (· (repeat (first | apply Cut.here0 | apply Cut.here )))) ) )) | apply wo_nil | apply wc_seq | apply wc_region | (apply wo_box1; rfl; rfl; rfl; intro bx) | (apply wo_boxa; rfl; rfl; intro bx) | (apply wo_alloc; rfl; intro bx) ))
  (refine wo_call (q1) rfl (by (repeat (first | apply sub_nil )); done) (by first | exact fun _ h => h | (intro r hr; cases hr; done) | (simp; done) | exact fun _ h => List.mem_append_left _ h | (intro r hr; simp [hr]; done)) rfl ?_; rintro v L' R' ⟨a1, c1, a2, c2, rfl, rfl, rfl⟩ H' hH RR hR; simp only [List.cons_append, List.nil_append] at hH hR; subst hH; have hR := hR.symm; subst hR)
  refine wo_still (ao := a1) (n := bl.length) (c := c1) (sz := 7) (by (repeat (first | apply sel_here )); done) (fun R1 hS1 => ?_)
  refine wo_still (ao := a2) (n := bl.length) (c := c2) (sz := 7) (by (repeat (first | apply sel_here )); done) (fun R2 hS2 => ?_)
  rename_i bm
  obtain ⟨b3, hb3⟩ : ∃ g, g = bx := ⟨_, rfl⟩
  subst hb3
  (repeat (first | ((first | (apply wo_v; rfl) ); (· first | (apply pv_ev; rfl) | (apply pv_fld; rfl) | (apply g_load; first | (apply pv_ld; rfl; (· (repeat (first | apply sel_here | apply sel_there))); rfl) ) | (apply g_bin; first | (apply pv_rem; rfl; rfl; omega) | (apply pv_rem_t; rfl; rfl; omega) | (apply pv_and; rfl; rfl) ) )) | apply wo_nil | apply wc_seq | apply wc_region ))
  rw [ht]
  (repeat (first | ((first | (apply wo_v; rfl) ); (· first | (apply pv_ev; rfl) )) | apply wo_nil | apply wc_seq | apply wc_region | apply wc_block | (apply wc_true; rfl) | (apply wc_false; rfl) ))
  (refine wc_regM [0] (aslL [(13, [0])]) (tblRf (rfL 201 bl.length a 0 0 0 0 0 (.slice a2 bl.length c2) nilS nilS E0 nilS nilS 0)) ([mdB bm so a b wide (.slice A n c) vt sm ct kd]) (fm [(0, [rfO b3 rfZ])]) mixed (by kernel_rfl) (by kernel_rfl) (by decide) (aslL_ok (by decide)) (by (repeat (first | (apply prm_cons; (· (repeat (first | apply sel_here | apply sel_there)))) | apply List.Perm.nil )); done) ?_; (repeat (first | (apply HdM.val; rfl; rfl; (· first | apply gok_none ); (· first | (apply pv_ev; rfl) | (apply pv_fld; rfl) | (apply g_load; first | (apply pv_ld; rfl; (· (repeat (first | apply sel_here ))); rfl) ) | (apply g_bi; first | (apply pv_len_sl; rfl) ) | (apply g_conv; first | (apply a_conv; rfl; infer_instance; infer_instance; infer_instance; omega) ) | (apply g_build; apply pv_build; (· (repeat (first | apply Bld.nil | (apply Bld.one; rfl; rfl; (· (repeat (first | apply SetAt.here | apply SetAt.there)))) )))) | (apply pv_mki; rfl; infer_instance) )) )))
  (refine hm_eff (cs := [0]) rfl (by decide) rfl rfl (by first | exact gok_none | exact gok_run rfl rfl) (fun a ha => outc_mono (outc_sta rfl rfl rfl rfl (by (repeat (first | apply LayAt.nil | apply LayAt.here )); done) a ha) (fun v M h => ⟨[M], And.intro h.1 (congrArg (fun x => [x]) h.2), rfl, by simp⟩)) (⟨_, _, And.intro rfl rfl, rfl⟩) ?_; rintro v Ms ⟨rfl, rfl⟩ _; simp only [setls, setl, reduceIte, Nat.reduceEqDiff]; (repeat (first | fail )))
  (refine HdM.nil ?_; intro H hH; simp only [Hp, fm, look, setl, List.flatMap_cons, List.flatMap_nil, reduceIte, Nat.reduceEqDiff, Option.getD_some, List.append_nil, List.cons_append, List.nil_append] at hH; subst hH)
  (repeat (first | apply wc_ret ))
  exact retv rfl (by (repeat (first | apply RV.nil | (apply RV.tmp; rfl) | (apply RV.agg; rfl; (· (repeat (first | apply sel_here | apply sel_there))); infer_instance; (· (repeat (first | apply Cut.here0 | apply Cut.here )))) )); done) (⟨_, _, rfl, ⟨a1, _, c1, rfl, (hS1.sq).mono (fun r hr => List.mem_append_right _ hr)⟩, ⟨a2, _, c2, rfl, hS2.sq⟩, rfl⟩) (by (repeat (first | apply sub_nil )); done) (by first | exact fun _ h => h | (intro r hr; cases hr; done) | (simp; done) | exact fun _ h => List.mem_append_left _ h | (intro r hr; simp [hr]; done))
def tblR2 (v1 v2 : List Value) : Nat → List (List It) → Value → List (List It) → Prop := fun k Ls v Ms => match k, Ls with
  | 2, _ => ∃ b, v = .slice (some ⟨b, 0, none⟩) 2 2 ∧ Ms = [[.own 152 2 (some ⟨b, 0, none⟩) 2 2 [v1, v1]]]
  | 7, _ => ∃ b, v = .slice (some ⟨b, 0, none⟩) 2 2 ∧ Ms = [[.own 70 2 (some ⟨b, 0, none⟩) 2 2 [v2, v2]]]
  | 10, [[.own T2 sz ao n2 c2 xs], [.ob b _]] => v = undef ∧ Ms = [[.own T2 sz ao n2 c2 xs], [rfO b (rfL 202 2 0 0 0 0 0 0 nilS (.slice ao n2 c2) nilS E0 nilS nilS 0)]]
  | _, _ => False
abbrev ckR (b : Nat) (v : List Value) : It := .own 70 2 (some ⟨b, 0, none⟩) 2 2 [v, v]
set_option maxHeartbeats 16000000 in
theorem yRep2 (so aa b wide : Int) (nums : List Int) (tx : List ByteArray) (A : Option Addr) (n c : Nat) (A2 : Option Addr) (n2 c2 : Nat) (sm ct kd : Int) (R : List Ro) (hS : SQ R 1 A n c (c32 nums)) (hb : ∀ x ∈ nums, in32 x) (hn9 : n ≤ 9223372036854775807) (hT : SQ R 1 A2 n2 c2 (cST tx)) (hn9t : n2 ≤ 9223372036854775807) (hsm : in8 sm) (ht : (bits .and .i64 so 255).tmod 9 = 2) :
    RepC R (mdL so aa b wide (.slice A n c) (.slice A2 n2 c2) sm ct kd) (.sdes [(aa, chM sm tx), (aa, chM sm tx)]) := by
  have q1 := yBlocks so aa b wide nums A n c (.slice A2 n2 c2) rfl sm ct kd R hS hb hn9
  have q2 := fun R' hT => yChunk so aa b wide tx (.slice A n c) rfl A2 n2 c2 sm ct kd R' hT hsm hn9t
  generalize bksM sm aa b nums = bl at *
  generalize chM sm tx = l at *
  refine fn_intro Try.func38 rfl Try.ntmps38 rfl (fun E => ?_)
  (repeat (first | ((first | (apply wo_v; rfl) ); (· first | (apply pv_ev; rfl) | (apply g_load; first | (apply pv_lda; rfl; (· (repeat (first | apply sel_here | apply sel_there))); (· (repeat (first | apply Cut.here0 | apply Cut.here )))) ) )) | apply wo_nil | apply wc_seq | apply wc_region | (apply wo_box1; rfl; rfl; rfl; intro bx) | (apply wo_boxa; rfl; rfl; intro bx) | (apply wo_alloc; rfl; intro bx) ))
  (refine wo_call (q1) rfl (by (repeat (first | apply sub_nil )); done) (by first | exact fun _ h => h | (intro r hr; cases hr; done) | (simp; done) | exact fun _ h => List.mem_append_left _ h | (intro r hr; simp [hr]; done)) rfl ?_; rintro v L' R' ⟨a1, c1, a3, c3, rfl, rfl, rfl⟩ H' hH RR hR; simp only [List.cons_append, List.nil_append] at hH hR; subst hH; have hR := hR.symm; subst hR)
  rename_i bm
  obtain ⟨b3, hb3⟩ : ∃ g, g = bx := ⟨_, rfl⟩
  subst hb3
  (repeat (first | ((first | (apply wo_v; rfl) ); (· first | (apply pv_ev; rfl) | (apply pv_fld; rfl) | (apply g_load; first | (apply pv_ld; rfl; (· (repeat (first | apply sel_here | apply sel_there))); rfl) ) | (apply g_bin; first | (apply pv_rem; rfl; rfl; omega) | (apply pv_rem_t; rfl; rfl; omega) | (apply pv_and; rfl; rfl) ) )) | apply wo_nil | apply wc_seq | apply wc_region ))
  rw [ht]
  (repeat (first | ((first | (apply wo_v; rfl) ); (· first | (apply pv_ev; rfl) | (apply g_load; first | (apply pv_lda; rfl; (· (repeat (first | apply sel_here | apply sel_there))); (· (repeat (first | apply Cut.here0 | apply Cut.here )))) ) )) | apply wo_nil | apply wc_seq | apply wc_region | apply wc_block | (apply wc_true; rfl) | (apply wc_false; rfl) ))
  (refine wo_call (q2 _ hT) rfl (by (repeat (first | apply sub_nil )); done) (by first | exact fun _ h => h | (intro r hr; cases hr; done) | (simp; done) | exact fun _ h => List.mem_append_left _ h | (intro r hr; simp [hr]; done)) rfl ?_; rintro v L' R' ⟨i1, d1, i2, d2, rfl, rfl, rfl⟩ H' hH RR hR; simp only [List.cons_append, List.nil_append] at hH hR; subst hH; have hR := hR.symm; subst hR)
  refine wo_still (ao := i1) (n := l.length) (c := d1) (sz := 2) (by (repeat (first | apply sel_here )); done) (fun R1 hS1 => ?_)
  refine wo_still (ao := i2) (n := l.length) (c := d2) (sz := 2) (by (repeat (first | apply sel_here )); done) (fun R2 hS2 => ?_)
  (repeat (first | ((first | (apply wo_v; rfl) ); (· first | (apply pv_ev; rfl) )) | apply wo_nil | apply wc_seq | (apply wo_alloc; rfl; intro bx) | (apply wo_sta; rfl; rfl; rfl; rfl; (· (repeat (first | apply sel_here | apply sel_there))); (· (repeat (first | apply LayAt.nil | apply LayAt.here ))); rfl) ))
  rename_i b6
  obtain ⟨b7, hb7⟩ : ∃ g, g = bx := ⟨_, rfl⟩
  subst hb7
  (refine wc_regM [0, 1, 2] (aslL [(2, [1]), (7, [2]), (10, [2, 0])]) (tblR2 [.int .u32 aa, .slice i1 l.length d1] [.int .u32 aa, .slice i2 l.length d2]) ([cA b6 aa (.slice i1 l.length d1), cB b7 aa (.slice i2 l.length d2), mdB bm so aa b wide (.slice A n c) (.slice A2 n2 c2) sm ct kd, bkOl a1 bl.length c1 bl, rkOl a3 bl.length c3 bl]) (fm [(0, [rfO b3 rfZ]), (1, []), (2, [])]) mixed (by kernel_rfl) (by kernel_rfl) (by decide) (aslL_ok (by decide)) (by (repeat (first | (apply prm_cons; (· (repeat (first | apply sel_here | apply sel_there)))) | apply List.Perm.nil )); done) ?_; (repeat (first | (apply HdM.val; rfl; rfl; (· first | apply gok_none ); (· first | (apply pv_ev; rfl) | (apply g_load; first | (apply pv_lda; rfl; (· (repeat (first | apply sel_here ))); (· (repeat (first | apply Cut.here0 | apply Cut.here )))) ) )) )))
  (refine hm_eff (cs := [1]) rfl (by decide) rfl rfl (by first | exact gok_none | exact gok_run rfl rfl) (fun a ha => outc_mono (outc_bsl (by (repeat (first | apply Rws'.nil | (apply Rws'.agg; rfl; rfl; rfl))); done) rfl rfl rfl a ha) (fun v M h => Exists.elim h fun b h => ⟨[M], Exists.intro b (And.intro h.1 (congrArg (fun x => [x]) h.2)), rfl, by simp⟩)) (⟨_, _, Exists.intro 0 (And.intro rfl rfl), rfl⟩) ?_; rintro v Ms ⟨b8, rfl, rfl⟩ _; simp only [setls, setl, reduceIte, Nat.reduceEqDiff]; (repeat (first | (apply HdM.val; rfl; rfl; (· first | apply gok_none ); (· first | (apply pv_ev; rfl) | (apply g_load; first | (apply pv_lda; rfl; (· (repeat (first | apply sel_here | apply sel_there))); (· (repeat (first | apply Cut.here0 | apply Cut.here )))) ) | (apply g_build; apply pv_build; (· (repeat (first | apply Bld.nil | (apply Bld.one; rfl; rfl; (· (repeat (first | apply SetAt.here )))) )))) | (apply pv_mki; rfl; infer_instance) )) )))
  (refine hm_eff (cs := [2]) rfl (by decide) rfl rfl (by first | exact gok_none | exact gok_run rfl rfl) (fun a ha => outc_mono (outc_bsl (by (repeat (first | apply Rws'.nil | (apply Rws'.agg; rfl; rfl; rfl))); done) rfl rfl rfl a ha) (fun v M h => Exists.elim h fun b h => ⟨[M], Exists.intro b (And.intro h.1 (congrArg (fun x => [x]) h.2)), rfl, by simp⟩)) (⟨_, _, Exists.intro 0 (And.intro rfl rfl), rfl⟩) ?_; rintro v Ms ⟨b9, rfl, rfl⟩ _; simp only [setls, setl, reduceIte, Nat.reduceEqDiff]; (repeat (first | (apply HdM.val; rfl; rfl; (· first | apply gok_none ); (· first | (apply pv_ev; rfl) | (apply g_build; apply pv_build; (· (repeat (first | apply Bld.nil | (apply Bld.one; rfl; rfl; (· (repeat (first | apply SetAt.here | apply SetAt.there)))) )))) )) )))
  (refine hm_eff (cs := [2, 0]) rfl (by decide) rfl rfl (by first | exact gok_none | exact gok_run rfl rfl) (fun a ha => outc_mono (outc_frA (X := [ckR b9 [.int .u32 aa, .slice i2 l.length d2]]) (L := [rfO b3 rfZ]) (outc_sta rfl rfl rfl rfl (by (repeat (first | apply LayAt.nil | apply LayAt.here )); done)) a ha) (fun v M h => by obtain ⟨M0, ⟨h1, h2⟩, h3⟩ := h; exact ⟨[[_], [_]], ⟨h1, rfl⟩, rfl, by rw [h3, h2]; rfl⟩)) (⟨_, _, And.intro rfl rfl, rfl⟩) ?_; rintro v Ms ⟨rfl, rfl⟩ _; simp only [setls, setl, reduceIte, Nat.reduceEqDiff]; (repeat (first | fail )))
  (refine HdM.nil ?_; intro H hH; simp only [Hp, fm, look, setl, List.flatMap_cons, List.flatMap_nil, reduceIte, Nat.reduceEqDiff, Option.getD_some, List.append_nil, List.cons_append, List.nil_append] at hH; subst hH)
  refine wc_still (ao := some ⟨b8, 0, none⟩) (n := 2) (c := 2) (sz := 2) (by (repeat (first | apply sel_here | apply sel_there)); done) (fun R3 hS3 => ?_)
  refine wc_still (ao := some ⟨b9, 0, none⟩) (n := 2) (c := 2) (sz := 2) (by (repeat (first | apply sel_here | apply sel_there)); done) (fun R4 hS4 => ?_)
  have g1 := hS1.sq.mono (R' := R4 ++ (R3 ++ (R2 ++ (R1 ++ R)))) (fun r hr => List.mem_append_right _ (List.mem_append_right _ (List.mem_append_right _ hr)))
  have g2 := hS2.sq.mono (R' := R4 ++ (R3 ++ (R2 ++ (R1 ++ R)))) (fun r hr => List.mem_append_right _ (List.mem_append_right _ hr))
  have g3 := hS3.sq.mono (R' := R4 ++ (R3 ++ (R2 ++ (R1 ++ R)))) (fun r hr => List.mem_append_right _ hr)
  have v1 := ((ChsV.nil _).snoc (x := (aa, l)) ⟨i1, _, d1, rfl, g1⟩).snoc (x := (aa, l)) ⟨i1, _, d1, rfl, g1⟩
  have v2 := ((ChsV.nil _).snoc (x := (aa, l)) ⟨i2, _, d2, rfl, g2⟩).snoc (x := (aa, l)) ⟨i2, _, d2, rfl, g2⟩
  (repeat (first | apply wc_ret ))
  exact retv rfl (by (repeat (first | apply RV.nil | (apply RV.tmp; rfl) | (apply RV.agg; rfl; (· (repeat (first | apply sel_here | apply sel_there))); infer_instance; (· (repeat (first | apply Cut.here0 | apply Cut.here )))) )); done) (⟨_, _, rfl, ⟨_, _, _, _, rfl, g3, v1⟩, ⟨_, _, _, _, rfl, hS4.sq, v2⟩, rfl⟩) (by (repeat (first | apply sub_nil )); done) (by first | exact fun _ h => h | (intro r hr; cases hr; done) | (simp; done) | exact fun _ h => List.mem_append_left _ h | (intro r hr; simp [hr]; done))
def tblR3 (vs : Value) (tx : ByteArray) (row : List Value) : Nat → List (List It) → Value → List (List It) → Prop := fun k Ls v Ms => match k, Ls with
  | 1, _ => v = vs ∧ Ms = [[]]
  | 3, _ => v = .string tx ∧ Ms = [[]]
  | 7, _ => v = vs ∧ Ms = [[]]
  | 11, _ => v = vs ∧ Ms = [[]]
  | 13, _ => v = .string tx ∧ Ms = [[]]
  | 16, [[.ob b _]] => v = undef ∧ Ms = [[rfO b row]]
  | _, _ => False
set_option maxHeartbeats 16000000 in
theorem yRep3 (so aa b wide : Int) (nums : List Int) (tx : List ByteArray) (A : Option Addr) (n c : Nat) (A2 : Option Addr) (n2 c2 : Nat) (sm ct kd : Int) (R : List Ro) (hS : SQ R 1 A n c (c32 nums)) (hb : ∀ x ∈ nums, in32 x) (hn9 : n ≤ 9223372036854775807) (hc : n ≤ c) (hS40 : SQ R 1 A (min n 40) c (c32 (nums.take 40))) (hT : SQ R 1 A2 n2 c2 (cST tx)) (h0 : (bits .and .i64 so 255).tmod 9 ≠ 0) (h1 : (bits .and .i64 so 255).tmod 9 ≠ 1) (h2 : (bits .and .i64 so 255).tmod 9 ≠ 2) :
    RepC R (mdL so aa b wide (.slice A n c) (.slice A2 n2 c2) sm ct kd) (.bye (nums.take 40) (fsM tx 257)) := by
  have q1 := yBlocks so aa b wide nums A n c (.slice A2 n2 c2) rfl sm ct kd R hS hb hn9
  have q2 := ySsrcs so aa b wide nums A n c (.slice A2 n2 c2) rfl sm ct kd R hS hc hn9
  have q3 := yFirst so aa b wide tx (.slice A n c) rfl A2 n2 c2 sm ct kd 257 R hT
  have hk : min n 40 = (nums.take 40).length := by rw [← hS40.len, c32_len]
  have hk2 : (nums.take 40).length ≤ 40 := by rw [List.length_take]; omega
  rw [hk] at q2 hS40
  generalize bksM sm aa b nums = bl at *
  generalize fsM tx 257 = tf at *
  generalize nums.take 40 = ss at *
  refine fn_intro Try.func38 rfl Try.ntmps38 rfl (fun E => ?_)
  (repeat (first | ((first | (apply wo_v; rfl) ); (· first | (apply pv_ev; rfl) | (apply g_load; first | (apply pv_lda; rfl; (· (repeat (first | apply sel_here | apply sel_there))); (· (repeat (first | apply Cut.here0 | apply Cut.here )))) ) )) | apply wo_nil | apply wc_seq | apply wc_region | (apply wo_box1; rfl; rfl; rfl; intro bx) | (apply wo_boxa; rfl; rfl; intro bx) | (apply wo_alloc; rfl; intro bx) ))
  (refine wo_call (q1) rfl (by (repeat (first | apply sub_nil )); done) (by first | exact fun _ h => h | (intro r hr; cases hr; done) | (simp; done) | exact fun _ h => List.mem_append_left _ h | (intro r hr; simp [hr]; done)) rfl ?_; rintro v L' R' ⟨a1, c1, a3, c3, rfl, rfl, rfl⟩ H' hH RR hR; simp only [List.cons_append, List.nil_append] at hH hR; subst hH; have hR := hR.symm; subst hR)
  rename_i bm
  obtain ⟨b3, hb3⟩ : ∃ g, g = bx := ⟨_, rfl⟩
  subst hb3
  (repeat (first | ((first | (apply wo_v; rfl) ); (· first | (apply pv_ev; rfl) | (apply pv_fld; rfl) | (apply g_load; first | (apply pv_ld; rfl; (· (repeat (first | apply sel_here | apply sel_there))); rfl) ) | (apply g_bin; first | (apply pv_rem; rfl; rfl; omega) | (apply pv_rem_t; rfl; rfl; omega) | (apply pv_and; rfl; rfl) ) )) | apply wo_nil | apply wc_seq | apply wc_region | apply wc_block | apply wc_skip | (apply wc_true; rfl) | (apply wc_false; rfl) | (apply a_dec_t; rfl; (· first | assumption | omega)) | (apply a_dec_f; rfl; (· first | assumption | omega)) ))
  (refine wc_regM [0, 1] (aslL [(1, [1]), (3, [1]), (7, [1]), (11, [1]), (13, [1]), (16, [0])]) (tblR3 (.slice A ss.length c) tf (rfL 203 ss.length 0 0 0 0 0 0 nilS nilS (.slice A ss.length c) tf nilS nilS 0)) ([mdB bm so aa b wide (.slice A n c) (.slice A2 n2 c2) sm ct kd, bkOl a1 bl.length c1 bl, rkOl a3 bl.length c3 bl]) (fm [(0, [rfO b3 rfZ]), (1, [])]) mixed (by kernel_rfl) (by kernel_rfl) (by decide) (aslL_ok (by decide)) (by (repeat (first | (apply prm_cons; (· (repeat (first | apply sel_here | apply sel_there)))) | apply List.Perm.nil )); done) ?_; (repeat (first | (apply HdM.val; rfl; rfl; (· first | apply gok_none ); (· first | (apply pv_ev; rfl) | (apply g_load; first | (apply pv_lda; rfl; (· (repeat (first | apply sel_here ))); (· (repeat (first | apply Cut.here0 | apply Cut.here )))) ) )) )))
  (refine hm_eff (cs := [1]) rfl (by decide) rfl rfl (by first | exact gok_none | exact gok_run rfl rfl) (fun a ha => outc_mono (outc_call (F1 := _) (T := fun v M => v = .slice A ss.length c ∧ M = []) (q2) rfl (by (repeat (first | apply sub_nil )); done) (by first | exact fun _ h => h | (intro r hr; cases hr; done) | (simp; done) | exact fun _ h => List.mem_append_left _ h | (intro r hr; simp [hr]; done)) (by rintro v L' R' ⟨rfl, rfl, _⟩; exact ⟨_, ⟨rfl, rfl⟩, (by (repeat (first | (apply prm_cons; (· (repeat (first | apply sel_here )))) | apply List.Perm.nil )); done)⟩) a ha) (fun v M h => ⟨[[]], And.intro h.1 rfl, rfl, h.2⟩)) ⟨_, _, And.intro rfl rfl, rfl⟩ ?_; rintro v Ms ⟨rfl, rfl⟩ _; simp only [setls, setl, reduceIte, Nat.reduceEqDiff]; (repeat (first | (apply HdM.val; rfl; rfl; (· first | apply gok_none ); (· first | (apply pv_ev; rfl) | (apply g_load; first | (apply pv_lda; rfl; (· (repeat (first | apply sel_here ))); (· (repeat (first | apply Cut.here0 | apply Cut.here )))) ) )) )))
  (refine hm_eff (cs := [1]) rfl (by decide) rfl rfl (by first | exact gok_none | exact gok_run rfl rfl) (fun a ha => outc_mono (outc_call (F1 := _) (T := fun v M => v = .string tf ∧ M = []) (q3) rfl (by (repeat (first | apply sub_nil )); done) (by first | exact fun _ h => h | (intro r hr; cases hr; done) | (simp; done) | exact fun _ h => List.mem_append_left _ h | (intro r hr; simp [hr]; done)) (by rintro v L' R' ⟨rfl, rfl, _⟩; exact ⟨_, ⟨rfl, rfl⟩, (by (repeat (first | (apply prm_cons; (· (repeat (first | apply sel_here )))) | apply List.Perm.nil )); done)⟩) a ha) (fun v M h => ⟨[[]], And.intro h.1 rfl, rfl, h.2⟩)) ⟨_, _, And.intro rfl rfl, rfl⟩ ?_; rintro v Ms ⟨rfl, rfl⟩ _; simp only [setls, setl, reduceIte, Nat.reduceEqDiff]; (repeat (first | (apply HdM.val; rfl; rfl; (· first | apply gok_none ); (· first | (apply pv_ev; rfl) | (apply g_load; first | (apply pv_lda; rfl; (· (repeat (first | apply sel_here ))); (· (repeat (first | apply Cut.here0 | apply Cut.here )))) ) | (apply g_build; apply pv_build; (· (repeat (first | apply Bld.nil | (apply Bld.one; rfl; rfl; (· (repeat (first | apply SetAt.here | apply SetAt.there)))) )))) | (apply pv_mki; rfl; infer_instance) )) )))
  (refine hm_eff (cs := [1]) rfl (by decide) rfl rfl (by first | exact gok_none | exact gok_run rfl rfl) (fun a ha => outc_mono (outc_call (F1 := _) (T := fun v M => v = .slice A ss.length c ∧ M = []) (q2) rfl (by (repeat (first | apply sub_nil )); done) (by first | exact fun _ h => h | (intro r hr; cases hr; done) | (simp; done) | exact fun _ h => List.mem_append_left _ h | (intro r hr; simp [hr]; done)) (by rintro v L' R' ⟨rfl, rfl, _⟩; exact ⟨_, ⟨rfl, rfl⟩, (by (repeat (first | (apply prm_cons; (· (repeat (first | apply sel_here )))) | apply List.Perm.nil )); done)⟩) a ha) (fun v M h => ⟨[[]], And.intro h.1 rfl, rfl, h.2⟩)) ⟨_, _, And.intro rfl rfl, rfl⟩ ?_; rintro v Ms ⟨rfl, rfl⟩ _; simp only [setls, setl, reduceIte, Nat.reduceEqDiff]; (repeat (first | (apply HdM.val; rfl; rfl; (· first | apply gok_none ); (· first | (apply pv_ev; rfl) | (apply g_load; first | (apply pv_lda; rfl; (· (repeat (first | apply sel_here ))); (· (repeat (first | apply Cut.here0 | apply Cut.here )))) ) | (apply g_bi; first | (apply pv_len_sl; rfl) ) | (apply g_conv; first | (apply a_conv; rfl; infer_instance; infer_instance; infer_instance; omega) ) )) )))
  (refine hm_eff (cs := [1]) rfl (by decide) rfl rfl (by first | exact gok_none | exact gok_run rfl rfl) (fun a ha => outc_mono (outc_call (F1 := _) (T := fun v M => v = .slice A ss.length c ∧ M = []) (q2) rfl (by (repeat (first | apply sub_nil )); done) (by first | exact fun _ h => h | (intro r hr; cases hr; done) | (simp; done) | exact fun _ h => List.mem_append_left _ h | (intro r hr; simp [hr]; done)) (by rintro v L' R' ⟨rfl, rfl, _⟩; exact ⟨_, ⟨rfl, rfl⟩, (by (repeat (first | (apply prm_cons; (· (repeat (first | apply sel_here )))) | apply List.Perm.nil )); done)⟩) a ha) (fun v M h => ⟨[[]], And.intro h.1 rfl, rfl, h.2⟩)) ⟨_, _, And.intro rfl rfl, rfl⟩ ?_; rintro v Ms ⟨rfl, rfl⟩ _; simp only [setls, setl, reduceIte, Nat.reduceEqDiff]; (repeat (first | (apply HdM.val; rfl; rfl; (· first | apply gok_none ); (· first | (apply pv_ev; rfl) | (apply g_load; first | (apply pv_lda; rfl; (· (repeat (first | apply sel_here ))); (· (repeat (first | apply Cut.here0 | apply Cut.here )))) ) )) )))
  (refine hm_eff (cs := [1]) rfl (by decide) rfl rfl (by first | exact gok_none | exact gok_run rfl rfl) (fun a ha => outc_mono (outc_call (F1 := _) (T := fun v M => v = .string tf ∧ M = []) (q3) rfl (by (repeat (first | apply sub_nil )); done) (by first | exact fun _ h => h | (intro r hr; cases hr; done) | (simp; done) | exact fun _ h => List.mem_append_left _ h | (intro r hr; simp [hr]; done)) (by rintro v L' R' ⟨rfl, rfl, _⟩; exact ⟨_, ⟨rfl, rfl⟩, (by (repeat (first | (apply prm_cons; (· (repeat (first | apply sel_here )))) | apply List.Perm.nil )); done)⟩) a ha) (fun v M h => ⟨[[]], And.intro h.1 rfl, rfl, h.2⟩)) ⟨_, _, And.intro rfl rfl, rfl⟩ ?_; rintro v Ms ⟨rfl, rfl⟩ _; simp only [setls, setl, reduceIte, Nat.reduceEqDiff]; (repeat (first | (apply HdM.val; rfl; rfl; (· first | apply gok_none ); (· first | (apply pv_ev; rfl) | (apply g_build; apply pv_build; (· (repeat (first | apply Bld.nil | (apply Bld.one; rfl; rfl; (· (repeat (first | apply SetAt.here | apply SetAt.there)))) )))) )) )))
  (refine hm_eff (cs := [0]) rfl (by decide) rfl rfl (by first | exact gok_none | exact gok_run rfl rfl) (fun a ha => outc_mono (outc_sta rfl rfl rfl rfl (by (repeat (first | apply LayAt.nil | apply LayAt.here )); done) a ha) (fun v M h => ⟨[M], And.intro h.1 (congrArg (fun x => [x]) h.2), rfl, by simp⟩)) (⟨_, _, And.intro rfl rfl, rfl⟩) ?_; rintro v Ms ⟨rfl, rfl⟩ _; simp only [setls, setl, reduceIte, Nat.reduceEqDiff]; (repeat (first | fail )))
  (refine HdM.nil ?_; intro H hH; simp only [Hp, fm, look, setl, List.flatMap_cons, List.flatMap_nil, reduceIte, Nat.reduceEqDiff, Option.getD_some, List.append_nil, List.cons_append, List.nil_append] at hH; subst hH)
  (repeat (first | apply wc_ret ))
  exact retv rfl (by (repeat (first | apply RV.nil | (apply RV.tmp; rfl) | (apply RV.agg; rfl; (· (repeat (first | apply sel_here | apply sel_there))); infer_instance; (· (repeat (first | apply Cut.here0 | apply Cut.here )))) )); done) (⟨_, _, rfl, ⟨_, _, _, rfl, hS40⟩, ⟨_, _, _, rfl, hS40⟩, rfl⟩) (by (repeat (first | apply sub_nil )); done) (by first | exact fun _ h => h | (intro r hr; cases hr; done) | (simp; done) | exact fun _ h => List.mem_append_left _ h | (intro r hr; simp [hr]; done))
end Go.Proofs.Yteaccbbmphcmnaa

/-
  Layer 5's statements: made packets: Make.
-/
namespace Go.Proofs.Yteaccbbmphcmnaa
set_option linter.unusedSimpArgs false
set_option linter.unusedVariables false
open Go.RowKit
attribute [local irreducible] Pv WO WC Fn
set_option maxRecDepth 100000
attribute [local irreducible] ByteArray.extract

abbrev MkC (R : List Ro) (row : List Value) (p : Pkt) : Prop := Fn Try.prog 15 #[.agg row.toArray] [] R (PkR R p)
def tblM1 (row : List Value) : Nat → List (List It) → Value → List (List It) → Prop := fun k Ls v Ms => match Ls with
  | [[.ob b _]] => v = undef ∧ Ms = [[rfO b row]]
  | _ => False
def tblM2 (vs : Value) (row : List Value) : Nat → List (List It) → Value → List (List It) → Prop := fun k Ls v Ms => match k, Ls with
  | 14, [[.ob b _]] => v = undef ∧ Ms = [[rfO b row]]
  | _, _ => v = vs ∧ Ms = [[]]
def tblM3 (vs : Value) (row : List Value) : Nat → List (List It) → Value → List (List It) → Prop := fun k Ls v Ms => match k, Ls with
  | 16, [[.ob b _]] => v = undef ∧ Ms = [[rfO b row]]
  | _, _ => v = vs ∧ Ms = [[]]
theorem yMk5 (so aa b wide : Int) (vn vt : Value) (hvn : vn.oneCell' = true) (hvt : vt.oneCell' = true) (sm ct kd : Int) (R : List Ro) (ht : (bits .and .i64 so 255).tmod 9 = 5) : MkC R (mdL so aa b wide vn vt sm ct kd) (.pli aa b) := by
  refine fn_intro Try.func15 rfl Try.ntmps15 rfl (fun E => ?_)
  (repeat (first | ((first | (apply wo_v; rfl) ); (· first | (apply pv_ev; rfl) | (apply pv_fld; rfl) | (apply g_load; first | (apply pv_ld; rfl; (· (repeat (first | apply sel_here | apply sel_there))); rfl) ) | (apply g_bin; first | (apply pv_rem; rfl; rfl; omega) | (apply pv_rem_t; rfl; rfl; omega) | (apply pv_and; rfl; rfl) ) )) | apply wo_nil | apply wc_seq | apply wc_region | (apply wo_box1; rfl; rfl; rfl; intro bx) | (apply wo_boxa; rfl; rfl; intro bx) | (apply wo_alloc; rfl; intro bx) ))
  rename_i bm
  obtain ⟨b3, hb3⟩ : ∃ g, g = bx := ⟨_, rfl⟩
  subst hb3
  rw [ht]
  (repeat (first | ((first | (apply wo_v; rfl) ); (· first | (apply pv_ev; rfl) )) | apply wo_nil | apply wc_seq | apply wc_region | apply wc_block | (apply wc_true; rfl) | (apply wc_false; rfl) ))
  (refine wc_regM [0] (aslL [(12, [0])]) (tblM1 (rfL 206 1 aa b 0 0 0 0 nilS nilS nilS E0 nilS nilS 0)) ([mdB bm so aa b wide vn vt sm ct kd]) (fm [(0, [rfO b3 rfZ])]) mixed (by kernel_rfl) (by kernel_rfl) (by decide) (aslL_ok (by decide)) (by (repeat (first | (apply prm_cons; (· (repeat (first | apply sel_here | apply sel_there)))) | apply List.Perm.nil )); done) ?_; (repeat (first | (apply HdM.val; rfl; rfl; (· first | apply gok_none ); (· first | (apply pv_ev; rfl) | (apply pv_fld; rfl) | (apply g_load; first | (apply pv_ld; rfl; (· (repeat (first | apply sel_here ))); rfl) ) | (apply g_build; apply pv_build; (· (repeat (first | apply Bld.nil | (apply Bld.one; rfl; rfl; (· (repeat (first | apply SetAt.here | apply SetAt.there)))) )))) | (apply pv_mki; rfl; infer_instance) )) )))
  (refine hm_eff (cs := [0]) rfl (by decide) rfl rfl (by first | exact gok_none | exact gok_run rfl rfl) (fun a ha => outc_mono (outc_sta rfl rfl rfl rfl (by (repeat (first | apply LayAt.nil | apply LayAt.here )); done) a ha) (fun v M h => ⟨[M], And.intro h.1 (congrArg (fun x => [x]) h.2), rfl, by simp⟩)) (⟨_, _, And.intro rfl rfl, rfl⟩) ?_; rintro v Ms ⟨rfl, rfl⟩ _; simp only [setls, setl, reduceIte, Nat.reduceEqDiff]; (repeat (first | fail )))
  (refine HdM.nil ?_; intro H hH; simp only [Hp, fm, look, setl, List.flatMap_cons, List.flatMap_nil, reduceIte, Nat.reduceEqDiff, Option.getD_some, List.append_nil, List.cons_append, List.nil_append] at hH; subst hH)
  (repeat (first | apply wc_ret ))
  exact retv rfl (by (repeat (first | apply RV.nil | (apply RV.tmp; rfl) | (apply RV.agg; rfl; (· (repeat (first | apply sel_here | apply sel_there))); infer_instance; (· (repeat (first | apply Cut.here0 | apply Cut.here )))) )); done) (⟨_, _, rfl, rfl, rfl, rfl⟩) (by (repeat (first | apply sub_nil )); done) (by first | exact fun _ h => h | (intro r hr; cases hr; done) | (simp; done) | exact fun _ h => List.mem_append_left _ h | (intro r hr; simp [hr]; done))
def rtM5 (wide sm : Int) : Int := wide.fdiv (2 ^ (min (bits .and .u8 sm 63).toNat IntKind.u64.bits))
set_option maxHeartbeats 8000000 in
theorem yMk7 (so aa b wide : Int) (nums : List Int) (A : Option Addr) (n c : Nat) (vt : Value) (hvt : vt.oneCell' = true) (sm ct kd : Int) (R : List Ro) (hS : SQ R 1 A n c (c32 nums)) (hn9 : n ≤ 9223372036854775807) (hc : n ≤ c) (hS40 : SQ R 1 A (min n 40) c (c32 (nums.take 40))) (hsm : 0 ≤ sm ∧ sm ≤ 255) (ht : (bits .and .i64 so 255).tmod 9 = 7) :
    MkC R (mdL so aa b wide (.slice A n c) vt sm ct kd) (.remb aa (rtM5 wide sm) (nums.take 40)) := by
  have q2 := ySsrcs so aa b wide nums A n c vt hvt sm ct kd R hS hc hn9
  have hk : min n 40 = (nums.take 40).length := by rw [← hS40.len, c32_len]
  rw [hk] at q2 hS40
  have x63 : 0 ≤ bits .and .u8 sm 63 ∧ bits .and .u8 sm 63 ≤ 63 := u8_all (p := fun a => 0 ≤ bits .and .u8 a 63 ∧ bits .and .u8 a 63 ≤ 63) (by decide +kernel) hsm
  obtain ⟨rt, hrt⟩ : ∃ rt, rtM5 wide sm = rt := ⟨_, rfl⟩
  rw [hrt]
  unfold rtM5 at hrt
  generalize nums.take 40 = ss at *
  refine fn_intro Try.func15 rfl Try.ntmps15 rfl (fun E => ?_)
  (repeat (first | ((first | (apply wo_v; rfl) ); (· first | (apply pv_ev; rfl) | (apply pv_fld; rfl) | (apply g_load; first | (apply pv_ld; rfl; (· (repeat (first | apply sel_here | apply sel_there))); rfl) ) | (apply g_bin; first | (apply pv_rem; rfl; rfl; omega) | (apply pv_rem_t; rfl; rfl; omega) | (apply pv_and; rfl; rfl) ) )) | apply wo_nil | apply wc_seq | apply wc_region | (apply wo_box1; rfl; rfl; rfl; intro bx) | (apply wo_boxa; rfl; rfl; intro bx) | (apply wo_alloc; rfl; intro bx) ))
  rename_i bm
  obtain ⟨b3, hb3⟩ : ∃ g, g = bx := ⟨_, rfl⟩
  subst hb3
  rw [ht]
  (repeat (first | ((first | (apply wo_v; rfl) ); (· first | (apply pv_ev; rfl) | (apply pv_fld; rfl) | (apply g_load; first | (apply pv_ld; rfl; (· (repeat (first | apply sel_here | apply sel_there))); rfl) ) | (apply g_bin; first | (apply pv_and; rfl; rfl) | (apply a_shr; rfl; rfl; rfl; omega; rfl) | (apply pv_shr; rfl; rfl; omega) ) )) | apply wo_nil | apply wc_seq | apply wc_region | apply wc_block | (apply wc_true; rfl) | (apply wc_false; rfl) ))
  rw [hrt]
  (refine wc_regM [0, 1] (aslL [(4, [1]), (11, [1]), (14, [0])]) (tblM2 (.slice A ss.length c) (rfL 206 15 aa 0 0 0 0 0 nilS nilS (.slice A ss.length c) E0 nilS nilS rt)) ([mdB bm so aa b wide (.slice A n c) vt sm ct kd]) (fm [(0, [rfO b3 rfZ]), (1, [])]) mixed (by kernel_rfl) (by kernel_rfl) (by decide) (aslL_ok (by decide)) (by (repeat (first | (apply prm_cons; (· (repeat (first | apply sel_here | apply sel_there)))) | apply List.Perm.nil )); done) ?_; (repeat (first | (apply HdM.val; rfl; rfl; (· first | apply gok_none ); (· first | (apply pv_ev; rfl) | (apply pv_fld; rfl) | (apply g_load; first | (apply pv_ld; rfl; (· (repeat (first | apply sel_here ))); rfl) | (apply pv_lda; rfl; (· (repeat (first | apply sel_here ))); (· (repeat (first | apply Cut.here0 | apply Cut.here )))) ) )) )))
  (refine hm_eff (cs := [1]) rfl (by decide) rfl rfl (by first | exact gok_none | exact gok_run rfl rfl) (fun a ha => outc_mono (outc_call (F1 := _) (T := fun v M => v = .slice A ss.length c ∧ M = []) (q2) rfl (by (repeat (first | apply sub_nil )); done) (by first | exact fun _ h => h | (intro r hr; cases hr; done) | (simp; done) | exact fun _ h => List.mem_append_left _ h | (intro r hr; simp [hr]; done)) (by rintro v L' R' ⟨rfl, rfl, _⟩; exact ⟨_, ⟨rfl, rfl⟩, (by (repeat (first | (apply prm_cons; (· (repeat (first | apply sel_here )))) | apply List.Perm.nil )); done)⟩) a ha) (fun v M h => ⟨[[]], And.intro h.1 rfl, rfl, h.2⟩)) ⟨_, _, And.intro rfl rfl, rfl⟩ ?_; rintro v Ms ⟨rfl, rfl⟩ _; simp only [setls, setl, reduceIte, Nat.reduceEqDiff]; (repeat (first | (apply HdM.val; rfl; rfl; (· first | apply gok_none ); (· first | (apply pv_ev; rfl) | (apply pv_fld; rfl) | (apply g_load; first | (apply pv_ld; rfl; (· (repeat (first | apply sel_here ))); rfl) | (apply pv_lda; rfl; (· (repeat (first | apply sel_here ))); (· (repeat (first | apply Cut.here0 | apply Cut.here )))) ) | (apply g_build; apply pv_build; (· (repeat (first | apply Bld.nil | (apply Bld.one; rfl; rfl; (· (repeat (first | apply SetAt.here | apply SetAt.there)))) )))) | (apply pv_mki; rfl; infer_instance) )) )))
  (refine hm_eff (cs := [1]) rfl (by decide) rfl rfl (by first | exact gok_none | exact gok_run rfl rfl) (fun a ha => outc_mono (outc_call (F1 := _) (T := fun v M => v = .slice A ss.length c ∧ M = []) (q2) rfl (by (repeat (first | apply sub_nil )); done) (by first | exact fun _ h => h | (intro r hr; cases hr; done) | (simp; done) | exact fun _ h => List.mem_append_left _ h | (intro r hr; simp [hr]; done)) (by rintro v L' R' ⟨rfl, rfl, _⟩; exact ⟨_, ⟨rfl, rfl⟩, (by (repeat (first | (apply prm_cons; (· (repeat (first | apply sel_here )))) | apply List.Perm.nil )); done)⟩) a ha) (fun v M h => ⟨[[]], And.intro h.1 rfl, rfl, h.2⟩)) ⟨_, _, And.intro rfl rfl, rfl⟩ ?_; rintro v Ms ⟨rfl, rfl⟩ _; simp only [setls, setl, reduceIte, Nat.reduceEqDiff]; (repeat (first | (apply HdM.val; rfl; rfl; (· first | apply gok_none ); (· first | (apply pv_ev; rfl) | (apply g_build; apply pv_build; (· (repeat (first | apply Bld.nil | (apply Bld.one; rfl; rfl; (· (repeat (first | apply SetAt.here | apply SetAt.there)))) )))) )) )))
  (refine hm_eff (cs := [0]) rfl (by decide) rfl rfl (by first | exact gok_none | exact gok_run rfl rfl) (fun a ha => outc_mono (outc_sta rfl rfl rfl rfl (by (repeat (first | apply LayAt.nil | apply LayAt.here )); done) a ha) (fun v M h => ⟨[M], And.intro h.1 (congrArg (fun x => [x]) h.2), rfl, by simp⟩)) (⟨_, _, And.intro rfl rfl, rfl⟩) ?_; rintro v Ms ⟨rfl, rfl⟩ _; simp only [setls, setl, reduceIte, Nat.reduceEqDiff]; (repeat (first | fail )))
  (refine HdM.nil ?_; intro H hH; simp only [Hp, fm, look, setl, List.flatMap_cons, List.flatMap_nil, reduceIte, Nat.reduceEqDiff, Option.getD_some, List.append_nil, List.cons_append, List.nil_append] at hH; subst hH)
  (repeat (first | apply wc_ret ))
  exact retv rfl (by (repeat (first | apply RV.nil | (apply RV.tmp; rfl) | (apply RV.agg; rfl; (· (repeat (first | apply sel_here | apply sel_there))); infer_instance; (· (repeat (first | apply Cut.here0 | apply Cut.here )))) )); done) (⟨_, _, rfl, ⟨_, _, _, rfl, hS40⟩, ⟨_, _, _, rfl, hS40⟩, rfl⟩) (by (repeat (first | apply sub_nil )); done) (by first | exact fun _ h => h | (intro r hr; cases hr; done) | (simp; done) | exact fun _ h => List.mem_append_left _ h | (intro r hr; simp [hr]; done))
set_option maxHeartbeats 8000000 in
theorem yMk8 (so aa b wide : Int) (tx : List ByteArray) (vn : Value) (hvn : vn.oneCell' = true) (A2 : Option Addr) (n2 c2 : Nat) (sm ct kd : Int) (R : List Ro) (hT : SQ R 1 A2 n2 c2 (cST tx)) (ht : (bits .and .i64 so 255).tmod 9 = 8) :
    MkC R (mdL so aa b wide vn (.slice A2 n2 c2) sm ct kd) (.other kd ct (fsM tx 60)) := by
  have q3 := yFirst so aa b wide tx vn hvn A2 n2 c2 sm ct kd 60 R hT
  generalize fsM tx 60 = tf at *
  refine fn_intro Try.func15 rfl Try.ntmps15 rfl (fun E => ?_)
  (repeat (first | ((first | (apply wo_v; rfl) ); (· first | (apply pv_ev; rfl) | (apply pv_fld; rfl) | (apply g_load; first | (apply pv_ld; rfl; (· (repeat (first | apply sel_here | apply sel_there))); rfl) ) | (apply g_bin; first | (apply pv_rem; rfl; rfl; omega) | (apply pv_rem_t; rfl; rfl; omega) | (apply pv_and; rfl; rfl) ) )) | apply wo_nil | apply wc_seq | apply wc_region | (apply wo_box1; rfl; rfl; rfl; intro bx) | (apply wo_boxa; rfl; rfl; intro bx) | (apply wo_alloc; rfl; intro bx) ))
  rename_i bm
  obtain ⟨b3, hb3⟩ : ∃ g, g = bx := ⟨_, rfl⟩
  subst hb3
  rw [ht]
  (repeat (first | ((first | (apply wo_v; rfl) ); (· first | (apply pv_ev; rfl) )) | apply wo_nil | apply wc_seq | apply wc_region | apply wc_block | (apply wc_true; rfl) | (apply wc_false; rfl) ))
  (refine wc_regM [0, 1] (aslL [(5, [1]), (13, [1]), (16, [0])]) (tblM3 (.string tf) (rfL kd ct 0 0 0 0 0 0 nilS nilS nilS tf nilS nilS 0)) ([mdB bm so aa b wide vn (.slice A2 n2 c2) sm ct kd]) (fm [(0, [rfO b3 rfZ]), (1, [])]) mixed (by kernel_rfl) (by kernel_rfl) (by decide) (aslL_ok (by decide)) (by (repeat (first | (apply prm_cons; (· (repeat (first | apply sel_here | apply sel_there)))) | apply List.Perm.nil )); done) ?_; (repeat (first | (apply HdM.val; rfl; rfl; (· first | apply gok_none ); (· first | (apply pv_ev; rfl) | (apply pv_fld; rfl) | (apply g_load; first | (apply pv_ld; rfl; (· (repeat (first | apply sel_here ))); rfl) | (apply pv_lda; rfl; (· (repeat (first | apply sel_here ))); (· (repeat (first | apply Cut.here0 | apply Cut.here )))) ) )) )))
  (refine hm_eff (cs := [1]) rfl (by decide) rfl rfl (by first | exact gok_none | exact gok_run rfl rfl) (fun a ha => outc_mono (outc_call (F1 := _) (T := fun v M => v = .string tf ∧ M = []) (q3) rfl (by (repeat (first | apply sub_nil )); done) (by first | exact fun _ h => h | (intro r hr; cases hr; done) | (simp; done) | exact fun _ h => List.mem_append_left _ h | (intro r hr; simp [hr]; done)) (by rintro v L' R' ⟨rfl, rfl, _⟩; exact ⟨_, ⟨rfl, rfl⟩, (by (repeat (first | (apply prm_cons; (· (repeat (first | apply sel_here )))) | apply List.Perm.nil )); done)⟩) a ha) (fun v M h => ⟨[[]], And.intro h.1 rfl, rfl, h.2⟩)) ⟨_, _, And.intro rfl rfl, rfl⟩ ?_; rintro v Ms ⟨rfl, rfl⟩ _; simp only [setls, setl, reduceIte, Nat.reduceEqDiff]; (repeat (first | (apply HdM.val; rfl; rfl; (· first | apply gok_none ); (· first | (apply pv_ev; rfl) | (apply pv_fld; rfl) | (apply g_load; first | (apply pv_ld; rfl; (· (repeat (first | apply sel_here ))); rfl) | (apply pv_lda; rfl; (· (repeat (first | apply sel_here ))); (· (repeat (first | apply Cut.here0 | apply Cut.here )))) ) | (apply g_build; apply pv_build; (· (repeat (first | apply Bld.nil | (apply Bld.one; rfl; rfl; (· (repeat (first | apply SetAt.here | apply SetAt.there)))) )))) | (apply pv_mki; rfl; infer_instance) )) )))
  (refine hm_eff (cs := [1]) rfl (by decide) rfl rfl (by first | exact gok_none | exact gok_run rfl rfl) (fun a ha => outc_mono (outc_call (F1 := _) (T := fun v M => v = .string tf ∧ M = []) (q3) rfl (by (repeat (first | apply sub_nil )); done) (by first | exact fun _ h => h | (intro r hr; cases hr; done) | (simp; done) | exact fun _ h => List.mem_append_left _ h | (intro r hr; simp [hr]; done)) (by rintro v L' R' ⟨rfl, rfl, _⟩; exact ⟨_, ⟨rfl, rfl⟩, (by (repeat (first | (apply prm_cons; (· (repeat (first | apply sel_here )))) | apply List.Perm.nil )); done)⟩) a ha) (fun v M h => ⟨[[]], And.intro h.1 rfl, rfl, h.2⟩)) ⟨_, _, And.intro rfl rfl, rfl⟩ ?_; rintro v Ms ⟨rfl, rfl⟩ _; simp only [setls, setl, reduceIte, Nat.reduceEqDiff]; (repeat (first | (apply HdM.val; rfl; rfl; (· first | apply gok_none ); (· first | (apply pv_ev; rfl) | (apply g_build; apply pv_build; (· (repeat (first | apply Bld.nil | (apply Bld.one; rfl; rfl; (· (repeat (first | apply SetAt.here | apply SetAt.there)))) )))) )) )))
  (refine hm_eff (cs := [0]) rfl (by decide) rfl rfl (by first | exact gok_none | exact gok_run rfl rfl) (fun a ha => outc_mono (outc_sta rfl rfl rfl rfl (by (repeat (first | apply LayAt.nil | apply LayAt.here )); done) a ha) (fun v M h => ⟨[M], And.intro h.1 (congrArg (fun x => [x]) h.2), rfl, by simp⟩)) (⟨_, _, And.intro rfl rfl, rfl⟩) ?_; rintro v Ms ⟨rfl, rfl⟩ _; simp only [setls, setl, reduceIte, Nat.reduceEqDiff]; (repeat (first | fail )))
  (refine HdM.nil ?_; intro H hH; simp only [Hp, fm, look, setl, List.flatMap_cons, List.flatMap_nil, reduceIte, Nat.reduceEqDiff, Option.getD_some, List.append_nil, List.cons_append, List.nil_append] at hH; subst hH)
  (repeat (first | apply wc_ret ))
  exact retv rfl (by (repeat (first | apply RV.nil | (apply RV.tmp; rfl) | (apply RV.agg; rfl; (· (repeat (first | apply sel_here | apply sel_there))); infer_instance; (· (repeat (first | apply Cut.here0 | apply Cut.here )))) )); done) (⟨_, _, rfl, rfl, rfl, rfl⟩) (by (repeat (first | apply sub_nil )); done) (by first | exact fun _ h => h | (intro r hr; cases hr; done) | (simp; done) | exact fun _ h => List.mem_append_left _ h | (intro r hr; simp [hr]; done))
def tblM4 (aa b : Int) : Nat → List (List It) → Value → List (List It) → Prop := fun k Ls v Ms => match k, Ls with
  | 10, _ => ∃ b, v = .pointer (some ⟨b, 0, none⟩) ∧ Ms = [[.ob b (.cells #[.int .u32 0, .int .u32 0, nilS] 39 (0, 0))]]
  | 11, _ => ∃ b, v = .pointer (some ⟨b, 0, none⟩) ∧ Ms = [[rfO b rfZ]]
  | 12, [[.ob g _]] => v = undef ∧ Ms = [[.ob g (.cells #[.int .u32 aa, .int .u32 b, nilS] 39 (0, 0))]]
  | 13, [[.ob g _]] => v = undef ∧ Ms = [[rfO g (rfL 205 1 aa b 0 0 0 0 nilS nilS nilS E0 nilS nilS 0)]]
  | _, _ => False
def prs5 (n : Int) : Int × Int := (n % 65536, n / 65536)
abbrev nkB (g : Nat) (fm to : Int) (v : Value) : It := .ob g (.cells #[.int .u32 fm, .int .u32 to, v] 39 (0, 0))
abbrev prA (ao : Option Addr) (n c : Nat) (l : List (Int × Int)) : It := .own 44 2 ao n c (pairV l)
abbrev prB (ao : Option Addr) (n c : Nat) (l : List (Int × Int)) : It := .own 45 2 ao n c (pairV l)
theorem prA_snoc (ao : Option Addr) (n c : Nat) (l : List (Int × Int)) (x : Int × Int) : prA ao n c (l ++ [x]) = It.own 44 2 ao n c (pairV l ++ [[.int .u16 x.1, .int .u16 x.2]]) := by rw [prA, pairV_snoc]
theorem prB_snoc (ao : Option Addr) (n c : Nat) (l : List (Int × Int)) (x : Int × Int) : prB ao n c (l ++ [x]) = It.own 45 2 ao n c (pairV l ++ [[.int .u16 x.1, .int .u16 x.2]]) := by rw [prB, pairV_snoc]
set_option maxHeartbeats 16000000 in
theorem yMk4 (so aa b wide : Int) (nums : List Int) (A : Option Addr) (n c : Nat) (vt : Value) (hvt : vt.oneCell' = true) (sm ct kd : Int) (R : List Ro) (hS : SQ R 1 A n c (c32 nums)) (hn9 : n ≤ 9223372036854775807) (hc : n ≤ c) (hS40 : SQ R 1 A (min n 40) c (c32 (nums.take 40))) (hb : ∀ x ∈ nums, in32 x) (ht : (bits .and .i64 so 255).tmod 9 = 4) :
    MkC R (mdL so aa b wide (.slice A n c) vt sm ct kd) (.nack aa b ((nums.take 40).map prs5)) := by
  have q2 := ySsrcs so aa b wide nums A n c vt hvt sm ct kd R hS hc hn9
  have hk : min n 40 = (nums.take 40).length := by rw [← hS40.len, c32_len]
  have hk2 : (nums.take 40).length ≤ 40 := by rw [List.length_take]; omega
  have hb2 : ∀ x ∈ nums.take 40, in32 x := fun x hx => hb x (List.mem_of_mem_take hx)
  rw [hk] at q2 hS40
  generalize nums.take 40 = ss at *
  refine fn_intro Try.func15 rfl Try.ntmps15 rfl (fun E => ?_)
  (repeat (first | ((first | (apply wo_v; rfl) ); (· first | (apply pv_ev; rfl) | (apply pv_fld; rfl) | (apply g_load; first | (apply pv_ld; rfl; (· (repeat (first | apply sel_here | apply sel_there))); rfl) ) | (apply g_bin; first | (apply pv_rem; rfl; rfl; omega) | (apply pv_rem_t; rfl; rfl; omega) | (apply pv_and; rfl; rfl) ) )) | apply wo_nil | apply wc_seq | apply wc_region | (apply wo_box1; rfl; rfl; rfl; intro bx) | (apply wo_boxa; rfl; rfl; intro bx) | (apply wo_alloc; rfl; intro bx) ))
  rename_i bm
  obtain ⟨b3, hb3⟩ : ∃ g, g = bx := ⟨_, rfl⟩
  subst hb3
  rw [ht]
  (repeat (first | ((first | (apply wo_v; rfl) ); (· first | (apply pv_ev; rfl) )) | apply wo_nil | apply wc_seq | apply wc_region | apply wc_block | (apply wc_true; rfl) ))
  (refine wc_regM [0, 1] (aslL [(10, [0]), (11, [1]), (12, [0]), (13, [1])]) (tblM4 aa b) ([rfO b3 rfZ, mdB bm so aa b wide (.slice A n c) vt sm ct kd]) (fm [(0, []), (1, [])]) mixed (by kernel_rfl) (by kernel_rfl) (by decide) (aslL_ok (by decide)) (by (repeat (first | (apply prm_cons; (· (repeat (first | apply sel_here )))) | apply List.Perm.nil )); done) ?_; (repeat (first | (apply HdM.val; rfl; rfl; (· first | apply gok_none ); (· first | (apply pv_ev; rfl) | (apply pv_fld; rfl) | (apply g_load; first | (apply pv_ld; rfl; (· (repeat (first | apply sel_here | apply sel_there))); rfl) ) | (apply g_build; apply pv_build; (· (repeat (first | apply Bld.nil | (apply Bld.one; rfl; rfl; (· (repeat (first | apply SetAt.here | apply SetAt.there)))) )))) )) )))
  (refine hm_eff (cs := [0]) rfl (by decide) rfl rfl (by first | exact gok_none | exact gok_run rfl rfl) (fun a ha => outc_mono (outc_alloc a ha) (fun v M h => Exists.elim h fun b h => ⟨[M], Exists.intro b (And.intro h.1 (congrArg (fun x => [x]) h.2)), rfl, by simp⟩)) (⟨_, _, Exists.intro 0 (And.intro rfl rfl), rfl⟩) ?_; rintro v Ms ⟨b4, rfl, rfl⟩ _; simp only [setls, setl, reduceIte, Nat.reduceEqDiff]; (repeat (first | (apply HdM.val; rfl; rfl; (· first | fail ); (· first | fail )) )))
  (refine hm_eff (cs := [1]) rfl (by decide) rfl rfl (by first | exact gok_none | exact gok_run rfl rfl) (fun a ha => outc_mono (outc_alloc a ha) (fun v M h => Exists.elim h fun b h => ⟨[M], Exists.intro b (And.intro h.1 (congrArg (fun x => [x]) h.2)), rfl, by simp⟩)) (⟨_, _, Exists.intro 0 (And.intro rfl rfl), rfl⟩) ?_; rintro v Ms ⟨b5, rfl, rfl⟩ _; simp only [setls, setl, reduceIte, Nat.reduceEqDiff]; (repeat (first | fail )))
  (refine hm_eff (cs := [0]) rfl (by decide) rfl rfl (by first | exact gok_none | exact gok_run rfl rfl) (fun a ha => outc_mono (outc_sta rfl rfl rfl rfl (by (repeat (first | apply LayAt.nil | apply LayAt.here )); done) a ha) (fun v M h => ⟨[M], And.intro h.1 (congrArg (fun x => [x]) h.2), rfl, by simp⟩)) (⟨_, _, And.intro rfl rfl, rfl⟩) ?_; rintro v Ms ⟨rfl, rfl⟩ _; simp only [setls, setl, reduceIte, Nat.reduceEqDiff]; (repeat (first | fail )))
  (refine hm_eff (cs := [1]) rfl (by decide) rfl rfl (by first | exact gok_none | exact gok_run rfl rfl) (fun a ha => outc_mono (outc_sta rfl rfl rfl rfl (by (repeat (first | apply LayAt.nil | apply LayAt.here )); done) a ha) (fun v M h => ⟨[M], And.intro h.1 (congrArg (fun x => [x]) h.2), rfl, by simp⟩)) (⟨_, _, And.intro rfl rfl, rfl⟩) ?_; rintro v Ms ⟨rfl, rfl⟩ _; simp only [setls, setl, reduceIte, Nat.reduceEqDiff]; (repeat (first | fail )))
  (refine HdM.nil ?_; intro H hH; simp only [Hp, fm, look, setl, List.flatMap_cons, List.flatMap_nil, reduceIte, Nat.reduceEqDiff, Option.getD_some, List.append_nil, List.cons_append, List.nil_append] at hH; subst hH)
  (repeat (first | ((first | (apply wo_v; rfl) ); (· first | (apply pv_ev; rfl) | (apply g_load; first | (apply pv_lda; rfl; (· (repeat (first | apply sel_here | apply sel_there))); (· (repeat (first | apply Cut.here0 | apply Cut.here )))) ) )) | apply wc_seq | apply wc_region ))
  (refine wo_call (q2) rfl (by (repeat (first | apply sub_nil )); done) (by first | exact fun _ h => h | (intro r hr; cases hr; done) | (simp; done) | exact fun _ h => List.mem_append_left _ h | (intro r hr; simp [hr]; done)) rfl ?_; rintro v L' R' ⟨rfl, rfl, rfl⟩ H' hH RR hR; simp only [List.cons_append, List.nil_append] at hH hR; subst hH; have hR := hR.symm; subst hR)
  (repeat (first | ((first | (apply wo_v; rfl) ); (· first | (apply pv_ev; rfl) | (apply g_bi; first | (apply pv_len_sl; rfl) ) )) | apply wo_nil ))
  refine wc_own0 44 2 ?_
  refine wc_own0 45 2 ?_
  refine wc_block ?_
  refine wc_loop' (fun q st => ∃ (i : Nat) (l : List (Int × Int)) (a1 a2 : Option Addr) (c1 c3 : Nat), q = ss.length - i ∧ i ≤ ss.length ∧ l = (ss.take i).map prs5 ∧ l.length = i ∧ st = ⟨[(3, .pointer (some ⟨b3, 0, none⟩)), (4, .pointer (some ⟨b4, 0, none⟩)), (5, .pointer (some ⟨b5, 0, none⟩)), (30, .slice A ss.length c), (31, .int .i64 ss.length), (32, .int .i64 i)], [rfO b3 rfZ, nkB b4 aa b (.slice a1 i c1), rfO b5 (rfL 205 1 aa b 0 0 0 0 nilS nilS nilS E0 (.slice a2 i c3) nilS 0), prA a1 i c1 l, prB a2 i c3 l], R⟩) ⟨0, [], none, none, 0, 0, rfl, Nat.zero_le _, rfl, rfl, rfl⟩ (wk_mk (by (repeat (first | apply wkf_nil | (apply wkf_cons; rfl))); done) (by (repeat (first | apply sub_nil | (apply sub_cons; (· (repeat (first | apply sel_here | apply sel_there)))))); done) (by first | exact fun _ h => h | (intro r hr; cases hr; done) | (simp; done) | exact fun _ h => List.mem_append_left _ h | (intro r hr; simp [hr]; done))) ?_
  rintro q st ⟨i, l, a1, a2, c1, c3, rfl, hi, hl, hli, rfl⟩
  by_cases hlt : i < ss.length
  · obtain ⟨x, hx⟩ : ∃ x, ss[i]? = some x := ⟨_, List.getElem?_eq_getElem hlt⟩
    have hr := c32_at hx
    have hxb : 0 ≤ x ∧ x ≤ 4294967295 := hb2 x (List.mem_of_getElem? hx)
    have hnx : (ss.take (i + 1)).map prs5 = l ++ [(x % 65536, x / 65536)] := by rw [List.take_add_one, hx, List.map_append, hl]; rfl
    obtain ⟨a0, o0, rfl, hmem⟩ := hS40.pos (by omega)
    (repeat (first | ((first | (apply wo_v; rfl) ); (· first | (apply pv_ev; rfl) )) | apply wo_nil | apply wc_seq | apply wc_region | apply wc_skip | (apply wc_true; rfl) | (apply wc_false; rfl) | (apply a_dec_t; rfl; (· first | assumption | omega)) ))
    refine wc_block ?_
    (repeat (first | ((first | (apply wo_v; rfl) ); (· first | (apply pv_ev; rfl) | (apply pv_fld; rfl) | (apply g_load; first | (apply pv_ld; rfl; (· (repeat (first | apply sel_here | apply sel_there))); rfl) | (apply pv_ld_ownf; rfl; (· (repeat (first | fail ))); (· assumption); rfl) | (apply pv_ld_own1; rfl; (· (repeat (first | apply sel_there))); (· assumption)) | (apply pv_ld_rof; rfl; (· (first | assumption )); (· assumption); rfl) | (apply pv_ld_ro1; rfl; (· (first | assumption )); (· assumption)) ) | (apply g_bin; first | (apply a_shr; rfl; rfl; rfl; omega; rfl) ) | (apply g_bi; first | fail ) | (apply g_conv; first | (apply a_conv; rfl; infer_instance; infer_instance; infer_instance; omega) | (apply a_conv_u; rfl; infer_instance; infer_instance; infer_instance) ) | (apply g_idx; first | (apply pv_idx; rfl; rfl; omega) ) | (apply g_build; apply pv_build; (· (repeat (first | apply Bld.nil | (apply Bld.one; rfl; rfl; (· (repeat (first | apply SetAt.here | apply SetAt.there)))) )))) )) | apply wo_nil | apply wc_seq | apply wc_region | (apply wo_bsl; (· (repeat (first | apply Rws'.nil | (apply Rws'.one; rfl; rfl; rfl) | (apply Rws'.agg; rfl; rfl; rfl)))); rfl; rfl; rfl; rfl; intro bx) ))
    refine wo_app (ao := a1) (n := i) (m := 1) rfl rfl (by (repeat (first | apply sel_here | apply sel_there)); done) (by (repeat (first | apply sel_here )); done) (by unfold maxLen; omega) (by omega) rfl (fun a3 d1 => ?_)
    (repeat (first | ((first | (apply wo_v; rfl) ); (· first | (apply pv_ev; rfl) | (apply pv_fld; rfl) | (apply g_load; first | (apply pv_ld; rfl; (· (repeat (first | apply sel_here | apply sel_there))); rfl) ) | (apply g_bin; first | (apply a_shr; rfl; rfl; rfl; omega; rfl) ) | (apply g_bi; first | fail ) | (apply g_conv; first | (apply a_conv; rfl; infer_instance; infer_instance; infer_instance; omega) | (apply a_conv_u; rfl; infer_instance; infer_instance; infer_instance) ) | (apply g_build; apply pv_build; (· (repeat (first | apply Bld.nil | (apply Bld.one; rfl; rfl; (· (repeat (first | apply SetAt.here | apply SetAt.there)))) )))) )) | apply wo_nil | apply wc_region | (apply wo_st; rfl; rfl; rfl; (· (repeat (first | apply sel_here | apply sel_there))); (· (repeat (first | apply SetAt.here | apply SetAt.there))); rfl) | (apply wo_bsl; (· (repeat (first | apply Rws'.nil | (apply Rws'.one; rfl; rfl; rfl) | (apply Rws'.agg; rfl; rfl; rfl)))); rfl; rfl; rfl; rfl; intro bx) ))
    refine wo_app (ao := a2) (n := i) (m := 1) rfl rfl (by (repeat (first | apply sel_here | apply sel_there)); done) (by (repeat (first | apply sel_here )); done) (by unfold maxLen; omega) (by omega) rfl (fun a4 d2 => ?_)
    (repeat (first | ((first | (apply wo_v; rfl) ); (· first | (apply pv_ev; rfl) | (apply pv_fld; rfl) | (apply g_bin; first | (apply a_add; rfl; rfl; infer_instance; omega) ) )) | apply wo_nil | apply wc_region | (apply wo_st; rfl; rfl; rfl; (· (repeat (first | apply sel_here | apply sel_there))); (· (repeat (first | apply SetAt.here | apply SetAt.there))); rfl) ))
    exact loop_end ⟨i + 1, l ++ [(x % 65536, x / 65536)], a3, a4, d1, d2, rfl, by omega, hnx.symm, by rw [List.length_append, List.length_singleton, hli], by rw [prA_snoc, prB_snoc]⟩ (by omega) (wk_mk (by (repeat (first | apply wkf_nil | (apply wkf_cons; rfl))); done) (by (repeat (first | apply sub_nil | (apply sub_cons; (· (repeat (first | apply sel_here | apply sel_there)))))); done) (by first | exact fun _ h => h | (intro r hr; cases hr; done) | (simp; done) | exact fun _ h => List.mem_append_left _ h | (intro r hr; simp [hr]; done)))
  · have e : i = ss.length := by omega
    have hl2 : l = ss.map prs5 := by rw [hl, e, List.take_length]
    subst hl2
    generalize ss.map prs5 = ps at *
    subst hli
    refine wc_still (ao := a1) (n := ps.length) (c := c1) (sz := 2) (by (repeat (first | apply sel_here | apply sel_there)); done) (fun R1 hS1 => ?_)
    refine wc_still (ao := a2) (n := ps.length) (c := c3) (sz := 2) (by (repeat (first | apply sel_here | apply sel_there)); done) (fun R2 hS2 => ?_)
    (repeat (first | ((first | (apply wo_v; rfl) ); (· first | (apply pv_ev; rfl) )) | apply wo_nil | apply wc_seq | apply wc_region | (apply wc_exit; rfl) | (apply wc_true; rfl) | (apply wc_false; rfl) | (apply a_dec_t; rfl; (· first | assumption | omega)) | (apply a_dec_f; rfl; (· first | assumption | omega)) ))
    (refine wc_regM [0] (aslL [(4, [0])]) (tblM1 (rfL 205 1 aa b 0 0 0 0 nilS nilS nilS E0 (.slice a2 ps.length c3) nilS 0)) ([nkB b4 aa b (.slice a1 ps.length c1), rfO b5 (rfL 205 1 aa b 0 0 0 0 nilS nilS nilS E0 (.slice a2 ps.length c3) nilS 0)]) (fm [(0, [rfO b3 rfZ])]) mixed (by kernel_rfl) (by kernel_rfl) (by decide) (aslL_ok (by decide)) (by (repeat (first | (apply prm_cons; (· (repeat (first | apply sel_here | apply sel_there)))) | apply List.Perm.nil )); done) ?_; (repeat (first | (apply HdM.val; rfl; rfl; (· first | apply gok_none ); (· first | (apply pv_ev; rfl) | (apply g_load; first | (apply pv_lda; rfl; (· (repeat (first | apply sel_here | apply sel_there))); (· (repeat (first | apply Cut.here0 | apply Cut.here )))) ) | (apply pv_mki; rfl; infer_instance) )) )))
    (refine hm_eff (cs := [0]) rfl (by decide) rfl rfl (by first | exact gok_none | exact gok_run rfl rfl) (fun a ha => outc_mono (outc_sta rfl rfl rfl rfl (by (repeat (first | apply LayAt.nil | apply LayAt.here )); done) a ha) (fun v M h => ⟨[M], And.intro h.1 (congrArg (fun x => [x]) h.2), rfl, by simp⟩)) (⟨_, _, And.intro rfl rfl, rfl⟩) ?_; rintro v Ms ⟨rfl, rfl⟩ _; simp only [setls, setl, reduceIte, Nat.reduceEqDiff]; (repeat (first | fail )))
    (refine HdM.nil ?_; intro H hH; simp only [Hp, fm, look, setl, List.flatMap_cons, List.flatMap_nil, reduceIte, Nat.reduceEqDiff, Option.getD_some, List.append_nil, List.cons_append, List.nil_append] at hH; subst hH)
    (repeat (first | apply wc_ret ))
    exact retv rfl (by (repeat (first | apply RV.nil | (apply RV.tmp; rfl) | (apply RV.agg; rfl; (· (repeat (first | apply sel_here | apply sel_there))); infer_instance; (· (repeat (first | apply Cut.here0 | apply Cut.here )))) )); done) (⟨_, _, rfl, ⟨a1, _, c1, rfl, (hS1.sq).mono (fun r hr => List.mem_append_right _ hr)⟩, ⟨a2, _, c3, rfl, hS2.sq⟩, rfl⟩) (by (repeat (first | apply sub_nil )); done) (by first | exact fun _ h => h | (intro r hr; cases hr; done) | (simp; done) | exact fun _ h => List.mem_append_left _ h | (intro r hr; simp [hr]; done))
def tblM6 (aa : Int) : Nat → List (List It) → Value → List (List It) → Prop := fun k Ls v Ms => match k, Ls with
  | 6, _ => ∃ b, v = .pointer (some ⟨b, 0, none⟩) ∧ Ms = [[.ob b (.cells #[.int .u32 0, nilS] 106 (0, 0))]]
  | 7, _ => ∃ b, v = .pointer (some ⟨b, 0, none⟩) ∧ Ms = [[rfO b rfZ]]
  | 8, [[.ob g _]] => v = undef ∧ Ms = [[.ob g (.cells #[.int .u32 aa, nilS] 106 (0, 0))]]
  | 9, [[.ob g _]] => v = undef ∧ Ms = [[rfO g (rfL 206 4 aa 0 0 0 0 0 nilS nilS nilS E0 nilS nilS 0)]]
  | _, _ => False
abbrev fiB (g : Nat) (fm : Int) (v : Value) : It := .ob g (.cells #[.int .u32 fm, v] 106 (0, 0))
abbrev orA (ao : Option Addr) (n c : Nat) (l : List (Int × Int)) : It := .own 108 2 ao n c (ordV l)
abbrev orB5 (ao : Option Addr) (n c : Nat) (l : List (Int × Int)) : It := .own 109 2 ao n c (ordV l)
theorem orA_snoc (ao : Option Addr) (n c : Nat) (l : List (Int × Int)) (x : Int × Int) : orA ao n c (l ++ [x]) = It.own 108 2 ao n c (ordV l ++ [[.int .u32 x.1, .int .u8 x.2]]) := by rw [orA, ordV_snoc]
theorem orB5_snoc (ao : Option Addr) (n c : Nat) (l : List (Int × Int)) (x : Int × Int) : orB5 ao n c (l ++ [x]) = It.own 109 2 ao n c (ordV l ++ [[.int .u32 x.1, .int .u8 x.2]]) := by rw [orB5, ordV_snoc]
set_option maxHeartbeats 16000000 in
theorem yMk6 (so aa b wide : Int) (nums : List Int) (A : Option Addr) (n c : Nat) (vt : Value) (hvt : vt.oneCell' = true) (sm ct kd : Int) (R : List Ro) (hS : SQ R 1 A n c (c32 nums)) (hn9 : n ≤ 9223372036854775807) (hc : n ≤ c) (hS40 : SQ R 1 A (min n 40) c (c32 (nums.take 40))) (hb : ∀ x ∈ nums, in32 x) (ht : (bits .and .i64 so 255).tmod 9 = 6) :
    MkC R (mdL so aa b wide (.slice A n c) vt sm ct kd) (.fir aa ((nums.take 40).map fun n => (n, sm))) := by
  have q2 := ySsrcs so aa b wide nums A n c vt hvt sm ct kd R hS hc hn9
  have hk : min n 40 = (nums.take 40).length := by rw [← hS40.len, c32_len]
  have hk2 : (nums.take 40).length ≤ 40 := by rw [List.length_take]; omega
  have hb2 : ∀ x ∈ nums.take 40, in32 x := fun x hx => hb x (List.mem_of_mem_take hx)
  rw [hk] at q2 hS40
  generalize nums.take 40 = ss at *
  refine fn_intro Try.func15 rfl Try.ntmps15 rfl (fun E => ?_)
  (repeat (first | ((first | (apply wo_v; rfl) ); (· first | (apply pv_ev; rfl) | (apply pv_fld; rfl) | (apply g_load; first | (apply pv_ld; rfl; (· (repeat (first | apply sel_here | apply sel_there))); rfl) ) | (apply g_bin; first | (apply pv_rem; rfl; rfl; omega) | (apply pv_rem_t; rfl; rfl; omega) | (apply pv_and; rfl; rfl) ) )) | apply wo_nil | apply wc_seq | apply wc_region | (apply wo_box1; rfl; rfl; rfl; intro bx) | (apply wo_boxa; rfl; rfl; intro bx) | (apply wo_alloc; rfl; intro bx) ))
  rename_i bm
  obtain ⟨b3, hb3⟩ : ∃ g, g = bx := ⟨_, rfl⟩
  subst hb3
  rw [ht]
  (repeat (first | ((first | (apply wo_v; rfl) ); (· first | (apply pv_ev; rfl) )) | apply wo_nil | apply wc_seq | apply wc_region | apply wc_block | (apply wc_true; rfl) | (apply wc_false; rfl) ))
  (refine wc_regM [0, 1] (aslL [(6, [0]), (7, [1]), (8, [0]), (9, [1])]) (tblM6 aa) ([rfO b3 rfZ, mdB bm so aa b wide (.slice A n c) vt sm ct kd]) (fm [(0, []), (1, [])]) mixed (by kernel_rfl) (by kernel_rfl) (by decide) (aslL_ok (by decide)) (by (repeat (first | (apply prm_cons; (· (repeat (first | apply sel_here )))) | apply List.Perm.nil )); done) ?_; (repeat (first | (apply HdM.val; rfl; rfl; (· first | apply gok_none ); (· first | (apply pv_ev; rfl) | (apply pv_fld; rfl) | (apply g_load; first | (apply pv_ld; rfl; (· (repeat (first | apply sel_here | apply sel_there))); rfl) ) | (apply g_build; apply pv_build; (· (repeat (first | apply Bld.nil | (apply Bld.one; rfl; rfl; (· (repeat (first | apply SetAt.here | apply SetAt.there)))) )))) )) )))
  (refine hm_eff (cs := [0]) rfl (by decide) rfl rfl (by first | exact gok_none | exact gok_run rfl rfl) (fun a ha => outc_mono (outc_alloc a ha) (fun v M h => Exists.elim h fun b h => ⟨[M], Exists.intro b (And.intro h.1 (congrArg (fun x => [x]) h.2)), rfl, by simp⟩)) (⟨_, _, Exists.intro 0 (And.intro rfl rfl), rfl⟩) ?_; rintro v Ms ⟨b4, rfl, rfl⟩ _; simp only [setls, setl, reduceIte, Nat.reduceEqDiff]; (repeat (first | (apply HdM.val; rfl; rfl; (· first | fail ); (· first | fail )) )))
  (refine hm_eff (cs := [1]) rfl (by decide) rfl rfl (by first | exact gok_none | exact gok_run rfl rfl) (fun a ha => outc_mono (outc_alloc a ha) (fun v M h => Exists.elim h fun b h => ⟨[M], Exists.intro b (And.intro h.1 (congrArg (fun x => [x]) h.2)), rfl, by simp⟩)) (⟨_, _, Exists.intro 0 (And.intro rfl rfl), rfl⟩) ?_; rintro v Ms ⟨b5, rfl, rfl⟩ _; simp only [setls, setl, reduceIte, Nat.reduceEqDiff]; (repeat (first | fail )))
  (refine hm_eff (cs := [0]) rfl (by decide) rfl rfl (by first | exact gok_none | exact gok_run rfl rfl) (fun a ha => outc_mono (outc_sta rfl rfl rfl rfl (by (repeat (first | apply LayAt.nil | apply LayAt.here )); done) a ha) (fun v M h => ⟨[M], And.intro h.1 (congrArg (fun x => [x]) h.2), rfl, by simp⟩)) (⟨_, _, And.intro rfl rfl, rfl⟩) ?_; rintro v Ms ⟨rfl, rfl⟩ _; simp only [setls, setl, reduceIte, Nat.reduceEqDiff]; (repeat (first | fail )))
  (refine hm_eff (cs := [1]) rfl (by decide) rfl rfl (by first | exact gok_none | exact gok_run rfl rfl) (fun a ha => outc_mono (outc_sta rfl rfl rfl rfl (by (repeat (first | apply LayAt.nil | apply LayAt.here )); done) a ha) (fun v M h => ⟨[M], And.intro h.1 (congrArg (fun x => [x]) h.2), rfl, by simp⟩)) (⟨_, _, And.intro rfl rfl, rfl⟩) ?_; rintro v Ms ⟨rfl, rfl⟩ _; simp only [setls, setl, reduceIte, Nat.reduceEqDiff]; (repeat (first | fail )))
  (refine HdM.nil ?_; intro H hH; simp only [Hp, fm, look, setl, List.flatMap_cons, List.flatMap_nil, reduceIte, Nat.reduceEqDiff, Option.getD_some, List.append_nil, List.cons_append, List.nil_append] at hH; subst hH)
  (repeat (first | ((first | (apply wo_v; rfl) ); (· first | (apply pv_ev; rfl) | (apply g_load; first | (apply pv_lda; rfl; (· (repeat (first | apply sel_here | apply sel_there))); (· (repeat (first | apply Cut.here0 | apply Cut.here )))) ) )) | apply wc_seq | apply wc_region ))
  (refine wo_call (q2) rfl (by (repeat (first | apply sub_nil )); done) (by first | exact fun _ h => h | (intro r hr; cases hr; done) | (simp; done) | exact fun _ h => List.mem_append_left _ h | (intro r hr; simp [hr]; done)) rfl ?_; rintro v L' R' ⟨rfl, rfl, rfl⟩ H' hH RR hR; simp only [List.cons_append, List.nil_append] at hH hR; subst hH; have hR := hR.symm; subst hR)
  (repeat (first | ((first | (apply wo_v; rfl) ); (· first | (apply pv_ev; rfl) | (apply g_bi; first | (apply pv_len_sl; rfl) ) )) | apply wo_nil ))
  refine wc_own0 108 2 ?_
  refine wc_own0 109 2 ?_
  refine wc_block ?_
  refine wc_loop' (fun q st => ∃ (i : Nat) (l : List (Int × Int)) (a1 a2 : Option Addr) (c1 c3 : Nat), q = ss.length - i ∧ i ≤ ss.length ∧ l = (ss.take i).map (fun n => (n, sm)) ∧ l.length = i ∧ st = ⟨[(1, .pointer (some ⟨bm, 0, none⟩)), (3, .pointer (some ⟨b3, 0, none⟩)), (8, .pointer (some ⟨b4, 0, none⟩)), (9, .pointer (some ⟨b5, 0, none⟩)), (84, .slice A ss.length c), (85, .int .i64 ss.length), (86, .int .i64 i)], [rfO b3 rfZ, mdB bm so aa b wide (.slice A n c) vt sm ct kd, fiB b4 aa (.slice a1 i c1), rfO b5 (rfL 206 4 aa 0 0 0 0 0 nilS nilS nilS E0 nilS (.slice a2 i c3) 0), orA a1 i c1 l, orB5 a2 i c3 l], R⟩) ⟨0, [], none, none, 0, 0, rfl, Nat.zero_le _, rfl, rfl, rfl⟩ (wk_mk (by (repeat (first | apply wkf_nil | (apply wkf_cons; rfl))); done) (by (repeat (first | apply sub_nil | (apply sub_cons; (· (repeat (first | apply sel_here | apply sel_there)))))); done) (by first | exact fun _ h => h | (intro r hr; cases hr; done) | (simp; done) | exact fun _ h => List.mem_append_left _ h | (intro r hr; simp [hr]; done))) ?_
  rintro q st ⟨i, l, a1, a2, c1, c3, rfl, hi, hl, hli, rfl⟩
  by_cases hlt : i < ss.length
  · obtain ⟨x, hx⟩ : ∃ x, ss[i]? = some x := ⟨_, List.getElem?_eq_getElem hlt⟩
    have hr := c32_at hx
    have hnx : (ss.take (i + 1)).map (fun n => (n, sm)) = l ++ [(x, sm)] := by rw [List.take_add_one, hx, List.map_append, hl]; rfl
    obtain ⟨a0, o0, rfl, hmem⟩ := hS40.pos (by omega)
    (repeat (first | ((first | (apply wo_v; rfl) ); (· first | (apply pv_ev; rfl) )) | apply wo_nil | apply wc_seq | apply wc_region | apply wc_skip | (apply wc_true; rfl) | (apply wc_false; rfl) | (apply a_dec_t; rfl; (· first | assumption | omega)) ))
    refine wc_block ?_
    (repeat (first | ((first | (apply wo_v; rfl) ); (· first | (apply pv_ev; rfl) | (apply pv_fld; rfl) | (apply g_load; first | (apply pv_ld; rfl; (· (repeat (first | apply sel_here | apply sel_there))); rfl) | (apply pv_ld_ownf; rfl; (· (repeat (first | fail ))); (· assumption); rfl) | (apply pv_ld_own1; rfl; (· (repeat (first | apply sel_there))); (· assumption)) | (apply pv_ld_rof; rfl; (· (first | assumption )); (· assumption); rfl) | (apply pv_ld_ro1; rfl; (· (first | assumption )); (· assumption)) ) | (apply g_bi; first | fail ) | (apply g_idx; first | (apply pv_idx; rfl; rfl; omega) ) | (apply g_build; apply pv_build; (· (repeat (first | apply Bld.nil | (apply Bld.one; rfl; rfl; (· (repeat (first | apply SetAt.here | apply SetAt.there)))) )))) )) | apply wo_nil | apply wc_seq | apply wc_region | (apply wo_bsl; (· (repeat (first | apply Rws'.nil | (apply Rws'.one; rfl; rfl; rfl) | (apply Rws'.agg; rfl; rfl; rfl)))); rfl; rfl; rfl; rfl; intro bx) ))
    refine wo_app (ao := a1) (n := i) (m := 1) rfl rfl (by (repeat (first | apply sel_here | apply sel_there)); done) (by (repeat (first | apply sel_here )); done) (by unfold maxLen; omega) (by omega) rfl (fun a3 d1 => ?_)
    (repeat (first | ((first | (apply wo_v; rfl) ); (· first | (apply pv_ev; rfl) | (apply pv_fld; rfl) | (apply g_load; first | (apply pv_ld; rfl; (· (repeat (first | apply sel_here | apply sel_there))); rfl) ) | (apply g_bi; first | fail ) | (apply g_build; apply pv_build; (· (repeat (first | apply Bld.nil | (apply Bld.one; rfl; rfl; (· (repeat (first | apply SetAt.here | apply SetAt.there)))) )))) )) | apply wo_nil | apply wc_region | (apply wo_st; rfl; rfl; rfl; (· (repeat (first | apply sel_here | apply sel_there))); (· (repeat (first | apply SetAt.here | apply SetAt.there))); rfl) | (apply wo_bsl; (· (repeat (first | apply Rws'.nil | (apply Rws'.one; rfl; rfl; rfl) | (apply Rws'.agg; rfl; rfl; rfl)))); rfl; rfl; rfl; rfl; intro bx) ))
    refine wo_app (ao := a2) (n := i) (m := 1) rfl rfl (by (repeat (first | apply sel_here | apply sel_there)); done) (by (repeat (first | apply sel_here )); done) (by unfold maxLen; omega) (by omega) rfl (fun a4 d2 => ?_)
    (repeat (first | ((first | (apply wo_v; rfl) ); (· first | (apply pv_ev; rfl) | (apply pv_fld; rfl) | (apply g_bin; first | (apply a_add; rfl; rfl; infer_instance; omega) ) )) | apply wo_nil | apply wc_region | (apply wo_st; rfl; rfl; rfl; (· (repeat (first | apply sel_here | apply sel_there))); (· (repeat (first | apply SetAt.here | apply SetAt.there))); rfl) ))
    exact loop_end ⟨i + 1, l ++ [(x, sm)], a3, a4, d1, d2, rfl, by omega, hnx.symm, by rw [List.length_append, List.length_singleton, hli], by rw [orA_snoc, orB5_snoc]⟩ (by omega) (wk_mk (by (repeat (first | apply wkf_nil | (apply wkf_cons; rfl))); done) (by (repeat (first | apply sub_nil | (apply sub_cons; (· (repeat (first | apply sel_here | apply sel_there)))))); done) (by first | exact fun _ h => h | (intro r hr; cases hr; done) | (simp; done) | exact fun _ h => List.mem_append_left _ h | (intro r hr; simp [hr]; done)))
  · have e : i = ss.length := by omega
    have hl2 : l = ss.map (fun n => (n, sm)) := by rw [hl, e, List.take_length]
    subst hl2
    generalize ss.map (fun n => (n, sm)) = ps at *
    subst hli
    refine wc_still (ao := a1) (n := ps.length) (c := c1) (sz := 2) (by (repeat (first | apply sel_here | apply sel_there)); done) (fun R1 hS1 => ?_)
    refine wc_still (ao := a2) (n := ps.length) (c := c3) (sz := 2) (by (repeat (first | apply sel_here | apply sel_there)); done) (fun R2 hS2 => ?_)
    (repeat (first | ((first | (apply wo_v; rfl) ); (· first | (apply pv_ev; rfl) )) | apply wo_nil | apply wc_seq | apply wc_region | (apply wc_exit; rfl) | (apply wc_true; rfl) | (apply wc_false; rfl) | (apply a_dec_t; rfl; (· first | assumption | omega)) | (apply a_dec_f; rfl; (· first | assumption | omega)) ))
    (refine wc_regM [0] (aslL [(4, [0])]) (tblM1 (rfL 206 4 aa 0 0 0 0 0 nilS nilS nilS E0 nilS (.slice a2 ps.length c3) 0)) ([fiB b4 aa (.slice a1 ps.length c1), rfO b5 (rfL 206 4 aa 0 0 0 0 0 nilS nilS nilS E0 nilS (.slice a2 ps.length c3) 0), mdB bm so aa b wide (.slice A n c) vt sm ct kd]) (fm [(0, [rfO b3 rfZ])]) mixed (by kernel_rfl) (by kernel_rfl) (by decide) (aslL_ok (by decide)) (by (repeat (first | (apply prm_cons; (· (repeat (first | apply sel_here | apply sel_there)))) | apply List.Perm.nil )); done) ?_; (repeat (first | (apply HdM.val; rfl; rfl; (· first | apply gok_none ); (· first | (apply pv_ev; rfl) | (apply g_load; first | (apply pv_lda; rfl; (· (repeat (first | apply sel_here | apply sel_there))); (· (repeat (first | apply Cut.here0 | apply Cut.here )))) ) | (apply pv_mki; rfl; infer_instance) )) )))
    (refine hm_eff (cs := [0]) rfl (by decide) rfl rfl (by first | exact gok_none | exact gok_run rfl rfl) (fun a ha => outc_mono (outc_sta rfl rfl rfl rfl (by (repeat (first | apply LayAt.nil | apply LayAt.here )); done) a ha) (fun v M h => ⟨[M], And.intro h.1 (congrArg (fun x => [x]) h.2), rfl, by simp⟩)) (⟨_, _, And.intro rfl rfl, rfl⟩) ?_; rintro v Ms ⟨rfl, rfl⟩ _; simp only [setls, setl, reduceIte, Nat.reduceEqDiff]; (repeat (first | fail )))
    (refine HdM.nil ?_; intro H hH; simp only [Hp, fm, look, setl, List.flatMap_cons, List.flatMap_nil, reduceIte, Nat.reduceEqDiff, Option.getD_some, List.append_nil, List.cons_append, List.nil_append] at hH; subst hH)
    (repeat (first | apply wc_ret ))
    exact retv rfl (by (repeat (first | apply RV.nil | (apply RV.tmp; rfl) | (apply RV.agg; rfl; (· (repeat (first | apply sel_here | apply sel_there))); infer_instance; (· (repeat (first | apply Cut.here0 | apply Cut.here )))) )); done) (⟨_, _, rfl, ⟨a1, _, c1, rfl, (hS1.sq).mono (fun r hr => List.mem_append_right _ hr)⟩, ⟨a2, _, c3, rfl, hS2.sq⟩, rfl⟩) (by (repeat (first | apply sub_nil )); done) (by first | exact fun _ h => h | (intro r hr; cases hr; done) | (simp; done) | exact fun _ h => List.mem_append_left _ h | (intro r hr; simp [hr]; done))
end Go.Proofs.Yteaccbbmphcmnaa

/-
  Layer 5's statements: made packets, of any sort.
-/
namespace Go.Proofs.Yteaccbbmphcmnaa
set_option linter.unusedSimpArgs false
set_option linter.unusedVariables false
open Go.RowKit
theorem Fn.moreRo {P : Program} {f : FuncId} {args : Array Value} {L : List It} {R : List Ro} {Post : Value → List It → List Ro → Prop} {b o sz : Nat} {xs : List (List Value)} (l k : Nat) (hr : ⟨b, o, sz, xs⟩ ∈ R)
    (h : Fn P f args L (⟨b, elt o l sz, sz, (xs.take k).drop l⟩ :: R) Post) : Fn P f args L R Post := fun w hw => by
  have h1 := hw.more (l := l) (h := k) hr
  have h2 : Sat w (feet L) (blks (⟨b, elt o l sz, sz, (xs.take k).drop l⟩ :: R)) L (⟨b, elt o l sz, sz, (xs.take k).drop l⟩ :: R) w :=
    ⟨h1.frm, h1.sat, h1.own, h1.dis, h1.rds, h1.rod, fun r hr2 => (h1.rok r hr2).imp id (Or.imp (fun hm => by
      obtain ⟨q, h3, h4⟩ := mem_blks.1 hm
      exact mem_blks.2 ⟨q, List.mem_cons_of_mem _ h3, h4⟩) id)⟩
  refine (h w h2).mono fun e w' ⟨v, L', R', he, hP, hS⟩ => ⟨v, L', R', he, hP, ?_⟩
  exact ⟨hS.frm, hS.sat, hS.own, hS.dis, hS.rds, hS.rod, fun r hr2 => (hS.rok r hr2).imp id (Or.imp (fun hm => by
    obtain ⟨q, h3, h4⟩ := mem_blks.1 hm
    rcases List.mem_cons.1 h3 with h5 | h5
    · exact mem_blks.2 ⟨⟨b, o, sz, xs⟩, hr, by rw [← h4, h5]⟩
    · exact mem_blks.2 ⟨q, h5, h4⟩) id)⟩
attribute [local irreducible] Pv WO WC Fn
set_option maxRecDepth 100000
attribute [local irreducible] ByteArray.extract

theorem ref_row {R : List Ro} : ∀ {p : Pkt} {w : Value}, RefV R p w → ∃ kd ct ss to ntp t pk oc A1 n1 c1 A2 n2 c2 A3 n3 c3 tx A4 n4 c4 A5 n5 c5 rt, w = rfA (rfL kd ct ss to ntp t pk oc (.slice A1 n1 c1) (.slice A2 n2 c2) (.slice A3 n3 c3) tx (.slice A4 n4 c4) (.slice A5 n5 c5) rt)
  | .sender .., _, h => by obtain ⟨A, n, c, rfl, _⟩ := h; exact ⟨_, _, _, _, _, _, _, _, _, _, _, _, _, _, _, _, _, _, _, _, _, _, _, _, _, rfl⟩
  | .receiver .., _, h => by obtain ⟨A, n, c, rfl, _⟩ := h; exact ⟨_, _, _, _, _, _, _, _, _, _, _, _, _, _, _, _, _, _, _, _, _, _, _, _, _, rfl⟩
  | .sdes .., _, h => by obtain ⟨A, n, c, _, rfl, _⟩ := h; exact ⟨_, _, _, _, _, _, _, _, _, _, _, _, _, _, _, _, _, _, _, _, _, _, _, _, _, rfl⟩
  | .bye .., _, h => by obtain ⟨A, n, c, rfl, _⟩ := h; exact ⟨_, _, _, _, _, _, _, _, _, _, _, _, _, _, _, _, _, _, _, _, _, _, _, _, _, rfl⟩
  | .nack .., _, h => by obtain ⟨A, n, c, rfl, _⟩ := h; exact ⟨_, _, _, _, _, _, _, _, _, _, _, _, _, _, _, _, _, _, _, _, _, _, _, _, _, rfl⟩
  | .pli .., _, h => by obtain rfl := h; exact ⟨_, _, _, _, _, _, _, _, _, _, _, _, _, _, _, _, _, _, _, _, _, _, _, _, _, rfl⟩
  | .fir .., _, h => by obtain ⟨A, n, c, rfl, _⟩ := h; exact ⟨_, _, _, _, _, _, _, _, _, _, _, _, _, _, _, _, _, _, _, _, _, _, _, _, _, rfl⟩
  | .remb .., _, h => by obtain ⟨A, n, c, rfl, _⟩ := h; exact ⟨_, _, _, _, _, _, _, _, _, _, _, _, _, _, _, _, _, _, _, _, _, _, _, _, _, rfl⟩
  | .other .., _, h => by obtain rfl := h; exact ⟨_, _, _, _, _, _, _, _, _, _, _, _, _, _, _, _, _, _, _, _, _, _, _, _, _, rfl⟩
theorem yMkR (so aa b wide : Int) (vn vt : Value) (hvn : vn.oneCell' = true) (hvt : vt.oneCell' = true) (sm ct kd : Int) (R : List Ro) (p : Pkt) (h : RepC R (mdL so aa b wide vn vt sm ct kd) p) (h4 : (bits .and .i64 so 255).tmod 9 ≠ 4) (h5 : (bits .and .i64 so 255).tmod 9 ≠ 5) (h6 : (bits .and .i64 so 255).tmod 9 ≠ 6) (h7 : (bits .and .i64 so 255).tmod 9 ≠ 7) (h8 : (bits .and .i64 so 255).tmod 9 ≠ 8) :
    MkC R (mdL so aa b wide vn vt sm ct kd) p := by
  generalize hX : (bits .and .i64 so 255).tmod 9 = X at *
  refine fn_intro Try.func15 rfl Try.ntmps15 rfl (fun E => ?_)
  (repeat (first | ((first | (apply wo_v; rfl) ); (· first | (apply pv_ev; rfl) | (apply pv_fld; rfl) | (apply g_load; first | (apply pv_ld; rfl; (· (repeat (first | apply sel_here | apply sel_there))); rfl) ) | (apply g_bin; first | (apply pv_rem; rfl; rfl; omega) | (apply pv_rem_t; rfl; rfl; omega) | (apply pv_and; rfl; rfl) ) )) | apply wo_nil | apply wc_seq | apply wc_region | (apply wo_box1; rfl; rfl; rfl; intro bx) | (apply wo_boxa; rfl; rfl; intro bx) | (apply wo_alloc; rfl; intro bx) ))
  rename_i bm
  obtain ⟨b3, hb3⟩ : ∃ g, g = bx := ⟨_, rfl⟩
  subst hb3
  rw [hX]
  (repeat (first | ((first | (apply wo_v; rfl) ); (· first | (apply pv_ev; rfl) | (apply g_load; first | (apply pv_lda; rfl; (· (repeat (first | apply sel_here | apply sel_there))); (· (repeat (first | apply Cut.here0 | apply Cut.here )))) ) )) | apply wo_nil | apply wc_seq | apply wc_region | apply wc_block | apply wc_skip | (apply wc_true; rfl) | (apply wc_false; rfl) | (apply a_dec_t; rfl; (· first | assumption | omega)) | (apply a_dec_f; rfl; (· first | assumption | omega)) ))
  (refine wo_call (h) rfl (by (repeat (first | apply sub_nil )); done) (by first | exact fun _ h => h | (intro r hr; cases hr; done) | (simp; done) | exact fun _ h => List.mem_append_left _ h | (intro r hr; simp [hr]; done)) rfl ?_; rintro v L' R' ⟨u, w, rfl, hP, hQ, rfl⟩ H' hH RR hR; simp only [List.cons_append, List.nil_append] at hH hR; subst hH; have hR := hR.symm; subst hR)
  obtain ⟨kd, ct, ss, to, ntp, t, pk, oc, A1, n1, c1, A2, n2, c2, A3, n3, c3, tx, A4, n4, c4, A5, n5, c5, rt, rfl⟩ := ref_row hQ
  (repeat (first | ((first | (apply wo_v; rfl) ); (· first | (apply pv_ev; rfl) )) | apply wo_nil | apply wc_ret | (apply wo_sta; rfl; rfl; rfl; rfl; (· (repeat (first | apply sel_here ))); (· (repeat (first | apply LayAt.nil | apply LayAt.here ))); rfl) ))
  exact retv rfl (by (repeat (first | apply RV.nil | (apply RV.tmp; rfl) | (apply RV.agg; rfl; (· (repeat (first | apply sel_here ))); infer_instance; (· (repeat (first | apply Cut.here0 | apply Cut.here )))) )); done) (⟨_, _, rfl, hP, hQ, rfl⟩) (by (repeat (first | apply sub_nil )); done) (by first | exact fun _ h => h | (intro r hr; cases hr; done) | (simp; done) | exact fun _ h => List.mem_append_left _ h | (intro r hr; simp [hr]; done))
def mkM (m : Md) : Pkt :=
  let t := (bits .and .i64 m.so 255).tmod 9
  if t = 4 then .nack m.a m.b ((m.nums.take 40).map prs5)
  else if t = 5 then .pli m.a m.b
  else if t = 6 then .fir m.a ((m.nums.take 40).map fun n => (n, m.sm))
  else if t = 7 then .remb m.a (rtM5 m.wide m.sm) (m.nums.take 40)
  else if t = 8 then .other m.kd m.ct (fsM m.tx 60)
  else if t = 0 then .sender m.a m.wide m.b 3 m.a (bksM m.sm m.a m.b m.nums)
  else if t = 1 then .receiver m.a (bksM m.sm m.a m.b m.nums)
  else if t = 2 then .sdes [(m.a, chM m.sm m.tx), (m.a, chM m.sm m.tx)]
  else .bye (m.nums.take 40) (fsM m.tx 257)
theorem yMake (m : Md) (hm : m.ok) (A : Option Addr) (n c : Nat) (A2 : Option Addr) (n2 c2 : Nat) (R : List Ro) (hS : SQ R 1 A n c (c32 m.nums)) (hc : n ≤ c) (hT : SQ R 1 A2 n2 c2 (cST m.tx)) :
    MkC R (mdL m.so m.a m.b m.wide (.slice A n c) (.slice A2 n2 c2) m.sm m.ct m.kd) (mkM m) := by
  obtain ⟨k1, k2, k3, k4, k5, k6, k7, k8, k9⟩ := hm
  have hn9 : n ≤ 9223372036854775807 := by have := hS.len; rw [c32_len] at this; omega
  have hn9t : n2 ≤ 9223372036854775807 := by have := hT.len; rw [cST_len] at this; omega
  have key : ∀ R', SQ R' 1 A n c (c32 m.nums) → SQ R' 1 A2 n2 c2 (cST m.tx) → SQ R' 1 A (min n 40) c (c32 (m.nums.take 40)) → MkC R' (mdL m.so m.a m.b m.wide (.slice A n c) (.slice A2 n2 c2) m.sm m.ct m.kd) (mkM m) := fun R' hS hT hS40 => by
    unfold mkM
    dsimp only
    by_cases t4 : (bits .and .i64 m.so 255).tmod 9 = 4
    · rw [if_pos t4]; exact yMk4 m.so m.a m.b m.wide m.nums A n c _ rfl m.sm m.ct m.kd R' hS hn9 hc hS40 k4 t4
    rw [if_neg t4]
    by_cases t5 : (bits .and .i64 m.so 255).tmod 9 = 5
    · rw [if_pos t5]; exact yMk5 m.so m.a m.b m.wide _ _ rfl rfl m.sm m.ct m.kd R' t5
    rw [if_neg t5]
    by_cases t6 : (bits .and .i64 m.so 255).tmod 9 = 6
    · rw [if_pos t6]; exact yMk6 m.so m.a m.b m.wide m.nums A n c _ rfl m.sm m.ct m.kd R' hS hn9 hc hS40 k4 t6
    rw [if_neg t6]
    by_cases t7 : (bits .and .i64 m.so 255).tmod 9 = 7
    · rw [if_pos t7]; exact yMk7 m.so m.a m.b m.wide m.nums A n c _ rfl m.sm m.ct m.kd R' hS hn9 hc hS40 k5 t7
    rw [if_neg t7]
    by_cases t8 : (bits .and .i64 m.so 255).tmod 9 = 8
    · rw [if_pos t8]; exact yMk8 m.so m.a m.b m.wide m.tx _ rfl A2 n2 c2 m.sm m.ct m.kd R' hT t8
    rw [if_neg t8]
    by_cases t0 : (bits .and .i64 m.so 255).tmod 9 = 0
    · rw [if_pos t0]
      exact yMkR _ _ _ _ _ _ rfl rfl _ _ _ R' _ (yRep0 m.so m.a m.b m.wide m.nums A n c _ rfl m.sm m.ct m.kd R' hS k4 hn9 t0) t4 t5 t6 t7 t8
    rw [if_neg t0]
    by_cases t1 : (bits .and .i64 m.so 255).tmod 9 = 1
    · rw [if_pos t1]
      exact yMkR _ _ _ _ _ _ rfl rfl _ _ _ R' _ (yRep1 m.so m.a m.b m.wide m.nums A n c _ rfl m.sm m.ct m.kd R' hS k4 hn9 t1) t4 t5 t6 t7 t8
    rw [if_neg t1]
    by_cases t2 : (bits .and .i64 m.so 255).tmod 9 = 2
    · rw [if_pos t2]
      exact yMkR _ _ _ _ _ _ rfl rfl _ _ _ R' _ (yRep2 m.so m.a m.b m.wide m.nums m.tx A n c A2 n2 c2 m.sm m.ct m.kd R' hS k4 hn9 hT hn9t k5 t2) t4 t5 t6 t7 t8
    rw [if_neg t2]
    exact yMkR _ _ _ _ _ _ rfl rfl _ _ _ R' _ (yRep3 m.so m.a m.b m.wide m.nums m.tx A n c A2 n2 c2 m.sm m.ct m.kd R' hS k4 hn9 hc hS40 hT t0 t1 t2) t4 t5 t6 t7 t8
  have hln : m.nums.length = n := by have := hS.len; rwa [c32_len] at this
  by_cases h40 : 40 < n
  · obtain ⟨b0, o0, rfl, hmem⟩ := hS.pos (by omega)
    refine Fn.moreRo 0 40 hmem (key _ (hS.mono fun r hr => List.mem_cons_of_mem _ hr) (hT.mono fun r hr => List.mem_cons_of_mem _ hr) ⟨by rw [c32_len, List.length_take]; omega, fun _ => ⟨b0, o0, rfl, ?_⟩⟩)
    have e : ((c32 m.nums).take 40).drop 0 = c32 (m.nums.take 40) := by rw [List.drop_zero, c32, c32, List.map_take]
    rw [e, show elt o0 0 1 = o0 by simp [elt]]
    exact List.mem_cons_self
  · refine key R hS hT ?_
    rw [Nat.min_eq_left (by omega), List.take_of_length_le (by omega)]
    exact hS
theorem cutS_le (s : ByteArray) (k : Nat) : (cutS s k).size ≤ k := cutS_size s k
theorem fsM_le (tx : List ByteArray) (k : Nat) : (fsM tx k).size ≤ k := by
  unfold fsM
  split
  · exact Nat.zero_le _
  · exact cutS_size _ _
theorem itM5_all {sm : Int} : ∀ {i : Nat} {l : List ByteArray}, ∀ x ∈ itM5 sm i l, in8 x.1 ∧ x.2.size ≤ 257
  | i, [], x, hx => by cases hx
  | i, t :: l, x, hx => by
    rcases List.mem_cons.1 hx with rfl | hx
    · exact ⟨by unfold in8; dsimp only; omega, cutS_size _ _⟩
    · exact itM5_all x hx
theorem chM_len (sm : Int) (tx : List ByteArray) : (chM sm tx).length ≤ 4 := by unfold chM; rw [itM5_len, List.length_take]; omega
theorem rtM5_in {wide sm : Int} (h : in64 wide) : in64 (rtM5 wide sm) := by
  unfold rtM5
  have hp : (0 : Int) < 2 ^ (min (bits .and .u8 sm 63).toNat IntKind.u64.bits) := Int.pow_pos (by omega)
  rw [Int.fdiv_eq_ediv_of_nonneg _ (by omega)]
  exact ⟨Int.ediv_nonneg h.1 (by omega), Int.le_trans (Int.ediv_le_self _ h.1) h.2⟩
theorem bks_ok {m : Md} (hm : m.ok) : (∀ b ∈ bksM m.sm m.a m.b m.nums, b.ok) ∧ (bksM m.sm m.a m.b m.nums).length ≤ 33 := by
  obtain ⟨k1, k2, k3, k4, k5, k6, k7, k8, k9⟩ := hm
  refine ⟨fun b hb => ?_, by unfold bksM; rw [List.length_map, List.length_take]; omega⟩
  obtain ⟨x, hx, rfl⟩ := List.mem_map.1 hb
  obtain ⟨x1, x2⟩ := k4 x (List.mem_of_mem_take hx)
  unfold Bk.ok bkM
  exact ⟨⟨x1, x2⟩, k5, k2, k1, by dsimp only; omega, by dsimp only; omega, k1⟩
theorem mk_rg {m : Md} (hm : m.ok) : rgK (mkM m) ∧ (txK (mkM m)).size ≤ 20000 := by
  have hbk := bks_ok hm
  obtain ⟨k1, k2, k3, k4, k5, k6, k7, k8, k9⟩ := hm
  have k40 : ∀ x ∈ m.nums.take 40, in32 x := fun x hx => k4 x (List.mem_of_mem_take hx)
  have hl40 : (m.nums.take 40).length ≤ 40 := by rw [List.length_take]; omega
  unfold mkM
  dsimp only
  split
  · refine ⟨⟨k1, k2, by rw [List.length_map]; omega, fun x hx => ?_⟩, ?_⟩
    · obtain ⟨y, hy, rfl⟩ := List.mem_map.1 hx
      obtain ⟨y1, y2⟩ := k40 y hy
      unfold prs5 in16
      dsimp only; omega
    · simp only [txK, ByteArray.size_append, numsS_size, prsT_size, List.length_cons, List.length_nil, List.length_map]; omega
  split
  · exact ⟨⟨k1, k2⟩, by simp only [txK, numsS_size, List.length_cons, List.length_nil]; omega⟩
  split
  · refine ⟨⟨k1, by rw [List.length_map]; omega, fun x hx => ?_⟩, ?_⟩
    · obtain ⟨y, hy, rfl⟩ := List.mem_map.1 hx
      exact ⟨k40 y hy, k5⟩
    · simp only [txK, ByteArray.size_append, numsS_size, orsT_size, List.length_cons, List.length_nil, List.length_map]; omega
  split
  · refine ⟨⟨k1, rtM5_in k3, k40⟩, ?_⟩
    have : rembS.size = 4 := rfl
    simp only [txK, remT, ByteArray.size_append, numsS_size, List.length_cons, List.length_nil]; omega
  split
  · have := fsM_le m.tx 60
    exact ⟨⟨k7, k6, by omega⟩, by simp only [txK]; omega⟩
  split
  · refine ⟨⟨k1, k3, k2, by unfold in32; omega, k1, by omega, hbk.1⟩, ?_⟩
    simp only [txK, ByteArray.size_append, numsS_size, bksT_size, List.length_cons, List.length_nil]; omega
  split
  · refine ⟨⟨k1, by omega, hbk.1⟩, ?_⟩
    simp only [txK, ByteArray.size_append, numsS_size, bksT_size, List.length_cons, List.length_nil]; omega
  split
  · have hc := chM_len m.sm m.tx
    have ha : ∀ x ∈ chM m.sm m.tx, in8 x.1 ∧ x.2.size ≤ 257 := fun x hx => itM5_all x hx
    refine ⟨⟨by simp, fun c hc2 => ?_⟩, ?_⟩
    · have : c = (m.a, chM m.sm m.tx) := by simpa using hc2
      subst this
      exact ⟨k1, by dsimp only; omega, fun x hx => (ha x hx).1⟩
    · have h1 : ∀ {l : List (Int × ByteArray)}, (∀ x ∈ l, x.2.size ≤ 257) → (itsT l).size ≤ 259 * l.length := fun {l} h => by
        induction l with
        | nil => exact Nat.le_refl _
        | cons x l ih =>
          have h2 := h x (.head _)
          have h3 := ih (fun y hy => h y (.tail _ hy))
          show (itT x ++ itsT l).size ≤ _
          unfold itT
          simp only [ByteArray.size_append, numsS_size, List.length_cons, List.length_nil, Nat.mul_add]; omega
      have h2 := h1 (fun x hx => (ha x hx).2)
      have h3 := pad4_size (numsS 4 [m.a] ++ itsT (chM m.sm m.tx) ++ numsS 1 [0])
      simp only [ByteArray.size_append, numsS_size, List.length_cons, List.length_nil] at h3
      have h4 : (chT (m.a, chM m.sm m.tx)).size ≤ 1050 := by unfold chT; dsimp only; omega
      show (chT _ ++ (chT _ ++ E0)).size ≤ 20000
      rw [append_E0, ByteArray.size_append]; omega
  · have hf := fsM_le m.tx 257
    refine ⟨k40, ?_⟩
    simp only [txK, byT]
    split
    · rw [numsS_size]; omega
    · have h3 := pad4_size (numsS 4 (m.nums.take 40) ++ numsS 1 [((fsM m.tx 257).size : Int)] ++ fsM m.tx 257)
      simp only [ByteArray.size_append, numsS_size, List.length_cons, List.length_nil] at h3
      omega
end Go.Proofs.Yteaccbbmphcmnaa

/-
  Layer 5's document: parts of a packet's bytes.
-/
namespace Go.Proofs.Yteaccbbmphcmnaa
set_option linter.unusedSimpArgs false
set_option linter.unusedVariables false
open Go.RowKit
attribute [local irreducible] Pv WO WC Fn
set_option maxRecDepth 100000
attribute [local irreducible] ByteArray.extract

theorem eNum4 (x : Int) (h : in32 x) : Fn Try.prog 71 #[.int .u32 x] [] [] (fun v L' R' => v = .string (numS 4 x) ∧ L' = [] ∧ R' = []) := by
  have h : 0 ≤ x ∧ x ≤ 4294967295 := h
  refine fn_intro Try.func71 rfl Try.ntmps71 rfl (fun E => ?_)
  (repeat (first | ((first | (apply wo_v; rfl) ); (· first | (apply pv_ev; rfl) | (apply g_conv; first | (apply a_conv; rfl; infer_instance; infer_instance; infer_instance; omega) ) )) | apply wo_nil | apply wc_seq | apply wc_region ))
  (refine wo_call (rNum 4 x 4 rfl (by omega)) rfl (by (repeat (first | apply sub_nil )); done) (by first | exact fun _ h => h | (intro r hr; cases hr; done) | (simp; done) | exact fun _ h => List.mem_append_left _ h | (intro r hr; simp [hr]; done)) rfl ?_; rintro v L' R' ⟨rfl, rfl, rfl⟩ H' hH RR hR; simp only [List.cons_append, List.nil_append] at hH hR; subst hH; have hR := hR.symm; subst hR)
  (repeat (first | ((first | (apply wo_v; rfl) ); (· first | (apply pv_ev; rfl) )) | apply wo_nil | apply wc_ret ))
  exact retv rfl (by (repeat (first | apply RV.nil | (apply RV.tmp; rfl) )); done) (⟨rfl, rfl, rfl⟩) (by (repeat (first | apply sub_nil )); done) (by first | exact fun _ h => h | (intro r hr; cases hr; done) | (simp; done) | exact fun _ h => List.mem_append_left _ h | (intro r hr; simp [hr]; done))
theorem zb_snoc (j : Nat) : zb (j + 1) = zb j ++ ⟨#[0]⟩ := rfl
theorem ePad (s : ByteArray) (hs : s.size ≤ 100000000) : Fn Try.prog 41 #[.string s] [] [] (fun v L' R' => v = .string (pad4 s) ∧ L' = [] ∧ R' = []) := by
  have hJ := padJ_lt s.size (T := 4) (by omega)
  have hE := padJ_eq s.size (T := 4) (by omega)
  have hN := fun j h => padJ_ne (n := s.size) (T := 4) (j := j) (by omega) h
  unfold pad4
  generalize padJ s.size 4 = J at *
  refine fn_intro Try.func41 rfl Try.ntmps41 rfl (fun E => ?_)
  (repeat (first | ((first | (apply wo_v; rfl) ); (· first | (apply pv_ev; rfl) )) | apply wo_nil | apply wc_seq | apply wc_region ))
  refine wc_block ?_
  refine wc_loop' (fun q st => ∃ (j : Nat), q = J - j ∧ j ≤ J ∧ st = ⟨[(0, .string (s ++ zb j)), (3, .int .i64 j)], [], []⟩) ⟨0, rfl, Nat.zero_le _, by rw [show zb 0 = E0 from rfl, append_E0]⟩ (wk_mk (by (repeat (first | apply wkf_nil | (apply wkf_cons; rfl))); done) (by (repeat (first | apply sub_nil )); done) (by first | exact fun _ h => h | (intro r hr; cases hr; done) | (simp; done) | exact fun _ h => List.mem_append_left _ h | (intro r hr; simp [hr]; done))) ?_
  rintro q st ⟨j, rfl, hj, rfl⟩
  have hz : (s ++ zb j).size = s.size + j := by rw [ByteArray.size_append, zb_size]
  by_cases hlt : j < J
  · have hn := zb_snoc j
    have hne := hN j hlt
    have hp : 0 < ((s.size + j : Nat) : Int).tmod 4 := by rw [Int.tmod_eq_emod_of_nonneg (by omega)]; omega
    have e : s ++ zb (j + 1) = (s ++ zb j) ++ ⟨#[0]⟩ := by rw [hn, ByteArray.append_assoc]
    generalize s ++ zb j = S0 at *
    have hz1 : S0.size = s.size + j := hz
    rw [← hz] at hp
    have z1 : (⟨#[0]⟩ : ByteArray).size = 1 := rfl
    (repeat (first | ((first | (apply wo_v; rfl) ); (· first | (apply pv_ev; rfl) | (apply g_pick; first | (apply pv_pick_t; rfl; rfl) ) | (apply g_bin; first | (apply pv_rem; rfl; rfl; omega) ) | (apply g_bi; first | (apply pv_len_str; rfl) ) )) | apply wo_nil | apply wc_seq | apply wc_region | apply wc_skip | (apply wc_true; rfl) | (apply wc_false; rfl) | (apply a_dec_t; rfl; (· first | assumption | omega)) | (apply wo_run; rfl; rfl) | (apply wo_skip; rfl; rfl; rfl; rfl) | (apply wo_skip_u; rfl; rfl; rfl) | (apply a_gt; rfl; rfl; (· first | assumption | omega)) ))
    refine wc_block ?_
    (repeat (first | ((first | (apply wo_v; rfl) ); (· first | (apply pv_ev; rfl) | (apply g_bin; first | (apply a_add; rfl; rfl; infer_instance; omega) | (apply pv_add_s; rfl; rfl; omega) ) )) | apply wo_nil | apply wc_region ))
    exact loop_end ⟨j + 1, rfl, by omega, by rw [e]⟩ (by omega) (wk_mk (by (repeat (first | apply wkf_nil | (apply wkf_cons; rfl))); done) (by (repeat (first | apply sub_nil )); done) (by first | exact fun _ h => h | (intro r hr; cases hr; done) | (simp; done) | exact fun _ h => List.mem_append_left _ h | (intro r hr; simp [hr]; done)))
  · obtain rfl : j = J := by omega
    have hp : ¬ 0 < ((s.size + j : Nat) : Int).tmod 4 := by rw [Int.tmod_eq_emod_of_nonneg (by omega)]; omega
    rw [← hz] at hp
    generalize s ++ zb j = S0 at *
    (repeat (first | ((first | (apply wo_v; rfl) ); (· first | (apply pv_ev; rfl) | (apply g_pick; first | (apply pv_pick_t; rfl; rfl) ) | (apply g_bin; first | (apply pv_rem; rfl; rfl; omega) ) | (apply g_bi; first | (apply pv_len_str; rfl) ) )) | apply wo_nil | apply wc_seq | apply wc_region | (apply wc_exit; rfl) | apply wc_ret | (apply wc_true; rfl) | (apply wc_false; rfl) | (apply a_dec_t; rfl; (· first | assumption | omega)) | (apply a_dec_f; rfl; (· first | assumption | omega)) | (apply wo_run; rfl; rfl) | (apply wo_skip; rfl; rfl; rfl; rfl) | (apply wo_skip_u; rfl; rfl; rfl) | (apply a_gt; rfl; rfl; (· first | assumption | omega)) ))
    exact retv rfl (by (repeat (first | apply RV.nil | (apply RV.tmp; rfl) )); done) (⟨rfl, rfl, rfl⟩) (by (repeat (first | apply sub_nil )); done) (by first | exact fun _ h => h | (intro r hr; cases hr; done) | (simp; done) | exact fun _ h => List.mem_append_left _ h | (intro r hr; simp [hr]; done))
theorem eNums (l : List Int) (A : Option Addr) (n c : Nat) (R : List Ro) (hS : SQ R 1 A n c (c32 l)) (hb : ∀ x ∈ l, in32 x) (hl : l.length ≤ 100000) : Fn Try.prog 74 #[.slice A n c] [] R (fun v L' R' => v = .string (numsS 4 l) ∧ L' = [] ∧ R' = []) := by
  have hn : n = l.length := by rw [← hS.len, c32_len]
  subst hn
  refine fn_intro Try.func74 rfl Try.ntmps74 rfl (fun E => ?_)
  (repeat (first | ((first | (apply wo_v; rfl) ); (· first | (apply pv_ev; rfl) | (apply g_bi; first | (apply pv_len_sl; rfl) ) )) | apply wo_nil | apply wc_seq | apply wc_region ))
  refine wc_block ?_
  refine wc_loop' (fun q st => ∃ (i : Nat) (S : ByteArray), q = l.length - i ∧ i ≤ l.length ∧ S = numsS 4 (l.take i) ∧ st = ⟨[(3, .string S), (6, .slice A l.length c), (7, .int .i64 l.length), (8, .int .i64 i)], [], R⟩) ⟨0, E0, rfl, Nat.zero_le _, rfl, rfl⟩ (wk_mk (by (repeat (first | apply wkf_nil | (apply wkf_cons; rfl))); done) (by (repeat (first | apply sub_nil )); done) (by first | exact fun _ h => h | (intro r hr; cases hr; done) | (simp; done) | exact fun _ h => List.mem_append_left _ h | (intro r hr; simp [hr]; done))) ?_
  rintro q st ⟨i, S0, rfl, hi, hS0, rfl⟩
  by_cases hlt : i < l.length
  · obtain ⟨x, hx⟩ : ∃ x, l[i]? = some x := ⟨_, List.getElem?_eq_getElem hlt⟩
    have hr := c32_at hx
    have hz := numsS_size 4 (l.take i)
    rw [List.length_take, Nat.min_eq_left hi] at hz
    have hnx := numsS_take (k := 4) hx
    have hxb := hb x (List.mem_of_getElem? hx)
    have hz4 := numS_size 4 x
    obtain ⟨b0, o0, rfl, hmem⟩ := hS.pos (by omega)
    rw [← hS0] at hz hnx
    (repeat (first | ((first | (apply wo_v; rfl) ); (· first | (apply pv_ev; rfl) )) | apply wo_nil | apply wc_seq | apply wc_region | apply wc_skip | (apply wc_true; rfl) | (apply wc_false; rfl) | (apply a_dec_t; rfl; (· first | assumption | omega)) ))
    refine wc_block ?_
    (repeat (first | ((first | (apply wo_v; rfl) ); (· first | (apply pv_ev; rfl) | (apply g_load; first | (apply pv_ld; rfl; (· (repeat (first | fail ))); rfl) | (apply pv_ld_ownf; rfl; (· (repeat (first | fail ))); (· assumption); rfl) | (apply pv_ld_own1; rfl; (· (repeat (first | fail ))); (· assumption)) | (apply pv_ld_rof; rfl; (· (first | assumption )); (· assumption); rfl) | (apply pv_ld_ro1; rfl; (· (first | assumption )); (· assumption)) ) | (apply g_idx; first | (apply pv_idx; rfl; rfl; omega) ) )) | apply wo_nil | apply wc_seq | apply wc_region ))
    (refine wo_call (eNum4 x hxb) rfl (by (repeat (first | apply sub_nil )); done) (by first | exact fun _ h => h | (intro r hr; cases hr; done) | (simp; done) | exact fun _ h => List.mem_append_left _ h | (intro r hr; simp [hr]; done)) rfl ?_; rintro v L' R' ⟨rfl, rfl, rfl⟩ H' hH RR hR; simp only [List.cons_append, List.nil_append] at hH hR; subst hH; have hR := hR.symm; subst hR)
    (repeat (first | ((first | (apply wo_v; rfl) ); (· first | (apply pv_ev; rfl) | (apply g_bin; first | (apply a_add; rfl; rfl; infer_instance; omega) | (apply pv_add_s; rfl; rfl; omega) ) )) | apply wo_nil | apply wc_region ))
    exact loop_end ⟨i + 1, S0 ++ numS 4 x, rfl, by omega, hnx.symm, rfl⟩ (by omega) (wk_mk (by (repeat (first | apply wkf_nil | (apply wkf_cons; rfl))); done) (by (repeat (first | apply sub_nil )); done) (by first | exact fun _ h => h | (intro r hr; cases hr; done) | (simp; done) | exact fun _ h => List.mem_append_left _ h | (intro r hr; simp [hr]; done)))
  · have e : i = l.length := by omega
    subst e
    rw [List.take_length] at hS0
    subst hS0
    (repeat (first | ((first | (apply wo_v; rfl) ); (· first | (apply pv_ev; rfl) )) | apply wo_nil | apply wc_seq | apply wc_region | (apply wc_exit; rfl) | apply wc_ret | (apply wc_true; rfl) | (apply wc_false; rfl) | (apply a_dec_t; rfl; (· first | assumption | omega)) | (apply a_dec_f; rfl; (· first | assumption | omega)) ))
    exact retv rfl (by (repeat (first | apply RV.nil | (apply RV.tmp; rfl) )); done) (⟨rfl, rfl, rfl⟩) (by (repeat (first | apply sub_nil )); done) (by first | exact fun _ h => h | (intro r hr; cases hr; done) | (simp; done) | exact fun _ h => List.mem_append_left _ h | (intro r hr; simp [hr]; done))
theorem ePow (n : Nat) (hn : n ≤ 63) : Fn Try.prog 83 #[.int .i64 n] [] [] (fun v L' R' => v = .int .u64 (2 ^ n) ∧ L' = [] ∧ R' = []) := by
  refine fn_intro Try.func83 rfl Try.ntmps83 rfl (fun E => ?_)
  (repeat (first | ((first | (apply wo_v; rfl) ); (· first | (apply pv_ev; rfl) )) | apply wo_nil | apply wc_seq | apply wc_region ))
  refine wc_block ?_
  refine wc_loop' (fun q st => ∃ (i : Nat) (p : Int), q = n - i ∧ i ≤ n ∧ p = 2 ^ i ∧ st = ⟨[(0, .int .i64 n), (3, .int .u64 p), (4, .int .i64 i)], [], []⟩) ⟨0, 1, rfl, Nat.zero_le _, rfl, rfl⟩ (wk_mk (by (repeat (first | apply wkf_nil | (apply wkf_cons; rfl))); done) (by (repeat (first | apply sub_nil )); done) (by first | exact fun _ h => h | (intro r hr; cases hr; done) | (simp; done) | exact fun _ h => List.mem_append_left _ h | (intro r hr; simp [hr]; done))) ?_
  rintro q st ⟨i, p, rfl, hi, hp, rfl⟩
  by_cases hlt : i < n
  · have h1 : (2 : Int) ^ (i + 1) ≤ 2 ^ 63 := two_le (by omega)
    have h2 : (2 : Int) ^ (i + 1) = 2 ^ i * 2 := Int.pow_succ _ _
    have h3 : (0 : Int) < 2 ^ i := Int.pow_pos (by omega)
    have h4 : (2 : Int) ^ 63 = 9223372036854775808 := by decide +kernel
    rw [h4] at h1
    rw [← hp] at h2 h3
    rw [h2] at h1
    (repeat (first | ((first | (apply wo_v; rfl) ); (· first | (apply pv_ev; rfl) )) | apply wo_nil | apply wc_seq | apply wc_region | apply wc_skip | (apply wc_true; rfl) | (apply wc_false; rfl) | (apply a_dec_t; rfl; (· first | assumption | omega)) ))
    refine wc_block ?_
    (repeat (first | ((first | (apply wo_v; rfl) ); (· first | (apply pv_ev; rfl) | (apply g_bin; first | (apply a_add; rfl; rfl; infer_instance; omega) | (apply a_mul; rfl; rfl; infer_instance; omega) ) )) | apply wo_nil | apply wc_region ))
    exact loop_end ⟨i + 1, p * 2, rfl, by omega, h2.symm, rfl⟩ (by omega) (wk_mk (by (repeat (first | apply wkf_nil | (apply wkf_cons; rfl))); done) (by (repeat (first | apply sub_nil )); done) (by first | exact fun _ h => h | (intro r hr; cases hr; done) | (simp; done) | exact fun _ h => List.mem_append_left _ h | (intro r hr; simp [hr]; done)))
  · have e : i = n := by omega
    subst e
    subst hp
    (repeat (first | ((first | (apply wo_v; rfl) ); (· first | (apply pv_ev; rfl) )) | apply wo_nil | apply wc_seq | apply wc_region | (apply wc_exit; rfl) | apply wc_ret | (apply wc_true; rfl) | (apply wc_false; rfl) | (apply a_dec_t; rfl; (· first | assumption | omega)) | (apply a_dec_f; rfl; (· first | assumption | omega)) ))
    exact retv rfl (by (repeat (first | apply RV.nil | (apply RV.tmp; rfl) )); done) (⟨rfl, rfl, rfl⟩) (by (repeat (first | apply sub_nil )); done) (by first | exact fun _ h => h | (intro r hr; cases hr; done) | (simp; done) | exact fun _ h => List.mem_append_left _ h | (intro r hr; simp [hr]; done))
theorem eShift (x : Int) (hx : in64 x) : Fn Try.prog 18 #[.int .u64 x] [] [] (fun v L' R' => v = .int .i64 (exM x) ∧ L' = [] ∧ R' = []) := by
  have hx : 0 ≤ x ∧ x ≤ 18446744073709551615 := hx
  have hm := exM_le hx
  refine fn_intro Try.func18 rfl Try.ntmps18 rfl (fun E => ?_)
  (repeat (first | ((first | (apply wo_v; rfl) ); (· first | (apply pv_ev; rfl) )) | apply wo_nil | apply wc_seq | apply wc_region ))
  refine wc_block ?_
  refine wc_loop' (fun q st => ∃ (i : Nat) (y : Int), q = 64 - i ∧ i ≤ 64 ∧ 0 ≤ y ∧ y ≤ 18446744073709551615 ∧ exM x = i + exF (64 - i) y ∧ st = ⟨[(0, .int .u64 y), (3, .int .i64 i), (4, .int .i64 i)], [], []⟩) ⟨0, x, rfl, by omega, hx.1, hx.2, by rw [Nat.zero_add]; rfl, rfl⟩ (wk_mk (by (repeat (first | apply wkf_nil | (apply wkf_cons; rfl))); done) (by (repeat (first | apply sub_nil )); done) (by first | exact fun _ h => h | (intro r hr; cases hr; done) | (simp; done) | exact fun _ h => List.mem_append_left _ h | (intro r hr; simp [hr]; done))) ?_
  rintro q st ⟨i, y, rfl, hi, hy0, hy1, he, rfl⟩
  by_cases hlt : i < 64
  · obtain ⟨k, hk⟩ : ∃ k, 64 - i = k + 1 := ⟨63 - i, by omega⟩
    have e0 : exF (k + 1) y = if y < 262144 then 0 else exF k (y / 2) + 1 := rfl
    rw [hk, e0] at he
    by_cases hy : y < 262144
    · rw [if_pos hy] at he
      (repeat (first | ((first | (apply wo_v; rfl) ); (· first | (apply pv_ev; rfl) | (apply g_pick; first | (apply pv_pick_t; rfl; rfl) ) )) | apply wo_nil | apply wc_seq | apply wc_region | (apply wc_exit; rfl) | apply wc_ret | (apply wc_true; rfl) | (apply wc_false; rfl) | (apply a_dec_t; rfl; (· first | assumption | omega)) | (apply a_dec_f; rfl; (· first | assumption | omega)) | (apply wo_run; rfl; rfl) | (apply wo_skip; rfl; rfl; rfl; rfl) | (apply wo_skip_u; rfl; rfl; rfl) | (apply a_gt; rfl; rfl; (· first | assumption | omega)) ))
      obtain rfl : i = exM x := by omega
      exact retv rfl (by (repeat (first | apply RV.nil | (apply RV.tmp; rfl) )); done) (⟨rfl, rfl, rfl⟩) (by (repeat (first | apply sub_nil )); done) (by first | exact fun _ h => h | (intro r hr; cases hr; done) | (simp; done) | exact fun _ h => List.mem_append_left _ h | (intro r hr; simp [hr]; done))
    · rw [if_neg hy] at he
      have hk2 : 64 - (i + 1) = k := by omega
      have e5 : y.tdiv 2 = y / 2 := Int.tdiv_eq_ediv_of_nonneg hy0
      (repeat (first | ((first | (apply wo_v; rfl) ); (· first | (apply pv_ev; rfl) | (apply g_pick; first | (apply pv_pick_t; rfl; rfl) ) )) | apply wo_nil | apply wc_seq | apply wc_region | apply wc_skip | (apply wc_true; rfl) | (apply wc_false; rfl) | (apply a_dec_t; rfl; (· first | assumption | omega)) | (apply wo_run; rfl; rfl) | (apply wo_skip; rfl; rfl; rfl; rfl) | (apply wo_skip_u; rfl; rfl; rfl) | (apply a_gt; rfl; rfl; (· first | assumption | omega)) ))
      refine wc_block ?_
      (repeat (first | ((first | (apply wo_v; rfl) ); (· first | (apply pv_ev; rfl) | (apply g_bin; first | (apply a_add; rfl; rfl; infer_instance; omega) | (apply a_quo; rfl; rfl; infer_instance; omega) ) )) | apply wo_nil | apply wc_seq | apply wc_region ))
      exact loop_end ⟨i + 1, y / 2, rfl, by omega, by omega, by omega, by rw [hk2]; omega, rfl⟩ (by omega) (wk_mk (by (repeat (first | apply wkf_nil | (apply wkf_cons; rfl))); done) (by (repeat (first | apply sub_nil )); done) (by first | exact fun _ h => h | (intro r hr; cases hr; done) | (simp; done) | exact fun _ h => List.mem_append_left _ h | (intro r hr; simp [hr]; done)))
  · exfalso
    have e : i = 64 := by omega
    subst e
    omega
theorem eKnown (kd ct : Int) : Fn Try.prog 19 #[.int .u8 kd, .int .u8 ct] [] [] (fun v L' R' => v = .bool (knB kd ct) ∧ L' = [] ∧ R' = []) := by
  have hc : (kd < 200) ∨ (200 ≤ kd ∧ kd ≤ 203) ∨ (203 < kd ∧ kd = 205 ∧ ct = 1) ∨ (203 < kd ∧ kd = 205 ∧ ct ≠ 1) ∨ (203 < kd ∧ kd = 206 ∧ ct = 1) ∨ (203 < kd ∧ kd = 206 ∧ ct ≠ 1 ∧ ct = 4) ∨ (203 < kd ∧ kd = 206 ∧ ct ≠ 1 ∧ ct ≠ 4 ∧ ct = 15) ∨ (203 < kd ∧ kd = 206 ∧ ct ≠ 1 ∧ ct ≠ 4 ∧ ct ≠ 15) ∨ (203 < kd ∧ kd ≠ 205 ∧ kd ≠ 206) := by omega
  unfold knB
  rcases hc with a | ⟨a, b⟩ | ⟨a, b, c⟩ | ⟨a, b, c⟩ | ⟨a, b, c⟩ | ⟨a, b, c, d⟩ | ⟨a, b, c, d, e⟩ | ⟨a, b, c, d, e⟩ | ⟨a, b, c⟩
  all_goals
    refine fn_intro Try.func19 rfl Try.ntmps19 rfl (fun E => ?_)
    (repeat (first | ((first | (apply wo_v; rfl) ); (· first | (apply pv_ev; rfl) | (apply g_pick; first | (apply pv_pick_t; rfl; rfl) | (apply pv_pick_f; rfl; rfl)) )) | apply wo_nil | apply wc_seq | apply wc_region | apply wc_ret | (apply wo_run; rfl; rfl) | (apply wo_skip; rfl; rfl; rfl; rfl) | (apply wo_skip_u; rfl; rfl; rfl) | (apply a_gt; rfl; rfl; (· first | assumption | omega)) | (apply a_gf; rfl; rfl; (· first | assumption | omega)) ))
    exact ret1 rfl rfl ⟨by congr 1; first | rfl | (exact decide_eq_decide.2 (by omega)) | (simp; omega) | (rw [eq_comm, decide_eq_true_iff]; omega) | (rw [eq_comm, decide_eq_false_iff_not]; omega), rfl, rfl⟩ ((by (repeat (first | apply sub_nil )); done) : List.Perm _ ([] ++ _)) (by first | exact fun _ h => h | (intro r hr; cases hr; done) | (simp; done) | exact fun _ h => List.mem_append_left _ h | (intro r hr; simp [hr]; done))
end Go.Proofs.Yteaccbbmphcmnaa
