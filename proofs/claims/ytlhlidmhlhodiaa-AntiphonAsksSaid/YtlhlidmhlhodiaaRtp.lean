/-
  Package rtp: awake, Is, RtpIs.
-/
import Derived.Test.YtlhlidmhlhodiaaOctV
import Derived.Test.YtlhlidmhlhodiaaSpQ
import Derived.Test.YtlhlidmhlhodiaaSpP
import Derived.Test.YtlhlidmhlhodiaaSpL
namespace Go.Proofs.Ytlhlidmhlhodiaa
set_option linter.unusedSimpArgs false
set_option linter.unusedVariables false
set_option linter.unusedSimpArgs false
set_option linter.unusedVariables false
open Go.RowKit
attribute [local irreducible] Pv WO WC Fn
set_option maxRecDepth 100000

abbrev rpR (mrk : Bool) (kd sq t ss : Int) (cs : Value) (ex : Bool) (pf : Int) (dt pl : ByteArray) (pd : Int) : List Value := [.bool mrk, .int .u8 kd, .int .u16 sq, .int .u32 t, .int .u32 ss, cs, .bool ex, .int .u16 pf, .string dt, .string pl, .int .i64 pd]
theorem kU8 (g : Nat) (s b s2 : ByteArray) (x e2 : Int) (hs : s.size ≤ 1000000) (hq : rdB s 0 1 = (b, s2, e2)) (hx : valK b b.size = x) : Fn Try.prog 63 #[.pointer (some ⟨g, 0, none⟩)] [rdO g s 0] [] (fun v L' R' => v = .int .u8 x ∧ L' = [rdO g s2 e2] ∧ R' = []) := by
  subst hx; exact octU8 g s b s2 0 e2 (by omega) hq
theorem kU16 (g : Nat) (s b s2 : ByteArray) (x e2 : Int) (hs : s.size ≤ 1000000) (hq : rdB s 0 2 = (b, s2, e2)) (hx : valK b b.size = x) : Fn Try.prog 65 #[.pointer (some ⟨g, 0, none⟩)] [rdO g s 0] [] (fun v L' R' => v = .int .u16 x ∧ L' = [rdO g s2 e2] ∧ R' = []) := by
  subst hx; exact octU16 g s b s2 0 e2 (by omega) hq
theorem kU32 (g : Nat) (s b s2 : ByteArray) (x e2 : Int) (hs : s.size ≤ 1000000) (hq : rdB s 0 4 = (b, s2, e2)) (hx : valK b b.size = x) : Fn Try.prog 66 #[.pointer (some ⟨g, 0, none⟩)] [rdO g s 0] [] (fun v L' R' => v = .int .u32 x ∧ L' = [rdO g s2 e2] ∧ R' = []) := by
  subst hx; exact octU32 g s b s2 0 e2 (by omega) hq
theorem kRest (g : Nat) (s b s2 : ByteArray) (e2 : Int) (hs : s.size ≤ 1000000) (hq : rdB s 0 s.size = (b, s2, e2)) : Fn Try.prog 68 #[.pointer (some ⟨g, 0, none⟩)] [rdO g s 0] [] (fun v L' R' => v = .string b ∧ L' = [rdO g s2 e2] ∧ R' = []) := by
  have h := octRest g s 0 (by omega)
  rw [hq] at h; exact h
set_option maxHeartbeats 4000000 in
theorem aParse : Fn Try.prog 15 #[.string ⟨#[128, 96, 0, 1, 0, 0, 0, 2, 0, 0, 0, 3, 97]⟩] [] []
    (fun v L' R' => v = .tuple #[.agg (rpR false 96 1 2 3 (.slice none 0 0) false 0 ByteArray.empty ⟨#[97]⟩ 0).toArray, .int .i64 0] ∧ L' = [] ∧ R' = []) := by
  have c1 := fun g => kU8 g ⟨#[128, 96, 0, 1, 0, 0, 0, 2, 0, 0, 0, 3, 97]⟩ ⟨#[128]⟩ ⟨#[96, 0, 1, 0, 0, 0, 2, 0, 0, 0, 3, 97]⟩ 128 0 (by decide) (by decide) (by decide)
  have c2 := fun g => kU8 g ⟨#[96, 0, 1, 0, 0, 0, 2, 0, 0, 0, 3, 97]⟩ ⟨#[96]⟩ ⟨#[0, 1, 0, 0, 0, 2, 0, 0, 0, 3, 97]⟩ 96 0 (by decide) (by decide) (by decide)
  have c3 := fun g => octErr g ⟨#[0, 1, 0, 0, 0, 2, 0, 0, 0, 3, 97]⟩ 0
  have c4 := fun g => kU16 g ⟨#[0, 1, 0, 0, 0, 2, 0, 0, 0, 3, 97]⟩ ⟨#[0, 1]⟩ ⟨#[0, 0, 0, 2, 0, 0, 0, 3, 97]⟩ 1 0 (by decide) (by decide) (by decide)
  have c5 := fun g => kU32 g ⟨#[0, 0, 0, 2, 0, 0, 0, 3, 97]⟩ ⟨#[0, 0, 0, 2]⟩ ⟨#[0, 0, 0, 3, 97]⟩ 2 0 (by decide) (by decide) (by decide)
  have c6 := fun g => kU32 g ⟨#[0, 0, 0, 3, 97]⟩ ⟨#[0, 0, 0, 3]⟩ ⟨#[97]⟩ 3 0 (by decide) (by decide) (by decide)
  have c7 := fun g => kRest g ⟨#[97]⟩ ⟨#[97]⟩ E0 0 (by decide) (by decide)
  have c8 := fun g => octErr g E0 0
  have z0 : (⟨#[128, 96, 0, 1, 0, 0, 0, 2, 0, 0, 0, 3, 97]⟩ : ByteArray).size = 13 := rfl
  generalize (⟨#[128, 96, 0, 1, 0, 0, 0, 2, 0, 0, 0, 3, 97]⟩ : ByteArray) = s0 at c1 z0 ⊢
  generalize (⟨#[96, 0, 1, 0, 0, 0, 2, 0, 0, 0, 3, 97]⟩ : ByteArray) = s1 at c1 c2
  generalize (⟨#[0, 1, 0, 0, 0, 2, 0, 0, 0, 3, 97]⟩ : ByteArray) = s2 at c2 c3 c4
  generalize (⟨#[0, 0, 0, 2, 0, 0, 0, 3, 97]⟩ : ByteArray) = s3 at c4 c5
  generalize (⟨#[0, 0, 0, 3, 97]⟩ : ByteArray) = s4 at c5 c6
  generalize (⟨#[97]⟩ : ByteArray) = s5 at c6 c7 ⊢
  refine fn_intro Try.func15 rfl Try.ntmps15 rfl (fun E => ?_)
  (repeat (first | ((first | (apply wo_v; rfl) ); (· first | (apply pv_ev; rfl) | (apply g_bi; first | (apply pv_len_str; rfl) ) )) | apply wo_nil | apply wc_seq | apply wc_region | apply wc_skip | (apply wc_true; rfl) | (apply wc_false; rfl) | (apply a_dec_t; rfl; (· first | assumption | omega)) | (apply a_dec_f; rfl; (· first | assumption | omega)) | (apply wo_alloc; rfl; intro bx) ))
  (refine wo_call (octRead s0) rfl (by (repeat (first | apply sub_nil )); done) (by first | exact fun _ h => h | (intro r hr; cases hr; done) | (simp; done) | exact fun _ h => List.mem_append_left _ h | (intro r hr; simp [hr]; done)) rfl ?_; rintro v L' R' ⟨g, rfl, rfl, rfl⟩ H' hH RR hR; simp only [List.cons_append, List.nil_append] at hH hR; subst hH; have hR := hR.symm; subst hR)
  (repeat (first | ((first | (apply wo_v; rfl) ); (· first | (apply pv_ev; rfl) )) | apply wo_nil | apply wc_seq | apply wc_region ))
  (refine wo_call (c1 g) rfl (by (repeat (first | apply sub_nil )); done) (by first | exact fun _ h => h | (intro r hr; cases hr; done) | (simp; done) | exact fun _ h => List.mem_append_left _ h | (intro r hr; simp [hr]; done)) rfl ?_; rintro v L' R' ⟨rfl, rfl, rfl⟩ H' hH RR hR; simp only [List.cons_append, List.nil_append] at hH hR; subst hH; have hR := hR.symm; subst hR)
  (repeat (first | ((first | (apply wo_v; rfl) ); (· first | (apply pv_ev; rfl) )) ))
  (refine wo_call (c2 g) rfl (by (repeat (first | apply sub_nil )); done) (by first | exact fun _ h => h | (intro r hr; cases hr; done) | (simp; done) | exact fun _ h => List.mem_append_left _ h | (intro r hr; simp [hr]; done)) rfl ?_; rintro v L' R' ⟨rfl, rfl, rfl⟩ H' hH RR hR; simp only [List.cons_append, List.nil_append] at hH hR; subst hH; have hR := hR.symm; subst hR)
  (repeat (first | ((first | (apply wo_v; rfl) ); (· first | (apply pv_ev; rfl) )) | apply wo_nil | apply wc_seq | apply wc_region ))
  (refine wo_call (c3 g) rfl (by (repeat (first | apply sub_nil )); done) (by first | exact fun _ h => h | (intro r hr; cases hr; done) | (simp; done) | exact fun _ h => List.mem_append_left _ h | (intro r hr; simp [hr]; done)) rfl ?_; rintro v L' R' ⟨rfl, rfl, rfl⟩ H' hH RR hR; simp only [List.cons_append, List.nil_append] at hH hR; subst hH; have hR := hR.symm; subst hR)
  (repeat (first | ((first | (apply wo_v; rfl) ); (· first | (apply pv_ev; rfl) | (apply g_pick; first | (apply pv_pick_t; rfl; rfl) ) | (apply g_bin; first | (apply pv_and; rfl; rfl) | (apply a_shr; rfl; rfl; rfl; omega; rfl) ) )) | apply wo_nil | apply wc_seq | apply wc_region | apply wc_skip | (apply wc_true; rfl) | (apply wc_false; rfl) | (apply wo_run; rfl; rfl) ))
  rw [show bits .and .u8 96 127 = 96 by decide, show decide ((127 : Int) < 96) = false by decide]
  (refine wo_call (c4 g) rfl (by (repeat (first | apply sub_nil )); done) (by first | exact fun _ h => h | (intro r hr; cases hr; done) | (simp; done) | exact fun _ h => List.mem_append_left _ h | (intro r hr; simp [hr]; done)) rfl ?_; rintro v L' R' ⟨rfl, rfl, rfl⟩ H' hH RR hR; simp only [List.cons_append, List.nil_append] at hH hR; subst hH; have hR := hR.symm; subst hR)
  (repeat (first | ((first | (apply wo_v; rfl) ); (· first | (apply pv_ev; rfl) )) ))
  (refine wo_call (c5 g) rfl (by (repeat (first | apply sub_nil )); done) (by first | exact fun _ h => h | (intro r hr; cases hr; done) | (simp; done) | exact fun _ h => List.mem_append_left _ h | (intro r hr; simp [hr]; done)) rfl ?_; rintro v L' R' ⟨rfl, rfl, rfl⟩ H' hH RR hR; simp only [List.cons_append, List.nil_append] at hH hR; subst hH; have hR := hR.symm; subst hR)
  (repeat (first | ((first | (apply wo_v; rfl) ); (· first | (apply pv_ev; rfl) )) ))
  (refine wo_call (c6 g) rfl (by (repeat (first | apply sub_nil )); done) (by first | exact fun _ h => h | (intro r hr; cases hr; done) | (simp; done) | exact fun _ h => List.mem_append_left _ h | (intro r hr; simp [hr]; done)) rfl ?_; rintro v L' R' ⟨rfl, rfl, rfl⟩ H' hH RR hR; simp only [List.cons_append, List.nil_append] at hH hR; subst hH; have hR := hR.symm; subst hR)
  (repeat (first | ((first | (apply wo_v; rfl) ); (· first | (apply pv_ev; rfl) | (apply g_bin; first | (apply pv_and; rfl; rfl) ) | (apply g_build; apply pv_build; (· (repeat (first | apply Bld.nil | (apply Bld.one; rfl; rfl; (· (repeat (first | apply SetAt.here | apply SetAt.there)))) )))) )) | apply wo_nil | apply wc_seq | apply wc_region | (apply wo_alloc; rfl; intro bx) | (apply wo_sta; rfl; rfl; rfl; rfl; (· (repeat (first | apply sel_here ))); (· (repeat (first | apply LayAt.nil | apply LayAt.here ))); rfl) ))
  rw [show bits .and .u8 128 16 = 0 by decide, show decide ((0 : Int) < 0) = false by decide, show bits .and .u8 128 15 = 0 by decide]
  refine wc_join0 (fun st => ∃ bp bq, st = ⟨[(2, .pointer (some ⟨bq, 0, none⟩)), (4, .pointer (some ⟨g, 0, none⟩)), (5, .int .u8 128), (7, .pointer (some ⟨bp, 0, none⟩))], [rdO g s5 0, .ob bp (.cells (rpR false 96 1 2 3 (.slice none 0 0) false 0 ByteArray.empty ByteArray.empty 0).toArray 33 (0, 0)), .ob bq (.cells (rpR false 0 0 0 0 (.slice none 0 0) false 0 ByteArray.empty ByteArray.empty 0).toArray 33 (0, 0))], []⟩) ?_ ?_
  · rename_i bq _ _ _ _ _ _
    refine wc_block ?_
    refine wc_loop' (fun q st => q = 1 ∧ st = ⟨[(2, .pointer (some ⟨bq, 0, none⟩)), (4, .pointer (some ⟨g, 0, none⟩)), (5, .int .u8 128), (7, .pointer (some ⟨bx, 0, none⟩)), (45, .int .u8 0), (46, .int .u8 0)], [rdO g s5 0, .ob bx (.cells (rpR false 96 1 2 3 (.slice none 0 0) false 0 ByteArray.empty ByteArray.empty 0).toArray 33 (0, 0)), .ob bq (.cells (rpR false 0 0 0 0 (.slice none 0 0) false 0 ByteArray.empty ByteArray.empty 0).toArray 33 (0, 0))], []⟩) ⟨rfl, rfl⟩ (wk_mk (by (repeat (first | apply wkf_nil | (apply wkf_cons; rfl))); done) (by (repeat (first | apply sub_nil | (apply sub_cons; (· (repeat (first | apply sel_here | apply sel_there)))))); done) (by first | exact fun _ h => h | (intro r hr; cases hr; done) | (simp; done) | exact fun _ h => List.mem_append_left _ h | (intro r hr; simp [hr]; done))) ?_
    rintro q st ⟨rfl, rfl⟩
    (repeat (first | ((first | (apply wo_v; rfl) ); (· first | (apply pv_ev; rfl) )) | apply wo_nil | apply wc_seq | apply wc_region | (apply wc_exit; rfl) | (apply wc_true; rfl) | (apply wc_false; rfl) ))
    exact cut_end ⟨bx, bq, rfl⟩ (wk_mk (by (repeat (first | apply wkf_nil | (apply wkf_cons; rfl))); done) (by (repeat (first | apply sub_nil )); done) (by first | exact fun _ h => h | (intro r hr; cases hr; done) | (simp; done) | exact fun _ h => List.mem_append_left _ h | (intro r hr; simp [hr]; done)))
  rintro st ⟨bp, bq, rfl⟩
  (repeat (first | ((first | (apply wo_v; rfl) ); (· first | (apply pv_ev; rfl) | (apply pv_fld; rfl) | (apply g_load; first | (apply pv_ld; rfl; (· (repeat (first | apply sel_here | apply sel_there))); rfl) ) )) | apply wo_nil | apply wc_seq | apply wc_region | apply wc_skip | (apply wc_true; rfl) | (apply wc_false; rfl) ))
  (refine wo_call (c7 g) rfl (by (repeat (first | apply sub_nil )); done) (by first | exact fun _ h => h | (intro r hr; cases hr; done) | (simp; done) | exact fun _ h => List.mem_append_left _ h | (intro r hr; simp [hr]; done)) rfl ?_; rintro v L' R' ⟨rfl, rfl, rfl⟩ H' hH RR hR; simp only [List.cons_append, List.nil_append] at hH hR; subst hH; have hR := hR.symm; subst hR)
  (repeat (first | ((first | (apply wo_v; rfl) ); (· first | (apply pv_ev; rfl) | (apply pv_fld; rfl) )) | apply wo_nil | apply wc_seq | apply wc_region | (apply wo_st; rfl; rfl; rfl; (· (repeat (first | apply sel_here | apply sel_there))); (· (repeat (first | apply SetAt.here | apply SetAt.there))); rfl) ))
  (refine wo_call (c8 g) rfl (by (repeat (first | apply sub_nil | (apply sub_cons; (· (repeat (first | apply sel_here | apply sel_there)))))); done) (by first | exact fun _ h => h | (intro r hr; cases hr; done) | (simp; done) | exact fun _ h => List.mem_append_left _ h | (intro r hr; simp [hr]; done)) rfl ?_; rintro v L' R' ⟨rfl, rfl, rfl⟩ H' hH RR hR; simp only [List.cons_append, List.nil_append] at hH hR; subst hH; have hR := hR.symm; subst hR)
  (repeat (first | ((first | (apply wo_v; rfl) ); (· first | (apply pv_ev; rfl) | (apply g_pick; first | (apply pv_pick_t; rfl; rfl) ) | (apply g_bin; first | (apply pv_and; rfl; rfl) ) )) | apply wo_nil | apply wc_seq | apply wc_region | apply wc_skip | (apply wc_true; rfl) | (apply wc_false; rfl) | (apply wo_run; rfl; rfl) ))
  (refine wo_call (c8 g) rfl (by (repeat (first | apply sub_nil )); done) (by first | exact fun _ h => h | (intro r hr; cases hr; done) | (simp; done) | exact fun _ h => List.mem_append_left _ h | (intro r hr; simp [hr]; done)) rfl ?_; rintro v L' R' ⟨rfl, rfl, rfl⟩ H' hH RR hR; simp only [List.cons_append, List.nil_append] at hH hR; subst hH; have hR := hR.symm; subst hR)
  (repeat (first | ((first | (apply wo_v; rfl) ); (· first | (apply pv_ev; rfl) | (apply g_load; first | (apply pv_lda; rfl; (· (repeat (first | apply sel_here | apply sel_there))); (· (repeat (first | apply Cut.here0 | apply Cut.here )))) ) )) | apply wo_nil | apply wc_seq | apply wc_region | apply wc_skip | apply wc_ret | (apply wc_true; rfl) | (apply wc_false; rfl) | (apply wo_sta; rfl; rfl; rfl; rfl; (· (repeat (first | apply sel_here | apply sel_there))); (· (repeat (first | apply LayAt.nil | apply LayAt.here ))); rfl) ))
  exact retv rfl (by (repeat (first | apply RV.nil | (apply RV.tmp; rfl) | (apply RV.agg; rfl; (· (repeat (first | apply sel_here ))); infer_instance; (· (repeat (first | apply Cut.here0 | apply Cut.here )))) )); done) (⟨rfl, rfl, rfl⟩) (by (repeat (first | apply sub_nil )); done) (by first | exact fun _ h => h | (intro r hr; cases hr; done) | (simp; done) | exact fun _ h => List.mem_append_left _ h | (intro r hr; simp [hr]; done))
theorem rIs (s : ByteArray) (r : Bool) (h2 : 2 ≤ s.size) (h : r = (decide (sb s 0 / 64 = 2) && (decide (sb s 1 < 192) || decide (223 < sb s 1)))) : Fn Try.prog 35 #[.string s] [] [] (fun v L' R' => v = .bool r ∧ L' = [] ∧ R' = []) := by
  by_cases c1 : sb s 0 / 64 = 2 <;> by_cases c2 : sb s 1 < 192 <;> by_cases c3 : 223 < sb s 1
  all_goals
    refine fn_intro Try.func35 rfl Try.ntmps35 rfl (fun E => ?_)
    (repeat (first | ((first | (apply wo_v; rfl) ); (· first | (apply pv_ev; rfl) | (apply g_pick; first | (apply pv_pick_t; rfl; rfl) | (apply pv_pick_f; rfl; rfl)) | (apply g_bin; first | (apply a_shr; rfl; rfl; rfl; omega; rfl) ) | (apply g_bi; first | (apply pv_len_str; rfl) ) | (apply pv_index_sn; rfl; rfl; omega) | (apply pv_index_s; rfl; rfl; omega))) | apply wo_nil | apply wc_seq | apply wc_region | apply wc_ret | (apply wo_run; rfl; rfl) | (apply wo_skip; rfl; rfl; rfl; rfl) | (apply wo_skip_u; rfl; rfl; rfl) | (apply a_gt; rfl; rfl; (· first | assumption | omega)) | (apply a_gf; rfl; rfl; (· first | assumption | omega)) ))
    exact ret1 rfl rfl ⟨by rw [h]; first | (simp [c1, c2, c3]; done) | (exfalso; omega), rfl, rfl⟩ ((by (repeat (first | apply sub_nil )); done) : List.Perm _ ([] ++ _)) (by first | exact fun _ h => h | (intro r hr; cases hr; done) | (simp; done) | exact fun _ h => List.mem_append_left _ h | (intro r hr; simp [hr]; done))
theorem rIsNo (s : ByteArray) (h2 : s.size < 2) : Fn Try.prog 35 #[.string s] [] [] (fun v L' R' => v = .bool false ∧ L' = [] ∧ R' = []) := by
  refine fn_intro Try.func35 rfl Try.ntmps35 rfl (fun E => ?_)
  (repeat (first | ((first | (apply wo_v; rfl) ); (· first | (apply pv_ev; rfl) | (apply g_pick; first | (apply pv_pick_t; rfl; rfl) | (apply pv_pick_f; rfl; rfl)) | (apply g_bi; first | (apply pv_len_str; rfl) ) )) | apply wo_nil | apply wc_seq | apply wc_region | apply wc_ret | (apply wo_run; rfl; rfl) | (apply wo_skip; rfl; rfl; rfl; rfl) | (apply wo_skip_u; rfl; rfl; rfl) | (apply a_gt; rfl; rfl; (· first | assumption | omega)) | (apply a_gf; rfl; rfl; (· first | assumption | omega)) ))
  exact ret1 rfl rfl ⟨by simp, rfl, rfl⟩ ((by (repeat (first | apply sub_nil )); done) : List.Perm _ ([] ++ _)) (by first | exact fun _ h => h | (intro r hr; cases hr; done) | (simp; done) | exact fun _ h => List.mem_append_left _ h | (intro r hr; simp [hr]; done))
theorem outc_pv {P : Program} {N : Nat} {E : Env} {fr : List (Nat × Value)} {L B0 : List It} {ro : List Ro} {op : Op} {v : Value} {dst : Option Tmp} {ty : TypeId} {pos : String} {af : Array Edge} {g : Option (Nat × Bool)} (h : Pv P ⟨fr, L, ro⟩ op v) :
    ∀ a, Holds N fr a → Outc P E B0 ro ⟨dst, op, ty, pos, af, g⟩ a L (fun v' M => v' = v ∧ M = L) := fun a hh F w hw => by
  unfold Pv at h
  rw [h N E a w dst ty pos af g ⟨hh, hw.left⟩]
  exact ⟨L, ⟨rfl, rfl⟩, hw⟩
abbrev byO2 (b : Nat) (x y : Int) : It := .own 5 1 (some ⟨b, 0, none⟩) 2 2 [[.int .u8 x], [.int .u8 y]]
def tblI (x y : Int) (s : ByteArray) : Nat → List (List It) → Value → List (List It) → Prop := fun k Ls v Ms => match k, Ls with
  | 2, _ => ∃ b, v = .slice (some ⟨b, 0, none⟩) 2 2 ∧ Ms = [[.own 5 1 (some ⟨b, 0, none⟩) 2 2 [[.int .u8 x], [.int .u8 y]]]]
  | 3, [l] => v = .string (bytesOf [x, y]) ∧ Ms = [l]
  | _, _ => v = .string s ∧ Ms = [[]]
end Go.Proofs.Ytlhlidmhlhodiaa
