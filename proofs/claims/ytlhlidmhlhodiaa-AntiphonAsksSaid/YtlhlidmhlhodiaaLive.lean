/-
  The laws through the layers: live.
-/
import Derived.Test.YtlhlidmhlhodiaaRtpN
import Derived.Test.YtlhlidmhlhodiaaVpC
import Derived.Test.YtlhlidmhlhodiaaPutP
namespace Go.Proofs.Ytlhlidmhlhodiaa
set_option linter.unusedSimpArgs false
set_option linter.unusedVariables false
open Go.RowKit
attribute [local irreducible] Pv WO WC Fn
set_option maxRecDepth 100000
attribute [local irreducible] ByteArray.extract

theorem live1 : txt ⟨false, false, 0, -1, false, -1, -1, false, -1⟩ = ⟨#[0]⟩ := by decide
theorem live2 : all4 [(206, 1, numsS 4 [1, 2])] = ⟨#[129, 206, 0, 2, 0, 0, 0, 1, 0, 0, 0, 2]⟩ := by decide
theorem alive : Fn Try.prog 12 #[] [] [] (fun v L' R' => v = .bool true ∧ L' = [] ∧ R' = []) := by
  have hck : Ck ⟨false, 96, 1, 0, 0, [], false, 0, E0, ⟨#[120]⟩, 0⟩ := ⟨by decide, by decide, by decide, by decide, (fun _ => ⟨rfl, rfl⟩), by decide⟩
  have hokr : okR ⟨false, 96, 1, 0, 0, [], false, 0, E0, ⟨#[120]⟩, 0⟩ := ⟨by decide, by decide, by decide, by decide, by decide, (fun z hz => by cases hz)⟩
  have hx := prR_txP hokr hck
  have hz := txP_size hck
  have wT := gText false 96 1 0 0 [] false 0 E0 ⟨#[120]⟩ 0 none 0 0 [] (SQ.nil _ _ _ _) (by decide) (by decide) (by decide) (by decide) (by decide) (by decide) (by decide) (by decide) (by decide) (fun z hz => by cases hz)
  unfold txP at hx hz
  dsimp only at hx hz
  rw [show lenM ([] : List Int).length false E0 ⟨#[120]⟩ 0 = 13 by decide] at hz
  generalize txR false 96 1 0 0 [] false 0 E0 ⟨#[120]⟩ 0 = x at hx hz wT
  have wP := pParse x (by omega)
  rw [hx] at wP
  dsimp only [List.length_nil] at wP
  have wV := vText false false 0 (-1) false (-1) (-1) false (-1) (by decide) (by decide)
  rw [live1] at wV
  have wR := fun A c R hS => tText [(206, 1, numsS 4 [1, 2])] [.iface 77 (.agg #[.int .u32 1, .int .u32 2])] A 1 c R hS rfl (by decide) (by decide) (by intro x hx; rcases List.mem_singleton.1 hx with rfl; exact ⟨by unfold in8; dsimp only; omega, by unfold in8; dsimp only; omega⟩)
    (fun i x v h1 h2 => by
      match i, h1, h2 with
      | 0, h1, h2 =>
        simp only [List.getElem?_cons_zero, Option.some.injEq] at h1 h2
        subst h1 h2
        exact ⟨dPli 1 2, tPli R 1 2 (by unfold in32; omega) (by unfold in32; omega)⟩)
  rw [live2] at wR
  refine fn_intro Try.func12 rfl Try.ntmps12 rfl (fun E => ?_)
  (repeat (first | ((first | (apply wo_v; rfl) ); (· first | (apply pv_ev; rfl) | (apply g_load; first | (apply pv_lda; rfl; (· (repeat (first | apply sel_here ))); (· (repeat (first | apply Cut.here0 | apply Cut.here )))) ) | (apply g_build; apply pv_build; (· (repeat (first | apply Bld.nil | (apply Bld.one; rfl; rfl; (· (repeat (first | apply SetAt.here | apply SetAt.there)))) )))) )) | apply wo_nil | apply wc_seq | apply wc_region | (apply wo_alloc; rfl; intro bx) | (apply wo_sta; rfl; rfl; rfl; rfl; (· (repeat (first | apply sel_here ))); (· (repeat (first | apply LayAt.nil | apply LayAt.here ))); rfl) ))
  (refine wo_call (wT) rfl (by (repeat (first | apply sub_nil )); done) (by first | exact fun _ h => h | (intro r hr; cases hr; done) | (simp; done) | exact fun _ h => List.mem_append_left _ h | (intro r hr; simp [hr]; done)) rfl ?_; rintro v L' R' ⟨rfl, rfl, rfl⟩ H' hH RR hR; simp only [List.cons_append, List.nil_append] at hH hR; subst hH; have hR := hR.symm; subst hR)
  (repeat (first | ((first | (apply wo_v; rfl) ); (· first | (apply pv_ev; rfl) )) ))
  (refine wo_call (wP) rfl (by (repeat (first | apply sub_nil )); done) (by first | exact fun _ h => h | (intro r hr; cases hr; done) | (simp; done) | exact fun _ h => List.mem_append_left _ h | (intro r hr; simp [hr]; done)) rfl ?_; rintro v L' R' ⟨ao, c, rfl, rfl, rfl⟩ H' hH RR hR; simp only [List.cons_append, List.nil_append] at hH hR; subst hH; have hR := hR.symm; subst hR)
  (repeat (first | ((first | (apply wo_v; rfl) ); (· first | (apply pv_ev; rfl) )) | apply wo_nil | apply wc_seq | apply wc_region | (apply wo_alloc; rfl; intro bx) | (apply wo_sta; rfl; rfl; rfl; rfl; (· (repeat (first | apply sel_here ))); (· (repeat (first | apply LayAt.nil | apply LayAt.here ))); rfl) ))
  (refine wo_call (vPlain) rfl (by (repeat (first | apply sub_nil )); done) (by first | exact fun _ h => h | (intro r hr; cases hr; done) | (simp; done) | exact fun _ h => List.mem_append_left _ h | (intro r hr; simp [hr]; done)) rfl ?_; rintro v L' R' ⟨rfl, rfl, rfl⟩ H' hH RR hR; simp only [List.cons_append, List.nil_append] at hH hR; subst hH; have hR := hR.symm; subst hR)
  (repeat (first | ((first | (apply wo_v; rfl) ); (· first | (apply pv_ev; rfl) | (apply pv_fld; rfl) | (apply g_load; first | (apply pv_ld; rfl; (· (repeat (first | apply sel_here | apply sel_there))); rfl) | (apply pv_lda; rfl; (· (repeat (first | apply sel_here ))); (· (repeat (first | apply Cut.here0 | apply Cut.here )))) ) | (apply g_pick; first | (apply pv_pick_t; rfl; rfl) ) | (apply g_bin; first | (apply pv_eql_s; rfl; rfl) ) )) | apply wo_nil | apply wc_seq | apply wc_region | (apply wo_run; rfl; rfl) | (apply wo_alloc; rfl; intro bx) | (apply wo_sta; rfl; rfl; rfl; rfl; (· (repeat (first | apply sel_here ))); (· (repeat (first | apply LayAt.nil | apply LayAt.here ))); rfl) ))
  (refine wo_call (wV) rfl (by (repeat (first | apply sub_nil )); done) (by first | exact fun _ h => h | (intro r hr; cases hr; done) | (simp; done) | exact fun _ h => List.mem_append_left _ h | (intro r hr; simp [hr]; done)) rfl ?_; rintro v L' R' ⟨rfl, rfl, rfl⟩ H' hH RR hR; simp only [List.cons_append, List.nil_append] at hH hR; subst hH; have hR := hR.symm; subst hR)
  (repeat (first | ((first | (apply wo_v; rfl) ); (· first | (apply pv_ev; rfl) | (apply g_pick; first | (apply pv_pick_t; rfl; rfl) ) | (apply g_bi; first | (apply pv_len_str; rfl) ) | (apply g_build; apply pv_build; (· (repeat (first | apply Bld.nil | (apply Bld.one; rfl; rfl; (· (repeat (first | apply SetAt.here | apply SetAt.there)))) )))) | (apply pv_mki; rfl; infer_instance) )) | (apply wo_run; rfl; rfl) | (apply wo_bsl; (· (repeat (first | apply Rws'.nil | (apply Rws'.one; rfl; rfl; rfl) ))); rfl; rfl; rfl; rfl; intro bx) ))
  refine wo_still (ao := some ⟨bx, 0, none⟩) (n := 1) (c := 1) (by (repeat (first | apply sel_here )); done) (fun R1 hS1 => ?_)
  have wR2 := wR _ _ _ hS1.sq
  have hy1 : sb ⟨#[129, 206, 0, 2, 0, 0, 0, 1, 0, 0, 0, 2]⟩ (Int.toNat 1) = 206 := by decide
  have hy2 : (⟨#[129, 206, 0, 2, 0, 0, 0, 1, 0, 0, 0, 2]⟩ : ByteArray).size = 12 := rfl
  generalize (⟨#[129, 206, 0, 2, 0, 0, 0, 1, 0, 0, 0, 2]⟩ : ByteArray) = y at wR2 hy1 hy2
  (refine wo_call (wR2) rfl (by (repeat (first | apply sub_nil )); done) (by first | exact fun _ h => h | (intro r hr; cases hr; done) | (simp; done) | exact fun _ h => List.mem_append_left _ h | (intro r hr; simp [hr]; done)) rfl ?_; rintro v L' R' ⟨rfl, rfl, rfl⟩ H' hH RR hR; simp only [List.cons_append, List.nil_append] at hH hR; subst hH; have hR := hR.symm; subst hR)
  (repeat (first | ((first | (apply wo_v; rfl) ); (· first | (apply pv_ev; rfl) | (apply g_pick; first | (apply pv_pick_t; rfl; rfl) ) | (apply pv_index_sn; rfl; rfl; omega) | (apply pv_index_s; rfl; rfl; omega) )) | apply wo_nil | apply wc_ret | (apply wo_run; rfl; rfl) ))
  exact ret1 rfl rfl ⟨by rw [hy1]; simp, rfl, rfl⟩ ((by (repeat (first | apply sub_nil )); done) : List.Perm _ ([] ++ _)) (by first | exact fun _ h => h | (intro r hr; cases hr; done) | (simp; done) | exact fun _ h => List.mem_append_left _ h | (intro r hr; simp [hr]; done))
end Go.Proofs.Ytlhlidmhlhodiaa
