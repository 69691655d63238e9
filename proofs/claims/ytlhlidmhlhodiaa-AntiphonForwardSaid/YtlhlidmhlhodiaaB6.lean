/-
  Texts of this proof, laid together (part 6 of 7).
-/
import Derived.Test.YtlhlidmhlhodiaaB5
/-
  The laws through the layers: live.
-/
namespace Go.Proofs.Ytlhlidmhlhodiaa
set_option linter.unusedSimpArgs false
set_option linter.unusedVariables false
open Go.RowKit
attribute [local irreducible] Pv WO WC Fn
set_option maxRecDepth 100000
attribute [local irreducible] ByteArray.extract

theorem live1 : txt ⟨false, false, 0, -1, false, -1, -1, false, -1⟩ = ⟨#[0]⟩ := by decide
theorem live2 : all4 [(206, 1, numsS 4 [1, 2])] = ⟨#[129, 206, 0, 2, 0, 0, 0, 1, 0, 0, 0, 2]⟩ := by decide
theorem alive : Fn Try.prog 12 #[] [] [] (fun v L' R' => v = .bool true ∧ L' = [] ∧ R' = []) := by
  have hck : Ck ⟨false, 96, 1, 0, 0, [], false, 0, E0, ⟨#[120]⟩, 0⟩ := ⟨by decide, by decide, by decide, by decide, (fun _ => ⟨rfl, rfl⟩), by decide⟩
  have hokr : okR ⟨false, 96, 1, 0, 0, [], false, 0, E0, ⟨#[120]⟩, 0⟩ := ⟨by decide, by decide, by decide, by decide, by decide, (fun z hz => by cases hz)⟩
  have hx := prR_txP hokr hck
  have hz := txP_size hck
  have wT := gText false 96 1 0 0 [] false 0 E0 ⟨#[120]⟩ 0 none 0 0 [] (SQ.nil _ _ _ _) (by decide) (by decide) (by decide) (by decide) (by decide) (by decide) (by decide) (by decide) (by decide) (fun z hz => by cases hz)
  unfold txP at hx hz
  dsimp only at hx hz
  rw [show lenM ([] : List Int).length false E0 ⟨#[120]⟩ 0 = 13 by decide] at hz
  generalize txR false 96 1 0 0 [] false 0 E0 ⟨#[120]⟩ 0 = x at hx hz wT
  have wP := pParse x (by omega)
  rw [hx] at wP
  dsimp only [List.length_nil] at wP
  have wV := vText false false 0 (-1) false (-1) (-1) false (-1) (by decide) (by decide)
  rw [live1] at wV
  have wR := fun A c R hS => tText [(206, 1, numsS 4 [1, 2])] [.iface 77 (.agg #[.int .u32 1, .int .u32 2])] A 1 c R hS rfl (by decide) (by decide) (by intro x hx; rcases List.mem_singleton.1 hx with rfl; exact ⟨by unfold in8; dsimp only; omega, by unfold in8; dsimp only; omega⟩)
    (fun i x v h1 h2 => by
      match i, h1, h2 with
      | 0, h1, h2 =>
        simp only [List.getElem?_cons_zero, Option.some.injEq] at h1 h2
        subst h1 h2
        exact ⟨dPli 1 2, tPli R 1 2 (by unfold in32; omega) (by unfold in32; omega)⟩)
  rw [live2] at wR
  refine fn_intro Try.func12 rfl Try.ntmps12 rfl (fun E => ?_)
  (repeat (first | ((first | (apply wo_v; rfl) ); (· first | (apply pv_ev; rfl) | (apply g_load; first | (apply pv_lda; rfl; (· (repeat (first | apply sel_here ))); (· (repeat (first | apply Cut.here0 | apply Cut.here )))) ) | (apply g_build; apply pv_build; (· (repeat (first | apply Bld.nil | (apply Bld.one; rfl; rfl; (· (repeat (first | apply SetAt.here | apply SetAt.there)))) )))) )) | apply wo_nil | apply wc_seq | apply wc_region | (apply wo_alloc; rfl; intro bx) | (apply wo_sta; rfl; rfl; rfl; rfl; (· (repeat (first | apply sel_here ))); (· (repeat (first | apply LayAt.nil | apply LayAt.here ))); rfl) ))
  (refine wo_call (wT) rfl (by (repeat (first | apply sub_nil )); done) (by first | exact fun _ h => h | (intro r hr; cases hr; done) | (simp; done) | exact fun _ h => List.mem_append_left _ h | (intro r hr; simp [hr]; done)) rfl ?_; rintro v L' R' ⟨rfl, rfl, rfl⟩ H' hH RR hR; simp only [List.cons_append, List.nil_append] at hH hR; subst hH; have hR := hR.symm; subst hR)
  (repeat (first | ((first | (apply wo_v; rfl) ); (· first | (apply pv_ev; rfl) )) ))
  (refine wo_call (wP) rfl (by (repeat (first | apply sub_nil )); done) (by first | exact fun _ h => h | (intro r hr; cases hr; done) | (simp; done) | exact fun _ h => List.mem_append_left _ h | (intro r hr; simp [hr]; done)) rfl ?_; rintro v L' R' ⟨ao, c, rfl, rfl, rfl⟩ H' hH RR hR; simp only [List.cons_append, List.nil_append] at hH hR; subst hH; have hR := hR.symm; subst hR)
  (repeat (first | ((first | (apply wo_v; rfl) ); (· first | (apply pv_ev; rfl) )) | apply wo_nil | apply wc_seq | apply wc_region | (apply wo_alloc; rfl; intro bx) | (apply wo_sta; rfl; rfl; rfl; rfl; (· (repeat (first | apply sel_here ))); (· (repeat (first | apply LayAt.nil | apply LayAt.here ))); rfl) ))
  (refine wo_call (vPlain) rfl (by (repeat (first | apply sub_nil )); done) (by first | exact fun _ h => h | (intro r hr; cases hr; done) | (simp; done) | exact fun _ h => List.mem_append_left _ h | (intro r hr; simp [hr]; done)) rfl ?_; rintro v L' R' ⟨rfl, rfl, rfl⟩ H' hH RR hR; simp only [List.cons_append, List.nil_append] at hH hR; subst hH; have hR := hR.symm; subst hR)
  (repeat (first | ((first | (apply wo_v; rfl) ); (· first | (apply pv_ev; rfl) | (apply pv_fld; rfl) | (apply g_load; first | (apply pv_ld; rfl; (· (repeat (first | apply sel_here | apply sel_there))); rfl) | (apply pv_lda; rfl; (· (repeat (first | apply sel_here ))); (· (repeat (first | apply Cut.here0 | apply Cut.here )))) ) | (apply g_pick; first | (apply pv_pick_t; rfl; rfl) ) | (apply g_bin; first | (apply pv_eql_s; rfl; rfl) ) )) | apply wo_nil | apply wc_seq | apply wc_region | (apply wo_run; rfl; rfl) | (apply wo_alloc; rfl; intro bx) | (apply wo_sta; rfl; rfl; rfl; rfl; (· (repeat (first | apply sel_here ))); (· (repeat (first | apply LayAt.nil | apply LayAt.here ))); rfl) ))
  (refine wo_call (wV) rfl (by (repeat (first | apply sub_nil )); done) (by first | exact fun _ h => h | (intro r hr; cases hr; done) | (simp; done) | exact fun _ h => List.mem_append_left _ h | (intro r hr; simp [hr]; done)) rfl ?_; rintro v L' R' ⟨rfl, rfl, rfl⟩ H' hH RR hR; simp only [List.cons_append, List.nil_append] at hH hR; subst hH; have hR := hR.symm; subst hR)
  (repeat (first | ((first | (apply wo_v; rfl) ); (· first | (apply pv_ev; rfl) | (apply g_pick; first | (apply pv_pick_t; rfl; rfl) ) | (apply g_bi; first | (apply pv_len_str; rfl) ) | (apply g_build; apply pv_build; (· (repeat (first | apply Bld.nil | (apply Bld.one; rfl; rfl; (· (repeat (first | apply SetAt.here | apply SetAt.there)))) )))) | (apply pv_mki; rfl; infer_instance) )) | (apply wo_run; rfl; rfl) | (apply wo_bsl; (· (repeat (first | apply Rws'.nil | (apply Rws'.one; rfl; rfl; rfl) ))); rfl; rfl; rfl; rfl; intro bx) ))
  refine wo_still (ao := some ⟨bx, 0, none⟩) (n := 1) (c := 1) (by (repeat (first | apply sel_here )); done) (fun R1 hS1 => ?_)
  have wR2 := wR _ _ _ hS1.sq
  have hy1 : sb ⟨#[129, 206, 0, 2, 0, 0, 0, 1, 0, 0, 0, 2]⟩ (Int.toNat 1) = 206 := by decide
  have hy2 : (⟨#[129, 206, 0, 2, 0, 0, 0, 1, 0, 0, 0, 2]⟩ : ByteArray).size = 12 := rfl
  generalize (⟨#[129, 206, 0, 2, 0, 0, 0, 1, 0, 0, 0, 2]⟩ : ByteArray) = y at wR2 hy1 hy2
  (refine wo_call (wR2) rfl (by (repeat (first | apply sub_nil )); done) (by first | exact fun _ h => h | (intro r hr; cases hr; done) | (simp; done) | exact fun _ h => List.mem_append_left _ h | (intro r hr; simp [hr]; done)) rfl ?_; rintro v L' R' ⟨rfl, rfl, rfl⟩ H' hH RR hR; simp only [List.cons_append, List.nil_append] at hH hR; subst hH; have hR := hR.symm; subst hR)
  (repeat (first | ((first | (apply wo_v; rfl) ); (· first | (apply pv_ev; rfl) | (apply g_pick; first | (apply pv_pick_t; rfl; rfl) ) | (apply pv_index_sn; rfl; rfl; omega) | (apply pv_index_s; rfl; rfl; omega) )) | apply wo_nil | apply wc_ret | (apply wo_run; rfl; rfl) ))
  exact ret1 rfl rfl ⟨by rw [hy1]; simp, rfl, rfl⟩ ((by (repeat (first | apply sub_nil )); done) : List.Perm _ ([] ++ _)) (by first | exact fun _ h => h | (intro r hr; cases hr; done) | (simp; done) | exact fun _ h => List.mem_append_left _ h | (intro r hr; simp [hr]; done))
end Go.Proofs.Ytlhlidmhlhodiaa

/-
  AntiphonAsks: requests continue as long as a gate needs a key frame.
-/
namespace Go.Proofs.Ytlhlidmhlhodiaa
set_option linter.unusedSimpArgs false
set_option linter.unusedVariables false
open Go.RowKit
attribute [local irreducible] Pv WO WC Fn
attribute [local irreducible] ByteArray.extract
set_option maxRecDepth 100000

abbrev gtO (b : Nat) (o : Bool) (sh : Int) : It := .ob b (.cells #[.bool true, .bool o, .int .i64 0, .int .i64 0, .bool false, .int .i64 sh, .int .i64 0] 164 (0, 0))
abbrev akO (b : Nat) (f m : Int) (w : Bool) (d wt s : Int) : It := .ob b (.cells #[.int .i64 f, .int .i64 m, .bool w, .int .i64 d, .int .i64 wt, .int .i64 s] 166 (0, 0))
theorem gNew0 : Fn Try.prog 19 #[.bool true, .int .i64 0] [] [] (fun v L' R' => ∃ b, v = .pointer (some ⟨b, 0, none⟩) ∧ L' = [gtO b false 0] ∧ R' = []) := by
  refine fn_intro Try.func19 rfl Try.ntmps19 rfl (fun E => ?_)
  (repeat (first | ((first | (apply wo_v; rfl) ); (· first | (apply pv_ev; rfl) | (apply g_bi; first | (apply pv_max; rfl; rfl)) | (apply g_build; apply pv_build; (· (repeat (first | apply Bld.nil | (apply Bld.one; rfl; rfl; (· (repeat (first | apply SetAt.here | apply SetAt.there)))) )))) )) | apply wo_nil | apply wc_seq | apply wc_region | apply wc_ret | (apply wo_box1; rfl; rfl; rfl; intro bx) | (apply wo_boxa; rfl; rfl; intro bx) ))
  exact ret1 rfl rfl ⟨bx, rfl, rfl, rfl⟩ ((by (repeat (first | apply sub_nil )); done) : List.Perm _ ([_] ++ _)) (by first | exact fun _ h => h | (intro r hr; cases hr; done) | (simp; done) | exact fun _ h => List.mem_append_left _ h | (intro r hr; simp [hr]; done))
theorem gPass0 (b : Nat) (o : Bool) (sh : Int) (k : Bool) : Fn Try.prog 21 #[.pointer (some ⟨b, 0, none⟩), .int .i64 0, .bool k] [gtO b o sh] [] (fun v L' R' => v = .bool (o || k) ∧ L' = [gtO b (o || k) sh] ∧ R' = []) := by
  cases o <;> cases k
  all_goals
    refine fn_intro Try.func21 rfl Try.ntmps21 rfl (fun E => ?_)
    (repeat (first | ((first | (apply wo_v; rfl) ); (· first | (apply pv_ev; rfl) | (apply pv_fld; rfl) | (apply g_load; first | (apply pv_ld; rfl; (· (repeat (first | apply sel_here ))); rfl) ) | (apply g_pick; first | (apply pv_pick_t; rfl; rfl) | (apply pv_pick_f; rfl; rfl)) | (apply g_un; first | (apply pv_not_t; rfl) ) )) | apply wo_nil | apply wc_seq | apply wc_region | apply wc_block | apply wc_skip | apply wc_ret | (apply wc_true; rfl) | (apply wc_false; rfl) | (apply wo_run; rfl; rfl) | (apply wo_skip; rfl; rfl; rfl; rfl) | (apply wo_st; rfl; rfl; rfl; (· (repeat (first | apply sel_here ))); (· (repeat (first | apply SetAt.here | apply SetAt.there))); rfl) ))
    exact ret1 rfl rfl ⟨by simp, rfl, rfl⟩ ((by (repeat (first | apply sub_nil )); done) : List.Perm _ ([_] ++ _)) (by first | exact fun _ h => h | (intro r hr; cases hr; done) | (simp; done) | exact fun _ h => List.mem_append_left _ h | (intro r hr; simp [hr]; done))
theorem gShut0 (b : Nat) (o : Bool) (sh : Int) (hs : 0 ≤ sh ∧ sh ≤ 100000) : Fn Try.prog 22 #[.pointer (some ⟨b, 0, none⟩)] [gtO b o sh] [] (fun v L' R' => ∃ sh', v = .tuple #[] ∧ L' = [gtO b false sh'] ∧ R' = [] ∧ sh ≤ sh' ∧ sh' ≤ sh + 1) := by
  cases o
  · refine fn_intro Try.func22 rfl Try.ntmps22 rfl (fun E => ?_)
    (repeat (first | ((first | (apply wo_v; rfl) ); (· first | (apply pv_ev; rfl) | (apply pv_fld; rfl) | (apply g_load; first | (apply pv_ld; rfl; (· (repeat (first | apply sel_here ))); rfl) ) )) | apply wo_nil | apply wc_seq | apply wc_region | apply wc_skip | (apply wc_true; rfl) | (apply wc_false; rfl) | (apply wo_st; rfl; rfl; rfl; (· (repeat (first | apply sel_here ))); (· (repeat (first | apply SetAt.here | apply SetAt.there))); rfl) ))
    exact ret0 rfl ⟨sh, rfl, rfl, rfl, by omega, by omega⟩ ((by (repeat (first | apply sub_nil )); done) : List.Perm _ ([_] ++ _)) (by first | exact fun _ h => h | (intro r hr; cases hr; done) | (simp; done) | exact fun _ h => List.mem_append_left _ h | (intro r hr; simp [hr]; done))
  · refine fn_intro Try.func22 rfl Try.ntmps22 rfl (fun E => ?_)
    (repeat (first | ((first | (apply wo_v; rfl) ); (· first | (apply pv_ev; rfl) | (apply pv_fld; rfl) | (apply g_load; first | (apply pv_ld; rfl; (· (repeat (first | apply sel_here ))); rfl) ) | (apply g_bin; first | (apply a_add; rfl; rfl; infer_instance; omega) ) )) | apply wo_nil | apply wc_seq | apply wc_region | (apply wc_true; rfl) | (apply wo_st; rfl; rfl; rfl; (· (repeat (first | apply sel_here ))); (· (repeat (first | apply SetAt.here | apply SetAt.there))); rfl) ))
    exact ret0 rfl ⟨sh + 1, rfl, rfl, rfl, by omega, by omega⟩ ((by (repeat (first | apply sub_nil )); done) : List.Perm _ ([_] ++ _)) (by first | exact fun _ h => h | (intro r hr; cases hr; done) | (simp; done) | exact fun _ h => List.mem_append_left _ h | (intro r hr; simp [hr]; done))
theorem gNeeds0 (b : Nat) (o : Bool) (sh : Int) : Fn Try.prog 23 #[.pointer (some ⟨b, 0, none⟩)] [gtO b o sh] [] (fun v L' R' => v = .tuple #[.int .i64 0, .bool (!o)] ∧ L' = [gtO b o sh] ∧ R' = []) := by
  cases o
  all_goals
    refine fn_intro Try.func23 rfl Try.ntmps23 rfl (fun E => ?_)
    (repeat (first | ((first | (apply wo_v; rfl) ); (· first | (apply pv_ev; rfl) )) | apply wo_nil | apply wc_seq | apply wc_region ))
    (refine wc_quiet mixed (by kernel_rfl) ?_; (repeat (first | ((first | (apply wo_v; rfl) | (apply hd_v; rfl) ); (· first | (apply pv_ev; rfl) | (apply pv_fld; rfl) | (apply g_load; first | (apply pv_ld; rfl; (· (repeat (first | apply sel_here ))); rfl) ) | (apply g_pick; first | (apply pv_pick_t; rfl; rfl) | (apply pv_pick_f; rfl; rfl)) | (apply g_un; first | (apply pv_not_t; rfl) | (apply pv_not_f; rfl) ) )) | apply wo_nil | apply Hd.nil | apply wc_seq | apply wc_region | apply wc_skip | apply wc_ret | (apply wc_true; rfl) | (apply wc_false; rfl) | (apply Hd.run; rfl; rfl) | (apply Hd.skip; rfl; rfl; rfl; rfl) )))
    exact ret2 rfl rfl rfl ⟨rfl, rfl, rfl⟩ ((by (repeat (first | apply sub_nil )); done) : List.Perm _ ([_] ++ _)) (by first | exact fun _ h => h | (intro r hr; cases hr; done) | (simp; done) | exact fun _ h => List.mem_append_left _ h | (intro r hr; simp [hr]; done))
theorem aCheck0 (f m : Int) (h : 1 ≤ f ∧ f ≤ m ∧ m ≤ 1000) : Fn Try.prog 75 #[.agg #[.int .i64 f, .int .i64 m]] [] [] (fun v L' R' => v = .int .i64 0 ∧ L' = [] ∧ R' = []) := by
  refine fn_intro Try.func75 rfl Try.ntmps75 rfl (fun E => ?_)
  (repeat (first | ((first | (apply wo_v; rfl) ); (· first | (apply pv_ev; rfl) | (apply pv_fld; rfl) | (apply g_load; first | (apply pv_ld; rfl; (· (repeat (first | apply sel_here ))); rfl) ) | (apply g_pick; first | (apply pv_pick_t; rfl; rfl) | (apply pv_pick_f; rfl; rfl)) )) | apply wo_nil | apply wc_seq | apply wc_region | apply wc_skip | apply wc_ret | (apply wc_true; rfl) | (apply wc_false; rfl) | (apply a_dec_t; rfl; (· first | assumption | omega)) | (apply a_dec_f; rfl; (· first | assumption | omega)) | (apply wo_run; rfl; rfl) | (apply wo_skip; rfl; rfl; rfl; rfl) | (apply wo_skip_u; rfl; rfl; rfl) | (apply a_gt; rfl; rfl; (· first | assumption | omega)) | (apply a_gf; rfl; rfl; (· first | assumption | omega)) | (apply wo_box1; rfl; rfl; rfl; intro bx) | (apply wo_boxa; rfl; rfl; intro bx) ))
  exact ret1 rfl rfl ⟨rfl, rfl, rfl⟩ ((by (repeat (first | apply sub_nil )); done) : List.Perm _ ([] ++ _)) (by first | exact fun _ h => h | (intro r hr; cases hr; done) | (simp; done) | exact fun _ h => List.mem_append_left _ h | (intro r hr; simp [hr]; done))
theorem aNew0 (f m : Int) (h : 1 ≤ f ∧ f ≤ m ∧ m ≤ 1000) : Fn Try.prog 20 #[.agg #[.int .i64 f, .int .i64 m]] [] [] (fun v L' R' => ∃ b, v = .tuple #[.pointer (some ⟨b, 0, none⟩), .int .i64 0] ∧ L' = [akO b f m false 0 0 0] ∧ R' = []) := by
  refine fn_intro Try.func20 rfl Try.ntmps20 rfl (fun E => ?_)
  (repeat (first | ((first | (apply wo_v; rfl) ); (· first | (apply pv_ev; rfl) | (apply g_load; first | (apply pv_lda; rfl; (· (repeat (first | apply sel_here ))); (· (repeat (first | apply Cut.here0 | apply Cut.here )))) ) )) | apply wo_nil | apply wc_seq | apply wc_region | (apply wo_box1; rfl; rfl; rfl; intro bx) | (apply wo_boxa; rfl; rfl; intro bx) ))
  (refine wo_call (aCheck0 f m h) rfl (by (repeat (first | apply sub_nil )); done) (by first | exact fun _ h => h | (intro r hr; cases hr; done) | (simp; done) | exact fun _ h => List.mem_append_left _ h | (intro r hr; simp [hr]; done)) rfl ?_; rintro v L' R' ⟨rfl, rfl, rfl⟩ H' hH RR hR; simp only [List.cons_append, List.nil_append] at hH hR; subst hH; have hR := hR.symm; subst hR)
  (repeat (first | ((first | (apply wo_v; rfl) ); (· first | (apply pv_ev; rfl) | (apply g_load; first | (apply pv_lda; rfl; (· (repeat (first | apply sel_here ))); (· (repeat (first | apply Cut.here0 | apply Cut.here )))) ) | (apply g_build; apply pv_build; (· (repeat (first | apply Bld.nil | (apply Bld.agg; rfl; rfl; (· (repeat (first | apply LayAt.nil | apply LayAt.here )))))))) )) | apply wo_nil | apply wc_seq | apply wc_region | apply wc_skip | apply wc_ret | (apply wc_true; rfl) | (apply wc_false; rfl) | (apply wo_box1; rfl; rfl; rfl; intro bx) | (apply wo_boxa; rfl; rfl; intro bx) ))
  exact ret2 rfl rfl rfl ⟨bx, rfl, rfl, rfl⟩ ((by (repeat (first | apply sub_nil )); done) : List.Perm _ ([_] ++ _)) (by first | exact fun _ h => h | (intro r hr; cases hr; done) | (simp; done) | exact fun _ h => List.mem_append_left _ h | (intro r hr; simp [hr]; done))
def tblT3 (b : Nat) (f m : Int) (w : Bool) (d wt s : Int) : Nat → List (List It) → Value → List (List It) → Prop := fun k Ls v Ms => match k with
  | 4 => v = .int .i64 wt ∧ Ms = Ls
  | 10 => v = .int .i64 m ∧ Ms = Ls
  | _ => v = undef ∧ Ms = [[akO b f m w d (min (2 * wt) m) s]]
theorem tblT3_rd {b : Nat} {f m : Int} {w : Bool} {d wt s : Int} : ∀ k ∈ [4, 10], Rdr (tblT3 b f m w d wt s) k := fun k hk L v Ms h => by
  simp only [List.mem_cons, List.not_mem_nil, or_false] at hk
  rcases hk with rfl | rfl
  · exact h.2
  · exact h.2
set_option maxHeartbeats 4000000 in
theorem aTick0 (b : Nat) (f m d wt s now : Int) (h1 : 0 ≤ wt ∧ wt ≤ 1000) (h2 : 0 ≤ m ∧ m ≤ 1000) (h3 : 0 ≤ now ∧ now ≤ 1000) (h4 : 0 ≤ s ∧ s ≤ 1000) : Fn Try.prog 76 #[.pointer (some ⟨b, 0, none⟩), .int .i64 now] [akO b f m true d wt s] []
    (fun v L' R' => v = .bool (decide (d ≤ now)) ∧ L' = [if d ≤ now then akO b f m true (now + min (2 * wt) m) (min (2 * wt) m) (s + 1) else akO b f m true d wt s] ∧ R' = []) := by
  by_cases hd : d ≤ now
  · rw [if_pos hd, decide_eq_true hd]
    refine fn_intro Try.func76 rfl Try.ntmps76 rfl (fun E => ?_)
    (repeat (first | ((first | (apply wo_v; rfl) ); (· first | (apply pv_ev; rfl) | (apply pv_fld; rfl) | (apply g_load; first | (apply pv_ld; rfl; (· (repeat (first | apply sel_here ))); rfl) ) | (apply g_pick; first | (apply pv_pick_t; rfl; rfl) | (apply pv_pick_f; rfl; rfl)) | (apply g_un; first | (apply pv_not_t; rfl) ) )) | apply wo_nil | apply wc_seq | apply wc_region | apply wc_skip | (apply wc_true; rfl) | (apply wc_false; rfl) | (apply a_dec_t; rfl; (· first | assumption | omega)) | (apply a_dec_f; rfl; (· first | assumption | omega)) | (apply wo_run; rfl; rfl) ))
    (refine wc_regR [4, 10] [0] (aslL [(4, [0]), (10, [0]), (14, [0])]) (tblT3 b f m true d wt s) ([]) (fm [(0, [akO b f m true d wt s])]) mixed (by kernel_rfl) (by kernel_rfl) (tblT3_rd) (by decide) (aslL_ok (by decide)) (by (repeat (first | (apply prm_cons; (· (repeat (first | apply sel_here )))) | apply List.Perm.nil )); done) ?_; (repeat (first | (apply HdM.val; rfl; rfl; (· first | apply gok_none ); (· first | (apply pv_ev; rfl) | (apply pv_fld; rfl) )) )))
    (refine hm_eff (cs := [0]) rfl (by decide) rfl rfl (by first | exact gok_none | exact gok_run rfl rfl) (fun a ha => outc_mono (outc_ld (L := [akO b f m true d wt s]) (pv_ld rfl (by (repeat (first | apply sel_here )); done) rfl) a ha) (fun v M h => ⟨[M], And.intro h.1 (congrArg (fun x => [x]) h.2), rfl, by simp⟩)) (⟨_, _, And.intro rfl rfl, rfl⟩) ?_; rintro v Ms ⟨rfl, rfl⟩ _; simp only [setls, setl, reduceIte, Nat.reduceEqDiff]; (repeat (first | (apply HdM.val; rfl; rfl; (· first | apply gok_none ); (· first | (apply pv_ev; rfl) | (apply pv_fld; rfl) | (apply g_bin; first | (apply a_mul; rfl; rfl; infer_instance; omega) ) )) )))
    (refine hm_eff (cs := [0]) rfl (by decide) rfl rfl (by first | exact gok_none | exact gok_run rfl rfl) (fun a ha => outc_mono (outc_ld (L := [akO b f m true d wt s]) (pv_ld rfl (by (repeat (first | apply sel_here )); done) rfl) a ha) (fun v M h => ⟨[M], And.intro h.1 (congrArg (fun x => [x]) h.2), rfl, by simp⟩)) (⟨_, _, And.intro rfl rfl, rfl⟩) ?_; rintro v Ms ⟨rfl, rfl⟩ _; simp only [setls, setl, reduceIte, Nat.reduceEqDiff]; (repeat (first | (apply HdM.val; rfl; rfl; (· first | apply gok_none ); (· first | (apply pv_ev; rfl) | (apply pv_fld; rfl) | (apply g_bi; first | (apply pv_min; rfl; rfl) ) )) )))
    (refine hm_eff (cs := [0]) rfl (by decide) rfl rfl (by first | exact gok_none | exact gok_run rfl rfl) (fun a ha => outc_mono (outc_st rfl rfl rfl (by (repeat (first | apply SetAt.here | apply SetAt.there)); done) a ha) (fun v M h => ⟨[M], And.intro h.1 (congrArg (fun x => [x]) h.2), rfl, by simp⟩)) ⟨_, _, And.intro rfl rfl, rfl⟩ ?_; rintro v Ms ⟨rfl, rfl⟩ _; simp only [setls, setl, reduceIte, Nat.reduceEqDiff]; (repeat (first | fail )))
    (refine HdM.nil ?_; intro H hH; simp only [Hp, fm, look, setl, List.flatMap_cons, List.flatMap_nil, reduceIte, Nat.reduceEqDiff, Option.getD_some, List.append_nil, List.cons_append, List.nil_append] at hH; subst hH)
    (repeat (first | ((first | (apply wo_v; rfl) ); (· first | (apply pv_ev; rfl) | (apply pv_fld; rfl) | (apply g_load; first | (apply pv_ld; rfl; (· (repeat (first | apply sel_here ))); rfl) ) | (apply g_bin; first | (apply a_add; rfl; rfl; infer_instance; omega) ) )) | apply wo_nil | apply wc_seq | apply wc_region | apply wc_ret | (apply wo_st; rfl; rfl; rfl; (· (repeat (first | apply sel_here ))); (· (repeat (first | apply SetAt.here | apply SetAt.there))); rfl) ))
    exact ret1 rfl rfl ⟨rfl, rfl, rfl⟩ ((by (repeat (first | apply sub_nil )); done) : List.Perm _ ([_] ++ _)) (by first | exact fun _ h => h | (intro r hr; cases hr; done) | (simp; done) | exact fun _ h => List.mem_append_left _ h | (intro r hr; simp [hr]; done))
  · rw [if_neg hd, decide_eq_false hd]
    refine fn_intro Try.func76 rfl Try.ntmps76 rfl (fun E => ?_)
    (repeat (first | ((first | (apply wo_v; rfl) ); (· first | (apply pv_ev; rfl) | (apply pv_fld; rfl) | (apply g_load; first | (apply pv_ld; rfl; (· (repeat (first | apply sel_here ))); rfl) ) | (apply g_pick; first | (apply pv_pick_t; rfl; rfl) | (apply pv_pick_f; rfl; rfl)) | (apply g_un; first | (apply pv_not_t; rfl) ) )) | apply wo_nil | apply wc_seq | apply wc_region | apply wc_ret | (apply wc_true; rfl) | (apply wc_false; rfl) | (apply a_dec_t; rfl; (· first | assumption | omega)) | (apply wo_run; rfl; rfl) ))
    exact ret1 rfl rfl ⟨rfl, rfl, rfl⟩ ((by (repeat (first | apply sub_nil )); done) : List.Perm _ ([_] ++ _)) (by first | exact fun _ h => h | (intro r hr; cases hr; done) | (simp; done) | exact fun _ h => List.mem_append_left _ h | (intro r hr; simp [hr]; done))
theorem aWanted0 (b : Nat) (f m d wt s : Int) (w : Bool) : Fn Try.prog 25 #[.pointer (some ⟨b, 0, none⟩)] [akO b f m w d wt s] [] (fun v L' R' => v = .bool w ∧ L' = [akO b f m w d wt s] ∧ R' = []) := by
  refine fn_intro Try.func25 rfl Try.ntmps25 rfl (fun E => ?_)
  (repeat (first | ((first | (apply wo_v; rfl) ); (· first | (apply pv_ev; rfl) | (apply pv_fld; rfl) | (apply g_load; first | (apply pv_ld; rfl; (· (repeat (first | apply sel_here ))); rfl) ) )) | apply wo_nil | apply wc_seq | apply wc_region | apply wc_ret ))
  exact ret1 rfl rfl ⟨rfl, rfl, rfl⟩ ((by (repeat (first | apply sub_nil )); done) : List.Perm _ ([_] ++ _)) (by first | exact fun _ h => h | (intro r hr; cases hr; done) | (simp; done) | exact fun _ h => List.mem_append_left _ h | (intro r hr; simp [hr]; done))
theorem aSent0 (b : Nat) (f m d wt s : Int) (w : Bool) : Fn Try.prog 26 #[.pointer (some ⟨b, 0, none⟩)] [akO b f m w d wt s] [] (fun v L' R' => v = .int .i64 s ∧ L' = [akO b f m w d wt s] ∧ R' = []) := by
  refine fn_intro Try.func26 rfl Try.ntmps26 rfl (fun E => ?_)
  (repeat (first | ((first | (apply wo_v; rfl) ); (· first | (apply pv_ev; rfl) | (apply pv_fld; rfl) | (apply g_load; first | (apply pv_ld; rfl; (· (repeat (first | apply sel_here ))); rfl) ) )) | apply wo_nil | apply wc_seq | apply wc_region | apply wc_ret ))
  exact ret1 rfl rfl ⟨rfl, rfl, rfl⟩ ((by (repeat (first | apply sub_nil )); done) : List.Perm _ ([_] ++ _)) (by first | exact fun _ h => h | (intro r hr; cases hr; done) | (simp; done) | exact fun _ h => List.mem_append_left _ h | (intro r hr; simp [hr]; done))
set_option maxHeartbeats 4000000 in
theorem aWant0 (b : Nat) (f m d wt s now : Int) (w on : Bool) (hf : 1 ≤ f ∧ f ≤ m) (h1 : 0 ≤ wt ∧ wt ≤ 1000) (h2 : m ≤ 1000) (h3 : 0 ≤ now ∧ now ≤ 1000) (h4 : 0 ≤ s ∧ s ≤ 1000) : Fn Try.prog 24 #[.pointer (some ⟨b, 0, none⟩), .bool on, .int .i64 now] [akO b f m w d wt s] []
    (fun v L' R' => ∃ (a : Bool) (d' wt' s' : Int), v = .bool a ∧ L' = [akO b f m on d' wt' s'] ∧ R' = [] ∧ (a = true → on = true) ∧ s' = s + (if a = true then 1 else 0) ∧ 0 ≤ wt' ∧ wt' ≤ 1000) := by
  cases on with
  | false =>
    refine fn_intro Try.func24 rfl Try.ntmps24 rfl (fun E => ?_)
    (repeat (first | ((first | (apply wo_v; rfl) ); (· first | (apply pv_ev; rfl) )) | apply wo_nil | apply wc_seq | apply wc_region ))
    refine wc_block ?_
    (repeat (first | ((first | (apply wo_v; rfl) ); (· first | (apply pv_ev; rfl) | (apply pv_fld; rfl) | (apply g_un; first | (apply pv_not_t; rfl) | (apply pv_not_f; rfl) ) )) | apply wo_nil | apply wc_seq | apply wc_region | apply wc_ret | (apply wc_true; rfl) | (apply wo_st; rfl; rfl; rfl; (· (repeat (first | apply sel_here ))); (· (repeat (first | apply SetAt.here | apply SetAt.there))); rfl) ))
    exact ret1 rfl rfl ⟨false, 0, 0, s, rfl, rfl, rfl, fun h => h, by simp, by omega, by omega⟩ ((by (repeat (first | apply sub_nil )); done) : List.Perm _ ([_] ++ _)) (by first | exact fun _ h => h | (intro r hr; cases hr; done) | (simp; done) | exact fun _ h => List.mem_append_left _ h | (intro r hr; simp [hr]; done))
  | true =>
    cases w with
    | true =>
      have ht := aTick0 b f m d wt s now h1 (by omega) h3 h4
      refine fn_intro Try.func24 rfl Try.ntmps24 rfl (fun E => ?_)
      (repeat (first | ((first | (apply wo_v; rfl) ); (· first | (apply pv_ev; rfl) )) | apply wo_nil | apply wc_seq | apply wc_region ))
      refine wc_block ?_
      (repeat (first | ((first | (apply wo_v; rfl) ); (· first | (apply pv_ev; rfl) | (apply pv_fld; rfl) | (apply g_load; first | (apply pv_ld; rfl; (· (repeat (first | apply sel_here ))); rfl) ) | (apply g_un; first | (apply pv_not_t; rfl) ) )) | apply wo_nil | apply wc_seq | apply wc_region | (apply wc_true; rfl) | (apply wc_false; rfl) ))
      (refine wo_call (ht) rfl (by (repeat (first | apply sub_nil )); done) (by first | exact fun _ h => h | (intro r hr; cases hr; done) | (simp; done) | exact fun _ h => List.mem_append_left _ h | (intro r hr; simp [hr]; done)) rfl ?_; rintro v L' R' ⟨rfl, rfl, rfl⟩ H' hH RR hR; simp only [List.cons_append, List.nil_append] at hH hR; subst hH; have hR := hR.symm; subst hR)
      (repeat (first | ((first | (apply wo_v; rfl) ); (· first | (apply pv_ev; rfl) )) | apply wo_nil | apply wc_ret ))
      by_cases hd : d ≤ now
      · rw [if_pos hd, decide_eq_true hd]
        exact ret1 rfl rfl ⟨true, now + min (2 * wt) m, min (2 * wt) m, s + 1, rfl, rfl, rfl, fun h => h, by simp, by omega, by omega⟩ ((by (repeat (first | apply sub_nil )); done) : List.Perm _ ([_] ++ _)) (by first | exact fun _ h => h | (intro r hr; cases hr; done) | (simp; done) | exact fun _ h => List.mem_append_left _ h | (intro r hr; simp [hr]; done))
      · rw [if_neg hd, decide_eq_false hd]
        exact ret1 rfl rfl ⟨false, d, wt, s, rfl, rfl, rfl, fun h => rfl, by simp, by omega, by omega⟩ ((by (repeat (first | apply sub_nil )); done) : List.Perm _ ([_] ++ _)) (by first | exact fun _ h => h | (intro r hr; cases hr; done) | (simp; done) | exact fun _ h => List.mem_append_left _ h | (intro r hr; simp [hr]; done))
    | false =>
      refine fn_intro Try.func24 rfl Try.ntmps24 rfl (fun E => ?_)
      (repeat (first | ((first | (apply wo_v; rfl) ); (· first | (apply pv_ev; rfl) )) | apply wo_nil | apply wc_seq | apply wc_region ))
      refine wc_block ?_
      (repeat (first | ((first | (apply wo_v; rfl) ); (· first | (apply pv_ev; rfl) | (apply pv_fld; rfl) | (apply g_load; first | (apply pv_ld; rfl; (· (repeat (first | apply sel_here ))); rfl) ) | (apply g_bin; first | (apply a_add; rfl; rfl; infer_instance; omega) ) | (apply g_un; first | (apply pv_not_t; rfl) ) )) | apply wo_nil | apply wc_seq | apply wc_region | apply wc_skip | apply wc_ret | (apply wc_true; rfl) | (apply wc_false; rfl) | (apply wo_st; rfl; rfl; rfl; (· (repeat (first | apply sel_here ))); (· (repeat (first | apply SetAt.here | apply SetAt.there))); rfl) ))
      exact ret1 rfl rfl ⟨true, now + f, f, s + 1, rfl, rfl, rfl, fun h => h, by simp, by omega, by omega⟩ ((by (repeat (first | apply sub_nil )); done) : List.Perm _ ([_] ++ _)) (by first | exact fun _ h => h | (intro r hr; cases hr; done) | (simp; done) | exact fun _ h => List.mem_append_left _ h | (intro r hr; simp [hr]; done))
def bseg (z : Nat → Bool) (n : Nat) : List (List Value) := (List.range n).map fun i => [.bool (z i)]
theorem bseg_at {z : Nat → Bool} {n i : Nat} (h : i < n) : (bseg z n)[i]? = some [.bool (z i)] := by simp [bseg, h]
theorem rws_b {w : World} {A : Option Addr} {n c : Nat} {V : Nat → Nat → Value} (h : Rws [.bool] w A n c V) :
    ∃ (z : Nat → Bool) (R : List Ro), (∀ r ∈ R, r.sat w) ∧ (0 < n → ∃ b o, A = some ⟨b, o, none⟩ ∧ ⟨b, o, 1, bseg z n⟩ ∈ R) ∧ n ≤ 9223372036854775807 := by
  obtain ⟨R, hR, h0⟩ := rws_ro h (by simp)
  obtain ⟨h1, h2, _, h4⟩ := h
  refine ⟨fun i => match V i 0 with | .bool z => z | _ => false, R, hR, fun hn => ?_, by unfold maxLen at h2; omega⟩
  obtain ⟨b, o, hA, hm⟩ := h0 hn
  refine ⟨b, o, hA, ?_⟩
  have e : rowsOf [.bool] V n = bseg (fun i => match V i 0 with | .bool z => z | _ => false) n := by
    unfold rowsOf bseg
    refine List.map_congr_left fun i hi => ?_
    obtain ⟨z0, hz0⟩ := h4 i 0 _ (List.mem_range.1 hi) rfl
    simp [hz0]
  rw [← e]; exact hm
set_option maxHeartbeats 32000000 in
theorem antiphonAsks_fn (f0 m0 : Int) (A : Option Addr) (n c : Nat) (z : Nat → Bool) (R : List Ro) (hn : n ≤ 9223372036854775807) (hA : 0 < n → ∃ b o, A = some ⟨b, o, none⟩ ∧ ⟨b, o, 1, bseg z n⟩ ∈ R) :
    Fn Try.prog 4 #[.int .i64 f0, .int .i64 m0, .slice A n c] [] R (fun v _ _ => v = .bool true) := by
  have q1 : bits .and .i64 f0 7 = f0 % 8 := and_7 f0
  have q2 := and_31 m0
  obtain ⟨f, hf⟩ : ∃ f : Int, 1 + bits .and .i64 f0 7 = f := ⟨_, rfl⟩
  obtain ⟨m1, hm1⟩ : ∃ m1 : Int, bits .and .i64 m0 31 = m1 := ⟨_, rfl⟩
  have hfb : 1 ≤ f ∧ f ≤ 8 := by omega
  have hmb : 0 ≤ m1 ∧ m1 ≤ 31 := by omega
  refine fn_intro Try.func4 rfl Try.ntmps4 rfl (fun E => ?_)
  (repeat (first | ((first | (apply wo_v; rfl) ); (· first | (apply pv_ev; rfl) )) | apply wo_nil | apply wc_seq | apply wc_region ))
  (refine wo_call (alive) rfl (by (repeat (first | apply sub_nil )); done) (by first | exact fun _ h => h | (intro r hr; cases hr; done) | (simp; done) | exact fun _ h => List.mem_append_left _ h | (intro r hr; simp [hr]; done)) rfl ?_; rintro v L' R' ⟨rfl, rfl, rfl⟩ H' hH RR hR; simp only [List.cons_append, List.nil_append] at hH hR; subst hH; have hR := hR.symm; subst hR)
  (repeat (first | ((first | (apply wo_v; rfl) ); (· first | (apply pv_ev; rfl) | (apply g_bin; first | (apply a_add; rfl; rfl; infer_instance; omega) | (apply pv_and; rfl; rfl) ) | (apply g_un; first | (apply pv_not_t; rfl) ) )) | apply wo_nil | apply wc_seq | apply wc_region | apply wc_skip | (apply wc_true; rfl) | (apply wc_false; rfl) ))
  rw [hf, hm1]
  clear q1 q2 hf hm1
  (repeat (first | ((first | (apply wo_v; rfl) ); (· first | (apply pv_ev; rfl) )) ))
  (refine wo_call (gNew0) rfl (by (repeat (first | apply sub_nil )); done) (by first | exact fun _ h => h | (intro r hr; cases hr; done) | (simp; done) | exact fun _ h => List.mem_append_left _ h | (intro r hr; simp [hr]; done)) rfl ?_; rintro v L' R' ⟨g, rfl, rfl, rfl⟩ H' hH RR hR; simp only [List.cons_append, List.nil_append] at hH hR; subst hH; have hR := hR.symm; subst hR)
  (repeat (first | ((first | (apply wo_v; rfl) ); (· first | (apply pv_ev; rfl) | (apply g_build; apply pv_build; (· (repeat (first | apply Bld.nil | (apply Bld.one; rfl; rfl; (· (repeat (first | apply SetAt.here | apply SetAt.there)))) )))) )) | apply wo_nil | apply wc_seq | apply wc_region ))
  (refine wo_call (aNew0 f (f + m1) (by omega)) rfl (by (repeat (first | apply sub_nil )); done) (by first | exact fun _ h => h | (intro r hr; cases hr; done) | (simp; done) | exact fun _ h => List.mem_append_left _ h | (intro r hr; simp [hr]; done)) rfl ?_; rintro v L' R' ⟨b, rfl, rfl, rfl⟩ H' hH RR hR; simp only [List.cons_append, List.nil_append] at hH hR; subst hH; have hR := hR.symm; subst hR)
  (repeat (first | ((first | (apply wo_v; rfl) ); (· first | (apply pv_ev; rfl) )) | apply wo_nil | apply wc_seq | apply wc_region | apply wc_skip | (apply wc_true; rfl) | (apply wc_false; rfl) ))
  refine wc_join0 (fun st => ∃ (s d wt : Int) (w : Bool), st = ⟨[(0, .int .i64 f), (8, .pointer (some ⟨b, 0, none⟩)), (10, .int .i64 s)], [akO b f (f + m1) w d wt s], []⟩ ∧ 0 ≤ s ∧ s ≤ 200) ?_ ?_
  · refine wc_block ?_
    refine wc_loop' (fun q st => ∃ (i : Nat) (o : Bool) (sh s d wt : Int) (w : Bool), q = 201 - i ∧ i ≤ n ∧ i ≤ 200 ∧ (0 ≤ sh ∧ sh ≤ i) ∧ (0 ≤ s ∧ s ≤ i) ∧ (0 ≤ wt ∧ wt ≤ 1000) ∧ st = ⟨[(0, .int .i64 f), (2, .slice A n c), (7, .pointer (some ⟨g, 0, none⟩)), (8, .pointer (some ⟨b, 0, none⟩)), (10, .int .i64 s), (11, .int .i64 i)], [akO b f (f + m1) w d wt s, gtO g o sh], R⟩)
      ⟨0, false, 0, 0, 0, 0, false, rfl, Nat.zero_le _, by omega, by omega, by omega, by omega, rfl⟩ (wk_mk (by (repeat (first | apply wkf_nil | (apply wkf_cons; rfl))); done) (by (repeat (first | apply sub_nil )); done) (by first | exact fun _ h => h | (intro r hr; cases hr; done) | (simp; done) | exact fun _ h => List.mem_append_left _ h | (intro r hr; simp [hr]; done))) ?_
    rintro q st ⟨i, o, sh, s, d, wt, w, rfl, hi1, hi2, hsh, hs, hwt, rfl⟩
    by_cases hlt : i < n ∧ i < 200
    · obtain ⟨h1, h2⟩ := hlt
      obtain ⟨a0, o0, rfl, hmem⟩ := hA (by omega)
      have hr := bseg_at (z := z) h1
      generalize z i = k at hr
      (repeat (first | ((first | (apply wo_v; rfl) ); (· first | (apply pv_ev; rfl) | (apply g_pick; first | (apply pv_pick_t; rfl; rfl) ) | (apply g_bi; first | (apply pv_len_sl; rfl) ) )) | apply wo_nil | apply wc_seq | apply wc_region | apply wc_skip | (apply wc_true; rfl) | (apply wc_false; rfl) | (apply a_dec_t; rfl; (· first | assumption | omega)) | (apply wo_run; rfl; rfl) | (apply wo_skip; rfl; rfl; rfl; rfl) | (apply wo_skip_u; rfl; rfl; rfl) | (apply a_gt; rfl; rfl; (· first | assumption | omega)) ))
      refine wc_block ?_
      (repeat (first | ((first | (apply wo_v; rfl) ); (· first | (apply pv_ev; rfl) | (apply g_load; first | (apply pv_ld; rfl; (· (repeat (first | apply sel_there))); rfl) | (apply pv_ld_ownf; rfl; (· (repeat (first | fail ))); (· assumption); rfl) | (apply pv_ld_own1; rfl; (· (repeat (first | apply sel_there))); (· assumption)) | (apply pv_ld_rof; rfl; (· (first | assumption )); (· assumption); rfl) | (apply pv_ld_ro1; rfl; (· (first | assumption )); (· assumption)) ) | (apply g_idx; first | (apply pv_idx; rfl; rfl; omega) ) )) | apply wc_seq | apply wc_region ))
      (refine wo_call (gPass0 g o sh k) rfl (by (repeat (first | apply sub_nil | (apply sub_cons; (· (repeat (first | apply sel_here | apply sel_there)))))); done) (by first | exact fun _ h => h | (intro r hr; cases hr; done) | (simp; done) | exact fun _ h => List.mem_append_left _ h | (intro r hr; simp [hr]; done)) rfl ?_; rintro v L' R' ⟨rfl, rfl, rfl⟩ H' hH RR hR; simp only [List.cons_append, List.nil_append] at hH hR; subst hH; have hR := hR.symm; subst hR)
      generalize (o || k) = o1
      (repeat (first | ((first | (apply wo_v; rfl) ); (· first | (apply pv_ev; rfl) | (apply g_bin; first | (apply pv_rem; rfl; rfl; omega) ) )) | apply wo_nil | apply wc_seq | apply wc_region | (apply wc_true; rfl) | (apply wc_false; rfl) | (apply a_dec_t; rfl; (· first | assumption | omega)) | (apply a_dec_f; rfl; (· first | assumption | omega)) | (apply a_dec_t; rfl; (· first | (simp; done) | (simp; omega))) | (apply a_dec_f; rfl; (· first | (simp; done) | (simp; omega))) ))
      refine wc_join0 (fun st => ∃ (o2 : Bool) (sh2 : Int), st = ⟨[(0, .int .i64 f), (2, .slice (some ⟨a0, o0, none⟩) n c), (7, .pointer (some ⟨g, 0, none⟩)), (8, .pointer (some ⟨b, 0, none⟩)), (10, .int .i64 s), (11, .int .i64 i)], [akO b f (f + m1) w d wt s, gtO g o2 sh2], R⟩ ∧ 0 ≤ sh2 ∧ sh2 ≤ i + 1) ?_ ?_
      · by_cases h23 : (i : Int) % 23 = 22
        · (repeat (first | ((first | (apply wo_v; rfl) ); (· first | (apply pv_ev; rfl) )) | apply wc_region | (apply wc_true; rfl) | (apply wc_false; rfl) | (apply a_dec_t; rfl; (· first | assumption | omega)) ))
          (refine wo_call (gShut0 g o1 sh (by omega)) rfl (by (repeat (first | apply sub_nil )); done) (by first | exact fun _ h => h | (intro r hr; cases hr; done) | (simp; done) | exact fun _ h => List.mem_append_left _ h | (intro r hr; simp [hr]; done)) rfl ?_; rintro v L' R' ⟨sh2, rfl, rfl, rfl, hs1, hs2⟩ H' hH RR hR; simp only [List.cons_append, List.nil_append] at hH hR; subst hH; have hR := hR.symm; subst hR)
          (repeat (first | apply wo_nil ))
          exact cut_end ⟨false, sh2, rfl, by omega, by omega⟩ (wk_mk (by (repeat (first | apply wkf_nil | (apply wkf_cons; rfl))); done) (by (repeat (first | apply sub_nil | (apply sub_cons; (· (repeat (first | apply sel_here | apply sel_there)))))); done) (by first | exact fun _ h => h | (intro r hr; cases hr; done) | (simp; done) | exact fun _ h => List.mem_append_left _ h | (intro r hr; simp [hr]; done)))
        · (repeat (first | apply wc_skip | (apply wc_true; rfl) | (apply wc_false; rfl) | (apply a_dec_t; rfl; (· first | assumption | omega)) | (apply a_dec_f; rfl; (· first | assumption | omega)) ))
          exact cut_end ⟨o1, sh, rfl, by omega, by omega⟩ (wk_mk (by (repeat (first | apply wkf_nil | (apply wkf_cons; rfl))); done) (by (repeat (first | apply sub_nil | (apply sub_cons; (· (repeat (first | apply sel_here | apply sel_there)))))); done) (by first | exact fun _ h => h | (intro r hr; cases hr; done) | (simp; done) | exact fun _ h => List.mem_append_left _ h | (intro r hr; simp [hr]; done)))
      rintro st ⟨o2, sh2, rfl, hs1, hs2⟩
      (repeat (first | ((first | (apply wo_v; rfl) ); (· first | (apply pv_ev; rfl) )) | apply wc_seq | apply wc_region ))
      (refine wo_call (gNeeds0 g o2 sh2) rfl (by (repeat (first | apply sub_nil | (apply sub_cons; (· (repeat (first | apply sel_here | apply sel_there)))))); done) (by first | exact fun _ h => h | (intro r hr; cases hr; done) | (simp; done) | exact fun _ h => List.mem_append_left _ h | (intro r hr; simp [hr]; done)) rfl ?_; rintro v L' R' ⟨rfl, rfl, rfl⟩ H' hH RR hR; simp only [List.cons_append, List.nil_append] at hH hR; subst hH; have hR := hR.symm; subst hR)
      generalize (!o2) = on
      (repeat (first | ((first | (apply wo_v; rfl) ); (· first | (apply pv_ev; rfl) )) | apply wo_nil | apply wc_seq | apply wc_region ))
      (refine wo_call (aWant0 b f (f + m1) d wt s i w on (by omega) hwt (by omega) (by omega) (by omega)) rfl (by (repeat (first | apply sub_nil | (apply sub_cons; (· (repeat (first | apply sel_here | apply sel_there)))))); done) (by first | exact fun _ h => h | (intro r hr; cases hr; done) | (simp; done) | exact fun _ h => List.mem_append_left _ h | (intro r hr; simp [hr]; done)) rfl ?_; rintro v L' R' ⟨ak, d2, wt2, s2, rfl, rfl, rfl, ha, hs3, hw1, hw2⟩ H' hH RR hR; simp only [List.cons_append, List.nil_append] at hH hR; subst hH; have hR := hR.symm; subst hR)
      cases ak with
      | true =>
        obtain rfl := ha rfl
        rw [if_pos rfl] at hs3
        subst hs3
        (repeat (first | ((first | (apply wo_v; rfl) ); (· first | (apply pv_ev; rfl) | (apply g_pick; first | (apply pv_pick_t; rfl; rfl) ) | (apply g_bin; first | (apply a_add; rfl; rfl; infer_instance; omega) ) | (apply g_un; first | (apply pv_not_t; rfl) ) )) | apply wo_nil | apply wc_seq | apply wc_region | (apply wc_true; rfl) | (apply wo_run; rfl; rfl) ))
        (refine wo_call (aWanted0 b f (f + m1) d2 wt2 (s + 1) true) rfl (by (repeat (first | apply sub_nil )); done) (by first | exact fun _ h => h | (intro r hr; cases hr; done) | (simp; done) | exact fun _ h => List.mem_append_left _ h | (intro r hr; simp [hr]; done)) rfl ?_; rintro v L' R' ⟨rfl, rfl, rfl⟩ H' hH RR hR; simp only [List.cons_append, List.nil_append] at hH hR; subst hH; have hR := hR.symm; subst hR)
        (repeat (first | ((first | (apply wo_v; rfl) ); (· first | (apply pv_ev; rfl) | (apply g_pick; first | (apply pv_pick_t; rfl; rfl) | (apply pv_pick_f; rfl; rfl)) | (apply g_bin; first | (apply a_add; rfl; rfl; infer_instance; omega) | (apply pv_neq_b; rfl; rfl) ) )) | apply wo_nil | apply wc_region | apply wc_skip | (apply wc_true; rfl) | (apply wc_false; rfl) | (apply wo_run; rfl; rfl) ))
        exact loop_end ⟨i + 1, o2, sh2, s + 1, d2, wt2, true, rfl, by omega, by omega, by omega, by omega, ⟨hw1, hw2⟩, rfl⟩ (by omega) (wk_mk (by (repeat (first | apply wkf_nil | (apply wkf_cons; rfl))); done) (by (repeat (first | apply sub_nil )); done) (by first | exact fun _ h => h | (intro r hr; cases hr; done) | (simp; done) | exact fun _ h => List.mem_append_left _ h | (intro r hr; simp [hr]; done)))
      | false =>
        rw [if_neg (by simp), Int.add_zero] at hs3
        subst hs3
        (repeat (first | ((first | (apply wo_v; rfl) ); (· first | (apply pv_ev; rfl) | (apply g_pick; first | (apply pv_pick_t; rfl; rfl) | (apply pv_pick_f; rfl; rfl)) )) | apply wo_nil | apply wc_seq | apply wc_region | apply wc_skip | (apply wc_true; rfl) | (apply wc_false; rfl) | (apply wo_run; rfl; rfl) | (apply wo_skip; rfl; rfl; rfl; rfl) ))
        (refine wo_call (aWanted0 b f (f + m1) d2 wt2 s2 on) rfl (by (repeat (first | apply sub_nil )); done) (by first | exact fun _ h => h | (intro r hr; cases hr; done) | (simp; done) | exact fun _ h => List.mem_append_left _ h | (intro r hr; simp [hr]; done)) rfl ?_; rintro v L' R' ⟨rfl, rfl, rfl⟩ H' hH RR hR; simp only [List.cons_append, List.nil_append] at hH hR; subst hH; have hR := hR.symm; subst hR)
        (repeat (first | ((first | (apply wo_v; rfl) ); (· first | (apply pv_ev; rfl) | (apply g_pick; first | (apply pv_pick_t; rfl; rfl) | (apply pv_pick_f; rfl; rfl)) | (apply g_bin; first | (apply a_add; rfl; rfl; infer_instance; omega) | (apply pv_neq_b; rfl; rfl) ) )) | apply wo_nil | apply wc_region | apply wc_skip | (apply wc_true; rfl) | (apply wc_false; rfl) | (apply a_dec_t; rfl; (· first | assumption | omega)) | (apply a_dec_f; rfl; (· first | assumption | omega)) | (apply a_dec_t; rfl; (· first | (simp; done) | (simp; omega))) | (apply a_dec_f; rfl; (· first | (simp; done) | (simp; omega))) | (apply wo_run; rfl; rfl) ))
        exact loop_end ⟨i + 1, o2, sh2, s2, d2, wt2, on, rfl, by omega, by omega, by omega, by omega, ⟨hw1, hw2⟩, rfl⟩ (by omega) (wk_mk (by (repeat (first | apply wkf_nil | (apply wkf_cons; rfl))); done) (by (repeat (first | apply sub_nil )); done) (by first | exact fun _ h => h | (intro r hr; cases hr; done) | (simp; done) | exact fun _ h => List.mem_append_left _ h | (intro r hr; simp [hr]; done)))
    · have hor : ¬ i < n ∨ (i < n ∧ ¬ i < 200) := by omega
      rcases hor with h1 | ⟨h1, h2⟩
      all_goals
        (repeat (first | ((first | (apply wo_v; rfl) ); (· first | (apply pv_ev; rfl) | (apply g_pick; first | (apply pv_pick_t; rfl; rfl) | (apply pv_pick_f; rfl; rfl)) | (apply g_bi; first | (apply pv_len_sl; rfl) ) )) | apply wo_nil | apply wc_seq | apply wc_region | (apply wc_exit; rfl) | (apply wc_true; rfl) | (apply wc_false; rfl) | (apply a_dec_t; rfl; (· first | assumption | omega)) | (apply a_dec_f; rfl; (· first | assumption | omega)) | (apply wo_run; rfl; rfl) | (apply wo_skip; rfl; rfl; rfl; rfl) | (apply wo_skip_u; rfl; rfl; rfl) | (apply a_gt; rfl; rfl; (· first | assumption | omega)) | (apply a_gf; rfl; rfl; (· first | assumption | omega)) ))
        exact cut_end ⟨s, d, wt, w, rfl, by omega, by omega⟩ (wk_mk (by (repeat (first | apply wkf_nil | (apply wkf_cons; rfl))); done) (by (repeat (first | apply sub_nil )); done) (by first | exact fun _ h => h | (intro r hr; cases hr; done) | (simp; done) | exact fun _ h => List.mem_append_left _ h | (intro r hr; simp [hr]; done)))
  rintro st ⟨s, d, wt, w, rfl, hs1, hs2⟩
  have hq : 0 ≤ 200 / f := Int.ediv_nonneg (by omega) (by omega)
  have hq2 : 200 / f ≤ 200 := Int.ediv_le_self _ (by omega)
  (repeat (first | ((first | (apply wo_v; rfl) ); (· first | (apply pv_ev; rfl) )) | apply wc_seq | apply wc_region ))
  (refine wo_call (aSent0 b f (f + m1) d wt s w) rfl (by (repeat (first | apply sub_nil )); done) (by first | exact fun _ h => h | (intro r hr; cases hr; done) | (simp; done) | exact fun _ h => List.mem_append_left _ h | (intro r hr; simp [hr]; done)) rfl ?_; rintro v L' R' ⟨rfl, rfl, rfl⟩ H' hH RR hR; simp only [List.cons_append, List.nil_append] at hH hR; subst hH; have hR := hR.symm; subst hR)
  (repeat (first | ((first | (apply wo_v; rfl) ); (· first | (apply pv_ev; rfl) | (apply g_pick; first | (apply pv_pick_t; rfl; rfl) ) | (apply g_bin; first | (apply a_add; rfl; rfl; infer_instance; omega) | (apply a_quo; rfl; rfl; infer_instance; omega) ) )) | apply wo_nil | apply wc_ret | (apply wo_run; rfl; rfl) | (apply wo_skip; rfl; rfl; rfl; rfl) | (apply wo_skip_u; rfl; rfl; rfl) | (apply a_gt; rfl; rfl; (· first | assumption | omega)) ))
  exact ret1 rfl rfl (by simp; omega) ((by (repeat (first | apply sub_nil )); done) : List.Perm _ ([] ++ _)) (by first | exact fun _ h => h | (intro r hr; cases hr; done) | (simp; done) | exact fun _ h => List.mem_append_left _ h | (intro r hr; simp [hr]; done))
theorem antiphonAsks_walk (a : Int) (ha : -9223372036854775808 ≤ a ∧ a ≤ 9223372036854775807) (b : Int) (hb : -9223372036854775808 ≤ b ∧ b ≤ 9223372036854775807) (A : Option Addr) (n c : Nat) (V : Nat → Nat → Value) {w : World} (hV : Rws [.bool] w A n c V) :
    Calls Try.prog 4 #[.int .i64 a, .int .i64 b, .slice A n c] w fun e w' => e = .returned (.bool true) ∧ Below w.heap.size w w' := by
  obtain ⟨z, R, h1, h2, h3⟩ := rws_b hV
  exact walk_of (antiphonAsks_fn a b A n c z R h3 h2) h1
end Go.Proofs.Ytlhlidmhlhodiaa

/-
  Sparse frames: maps with at most one entry (what an earlier entry left of their clocks is kept). No program in sight.
-/
namespace Go.Proofs.Ytlhlidmhlhodiaa
set_option linter.unusedSimpArgs false
set_option linter.unusedVariables false
open Go.RowKit

abbrev m0 (ck : Nat) : Obj := .map #[] ck
abbrev m1 (k : IntKind) (a : Int) (v : Value) (bn ck : Nat) : Obj := .map #[⟨.int k a, v, bn⟩] ck
theorem findNow_1 (k : IntKind) (x : Int) (v : Value) (bn : Nat) : Instr.findNow (.int k) (.int k x) [⟨.int k x, v, bn⟩] 0 = some (some (0, v)) := by
  have := findNow_m k x [(x, v)] bn 0
  simpa [mEnt, alook, aidx] using this
section
variable {P : Program} {N : Nat} {E : Env} {fr : List (Nat × Value)} {hp F B0 : List It} {ro : List Ro} {Kn : St → Prop} {ops : Array Oper} {rest : List Oper} {dst : Option Tmp} {ty t : TypeId} {pos : String} {af : Array Edge} {x y z : Operand} {k : IntKind} {b bn ck : Nat} {a : Int} {v : Value} {kt e : TypeId} {g : Option (Nat × Bool)}
theorem pv_m0 {zv : Value} [ht : TMap P t kt e] [hk : TInt P kt k] [hz : TZV P e zv] (hx : opd fr x = some (.map (some b))) (hy : opd fr y = some (.int k a)) (hs : hp.Perm (.ob b (m0 ck) :: F)) :
    Pv P ⟨fr, hp, ro⟩ (.lookup t x y true) (.tuple #[zv, .bool false]) := fun N E ac w dst ty pos af g ok => by
  have hb : w.heap[b]? = some (m0 ck) := ok.s.get hs
  simp only [execOp, ok.h.eval hx, ok.h.eval hy]
  have hf := MapKept.run_findKey (P := P) (w := w) (k := .int k a) (l := []) hk.h rfl
  have hc : ∀ em, (Instr.checkKey em 10000 kt (.int k a)).run P w = .ok () w := fun em => MapKept.run_checkKey hk.h (by simp [MapKept.IsKey]) em 9999
  simp [Instr.lookup, run_underlying ht.h, MapKept.run_getObj_map hb, hc, hf, Result.andThen, run_zeroV (P := P) (T := e)]
theorem pv_m1 [ht : TMap P t kt e] [hk : TInt P kt k] (hx : opd fr x = some (.map (some b))) (hy : opd fr y = some (.int k a)) (hs : hp.Perm (.ob b (m1 k a v bn ck) :: F)) :
    Pv P ⟨fr, hp, ro⟩ (.lookup t x y true) (.tuple #[v, .bool true]) := fun N E ac w dst ty pos af g ok => by
  have hb : w.heap[b]? = some (m1 k a v bn ck) := ok.s.get hs
  simp only [execOp, ok.h.eval hx, ok.h.eval hy]
  have hf := MapKept.run_findKey (P := P) (w := w) (k := .int k a) hk.h (findNow_1 k a v bn)
  have hc : ∀ em, (Instr.checkKey em 10000 kt (.int k a)).run P w = .ok () w := fun em => MapKept.run_checkKey hk.h (by simp [MapKept.IsKey]) em 9999
  simp [Instr.lookup, run_underlying ht.h, MapKept.run_getObj_map hb, hc, hf, Result.andThen]
theorem pv_m1s [ht : TMap P t kt e] [hk : TInt P kt k] (hx : opd fr x = some (.map (some b))) (hy : opd fr y = some (.int k a)) (hs : hp.Perm (.ob b (m1 k a v bn ck) :: F)) :
    Pv P ⟨fr, hp, ro⟩ (.lookup t x y false) v := fun N E ac w dst ty pos af g ok => by
  have hb : w.heap[b]? = some (m1 k a v bn ck) := ok.s.get hs
  simp only [execOp, ok.h.eval hx, ok.h.eval hy]
  have hf := MapKept.run_findKey (P := P) (w := w) (k := .int k a) hk.h (findNow_1 k a v bn)
  have hc : ∀ em, (Instr.checkKey em 10000 kt (.int k a)).run P w = .ok () w := fun em => MapKept.run_checkKey hk.h (by simp [MapKept.IsKey]) em 9999
  simp [Instr.lookup, run_underlying ht.h, MapKept.run_getObj_map hb, hc, hf, Result.andThen]
theorem pv_m0len [ht : TMap P t kt e] (hx : opd fr x = some (.map (some b))) (hs : hp.Perm (.ob b (m0 ck) :: F)) : Pv P ⟨fr, hp, ro⟩ (.call ⟨.builtin .len, #[x], #[t]⟩) (.int .i64 0) := fun N E ac w dst ty pos af g ok => by
  have hb : w.heap[b]? = some (m0 ck) := ok.s.get hs
  simp only [execOp, resolve, List.map_toArray, List.map_cons, List.map_nil, ok.h.eval hx]; simp [invoke, builtin, Builtin.len_, run_underlying ht.h, MapKept.run_getObj_map hb, Result.andThen, goInt, go_sem]
theorem run_m0put {w : World} [ht : TMap P t kt e] [hk : TInt P kt k] (hb : w.heap[b]? = some (m0 ck)) :
    (Instr.mapUpdate t (.map (some b)) (.int k a) v).run P w = .ok () { w with heap := w.heap.setIfInBounds b (m1 k a v ck (ck + 1)) } := by
  have hf := MapKept.run_findKey (P := P) (w := w) (k := .int k a) (l := []) hk.h rfl
  have hc : (Instr.checkKey false 10000 kt (.int k a)).run P w = .ok () w := MapKept.run_checkKey hk.h (by simp [MapKept.IsKey]) false 9999
  simp [Instr.mapUpdate, run_underlying ht.h, MapKept.run_getObj_map hb, hc, hf, MapKept.run_setObj_map _ hb, Result.andThen]
theorem run_m1del {w : World} [ht : TMap P t kt e] [hk : TInt P kt k] {kt' : TypeId} (hb : w.heap[b]? = some (m1 k a v bn ck)) :
    (Builtin.delete_ #[t, kt'] ty #[.map (some b), .int k a]).run P w = .ok (.tuple #[]) { w with heap := w.heap.setIfInBounds b (m0 ck) } := by
  have hf := MapKept.run_findKey (P := P) (w := w) (k := .int k a) hk.h (findNow_1 k a v bn)
  have hc : ∀ em, (Instr.checkKey em 10000 kt (.int k a)).run P w = .ok () w := fun em => MapKept.run_checkKey hk.h (by simp [MapKept.IsKey]) em 9999
  simp [Builtin.delete_, run_underlying ht.h, MapKept.run_getObj_map hb, hc, hf, MapKept.run_setObj_map _ hb, Result.andThen]
theorem outc_m0put [ht : TMap P t kt e] [hk : TInt P kt k] (hx : opd fr x = some (.map (some b))) (hy : opd fr y = some (.int k a)) (hz : opd fr z = some v) :
    ∀ ac, Holds N fr ac → Outc P E B0 ro ⟨dst, .mapUpdate t x y z, ty, pos, af, g⟩ ac [.ob b (m0 ck)] (fun u M => u = undef ∧ M = [.ob b (m1 k a v ck (ck + 1))]) := fun ac hh F w hw => by
  have hb : w.heap[b]? = some (m0 ck) := hw.get (.refl _)
  have e : (execOp ac.eval ⟨dst, .mapUpdate t x y z, ty, pos, af, g⟩).run P w = .ok .skip { w with heap := w.heap.setIfInBounds b (m1 k a v ck (ck + 1)) } := by
    simp only [execOp, hh.eval hx, hh.eval hy, hh.eval hz, Sem.run_bind, run_m0put hb]; rfl
  rw [e]
  exact ⟨_, ⟨rfl, rfl⟩, (hw.step (L := [_]) (T' := []) (.refl _) (by simp) (Sat.relay (set_frm hb).1 (set_frm (o' := m1 k a v ck (ck + 1)) hb).2)).some_ro (fun r hr => by simpa using hr)⟩
theorem outc_m1del [ht : TMap P t kt e] [hk : TInt P kt k] {kt' : TypeId} (hx : opd fr x = some (.map (some b))) (hy : opd fr y = some (.int k a)) :
    ∀ ac, Holds N fr ac → Outc P E B0 ro ⟨dst, .call ⟨.builtin .delete, #[x, y], #[t, kt']⟩, ty, pos, af, g⟩ ac [.ob b (m1 k a v bn ck)] (fun u M => u = .tuple #[] ∧ M = [.ob b (m0 ck)]) := fun ac hh F w hw => by
  have hb : w.heap[b]? = some (m1 k a v bn ck) := hw.get (.refl _)
  have e : (execOp ac.eval ⟨dst, .call ⟨.builtin .delete, #[x, y], #[t, kt']⟩, ty, pos, af, g⟩).run P w = .ok (.value (.tuple #[])) { w with heap := w.heap.setIfInBounds b (m0 ck) } := by
    simp only [execOp, resolve, List.map_toArray, List.map_cons, List.map_nil, hh.eval hx, hh.eval hy]; simp [invoke, builtin, run_m1del hb, Result.andThen]
  rw [e]
  exact ⟨_, ⟨rfl, rfl⟩, (hw.step (L := [_]) (T' := []) (.refl _) (by simp) (Sat.relay (set_frm hb).1 (set_frm (o' := m0 ck) hb).2)).some_ro (fun r hr => by simpa using hr)⟩
theorem wo_m0put [ht : TMap P t kt e] [hk : TInt P kt k] (hx : opd fr x = some (.map (some b))) (hy : opd fr y = some (.int k a)) (hz : opd fr z = some v) (hs : hp.Perm (.ob b (m0 ck) :: F)) (hd : dstOk dst N = true)
    (h : WO P N E ops rest ⟨putF dst undef fr, .ob b (m1 k a v ck (ck + 1)) :: F, ro⟩ Kn) : WO P N E ops (⟨dst, .mapUpdate t x y z, ty, pos, af, none⟩ :: rest) ⟨fr, hp, ro⟩ Kn :=
  wo_eff_skip (L := [_]) hs hd fun ac w ok => by
    have hb : w.heap[b]? = some (m0 ck) := ok.s.get hs
    refine ⟨_, _, ?_, Sat.relay (set_frm hb).1 (set_frm (o' := m1 k a v ck (ck + 1)) hb).2, by simpa using h⟩
    simp only [execOp, ok.h.eval hx, ok.h.eval hy, ok.h.eval hz, Sem.run_bind, run_m0put hb]; rfl
end
end Go.Proofs.Ytlhlidmhlhodiaa

/-
  Package reorder: things in their order.
-/
namespace Go.Proofs.Ytlhlidmhlhodiaa
set_option linter.unusedSimpArgs false
set_option linter.unusedVariables false
open Go.RowKit
instance : TZV Try.prog 218 (.agg #[.int .i64 0, .string ByteArray.empty, .int .i64 0]) := ⟨by kernel_rfl⟩
attribute [local irreducible] Pv WO WC Fn
set_option maxRecDepth 100000

abbrev bfI (b : Nat) (bg : Bool) (nx : Int) (mp : Nat) (lo : Int) : It := .ob b (.cells #[.int .i64 4, .int .i64 3, .bool bg, .int .i64 nx, .map (some mp), .int .i64 lo] 281 (0, 0))
abbrev thV (at_ : Int) (tx : ByteArray) (tk : Int) : Value := .agg #[.int .i64 at_, .string tx, .int .i64 tk]
abbrev thB (b : Nat) (at_ : Int) (tx : ByteArray) (tk : Int) : It := .ob b (.cells #[.int .i64 at_, .string tx, .int .i64 tk] 218 (0, 0))
abbrev thO (ao : Option Addr) (n c : Nat) (xs : List (List Value)) : It := .own 218 3 ao n c xs
def tblRn (v1 : Value) (row : List Value) (ck : Nat) : Nat → List (List It) → Value → List (List It) → Prop := fun k Ls v Ms => match k, Ls with
  | 8, L => v = v1 ∧ Ms = L
  | 12, _ => ∃ b, v = .pointer (some ⟨b, 0, none⟩) ∧ Ms = [[thB b 0 ByteArray.empty 0]]
  | 13, [[.ob b _]] => v = undef ∧ Ms = [[.ob b (.cells row.toArray 218 (0, 0))]]
  | _, _ => False
def tblDl (ck : Nat) : Nat → List (List It) → Value → List (List It) → Prop := fun k Ls v Ms => match k, Ls with
  | 8, [[.ob b _]] => v = .tuple #[] ∧ Ms = [[.ob b (m0 ck)]]
  | _, _ => False
set_option maxHeartbeats 8000000 in
theorem oRun (b mp : Nat) (at_ : Int) (tx : ByteArray) (tk lo : Int) (bn ck : Nat) (h : 0 ≤ at_ ∧ at_ ≤ 1000000000000) : Fn Try.prog 136 #[.pointer (some ⟨b, 0, none⟩)] [bfI b true at_ mp lo, .ob mp (m1 .i64 at_ (thV at_ tx tk) bn ck)] []
    (fun v L' R' => ∃ ao c, v = .slice ao 1 c ∧ L' = [bfI b true (at_ + 1) mp lo, .ob mp (m0 ck), thO ao 1 c [[.int .i64 at_, .string tx, .int .i64 tk]]] ∧ R' = []) := by
  refine fn_intro Try.func136 rfl Try.ntmps136 rfl (fun E => ?_)
  (repeat (first | ((first | (apply wo_v; rfl) ); (· first | (apply pv_ev; rfl) )) | apply wo_nil | apply wc_seq | apply wc_region ))
  refine wc_own0 218 3 ?_
  refine wc_block ?_
  refine wc_loop' (fun q st => (q = 1 ∧ st = ⟨[(0, .pointer (some ⟨b, 0, none⟩)), (3, .slice none 0 0)], [bfI b true at_ mp lo, .ob mp (m1 .i64 at_ (thV at_ tx tk) bn ck), thO none 0 0 []], []⟩) ∨ (q = 0 ∧ ∃ ao c, st = ⟨[(0, .pointer (some ⟨b, 0, none⟩)), (3, .slice ao 1 c)], [bfI b true (at_ + 1) mp lo, .ob mp (m0 ck), thO ao 1 c [[.int .i64 at_, .string tx, .int .i64 tk]]], []⟩)) (.inl ⟨rfl, rfl⟩) (wk_mk (by (repeat (first | apply wkf_nil | (apply wkf_cons; rfl))); done) (by (repeat (first | apply sub_nil | (apply sub_cons; (· (repeat (first | apply sel_here | apply sel_there)))))); done) (by first | exact fun _ h => h | (intro r hr; cases hr; done) | (simp; done) | exact fun _ h => List.mem_append_left _ h | (intro r hr; simp [hr]; done))) ?_
  rintro q st (⟨rfl, rfl⟩ | ⟨rfl, ao, c, rfl⟩)
  · (repeat (first | fail ))
    refine wc_block ?_
    (repeat (first | apply wc_seq ))
    (refine wc_regM [0, 1] (aslL [(8, [1]), (12, [0]), (13, [0])]) (tblRn (.tuple #[thV at_ tx tk, .bool true]) [.int .i64 at_, .string tx, .int .i64 tk] ck) ([bfI b true at_ mp lo, thO none 0 0 []]) (fm [(0, []), (1, [.ob mp (m1 .i64 at_ (thV at_ tx tk) bn ck)])]) mixed (by kernel_rfl) (by kernel_rfl) (by decide) (aslL_ok (by decide)) (by (repeat (first | (apply prm_cons; (· (repeat (first | apply sel_here | apply sel_there)))) | apply List.Perm.nil )); done) ?_; (repeat (first | (apply HdM.val; rfl; rfl; (· first | apply gok_none ); (· first | (apply pv_ev; rfl) | (apply pv_fld; rfl) | (apply g_load; first | (apply pv_ld; rfl; (· (repeat (first | apply sel_here ))); rfl) ) )) )))
    (refine hm_eff (cs := [1]) rfl (by decide) rfl rfl (by first | exact gok_none | exact gok_run rfl rfl) (fun a ha => outc_mono (outc_pv (L := [.ob mp (m1 .i64 at_ (thV at_ tx tk) bn ck)]) (pv_m1 rfl rfl (by (repeat (first | apply sel_here )); done)) a ha) (fun v M h => ⟨[M], And.intro h.1 (congrArg (fun x => [x]) h.2), rfl, by simp⟩)) (⟨_, _, And.intro rfl rfl, rfl⟩) ?_; rintro v Ms ⟨rfl, rfl⟩ _; simp only [setls, setl, reduceIte, Nat.reduceEqDiff]; (repeat (first | (apply HdM.val; rfl; rfl; (· first | apply gok_none ); (· first | (apply pv_ev; rfl) )) )))
    (refine hm_eff (cs := [0]) rfl (by decide) rfl rfl (by first | exact gok_none | exact gok_run rfl rfl) (fun a ha => outc_mono (outc_alloc a ha) (fun v M h => Exists.elim h fun b h => ⟨[M], Exists.intro b (And.intro h.1 (congrArg (fun x => [x]) h.2)), rfl, by simp⟩)) (⟨_, _, Exists.intro 0 (And.intro rfl rfl), rfl⟩) ?_; rintro v Ms ⟨b4, rfl, rfl⟩ _; simp only [setls, setl, reduceIte, Nat.reduceEqDiff]; (repeat (first | fail )))
    (refine hm_eff (cs := [0]) rfl (by decide) rfl rfl (by first | exact gok_none | exact gok_run rfl rfl) (fun a ha => outc_mono (outc_sta rfl rfl rfl rfl (by (repeat (first | apply LayAt.nil | apply LayAt.here )); done) a ha) (fun v M h => ⟨[M], And.intro h.1 (congrArg (fun x => [x]) h.2), rfl, by simp⟩)) (⟨_, _, And.intro rfl rfl, rfl⟩) ?_; rintro v Ms ⟨rfl, rfl⟩ _; simp only [setls, setl, reduceIte, Nat.reduceEqDiff]; (repeat (first | (apply HdM.val; rfl; rfl; (· first | apply gok_none ); (· first | (apply pv_ev; rfl) )) )))
    (refine HdM.nil ?_; intro H hH; simp only [Hp, fm, look, setl, List.flatMap_cons, List.flatMap_nil, reduceIte, Nat.reduceEqDiff, Option.getD_some, List.append_nil, List.cons_append, List.nil_append] at hH; subst hH)
    (repeat (first | ((first | (apply wo_v; rfl) ); (· first | (apply pv_ev; rfl) | (apply g_un; first | (apply pv_not_t; rfl) ) )) | apply wo_nil | apply wc_seq | apply wc_region | apply wc_skip | (apply wc_true; rfl) | (apply wc_false; rfl) ))
    (refine wc_regM [0] (aslL [(8, [0])]) (tblDl ck) ([bfI b true at_ mp lo, thO none 0 0 [], thB b4 at_ tx tk]) (fm [(0, [.ob mp (m1 .i64 at_ (thV at_ tx tk) bn ck)])]) mixed (by kernel_rfl) (by kernel_rfl) (by decide) (aslL_ok (by decide)) (by (repeat (first | (apply prm_cons; (· (repeat (first | apply sel_here )))) | apply List.Perm.nil )); done) ?_; (repeat (first | (apply HdM.val; rfl; rfl; (· first | apply gok_none ); (· first | (apply pv_ev; rfl) | (apply pv_fld; rfl) | (apply g_load; first | (apply pv_ld; rfl; (· (repeat (first | apply sel_here ))); rfl) ) )) )))
    (refine hm_eff (cs := [0]) rfl (by decide) rfl rfl (by first | exact gok_none | exact gok_run rfl rfl) (fun a ha => outc_mono (outc_m1del rfl rfl a ha) (fun v M h => ⟨[M], And.intro h.1 (congrArg (fun x => [x]) h.2), rfl, by simp⟩)) (⟨_, _, And.intro rfl rfl, rfl⟩) ?_; rintro v Ms ⟨rfl, rfl⟩ _; simp only [setls, setl, reduceIte, Nat.reduceEqDiff]; (repeat (first | fail )))
    (refine HdM.nil ?_; intro H hH; simp only [Hp, fm, look, setl, List.flatMap_cons, List.flatMap_nil, reduceIte, Nat.reduceEqDiff, Option.getD_some, List.append_nil, List.cons_append, List.nil_append] at hH; subst hH)
    (repeat (first | ((first | (apply wo_v; rfl) ); (· first | (apply pv_ev; rfl) | (apply g_load; first | (apply pv_lda; rfl; (· (repeat (first | apply sel_here | apply sel_there))); (· (repeat (first | apply Cut.here0 | apply Cut.here )))) ) | (apply g_bi; first | fail ) )) | apply wc_seq | apply wc_region | (apply wo_bsl; (· (repeat (first | apply Rws'.nil | (apply Rws'.one; rfl; rfl; rfl) | (apply Rws'.agg; rfl; rfl; rfl)))); rfl; rfl; rfl; rfl; intro bx) ))
    refine wo_app (ao := none) (n := 0) (m := 1) rfl rfl (by (repeat (first | apply sel_here | apply sel_there)); done) (by (repeat (first | apply sel_here )); done) (by unfold maxLen; omega) (by omega) rfl (fun a3 c3 => ?_)
    (repeat (first | ((first | (apply wo_v; rfl) ); (· first | (apply pv_ev; rfl) | (apply pv_fld; rfl) | (apply g_load; first | (apply pv_ld; rfl; (· (repeat (first | apply sel_here | apply sel_there))); rfl) ) | (apply g_bin; first | (apply a_add; rfl; rfl; infer_instance; omega) ) )) | apply wo_nil | apply wc_region | (apply wo_st; rfl; rfl; rfl; (· (repeat (first | apply sel_here | apply sel_there))); (· (repeat (first | apply SetAt.here | apply SetAt.there))); rfl) ))
    exact ⟨0, _, by omega, (wk_mk (by (repeat (first | apply wkf_nil | (apply wkf_cons; rfl))); done) (by (repeat (first | apply sub_nil | (apply sub_cons; (· (repeat (first | apply sel_here | apply sel_there)))))); done) (by first | exact fun _ h => h | (intro r hr; cases hr; done) | (simp; done) | exact fun _ h => List.mem_append_left _ h | (intro r hr; simp [hr]; done))), .inr ⟨rfl, a3, c3, rfl⟩⟩
  · (repeat (first | fail ))
    refine wc_block ?_
    (repeat (first | apply wc_seq ))
    (refine wc_regM [0, 1] (aslL [(8, [1]), (12, [0]), (13, [0])]) (tblRn (.tuple #[.agg #[.int .i64 0, .string ByteArray.empty, .int .i64 0], .bool false]) [.int .i64 0, .string ByteArray.empty, .int .i64 0] ck) ([bfI b true (at_ + 1) mp lo, thO ao 1 c [[.int .i64 at_, .string tx, .int .i64 tk]]]) (fm [(0, []), (1, [.ob mp (m0 ck)])]) mixed (by kernel_rfl) (by kernel_rfl) (by decide) (aslL_ok (by decide)) (by (repeat (first | (apply prm_cons; (· (repeat (first | apply sel_here | apply sel_there)))) | apply List.Perm.nil )); done) ?_; (repeat (first | (apply HdM.val; rfl; rfl; (· first | apply gok_none ); (· first | (apply pv_ev; rfl) | (apply pv_fld; rfl) | (apply g_load; first | (apply pv_ld; rfl; (· (repeat (first | apply sel_here ))); rfl) ) )) )))
    (refine hm_eff (cs := [1]) rfl (by decide) rfl rfl (by first | exact gok_none | exact gok_run rfl rfl) (fun a ha => outc_mono (outc_pv (L := [.ob mp (m0 ck)]) (pv_m0 rfl rfl (by (repeat (first | apply sel_here )); done)) a ha) (fun v M h => ⟨[M], And.intro h.1 (congrArg (fun x => [x]) h.2), rfl, by simp⟩)) (⟨_, _, And.intro rfl rfl, rfl⟩) ?_; rintro v Ms ⟨rfl, rfl⟩ _; simp only [setls, setl, reduceIte, Nat.reduceEqDiff]; (repeat (first | (apply HdM.val; rfl; rfl; (· first | apply gok_none ); (· first | (apply pv_ev; rfl) )) )))
    (refine hm_eff (cs := [0]) rfl (by decide) rfl rfl (by first | exact gok_none | exact gok_run rfl rfl) (fun a ha => outc_mono (outc_alloc a ha) (fun v M h => Exists.elim h fun b h => ⟨[M], Exists.intro b (And.intro h.1 (congrArg (fun x => [x]) h.2)), rfl, by simp⟩)) (⟨_, _, Exists.intro 0 (And.intro rfl rfl), rfl⟩) ?_; rintro v Ms ⟨b4, rfl, rfl⟩ _; simp only [setls, setl, reduceIte, Nat.reduceEqDiff]; (repeat (first | fail )))
    (refine hm_eff (cs := [0]) rfl (by decide) rfl rfl (by first | exact gok_none | exact gok_run rfl rfl) (fun a ha => outc_mono (outc_sta rfl rfl rfl rfl (by (repeat (first | apply LayAt.nil | apply LayAt.here )); done) a ha) (fun v M h => ⟨[M], And.intro h.1 (congrArg (fun x => [x]) h.2), rfl, by simp⟩)) (⟨_, _, And.intro rfl rfl, rfl⟩) ?_; rintro v Ms ⟨rfl, rfl⟩ _; simp only [setls, setl, reduceIte, Nat.reduceEqDiff]; (repeat (first | (apply HdM.val; rfl; rfl; (· first | apply gok_none ); (· first | (apply pv_ev; rfl) )) )))
    (refine HdM.nil ?_; intro H hH; simp only [Hp, fm, look, setl, List.flatMap_cons, List.flatMap_nil, reduceIte, Nat.reduceEqDiff, Option.getD_some, List.append_nil, List.cons_append, List.nil_append] at hH; subst hH)
    (repeat (first | ((first | (apply wo_v; rfl) ); (· first | (apply pv_ev; rfl) | (apply g_un; first | (apply pv_not_t; rfl) | (apply pv_not_f; rfl) ) )) | apply wo_nil | apply wc_seq | apply wc_region | apply wc_ret | (apply wc_true; rfl) ))
    exact ret1 rfl rfl ⟨ao, c, rfl, rfl, rfl⟩ ((by (repeat (first | apply sub_nil | (apply sub_cons; (· (repeat (first | apply sel_here | apply sel_there)))))); done) : List.Perm _ ([_, _, _] ++ _)) (by first | exact fun _ h => h | (intro r hr; cases hr; done) | (simp; done) | exact fun _ h => List.mem_append_left _ h | (intro r hr; simp [hr]; done))
def tblPu (at_ : Int) (mp : Nat) (bg : Bool) : Nat → List (List It) → Value → List (List It) → Prop := fun k Ls v Ms => match k, Ls with
  | 6, [[.ob b _]] => v = undef ∧ Ms = [[bfI b true 0 mp 0]]
  | 9, [[.ob b _]] => v = undef ∧ Ms = [[bfI b true at_ mp 0]]
  | _, _ => False
def tblLk (zv : Value) (row : List Value) : Nat → List (List It) → Value → List (List It) → Prop := fun k Ls v Ms => match k, Ls with
  | 6, L => v = zv ∧ Ms = L
  | 10, _ => ∃ b, v = .pointer (some ⟨b, 0, none⟩) ∧ Ms = [[thB b 0 ByteArray.empty 0]]
  | 11, [[.ob b _]] => v = undef ∧ Ms = [[.ob b (.cells row.toArray 218 (0, 0))]]
  | _, _ => False
def tblMu (at_ : Int) (v1 : Value) (ck : Nat) : Nat → List (List It) → Value → List (List It) → Prop := fun k Ls v Ms => match k, Ls with
  | 7, [[.ob b _]] => v = undef ∧ Ms = [[.ob b (m1 .i64 at_ v1 ck (ck + 1))]]
  | _, _ => False
def tblLe : Nat → List (List It) → Value → List (List It) → Prop := fun k Ls v Ms => match k, Ls with
  | 4, L => v = .int .i64 0 ∧ Ms = L
  | _, _ => False
abbrev BPost (b : Nat) (at_ : Int) (tx : ByteArray) (tk : Int) (mp ck : Nat) : Value → List It → List Ro → Prop := fun v L' R' => ∃ ao c, v = .tuple #[.slice ao 1 c, .int .i64 0] ∧ L' = [bfI b true (at_ + 1) mp 0, .ob mp (m0 (ck + 1)), thO ao 1 c [[.int .i64 at_, .string tx, .int .i64 tk]]] ∧ R' = []
set_option maxHeartbeats 16000000 in
theorem oPut1 (b mp : Nat) (at_ : Int) (tx : ByteArray) (tk : Int) (ck : Nat) (h : 0 ≤ at_ ∧ at_ ≤ 1000000000000) : Fn Try.prog 96 #[.pointer (some ⟨b, 0, none⟩), thV at_ tx tk] [bfI b true at_ mp 0, .ob mp (m0 ck)] [] (BPost b at_ tx tk mp ck) := by
  have qr := oRun b mp at_ tx tk 0 ck (ck + 1) h
  refine fn_intro Try.func96 rfl Try.ntmps96 rfl (fun E => ?_)
  (repeat (first | ((first | (apply wo_v; rfl) ); (· first | (apply pv_ev; rfl) | (apply pv_fld; rfl) | (apply g_load; first | (apply pv_ld; rfl; (· (repeat (first | apply sel_here | apply sel_there))); rfl) ) | (apply g_un; first | (apply pv_not_t; rfl) ) )) | apply wo_nil | apply wc_seq | apply wc_region | apply wc_skip | (apply wc_true; rfl) | (apply wc_false; rfl) | (apply wo_box1; rfl; rfl; rfl; intro bx) | (apply wo_boxa; rfl; rfl; intro bx) ))
  obtain ⟨b3, hb3⟩ : ∃ g, g = bx := ⟨_, rfl⟩
  subst hb3
  (refine wc_quiet mixed (by kernel_rfl) ?_; (repeat (first | ((first | (apply hd_v; rfl) ); (· first | (apply pv_ev; rfl) | (apply pv_fld; rfl) | (apply g_load; first | (apply pv_ld; rfl; (· (repeat (first | apply sel_here | apply sel_there))); rfl) ) )) | apply Hd.nil | apply wc_seq | apply wc_skip | (apply wc_true; rfl) | (apply wc_false; rfl) | (apply a_dec_t; rfl; (· first | assumption | omega)) | (apply a_dec_f; rfl; (· first | assumption | omega)) )))
  (repeat (first | fail ))
  (refine wc_regM [0, 1] (aslL [(6, [1]), (10, [0]), (11, [0])]) (tblLk (.tuple #[.agg #[.int .i64 0, .string ByteArray.empty, .int .i64 0], .bool false]) [.int .i64 0, .string ByteArray.empty, .int .i64 0]) ([bfI b true at_ mp 0, thB b3 at_ tx tk]) (fm [(0, []), (1, [.ob mp (m0 ck)])]) mixed (by kernel_rfl) (by kernel_rfl) (by decide) (aslL_ok (by decide)) (by (repeat (first | (apply prm_cons; (· (repeat (first | apply sel_here | apply sel_there)))) | apply List.Perm.nil )); done) ?_; (repeat (first | (apply HdM.val; rfl; rfl; (· first | apply gok_none ); (· first | (apply pv_ev; rfl) | (apply pv_fld; rfl) | (apply g_load; first | (apply pv_ld; rfl; (· (repeat (first | apply sel_here | apply sel_there))); rfl) ) )) )))
  (refine hm_eff (cs := [1]) rfl (by decide) rfl rfl (by first | exact gok_none | exact gok_run rfl rfl) (fun a ha => outc_mono (outc_pv (L := [.ob mp (m0 ck)]) (pv_m0 rfl rfl (by (repeat (first | apply sel_here )); done)) a ha) (fun v M h => ⟨[M], And.intro h.1 (congrArg (fun x => [x]) h.2), rfl, by simp⟩)) (⟨_, _, And.intro rfl rfl, rfl⟩) ?_; rintro v Ms ⟨rfl, rfl⟩ _; simp only [setls, setl, reduceIte, Nat.reduceEqDiff]; (repeat (first | (apply HdM.val; rfl; rfl; (· first | apply gok_none ); (· first | (apply pv_ev; rfl) )) )))
  (refine hm_eff (cs := [0]) rfl (by decide) rfl rfl (by first | exact gok_none | exact gok_run rfl rfl) (fun a ha => outc_mono (outc_alloc a ha) (fun v M h => Exists.elim h fun b h => ⟨[M], Exists.intro b (And.intro h.1 (congrArg (fun x => [x]) h.2)), rfl, by simp⟩)) (⟨_, _, Exists.intro 0 (And.intro rfl rfl), rfl⟩) ?_; rintro v Ms ⟨b6, rfl, rfl⟩ _; simp only [setls, setl, reduceIte, Nat.reduceEqDiff]; (repeat (first | fail )))
  (refine hm_eff (cs := [0]) rfl (by decide) rfl rfl (by first | exact gok_none | exact gok_run rfl rfl) (fun a ha => outc_mono (outc_sta rfl rfl rfl rfl (by (repeat (first | apply LayAt.nil | apply LayAt.here )); done) a ha) (fun v M h => ⟨[M], And.intro h.1 (congrArg (fun x => [x]) h.2), rfl, by simp⟩)) (⟨_, _, And.intro rfl rfl, rfl⟩) ?_; rintro v Ms ⟨rfl, rfl⟩ _; simp only [setls, setl, reduceIte, Nat.reduceEqDiff]; (repeat (first | (apply HdM.val; rfl; rfl; (· first | apply gok_none ); (· first | (apply pv_ev; rfl) )) )))
  (refine HdM.nil ?_; intro H hH; simp only [Hp, fm, look, setl, List.flatMap_cons, List.flatMap_nil, reduceIte, Nat.reduceEqDiff, Option.getD_some, List.append_nil, List.cons_append, List.nil_append] at hH; subst hH)
  (repeat (first | ((first | (apply wo_v; rfl) ); (· first | (apply pv_ev; rfl) )) | apply wo_nil | apply wc_seq | apply wc_region | apply wc_skip | (apply wc_true; rfl) | (apply wc_false; rfl) ))
  (refine wc_regM [0] (aslL [(7, [0])]) (tblMu at_ (thV at_ tx tk) ck) ([bfI b true at_ mp 0, thB b3 at_ tx tk, thB b6 0 ByteArray.empty 0]) (fm [(0, [.ob mp (m0 ck)])]) mixed (by kernel_rfl) (by kernel_rfl) (by decide) (aslL_ok (by decide)) (by (repeat (first | (apply prm_cons; (· (repeat (first | apply sel_here )))) | apply List.Perm.nil )); done) ?_; (repeat (first | (apply HdM.val; rfl; rfl; (· first | apply gok_none ); (· first | (apply pv_ev; rfl) | (apply pv_fld; rfl) | (apply g_load; first | (apply pv_ld; rfl; (· (repeat (first | apply sel_here | apply sel_there))); rfl) | (apply pv_lda; rfl; (· (repeat (first | apply sel_here | apply sel_there))); (· (repeat (first | apply Cut.here0 | apply Cut.here )))) ) )) )))
  (refine hm_eff (cs := [0]) rfl (by decide) rfl rfl (by first | exact gok_none | exact gok_run rfl rfl) (fun a ha => outc_mono (outc_m0put rfl rfl rfl a ha) (fun v M h => ⟨[M], And.intro h.1 (congrArg (fun x => [x]) h.2), rfl, by simp⟩)) (⟨_, _, And.intro rfl rfl, rfl⟩) ?_; rintro v Ms ⟨rfl, rfl⟩ _; simp only [setls, setl, reduceIte, Nat.reduceEqDiff]; (repeat (first | fail )))
  (refine HdM.nil ?_; intro H hH; simp only [Hp, fm, look, setl, List.flatMap_cons, List.flatMap_nil, reduceIte, Nat.reduceEqDiff, Option.getD_some, List.append_nil, List.cons_append, List.nil_append] at hH; subst hH)
  (repeat (first | ((first | (apply wo_v; rfl) ); (· first | (apply pv_ev; rfl) )) | apply wc_seq | apply wc_region ))
  (refine wo_call (qr) rfl (by (repeat (first | apply sub_nil | (apply sub_cons; (· (repeat (first | apply sel_here | apply sel_there)))))); done) (by first | exact fun _ h => h | (intro r hr; cases hr; done) | (simp; done) | exact fun _ h => List.mem_append_left _ h | (intro r hr; simp [hr]; done)) rfl ?_; rintro v L' R' ⟨ao, c, rfl, rfl, rfl⟩ H' hH RR hR; simp only [List.cons_append, List.nil_append] at hH hR; subst hH; have hR := hR.symm; subst hR)
  (repeat (first | ((first | (apply wo_v; rfl) ); (· first | (apply pv_ev; rfl) )) | apply wo_nil | apply wc_seq ))
  refine wc_block ?_
  refine wc_loop' (fun q st => q = 0 ∧ st = ⟨[(0, .pointer (some ⟨b, 0, none⟩)), (8, .slice ao 1 c)], [bfI b true (at_ + 1) mp 0, .ob mp (m0 (ck + 1)), thO ao 1 c [[.int .i64 at_, .string tx, .int .i64 tk]]], []⟩) ⟨rfl, rfl⟩ (wk_mk (by (repeat (first | apply wkf_nil | (apply wkf_cons; rfl))); done) (by (repeat (first | apply sub_nil )); done) (by first | exact fun _ h => h | (intro r hr; cases hr; done) | (simp; done) | exact fun _ h => List.mem_append_left _ h | (intro r hr; simp [hr]; done))) ?_
  rintro q st ⟨rfl, rfl⟩
  (repeat (first | apply wc_seq ))
  (refine wc_regM [0] (aslL [(4, [0])]) (tblLe) ([bfI b true (at_ + 1) mp 0, thO ao 1 c [[.int .i64 at_, .string tx, .int .i64 tk]]]) (fm [(0, [.ob mp (m0 (ck + 1))])]) mixed (by kernel_rfl) (by kernel_rfl) (by decide) (aslL_ok (by decide)) (by (repeat (first | (apply prm_cons; (· (repeat (first | apply sel_here | apply sel_there)))) | apply List.Perm.nil )); done) ?_; (repeat (first | (apply HdM.val; rfl; rfl; (· first | apply gok_none ); (· first | (apply pv_ev; rfl) | (apply pv_fld; rfl) | (apply g_load; first | (apply pv_ld; rfl; (· (repeat (first | apply sel_here ))); rfl) ) )) )))
  (refine hm_eff (cs := [0]) rfl (by decide) rfl rfl (by first | exact gok_none | exact gok_run rfl rfl) (fun a ha => outc_mono (outc_pv (L := [.ob mp (m0 (ck + 1))]) (pv_m0len rfl (by (repeat (first | apply sel_here )); done)) a ha) (fun v M h => ⟨[M], And.intro h.1 (congrArg (fun x => [x]) h.2), rfl, by simp⟩)) (⟨_, _, And.intro rfl rfl, rfl⟩) ?_; rintro v Ms ⟨rfl, rfl⟩ _; simp only [setls, setl, reduceIte, Nat.reduceEqDiff]; (repeat (first | (apply HdM.val; rfl; rfl; (· first | apply gok_none ); (· first | (apply pv_ev; rfl) | (apply pv_fld; rfl) | (apply g_load; first | (apply pv_ld; rfl; (· (repeat (first | apply sel_here ))); rfl) ) )) )))
  (refine HdM.nil ?_; intro H hH; simp only [Hp, fm, look, setl, List.flatMap_cons, List.flatMap_nil, reduceIte, Nat.reduceEqDiff, Option.getD_some, List.append_nil, List.cons_append, List.nil_append] at hH; subst hH)
  (repeat (first | ((first | (apply wo_v; rfl) ); (· first | (apply pv_ev; rfl) )) | apply wo_nil | apply wc_seq | apply wc_region | (apply wc_exit; rfl) | apply wc_ret | (apply wc_true; rfl) | (apply wc_false; rfl) ))
  exact ret2 rfl rfl rfl ⟨ao, c, rfl, rfl, rfl⟩ ((by (repeat (first | apply sub_nil | (apply sub_cons; (· (repeat (first | apply sel_here | apply sel_there)))))); done) : List.Perm _ ([_, _, _] ++ _)) (by first | exact fun _ h => h | (intro r hr; cases hr; done) | (simp; done) | exact fun _ h => List.mem_append_left _ h | (intro r hr; simp [hr]; done))
set_option maxHeartbeats 16000000 in
theorem oPut0 (b mp : Nat) (at_ : Int) (tx : ByteArray) (tk : Int) (ck : Nat) (h : 0 ≤ at_ ∧ at_ ≤ 1000000000000) : Fn Try.prog 96 #[.pointer (some ⟨b, 0, none⟩), thV at_ tx tk] [bfI b false 0 mp 0, .ob mp (m0 ck)] [] (BPost b at_ tx tk mp ck) := by
  have qr := oRun b mp at_ tx tk 0 ck (ck + 1) h
  refine fn_intro Try.func96 rfl Try.ntmps96 rfl (fun E => ?_)
  (repeat (first | ((first | (apply wo_v; rfl) ); (· first | (apply pv_ev; rfl) | (apply pv_fld; rfl) | (apply g_load; first | (apply pv_ld; rfl; (· (repeat (first | apply sel_here | apply sel_there))); rfl) ) | (apply g_un; first | (apply pv_not_t; rfl) | (apply pv_not_f; rfl) ) )) | apply wo_nil | apply wc_seq | apply wc_region | (apply wc_true; rfl) | (apply wo_box1; rfl; rfl; rfl; intro bx) | (apply wo_boxa; rfl; rfl; intro bx) ))
  obtain ⟨b3, hb3⟩ : ∃ g, g = bx := ⟨_, rfl⟩
  subst hb3
  (refine wc_regM [0] (aslL [(6, [0]), (9, [0])]) (tblPu at_ mp false) ([thB b3 at_ tx tk, .ob mp (m0 ck)]) (fm [(0, [bfI b false 0 mp 0])]) mixed (by kernel_rfl) (by kernel_rfl) (by decide) (aslL_ok (by decide)) (by (repeat (first | (apply prm_cons; (· (repeat (first | apply sel_here | apply sel_there)))) | apply List.Perm.nil )); done) ?_; (repeat (first | (apply HdM.val; rfl; rfl; (· first | apply gok_none ); (· first | (apply pv_ev; rfl) | (apply pv_fld; rfl) | (apply g_load; first | (apply pv_ld; rfl; (· (repeat (first | apply sel_here ))); rfl) ) )) )))
  (refine hm_eff (cs := [0]) rfl (by decide) rfl rfl (by first | exact gok_none | exact gok_run rfl rfl) (fun a ha => outc_mono (outc_st rfl rfl rfl (by (repeat (first | apply SetAt.here | apply SetAt.there)); done) a ha) (fun v M h => ⟨[M], And.intro h.1 (congrArg (fun x => [x]) h.2), rfl, by simp⟩)) (⟨_, _, And.intro rfl rfl, rfl⟩) ?_; rintro v Ms ⟨rfl, rfl⟩ _; simp only [setls, setl, reduceIte, Nat.reduceEqDiff]; (repeat (first | (apply HdM.val; rfl; rfl; (· first | apply gok_none ); (· first | (apply pv_ev; rfl) | (apply pv_fld; rfl) )) )))
  (refine hm_eff (cs := [0]) rfl (by decide) rfl rfl (by first | exact gok_none | exact gok_run rfl rfl) (fun a ha => outc_mono (outc_st rfl rfl rfl (by (repeat (first | apply SetAt.here | apply SetAt.there)); done) a ha) (fun v M h => ⟨[M], And.intro h.1 (congrArg (fun x => [x]) h.2), rfl, by simp⟩)) (⟨_, _, And.intro rfl rfl, rfl⟩) ?_; rintro v Ms ⟨rfl, rfl⟩ _; simp only [setls, setl, reduceIte, Nat.reduceEqDiff]; (repeat (first | fail )))
  (refine HdM.nil ?_; intro H hH; simp only [Hp, fm, look, setl, List.flatMap_cons, List.flatMap_nil, reduceIte, Nat.reduceEqDiff, Option.getD_some, List.append_nil, List.cons_append, List.nil_append] at hH; subst hH)
  (repeat (first | apply wc_seq ))
  (refine wc_quiet mixed (by kernel_rfl) ?_; (repeat (first | ((first | (apply hd_v; rfl) ); (· first | (apply pv_ev; rfl) | (apply pv_fld; rfl) | (apply g_load; first | (apply pv_ld; rfl; (· (repeat (first | apply sel_here | apply sel_there))); rfl) ) )) | apply Hd.nil | apply wc_seq | apply wc_skip | (apply wc_true; rfl) | (apply wc_false; rfl) | (apply a_dec_t; rfl; (· first | assumption | omega)) | (apply a_dec_f; rfl; (· first | assumption | omega)) )))
  (repeat (first | fail ))
  (refine wc_regM [0, 1] (aslL [(6, [1]), (10, [0]), (11, [0])]) (tblLk (.tuple #[.agg #[.int .i64 0, .string ByteArray.empty, .int .i64 0], .bool false]) [.int .i64 0, .string ByteArray.empty, .int .i64 0]) ([bfI b true at_ mp 0, thB b3 at_ tx tk]) (fm [(0, []), (1, [.ob mp (m0 ck)])]) mixed (by kernel_rfl) (by kernel_rfl) (by decide) (aslL_ok (by decide)) (by (repeat (first | (apply prm_cons; (· (repeat (first | apply sel_here | apply sel_there)))) | apply List.Perm.nil )); done) ?_; (repeat (first | (apply HdM.val; rfl; rfl; (· first | apply gok_none ); (· first | (apply pv_ev; rfl) | (apply pv_fld; rfl) | (apply g_load; first | (apply pv_ld; rfl; (· (repeat (first | apply sel_here | apply sel_there))); rfl) ) )) )))
  (refine hm_eff (cs := [1]) rfl (by decide) rfl rfl (by first | exact gok_none | exact gok_run rfl rfl) (fun a ha => outc_mono (outc_pv (L := [.ob mp (m0 ck)]) (pv_m0 rfl rfl (by (repeat (first | apply sel_here )); done)) a ha) (fun v M h => ⟨[M], And.intro h.1 (congrArg (fun x => [x]) h.2), rfl, by simp⟩)) (⟨_, _, And.intro rfl rfl, rfl⟩) ?_; rintro v Ms ⟨rfl, rfl⟩ _; simp only [setls, setl, reduceIte, Nat.reduceEqDiff]; (repeat (first | (apply HdM.val; rfl; rfl; (· first | apply gok_none ); (· first | (apply pv_ev; rfl) )) )))
  (refine hm_eff (cs := [0]) rfl (by decide) rfl rfl (by first | exact gok_none | exact gok_run rfl rfl) (fun a ha => outc_mono (outc_alloc a ha) (fun v M h => Exists.elim h fun b h => ⟨[M], Exists.intro b (And.intro h.1 (congrArg (fun x => [x]) h.2)), rfl, by simp⟩)) (⟨_, _, Exists.intro 0 (And.intro rfl rfl), rfl⟩) ?_; rintro v Ms ⟨b6, rfl, rfl⟩ _; simp only [setls, setl, reduceIte, Nat.reduceEqDiff]; (repeat (first | fail )))
  (refine hm_eff (cs := [0]) rfl (by decide) rfl rfl (by first | exact gok_none | exact gok_run rfl rfl) (fun a ha => outc_mono (outc_sta rfl rfl rfl rfl (by (repeat (first | apply LayAt.nil | apply LayAt.here )); done) a ha) (fun v M h => ⟨[M], And.intro h.1 (congrArg (fun x => [x]) h.2), rfl, by simp⟩)) (⟨_, _, And.intro rfl rfl, rfl⟩) ?_; rintro v Ms ⟨rfl, rfl⟩ _; simp only [setls, setl, reduceIte, Nat.reduceEqDiff]; (repeat (first | (apply HdM.val; rfl; rfl; (· first | apply gok_none ); (· first | (apply pv_ev; rfl) )) )))
  (refine HdM.nil ?_; intro H hH; simp only [Hp, fm, look, setl, List.flatMap_cons, List.flatMap_nil, reduceIte, Nat.reduceEqDiff, Option.getD_some, List.append_nil, List.cons_append, List.nil_append] at hH; subst hH)
  (repeat (first | ((first | (apply wo_v; rfl) ); (· first | (apply pv_ev; rfl) )) | apply wo_nil | apply wc_seq | apply wc_region | apply wc_skip | (apply wc_true; rfl) | (apply wc_false; rfl) ))
  (refine wc_regM [0] (aslL [(7, [0])]) (tblMu at_ (thV at_ tx tk) ck) ([bfI b true at_ mp 0, thB b3 at_ tx tk, thB b6 0 ByteArray.empty 0]) (fm [(0, [.ob mp (m0 ck)])]) mixed (by kernel_rfl) (by kernel_rfl) (by decide) (aslL_ok (by decide)) (by (repeat (first | (apply prm_cons; (· (repeat (first | apply sel_here )))) | apply List.Perm.nil )); done) ?_; (repeat (first | (apply HdM.val; rfl; rfl; (· first | apply gok_none ); (· first | (apply pv_ev; rfl) | (apply pv_fld; rfl) | (apply g_load; first | (apply pv_ld; rfl; (· (repeat (first | apply sel_here | apply sel_there))); rfl) | (apply pv_lda; rfl; (· (repeat (first | apply sel_here | apply sel_there))); (· (repeat (first | apply Cut.here0 | apply Cut.here )))) ) )) )))
  (refine hm_eff (cs := [0]) rfl (by decide) rfl rfl (by first | exact gok_none | exact gok_run rfl rfl) (fun a ha => outc_mono (outc_m0put rfl rfl rfl a ha) (fun v M h => ⟨[M], And.intro h.1 (congrArg (fun x => [x]) h.2), rfl, by simp⟩)) (⟨_, _, And.intro rfl rfl, rfl⟩) ?_; rintro v Ms ⟨rfl, rfl⟩ _; simp only [setls, setl, reduceIte, Nat.reduceEqDiff]; (repeat (first | fail )))
  (refine HdM.nil ?_; intro H hH; simp only [Hp, fm, look, setl, List.flatMap_cons, List.flatMap_nil, reduceIte, Nat.reduceEqDiff, Option.getD_some, List.append_nil, List.cons_append, List.nil_append] at hH; subst hH)
  (repeat (first | ((first | (apply wo_v; rfl) ); (· first | (apply pv_ev; rfl) )) | apply wc_seq | apply wc_region ))
  (refine wo_call (qr) rfl (by (repeat (first | apply sub_nil | (apply sub_cons; (· (repeat (first | apply sel_here | apply sel_there)))))); done) (by first | exact fun _ h => h | (intro r hr; cases hr; done) | (simp; done) | exact fun _ h => List.mem_append_left _ h | (intro r hr; simp [hr]; done)) rfl ?_; rintro v L' R' ⟨ao, c, rfl, rfl, rfl⟩ H' hH RR hR; simp only [List.cons_append, List.nil_append] at hH hR; subst hH; have hR := hR.symm; subst hR)
  (repeat (first | ((first | (apply wo_v; rfl) ); (· first | (apply pv_ev; rfl) )) | apply wo_nil | apply wc_seq ))
  refine wc_block ?_
  refine wc_loop' (fun q st => q = 0 ∧ st = ⟨[(0, .pointer (some ⟨b, 0, none⟩)), (8, .slice ao 1 c)], [bfI b true (at_ + 1) mp 0, .ob mp (m0 (ck + 1)), thO ao 1 c [[.int .i64 at_, .string tx, .int .i64 tk]]], []⟩) ⟨rfl, rfl⟩ (wk_mk (by (repeat (first | apply wkf_nil | (apply wkf_cons; rfl))); done) (by (repeat (first | apply sub_nil )); done) (by first | exact fun _ h => h | (intro r hr; cases hr; done) | (simp; done) | exact fun _ h => List.mem_append_left _ h | (intro r hr; simp [hr]; done))) ?_
  rintro q st ⟨rfl, rfl⟩
  (repeat (first | apply wc_seq ))
  (refine wc_regM [0] (aslL [(4, [0])]) (tblLe) ([bfI b true (at_ + 1) mp 0, thO ao 1 c [[.int .i64 at_, .string tx, .int .i64 tk]]]) (fm [(0, [.ob mp (m0 (ck + 1))])]) mixed (by kernel_rfl) (by kernel_rfl) (by decide) (aslL_ok (by decide)) (by (repeat (first | (apply prm_cons; (· (repeat (first | apply sel_here | apply sel_there)))) | apply List.Perm.nil )); done) ?_; (repeat (first | (apply HdM.val; rfl; rfl; (· first | apply gok_none ); (· first | (apply pv_ev; rfl) | (apply pv_fld; rfl) | (apply g_load; first | (apply pv_ld; rfl; (· (repeat (first | apply sel_here ))); rfl) ) )) )))
  (refine hm_eff (cs := [0]) rfl (by decide) rfl rfl (by first | exact gok_none | exact gok_run rfl rfl) (fun a ha => outc_mono (outc_pv (L := [.ob mp (m0 (ck + 1))]) (pv_m0len rfl (by (repeat (first | apply sel_here )); done)) a ha) (fun v M h => ⟨[M], And.intro h.1 (congrArg (fun x => [x]) h.2), rfl, by simp⟩)) (⟨_, _, And.intro rfl rfl, rfl⟩) ?_; rintro v Ms ⟨rfl, rfl⟩ _; simp only [setls, setl, reduceIte, Nat.reduceEqDiff]; (repeat (first | (apply HdM.val; rfl; rfl; (· first | apply gok_none ); (· first | (apply pv_ev; rfl) | (apply pv_fld; rfl) | (apply g_load; first | (apply pv_ld; rfl; (· (repeat (first | apply sel_here ))); rfl) ) )) )))
  (refine HdM.nil ?_; intro H hH; simp only [Hp, fm, look, setl, List.flatMap_cons, List.flatMap_nil, reduceIte, Nat.reduceEqDiff, Option.getD_some, List.append_nil, List.cons_append, List.nil_append] at hH; subst hH)
  (repeat (first | ((first | (apply wo_v; rfl) ); (· first | (apply pv_ev; rfl) )) | apply wo_nil | apply wc_seq | apply wc_region | (apply wc_exit; rfl) | apply wc_ret | (apply wc_true; rfl) | (apply wc_false; rfl) ))
  exact ret2 rfl rfl rfl ⟨ao, c, rfl, rfl, rfl⟩ ((by (repeat (first | apply sub_nil | (apply sub_cons; (· (repeat (first | apply sel_here | apply sel_there)))))); done) : List.Perm _ ([_, _, _] ++ _)) (by first | exact fun _ h => h | (intro r hr; cases hr; done) | (simp; done) | exact fun _ h => List.mem_append_left _ h | (intro r hr; simp [hr]; done))
end Go.Proofs.Ytlhlidmhlhodiaa

/-
  Package frame: packets in their order.
-/
namespace Go.Proofs.Ytlhlidmhlhodiaa
set_option linter.unusedSimpArgs false
set_option linter.unusedVariables false
open Go.RowKit
section
variable {P : Program} {fr : List (Nat × Value)} {hp : List It} {ro : List Ro} {x y : Operand} {t t' : TypeId}
theorem pv_eql_nil {e sz by_ : Nat} [h : TSl P t e sz by_] (hx : opd fr x = some (.slice none 0 0)) (hy : opd fr y = some (.slice none 0 0)) : Pv P ⟨fr, hp, ro⟩ (.binOp .eql t x y t') (.bool true) := fun N E ac w dst ty pos af g ok => by
  obtain ⟨_, _, h1, _⟩ := sl_und h.h
  have e1 : (Op.equal t (.slice none 0 0) (.slice none 0 0)).run P w = .ok true w := by
    show Sem.run P (Op.equalIn (9999 + 1) t _ _) w = _
    rw [Op.equalIn]
    simp only [Sem.run_bind, run_underlying h1, Result.andThen_ok]
    rfl
  have e2 : (binOp .eql t (.slice none 0 0) (.slice none 0 0)).run P w = .ok (.bool true) w := by
    simp only [binOp, Sem.run_bind, e1]; rfl
  simp only [execOp, ok.h.eval hx, ok.h.eval hy]
  simp [eqGuard, e2]
theorem pv_eql_sl {e sz by_ b n c : Nat} {o : Nat} [h : TSl P t e sz by_] (hx : opd fr x = some (.slice (some ⟨b, o, none⟩) n c)) (hy : opd fr y = some (.slice none 0 0)) : Pv P ⟨fr, hp, ro⟩ (.binOp .eql t x y t') (.bool false) := fun N E ac w dst ty pos af g ok => by
  obtain ⟨_, _, h1, _⟩ := sl_und h.h
  have e1 : (Op.equal t (.slice (some ⟨b, o, none⟩) n c) (.slice none 0 0)).run P w = .ok false w := by
    show Sem.run P (Op.equalIn (9999 + 1) t _ _) w = _
    rw [Op.equalIn]
    simp only [Sem.run_bind, run_underlying h1, Result.andThen_ok]
    rfl
  have e2 : (binOp .eql t (.slice (some ⟨b, o, none⟩) n c) (.slice none 0 0)).run P w = .ok (.bool false) w := by
    simp only [binOp, Sem.run_bind, e1]; rfl
  simp only [execOp, ok.h.eval hx, ok.h.eval hy]
  simp [eqGuard, e2]
end
attribute [local irreducible] Pv WO WC Fn
set_option maxRecDepth 100000
attribute [local irreducible] ByteArray.extract

abbrev mkI (b : Nat) (us : Value) (wh lo : Int) : It := .ob b (.cells #[.bool true, .int .i64 400, .int .i64 8, .int .i64 30, us, .int .i64 wh, .int .i64 lo] 283 (0, 0))
abbrev u7 (ao : Option Addr) (n c : Nat) (U : List Un) : It := .own 106 7 ao n c (urs U)
abbrev u7' (ao : Option Addr) (n c : Nat) (xs : List (List Value)) : It := .own 106 7 ao n c xs
theorem fOpen (b : Nat) (ao : Option Addr) (n c : Nat) (wh lo : Int) : Fn Try.prog 141 #[.pointer (some ⟨b, 0, none⟩)] [mkI b (.slice ao n c) wh lo] [] (fun v L' R' => v = .int .i64 n ∧ L' = [mkI b (.slice ao n c) wh lo] ∧ R' = []) := by
  refine fn_intro Try.func141 rfl Try.ntmps141 rfl (fun E => ?_)
  (repeat (first | ((first | (apply wo_v; rfl) ); (· first | (apply pv_ev; rfl) | (apply pv_fld; rfl) | (apply g_load; first | (apply pv_ld; rfl; (· (repeat (first | apply sel_here ))); rfl) ) | (apply g_bi; first | (apply pv_len_sl; rfl) ) )) | apply wo_nil | apply wc_seq | apply wc_region | apply wc_ret ))
  exact ret1 rfl rfl ⟨rfl, rfl, rfl⟩ ((by (repeat (first | apply sub_nil )); done) : List.Perm _ ([_] ++ _)) (by first | exact fun _ h => h | (intro r hr; cases hr; done) | (simp; done) | exact fun _ h => List.mem_append_left _ h | (intro r hr; simp [hr]; done))
def tblDr (b : Nat) (us : Value) (wh lo n : Int) : Nat → List (List It) → Value → List (List It) → Prop := fun k Ls v Ms => match k, Ls with
  | 3, L => v = .int .i64 lo ∧ Ms = L
  | 5, L => v = .int .i64 n ∧ Ms = L
  | 9, _ => v = undef ∧ Ms = [[mkI b us wh (lo + n)]]
  | _, _ => False
theorem tblDr_rd {b : Nat} {us : Value} {wh lo n : Int} : ∀ k ∈ [3, 5], Rdr (tblDr b us wh lo n) k := fun k hk L v Ms h => by
  simp only [List.mem_cons, List.not_mem_nil, or_false] at hk
  rcases hk with rfl | rfl
  · exact h.2
  · exact h.2
theorem fDrop (b : Nat) (ao : Option Addr) (n c : Nat) (wh lo : Int) (h : 0 ≤ lo ∧ lo ≤ 1000000 ∧ n ≤ 1000) : Fn Try.prog 142 #[.pointer (some ⟨b, 0, none⟩)] [mkI b (.slice ao n c) wh lo] [] (fun v L' R' => v = .tuple #[] ∧ L' = [mkI b (.slice none 0 0) wh (lo + n)] ∧ R' = []) := by
  have qo := fOpen b ao n c wh lo
  refine fn_intro Try.func142 rfl Try.ntmps142 rfl (fun E => ?_)
  (repeat (first | apply wc_seq ))
  (refine wc_regR [3, 5] [0] (aslL [(3, [0]), (5, [0]), (9, [0])]) (tblDr b (.slice ao n c) wh lo n) ([]) (fm [(0, [mkI b (.slice ao n c) wh lo])]) mixed (by kernel_rfl) (by kernel_rfl) (tblDr_rd) (by decide) (aslL_ok (by decide)) (by (repeat (first | (apply prm_cons; (· (repeat (first | apply sel_here )))) | apply List.Perm.nil )); done) ?_; (repeat (first | (apply HdM.val; rfl; rfl; (· first | apply gok_none ); (· first | (apply pv_ev; rfl) | (apply pv_fld; rfl) )) )))
  (refine hm_eff (cs := [0]) rfl (by decide) rfl rfl (by first | exact gok_none | exact gok_run rfl rfl) (fun a ha => outc_mono (outc_pv (L := [mkI b (.slice ao n c) wh lo]) (pv_ld rfl (by (repeat (first | apply sel_here )); done) rfl) a ha) (fun v M h => ⟨[M], And.intro h.1 (congrArg (fun x => [x]) h.2), rfl, by simp⟩)) (⟨_, _, And.intro rfl rfl, rfl⟩) ?_; rintro v Ms ⟨rfl, rfl⟩ _; simp only [setls, setl, reduceIte, Nat.reduceEqDiff]; (repeat (first | (apply HdM.val; rfl; rfl; (· first | apply gok_none ); (· first | (apply pv_ev; rfl) )) )))
  (refine hm_eff (cs := [0]) rfl (by decide) rfl rfl (by first | exact gok_none | exact gok_run rfl rfl) (fun a ha => outc_mono (outc_call (F1 := _) (T := fun v M => v = .int .i64 n ∧ M = [mkI b (.slice ao n c) wh lo]) qo rfl (by (repeat (first | apply sub_nil )); done) (by first | exact fun _ h => h | (intro r hr; cases hr; done) | (simp; done) | exact fun _ h => List.mem_append_left _ h | (intro r hr; simp [hr]; done)) (by rintro v L' R' ⟨rfl, rfl, _⟩; exact ⟨_, ⟨rfl, rfl⟩, (by (repeat (first | (apply prm_cons; (· (repeat (first | apply sel_here )))) | apply List.Perm.nil )); done)⟩) a ha) (fun v M h => ⟨[M], And.intro h.1 (congrArg (fun x => [x]) h.2), rfl, by simp⟩)) (⟨_, _, And.intro rfl rfl, rfl⟩) ?_; rintro v Ms ⟨rfl, rfl⟩ _; simp only [setls, setl, reduceIte, Nat.reduceEqDiff]; (repeat (first | (apply HdM.val; rfl; rfl; (· first | apply gok_none ); (· first | (apply pv_ev; rfl) | (apply pv_fld; rfl) | (apply g_bin; first | (apply a_add; rfl; rfl; infer_instance; omega) ) )) )))
  (refine hm_eff (cs := [0]) rfl (by decide) rfl rfl (by first | exact gok_none | exact gok_run rfl rfl) (fun a ha => outc_mono (outc_st rfl rfl rfl (by (repeat (first | apply SetAt.here | apply SetAt.there)); done) a ha) (fun v M h => ⟨[M], And.intro h.1 (congrArg (fun x => [x]) h.2), rfl, by simp⟩)) (⟨_, _, And.intro rfl rfl, rfl⟩) ?_; rintro v Ms ⟨rfl, rfl⟩ _; simp only [setls, setl, reduceIte, Nat.reduceEqDiff]; (repeat (first | fail )))
  (refine HdM.nil ?_; intro H hH; simp only [Hp, fm, look, setl, List.flatMap_cons, List.flatMap_nil, reduceIte, Nat.reduceEqDiff, Option.getD_some, List.append_nil, List.cons_append, List.nil_append] at hH; subst hH)
  (repeat (first | ((first | (apply wo_v; rfl) ); (· first | (apply pv_ev; rfl) | (apply pv_fld; rfl) | (apply g_build; apply pv_build; (· (repeat (first | apply Bld.nil )))) )) | apply wo_nil | apply wc_region | (apply wo_sta; rfl; rfl; rfl; rfl; (· (repeat (first | apply sel_here ))); (· (repeat (first | apply LayAt.nil | apply LayAt.here | apply LayAt.there))); rfl) ))
  exact ret0 rfl ⟨rfl, rfl, rfl⟩ ((by (repeat (first | apply sub_nil )); done) : List.Perm _ ([_] ++ _)) (by first | exact fun _ h => h | (intro r hr; cases hr; done) | (simp; done) | exact fun _ h => List.mem_append_left _ h | (intro r hr; simp [hr]; done))
theorem fClone0 : Fn Try.prog 155 #[.slice none 0 0] [] [] (fun v L' R' => v = .slice none 0 0 ∧ L' = [] ∧ R' = []) := by
  refine fn_intro Try.func155 rfl Try.ntmps155 rfl (fun E => ?_)
  (repeat (first | ((first | (apply wo_v; rfl) ); (· first | (apply pv_ev; rfl) | (apply g_bin; first | (apply pv_eql_s; rfl; rfl) | (apply pv_eql_a; rfl; rfl; infer_instance; rfl; rfl) ) )) | apply wo_nil | apply wc_seq | apply wc_region ))
  refine wo_v rfl (pv_eql_nil rfl rfl) ?_
  (repeat (first | ((first | (apply wo_v; rfl) ); (· first | (apply pv_ev; rfl) )) | apply wo_nil | apply wc_seq | apply wc_region | apply wc_ret | (apply wc_true; rfl) ))
  exact ret1 rfl rfl ⟨rfl, rfl, rfl⟩ ((by (repeat (first | apply sub_nil )); done) : List.Perm _ ([] ++ _)) (by first | exact fun _ h => h | (intro r hr; cases hr; done) | (simp; done) | exact fun _ h => List.mem_append_left _ h | (intro r hr; simp [hr]; done))
theorem fClone (b o n c : Nat) (U : List Un) (h : 0 < n ∧ n ≤ 100) : Fn Try.prog 155 #[.slice (some ⟨b, o, none⟩) n c] [u7 (some ⟨b, o, none⟩) n c U] [] (fun v L' R' => ∃ ao2 c2, v = .slice ao2 n c2 ∧ L' = [u7 ao2 n c2 U] ∧ R' = []) := by
  refine fn_intro Try.func155 rfl Try.ntmps155 rfl (fun E => ?_)
  (repeat (first | ((first | (apply wo_v; rfl) ); (· first | (apply pv_ev; rfl) | (apply g_bin; first | (apply pv_eql_s; rfl; rfl) | (apply pv_eql_a; rfl; rfl; infer_instance; rfl; rfl) ) )) | apply wo_nil | apply wc_seq | apply wc_region ))
  refine wo_v rfl (pv_eql_sl rfl rfl) ?_
  (repeat (first | ((first | (apply wo_v; rfl) ); (· first | (apply pv_ev; rfl) | (apply g_bi; first | fail ) )) | apply wo_nil | apply wc_seq | apply wc_region | apply wc_skip | (apply wc_true; rfl) | (apply wc_false; rfl) | (apply wo_bsl; (· (repeat (first | apply Rws'.nil ))); rfl; rfl; rfl; rfl; intro bx) ))
  refine wo_app (n := 0) (m := n) rfl rfl (by (repeat (first | apply sel_here )); done) (by (repeat (first | apply sel_here | apply sel_there)); done) (by unfold maxLen; omega) (by omega) rfl (fun ao2 c2 => ?_)
  rw [Nat.zero_add, List.nil_append]
  (repeat (first | ((first | (apply wo_v; rfl) ); (· first | (apply pv_ev; rfl) )) | apply wo_nil | apply wc_ret ))
  exact ret1 rfl rfl ⟨ao2, c2, rfl, rfl, rfl⟩ ((by (repeat (first | apply sub_nil )); done) : List.Perm _ ([_] ++ _)) (by first | exact fun _ h => h | (intro r hr; cases hr; done) | (simp; done) | exact fun _ h => List.mem_append_left _ h | (intro r hr; simp [hr]; done))
def tzU : List Un → Nat
  | [] => 0
  | u :: U => u.tx.size + tzU U
theorem tzU_take {U : List Un} {j : Nat} {u : Un} (h : U[j]? = some u) : tzU (U.take (j + 1)) = tzU (U.take j) + u.tx.size := by
  have app : ∀ a b : List Un, tzU (a ++ b) = tzU a + tzU b := fun a b => by
    induction a with
    | nil => simp [tzU]
    | cons x a ih => simp only [List.cons_append, tzU, ih]; omega
  rw [List.take_add_one, h, app]
  simp [tzU]
theorem tzU_le {m : Nat} : ∀ {U : List Un}, (∀ u ∈ U, u.tx.size ≤ m) → tzU U ≤ m * U.length
  | [], _ => Nat.zero_le _
  | u :: U, h => by
    have h1 := h u (.head _)
    have h2 := tzU_le (U := U) (fun x hx => h x (.tail _ hx))
    simp only [tzU, List.length_cons, Nat.mul_add]; omega
theorem fSize (U : List Un) (A : Option Addr) (n c : Nat) (hU : U.length = n) (hn : n ≤ 8) (hu : ∀ u ∈ U, u.tx.size ≤ 1000) : Fn Try.prog 156 #[.agg #[.slice A n c]] [u7 A n c U] [] (fun v L' R' => v = .int .i64 (tzU U) ∧ L' = [u7 A n c U] ∧ R' = []) := by
  subst hU
  refine fn_intro Try.func156 rfl Try.ntmps156 rfl (fun E => ?_)
  (repeat (first | ((first | (apply wo_v; rfl) ); (· first | (apply pv_ev; rfl) | (apply pv_fld; rfl) | (apply g_load; first | (apply pv_ld; rfl; (· (repeat (first | apply sel_here ))); rfl) ) | (apply g_bi; first | (apply pv_len_sl; rfl) ) )) | apply wo_nil | apply wc_seq | apply wc_region | (apply wo_box1; rfl; rfl; rfl; intro bx) | (apply wo_boxa; rfl; rfl; intro bx) ))
  refine wc_block ?_
  refine wc_loop' (fun q st => ∃ (j : Nat) (z : Nat), q = U.length - j ∧ j ≤ U.length ∧ z = tzU (U.take j) ∧ st = ⟨[(3, .int .i64 z), (7, .slice A U.length c), (8, .int .i64 U.length), (9, .int .i64 j)], [u7 A U.length c U], []⟩) ⟨0, 0, rfl, Nat.zero_le _, rfl, rfl⟩ (wk_mk (by (repeat (first | apply wkf_nil | (apply wkf_cons; rfl))); done) (by (repeat (first | apply sub_nil | (apply sub_cons; (· (repeat (first | apply sel_here | apply sel_there)))))); done) (by first | exact fun _ h => h | (intro r hr; cases hr; done) | (simp; done) | exact fun _ h => List.mem_append_left _ h | (intro r hr; simp [hr]; done))) ?_
  rintro q st ⟨j, z, rfl, hj, hz, rfl⟩
  by_cases hlt : j < U.length
  · obtain ⟨u, hx⟩ : ∃ u, U[j]? = some u := ⟨_, List.getElem?_eq_getElem hlt⟩
    have hr := urs_at hx
    have hnx := tzU_take hx
    rw [← hz] at hnx
    have hzl := tzU_le (U := U.take j) (fun x hx => hu x (List.mem_of_mem_take hx))
    rw [← hz, List.length_take] at hzl
    have hux := hu u (List.mem_of_getElem? hx)
    obtain ⟨x1, x2, x3, x4, x5, x6, x7⟩ := u
    dsimp only at hr hnx hux
    refine wc_some (ao := A) (by (repeat (first | apply sel_here )); done) (by omega) ?_
    rintro bs os rfl
    (repeat (first | ((first | (apply wo_v; rfl) ); (· first | (apply pv_ev; rfl) )) | apply wo_nil | apply wc_seq | apply wc_region | apply wc_skip | (apply wc_true; rfl) | (apply wc_false; rfl) | (apply a_dec_t; rfl; (· first | assumption | omega)) ))
    refine wc_block ?_
    (repeat (first | ((first | (apply wo_v; rfl) ); (· first | (apply pv_ev; rfl) | (apply pv_fld; rfl) | (apply g_load; first | (apply pv_ld; rfl; (· (repeat (first | apply sel_here ))); rfl) | (apply pv_lda; rfl; (· (repeat (first | apply sel_there))); (· (repeat (first | fail )))) | (apply pv_ld_owna; rfl; (· (repeat (first | apply sel_here ))); (· assumption)) ) | (apply g_bin; first | (apply a_add; rfl; rfl; infer_instance; omega) ) | (apply g_bi; first | (apply pv_len_str; rfl) ) | (apply g_idx; first | (apply pv_idx; rfl; rfl; omega) ) )) | apply wo_nil | apply wc_seq | apply wc_region | (apply wo_alloc; rfl; intro bx) | (apply wo_sta; rfl; rfl; rfl; rfl; (· (repeat (first | apply sel_here ))); (· (repeat (first | apply LayAt.nil | apply LayAt.here ))); rfl) ))
    exact loop_end ⟨j + 1, _, rfl, by omega, hnx.symm, rfl⟩ (by omega) (wk_mk (by (repeat (first | apply wkf_nil | (apply wkf_cons; rfl))); done) (by (repeat (first | apply sub_nil | (apply sub_cons; (· (repeat (first | apply sel_here | apply sel_there)))))); done) (by first | exact fun _ h => h | (intro r hr; cases hr; done) | (simp; done) | exact fun _ h => List.mem_append_left _ h | (intro r hr; simp [hr]; done)))
  · have e : j = U.length := by omega
    subst e
    rw [List.take_length] at hz
    subst hz
    (repeat (first | ((first | (apply wo_v; rfl) ); (· first | (apply pv_ev; rfl) )) | apply wo_nil | apply wc_seq | apply wc_region | (apply wc_exit; rfl) | apply wc_ret | (apply wc_true; rfl) | (apply wc_false; rfl) | (apply a_dec_t; rfl; (· first | assumption | omega)) | (apply a_dec_f; rfl; (· first | assumption | omega)) ))
    exact ret1 rfl rfl ⟨rfl, rfl, rfl⟩ ((by (repeat (first | apply sub_nil )); done) : List.Perm _ ([_] ++ _)) (by first | exact fun _ h => h | (intro r hr; cases hr; done) | (simp; done) | exact fun _ h => List.mem_append_left _ h | (intro r hr; simp [hr]; done))
/-- does a packet belong to what is begun? -/
theorem fFol0 (b : Nat) (wh lo : Int) (u : Un) : Fn Try.prog 154 #[.pointer (some ⟨b, 0, none⟩), .agg (urow u).toArray] [mkI b (.slice none 0 0) wh lo] [] (fun v L' R' => v = .bool false ∧ L' = [mkI b (.slice none 0 0) wh lo] ∧ R' = []) := by
  have qo := fOpen b none 0 0 wh lo
  refine fn_intro Try.func154 rfl Try.ntmps154 rfl (fun E => ?_)
  (repeat (first | ((first | (apply wo_v; rfl) ); (· first | (apply pv_ev; rfl) )) | apply wo_nil | apply wc_seq | apply wc_region | (apply wo_box1; rfl; rfl; rfl; intro bx) | (apply wo_boxa; rfl; rfl; intro bx) ))
  (refine wo_call (qo) rfl (by (repeat (first | apply sub_nil | (apply sub_cons; (· (repeat (first | apply sel_here | apply sel_there)))))); done) (by first | exact fun _ h => h | (intro r hr; cases hr; done) | (simp; done) | exact fun _ h => List.mem_append_left _ h | (intro r hr; simp [hr]; done)) rfl ?_; rintro v L' R' ⟨rfl, rfl, rfl⟩ H' hH RR hR; simp only [List.cons_append, List.nil_append] at hH hR; subst hH; have hR := hR.symm; subst hR)
  (repeat (first | ((first | (apply wo_v; rfl) ); (· first | (apply pv_ev; rfl) )) | apply wo_nil | apply wc_seq | apply wc_region | apply wc_ret | (apply wc_true; rfl) ))
  exact ret1 rfl rfl ⟨rfl, rfl, rfl⟩ ((by (repeat (first | apply sub_nil )); done) : List.Perm _ ([_] ++ _)) (by first | exact fun _ h => h | (intro r hr; cases hr; done) | (simp; done) | exact fun _ h => List.mem_append_left _ h | (intro r hr; simp [hr]; done))
theorem fFol (b b0 o0 n c : Nat) (wh lo : Int) (U : List Un) (hU : U.length = n) (hn : 0 < n ∧ n ≤ 8) (at_ ti tk : Int) (mrk ky : Bool) (tx : ByteArray) (l : Un) (hl : U[n - 1]? = some l) (h1 : at_ = l.at_ + 1) (h2 : ti = l.ti) (hb : -1000000000000000 ≤ l.at_ ∧ l.at_ ≤ 1000000000000000) :
    Fn Try.prog 154 #[.pointer (some ⟨b, 0, none⟩), .agg (urow ⟨at_, ti, mrk, false, ky, tx, tk⟩).toArray] [mkI b (.slice (some ⟨b0, o0, none⟩) n c) wh lo, u7 (some ⟨b0, o0, none⟩) n c U] [] (fun v L' R' => v = .bool true ∧ L' = [mkI b (.slice (some ⟨b0, o0, none⟩) n c) wh lo, u7 (some ⟨b0, o0, none⟩) n c U] ∧ R' = []) := by
  have qo := fOpen b (some ⟨b0, o0, none⟩) n c wh lo
  have hr := urs_at hl
  obtain ⟨x1, x2, x3, x4, x5, x6, x7⟩ := l
  dsimp only at hr h1 h2 hb
  subst h1 h2
  refine fn_intro Try.func154 rfl Try.ntmps154 rfl (fun E => ?_)
  (repeat (first | ((first | (apply wo_v; rfl) ); (· first | (apply pv_ev; rfl) )) | apply wo_nil | apply wc_seq | apply wc_region | (apply wo_box1; rfl; rfl; rfl; intro bx) | (apply wo_boxa; rfl; rfl; intro bx) ))
  (refine wo_call (qo) rfl (by (repeat (first | apply sub_nil | (apply sub_cons; (· (repeat (first | apply sel_here | apply sel_there)))))); done) (by first | exact fun _ h => h | (intro r hr; cases hr; done) | (simp; done) | exact fun _ h => List.mem_append_left _ h | (intro r hr; simp [hr]; done)) rfl ?_; rintro v L' R' ⟨rfl, rfl, rfl⟩ H' hH RR hR; simp only [List.cons_append, List.nil_append] at hH hR; subst hH; have hR := hR.symm; subst hR)
  (repeat (first | ((first | (apply wo_v; rfl) ); (· first | (apply pv_ev; rfl) | (apply pv_fld; rfl) | (apply g_load; first | (apply pv_ld; rfl; (· (repeat (first | apply sel_here ))); rfl) | (apply pv_lda; rfl; (· (repeat (first | apply sel_there))); (· (repeat (first | fail )))) | (apply pv_ld_owna; rfl; (· (repeat (first | apply sel_here | apply sel_there))); (· assumption)) | (apply pv_ld_roa; rfl; (· (first | assumption )); (· assumption))) | (apply g_bin; first | (apply a_sub; rfl; rfl; infer_instance; omega) ) | (apply g_idx; first | (apply pv_idx; rfl; rfl; omega) | (apply (pv_idx_e 0); rfl; rfl; rfl; omega) | (apply pv_idx_n; rfl; rfl; omega) ) )) | apply wo_nil | apply wc_seq | apply wc_region | apply wc_skip | (apply wc_true; rfl) | (apply wc_false; rfl) | (apply a_dec_t; rfl; (· first | assumption | omega)) | (apply a_dec_f; rfl; (· first | assumption | omega)) ))
  rw [show ((n : Int) - 1).toNat = n - 1 by omega]
  (repeat (first | ((first | (apply wo_v; rfl) ); (· first | (apply pv_ev; rfl) | (apply pv_fld; rfl) | (apply g_load; first | (apply pv_ld; rfl; (· (repeat (first | apply sel_here | apply sel_there))); rfl) | (apply pv_lda; rfl; (· (repeat (first | apply sel_there))); (· (repeat (first | fail )))) | (apply pv_ld_owna; rfl; (· (repeat (first | apply sel_here | apply sel_there))); (· assumption)) ) | (apply g_pick; first | (apply pv_pick_t; rfl; rfl) ) | (apply g_bin; first | (apply a_add; rfl; rfl; infer_instance; omega) ) | (apply g_un; first | (apply pv_not_t; rfl) | (apply pv_not_f; rfl) ) )) | apply wo_nil | apply wc_seq | apply wc_region | apply wc_ret | (apply wo_run; rfl; rfl) | (apply wo_skip; rfl; rfl; rfl; rfl) | (apply wo_skip_u; rfl; rfl; rfl) | (apply a_gt; rfl; rfl; (· first | assumption | omega)) | (apply a_gf; rfl; rfl; (· first | assumption | omega)) | (apply a_gt; rfl; rfl; (· first | (simp; done) | (simp; omega))) | (apply wo_alloc; rfl; intro bx) | (apply wo_sta; rfl; rfl; rfl; rfl; (· (repeat (first | apply sel_here ))); (· (repeat (first | apply LayAt.nil | apply LayAt.here ))); rfl) ))
  exact ret1 rfl rfl ⟨by simp, rfl, rfl⟩ ((by (repeat (first | apply sub_nil | (apply sub_cons; (· (repeat (first | apply sel_here | apply sel_there)))))); done) : List.Perm _ ([_, _] ++ _)) (by first | exact fun _ h => h | (intro r hr; cases hr; done) | (simp; done) | exact fun _ h => List.mem_append_left _ h | (intro r hr; simp [hr]; done))
end Go.Proofs.Ytlhlidmhlhodiaa

/-
  Package frame: Put, of packets in their order.
-/
namespace Go.Proofs.Ytlhlidmhlhodiaa
set_option linter.unusedSimpArgs false
set_option linter.unusedVariables false
open Go.RowKit
attribute [local irreducible] Pv WO WC Fn
set_option maxRecDepth 100000
attribute [local irreducible] ByteArray.extract

/-- what is begun: nothing, or a slice -/
def OpS (ao : Option Addr) (n c : Nat) (U : List Un) : Prop := U.length = n ∧ ((ao = none ∧ n = 0 ∧ c = 0) ∨ ∃ b o, ao = some ⟨b, o, none⟩ ∧ 0 < n)
theorem fCl (ao : Option Addr) (n c : Nat) (U : List Un) (h : OpS ao n c U) (hn : n ≤ 100) : Fn Try.prog 155 #[.slice ao n c] [u7 ao n c U] [] (fun v L' R' => ∃ ao2 c2, v = .slice ao2 n c2 ∧ L' = [u7 ao2 n c2 U] ∧ R' = []) := by
  obtain ⟨hU, ⟨rfl, rfl, rfl⟩ | ⟨b, o, rfl, h0⟩⟩ := h
  · refine fn_intro Try.func155 rfl Try.ntmps155 rfl (fun E => ?_)
    (repeat (first | ((first | (apply wo_v; rfl) ); (· first | (apply pv_ev; rfl) | (apply g_bin; first | (apply pv_eql_s; rfl; rfl) | (apply pv_eql_a; rfl; rfl; infer_instance; rfl; rfl) ) )) | apply wo_nil | apply wc_seq | apply wc_region ))
    refine wo_v rfl (pv_eql_nil rfl rfl) ?_
    (repeat (first | ((first | (apply wo_v; rfl) ); (· first | (apply pv_ev; rfl) )) | apply wo_nil | apply wc_seq | apply wc_region | apply wc_ret | (apply wc_true; rfl) ))
    exact ret1 rfl rfl ⟨none, 0, rfl, rfl, rfl⟩ ((by (repeat (first | apply sub_nil )); done) : List.Perm _ ([_] ++ _)) (by first | exact fun _ h => h | (intro r hr; cases hr; done) | (simp; done) | exact fun _ h => List.mem_append_left _ h | (intro r hr; simp [hr]; done))
  · exact fClone b o n c U ⟨h0, hn⟩
def tblPt (b : Nat) (ao : Option Addr) (n c : Nat) (U : List Un) (u : Un) (wh lo : Int) : Nat → List (List It) → Value → List (List It) → Prop := fun k Ls v Ms => match k, Ls with
  | 5, L => v = .slice ao n c ∧ Ms = L
  | 6, _ => ∃ ao2 c2, v = .slice ao2 n c2 ∧ Ms = [[u7 ao2 n c2 U]]
  | 8, _ => ∃ bb, v = .slice (some ⟨bb, 0, none⟩) 1 1 ∧ Ms = [[u7' (some ⟨bb, 0, none⟩) 1 1 [urow u]]]
  | 9, [_, y] => ∃ ao2 c2, v = .slice ao2 (n + 1) c2 ∧ Ms = [[u7' ao2 (n + 1) c2 (urs U ++ [urow u])], y]
  | 13, [[.own T2 sz ao2 n2 c2 xs], _] => v = undef ∧ Ms = [[.own T2 sz ao2 n2 c2 xs], [mkI b (.slice ao2 n2 c2) wh lo]]
  | _, _ => False
abbrev unB (bx : Nat) (u : Un) : It := .ob bx (.cells (urow u).toArray 106 (0, 0))
abbrev frB (b : Nat) : It := .ob b (.cells #[.slice none 0 0] 104 (0, 0))
abbrev PutPost (b : Nat) (n : Nat) (U : List Un) (u : Un) (wh lo : Int) : Value → List It → List Ro → Prop := fun v L' R' => ∃ a2 c2, R' = [] ∧ ((u.mrk = true ∧ v = .tuple #[.agg #[.slice a2 (n + 1) c2], .bool true] ∧ L' = [mkI b (.slice none 0 0) (wh + 1) lo, u7 a2 (n + 1) c2 (U ++ [u])])
  ∨ (u.mrk = false ∧ v = .tuple #[.agg #[.slice none 0 0], .bool false] ∧ L' = [mkI b (.slice a2 (n + 1) c2) wh lo, u7 a2 (n + 1) c2 (U ++ [u])]))
set_option maxHeartbeats 16000000 in
theorem fPutN (b : Nat) (b0 o0 n c : Nat) (wh lo : Int) (U : List Un) (hU : U.length = n) (hn : 0 < n ∧ n + 1 ≤ 8) (at_ ti tk : Int) (mrk ky : Bool) (tx : ByteArray) (l : Un) (hl : U[n - 1]? = some l) (h1 : at_ = l.at_ + 1) (h2 : ti = l.ti) (hb : -1000000000000000 ≤ l.at_ ∧ l.at_ ≤ 1000000000000000)
    (hu : ∀ u ∈ U, u.tx.size ≤ 50) (htx : tx.size ≤ 50) (hw : 0 ≤ wh ∧ wh ≤ 1000000) :
    Fn Try.prog 138 #[.pointer (some ⟨b, 0, none⟩), .agg (urow ⟨at_, ti, mrk, false, ky, tx, tk⟩).toArray] [mkI b (.slice (some ⟨b0, o0, none⟩) n c) wh lo, u7 (some ⟨b0, o0, none⟩) n c U] [] (PutPost b n U ⟨at_, ti, mrk, false, ky, tx, tk⟩ wh lo) := by
  have qf := fFol b b0 o0 n c wh lo U hU ⟨hn.1, by omega⟩ at_ ti tk mrk ky tx l hl h1 h2 hb
  have qc := fCl (some ⟨b0, o0, none⟩) n c U ⟨hU, .inr ⟨b0, o0, rfl, hn.1⟩⟩ (by omega)
  have qo := fun ao c => fOpen b ao (n + 1) c wh lo
  have hu2 : ∀ x ∈ U ++ [(⟨at_, ti, mrk, false, ky, tx, tk⟩ : Un)], x.tx.size ≤ 50 := fun x hx => by
    rcases List.mem_append.1 hx with h | h
    · exact hu x h
    · rcases List.mem_singleton.1 h with rfl; exact htx
  have hln : (U ++ [(⟨at_, ti, mrk, false, ky, tx, tk⟩ : Un)]).length = n + 1 := by rw [List.length_append, hU]; rfl
  have hsz := tzU_le hu2
  rw [hln] at hsz
  have qs := fun ao c => fSize (U ++ [(⟨at_, ti, mrk, false, ky, tx, tk⟩ : Un)]) ao (n + 1) c hln (by omega) (fun x hx => by have := hu2 x hx; omega)
  refine fn_intro Try.func138 rfl Try.ntmps138 rfl (fun E => ?_)
  (repeat (first | ((first | (apply wo_v; rfl) ); (· first | (apply pv_ev; rfl) | (apply g_load; first | (apply pv_lda; rfl; (· (repeat (first | apply sel_here | apply sel_there))); (· (repeat (first | apply Cut.here0 | apply Cut.here )))) ) )) | apply wo_nil | apply wc_seq | apply wc_region | (apply wo_box1; rfl; rfl; rfl; intro bx) | (apply wo_boxa; rfl; rfl; intro bx) | (apply wo_alloc; rfl; intro bx) ))
  rename_i b3
  (refine wo_call (qf) rfl (by (repeat (first | apply sub_nil | (apply sub_cons; (· (repeat (first | apply sel_here | apply sel_there)))))); done) (by first | exact fun _ h => h | (intro r hr; cases hr; done) | (simp; done) | exact fun _ h => List.mem_append_left _ h | (intro r hr; simp [hr]; done)) rfl ?_; rintro v L' R' ⟨rfl, rfl, rfl⟩ H' hH RR hR; simp only [List.cons_append, List.nil_append] at hH hR; subst hH; have hR := hR.symm; subst hR)
  (repeat (first | ((first | (apply wo_v; rfl) ); (· first | (apply pv_ev; rfl) | (apply g_un; first | (apply pv_not_t; rfl) ) )) | apply wo_nil | apply wc_seq | apply wc_skip | (apply wc_true; rfl) | (apply wc_false; rfl) ))
/-TAILN-/
  obtain ⟨b4, hb4⟩ : ∃ g, g = bx := ⟨_, rfl⟩
  subst hb4
  (refine wc_regM [0, 1, 2] (aslL [(5, [0]), (6, [1]), (8, [2]), (9, [1, 2]), (13, [1, 0])]) (tblPt b (some ⟨b0, o0, none⟩) n c U (⟨at_, ti, mrk, false, ky, tx, tk⟩ : Un) wh lo) ([frB b4, unB b3 (⟨at_, ti, mrk, false, ky, tx, tk⟩ : Un)]) (fm [(0, [mkI b (.slice (some ⟨b0, o0, none⟩) n c) wh lo]), (1, [u7 (some ⟨b0, o0, none⟩) n c U]), (2, [])]) mixed (by kernel_rfl) (by kernel_rfl) (by decide) (aslL_ok (by decide)) (by (repeat (first | (apply prm_cons; (· (repeat (first | apply sel_here | apply sel_there)))) | apply List.Perm.nil )); done) ?_; (repeat (first | (apply HdM.val; rfl; rfl; (· first | apply gok_none ); (· first | (apply pv_ev; rfl) | (apply pv_fld; rfl) )) )))
  (refine hm_eff (cs := [0]) rfl (by decide) rfl rfl (by first | exact gok_none | exact gok_run rfl rfl) (fun a ha => outc_mono (outc_ld (L := [mkI b (.slice (some ⟨b0, o0, none⟩) n c) wh lo]) (pv_ld rfl (by (repeat (first | apply sel_here )); done) rfl) a ha) (fun v M h => ⟨[M], And.intro h.1 (congrArg (fun x => [x]) h.2), rfl, by simp⟩)) (⟨_, _, And.intro rfl rfl, rfl⟩) ?_; rintro v Ms ⟨rfl, rfl⟩ _; simp only [setls, setl, reduceIte, Nat.reduceEqDiff]; (repeat (first | (apply HdM.val; rfl; rfl; (· first | fail ); (· first | fail )) )))
  (refine hm_eff (cs := [1]) rfl (by decide) rfl rfl (by first | exact gok_none | exact gok_run rfl rfl) (fun a ha => outc_mono (outc_call (F1 := _) (T := fun v M => ∃ ao2 c2, v = .slice ao2 n c2 ∧ M = [u7 ao2 n c2 U]) qc rfl (by (repeat (first | apply sub_nil )); done) (by first | exact fun _ h => h | (intro r hr; cases hr; done) | (simp; done) | exact fun _ h => List.mem_append_left _ h | (intro r hr; simp [hr]; done)) (by rintro v L' R' ⟨ao2, c2, rfl, rfl, _⟩; exact ⟨_, ⟨ao2, c2, rfl, rfl⟩, (by (repeat (first | (apply prm_cons; (· (repeat (first | apply sel_here )))) | apply List.Perm.nil )); done)⟩) a ha) (fun v M h => by obtain ⟨ao2, c2, h1, h2⟩ := h; exact ⟨[M], ⟨ao2, c2, h1, congrArg (fun x => [x]) h2⟩, rfl, by simp⟩)) (⟨_, _, ⟨none, 0, rfl, rfl⟩, rfl⟩) ?_; rintro v Ms ⟨ao4, c4, rfl, rfl⟩ _; simp only [setls, setl, reduceIte, Nat.reduceEqDiff]; (repeat (first | (apply HdM.val; rfl; rfl; (· first | apply gok_none ); (· first | (apply pv_ev; rfl) | (apply g_load; first | (apply pv_lda; rfl; (· (repeat (first | apply sel_here | apply sel_there))); (· (repeat (first | apply Cut.here0 | apply Cut.here )))) ) )) )))
  (refine hm_eff (cs := [2]) rfl (by decide) rfl rfl (by first | exact gok_none | exact gok_run rfl rfl) (fun a ha => outc_mono (outc_bsl (by (repeat (first | apply Rws'.nil | (apply Rws'.agg; rfl; rfl; rfl))); done) rfl rfl rfl a ha) (fun v M h => Exists.elim h fun b h => ⟨[M], Exists.intro b (And.intro h.1 (congrArg (fun x => [x]) h.2)), rfl, by simp⟩)) (⟨_, _, Exists.intro 0 (And.intro rfl rfl), rfl⟩) ?_; rintro v Ms ⟨b8, rfl, rfl⟩ _; simp only [setls, setl, reduceIte, Nat.reduceEqDiff]; (repeat (first | (apply HdM.val; rfl; rfl; (· first | fail ); (· first | fail )) )))
  (refine hm_eff (cs := [1, 2]) rfl (by decide) rfl rfl (by first | exact gok_none | exact gok_run rfl rfl) (fun a ha => outc_mono (outc_app_g rfl rfl (by unfold maxLen; omega) (by omega) a ha) (fun v M h => by obtain ⟨b, c, h1, h2⟩ := h; exact ⟨[[_], [_]], ⟨b, c, h1, rfl⟩, rfl, h2⟩)) (⟨_, _, ⟨none, 0, rfl, rfl⟩, rfl⟩) ?_; rintro v Ms ⟨ao5, c5, rfl, rfl⟩ _; simp only [setls, setl, reduceIte, Nat.reduceEqDiff]; (repeat (first | (apply HdM.val; rfl; rfl; (· first | apply gok_none ); (· first | (apply pv_ev; rfl) | (apply pv_fld; rfl) )) )))
  (refine hm_eff (cs := [1, 0]) rfl (by decide) rfl rfl (by first | exact gok_none | exact gok_run rfl rfl) (fun a ha => outc_mono (outc_frA (X := [u7' ao5 (n + 1) c5 (urs U ++ [urow (⟨at_, ti, mrk, false, ky, tx, tk⟩ : Un)])]) (L := [mkI b (.slice (some ⟨b0, o0, none⟩) n c) wh lo]) (outc_st rfl rfl rfl (by (repeat (first | apply SetAt.here | apply SetAt.there)); done)) a ha) (fun v M h => by obtain ⟨M0, ⟨h1, h2⟩, h3⟩ := h; exact ⟨[[_], [_]], ⟨h1, rfl⟩, rfl, by rw [h3, h2]; rfl⟩)) (⟨_, _, ⟨rfl, rfl⟩, rfl⟩) ?_; rintro v Ms ⟨rfl, rfl⟩ _; simp only [setls, setl, reduceIte, Nat.reduceEqDiff]; (repeat (first | fail )))
  (refine HdM.nil ?_; intro H hH; simp only [Hp, fm, look, setl, List.flatMap_cons, List.flatMap_nil, reduceIte, Nat.reduceEqDiff, Option.getD_some, List.append_nil, List.cons_append, List.nil_append] at hH; subst hH)
  (repeat (first | apply wc_seq ))
  rw [show urs U ++ [urow (⟨at_, ti, mrk, false, ky, tx, tk⟩ : Un)] = urs (U ++ [(⟨at_, ti, mrk, false, ky, tx, tk⟩ : Un)]) from by simp [urs]]
  generalize tzU (U ++ [(⟨at_, ti, mrk, false, ky, tx, tk⟩ : Un)]) = z at *
  (refine wc_quiet mixed (by kernel_rfl) ?_; (repeat (first | ((first | (apply hd_v; rfl) ); (· first | (apply pv_ev; rfl) )) )))
  (refine Hd.call rfl inferInstance (Fn.mono (qo ao5 c5) (fun _ _ _ h => ⟨h.1, h.2.1⟩)) rfl (by (repeat (first | apply sub_nil | (apply sub_cons; (· (repeat (first | apply sel_here | apply sel_there)))))); done) (by first | exact fun _ h => h | (intro r hr; cases hr; done) | (simp; done) | exact fun _ h => List.mem_append_left _ h | (intro r hr; simp [hr]; done)) rfl ?_; (repeat (first | ((first | (apply hd_v; rfl) ); (· first | (apply pv_ev; rfl) | (apply pv_fld; rfl) | (apply g_load; first | (apply pv_ld; rfl; (· (repeat (first | apply sel_here | apply sel_there))); rfl) | (apply pv_lda; rfl; (· (repeat (first | apply sel_here | apply sel_there))); (· (repeat (first | apply Cut.here0 | apply Cut.here | apply Cut.there)))) ) )) | (apply Hd.run; rfl; rfl) | (apply Hd.skip; rfl; rfl; rfl; rfl) | (apply Hd.skipu; rfl; rfl; rfl) | (apply ah_gt; rfl; rfl; (· first | assumption | omega)) | (apply ah_gf; rfl; rfl; (· first | assumption | omega)) )))
  (refine Hd.call rfl inferInstance (Fn.mono (qs ao5 c5) (fun _ _ _ h => ⟨h.1, h.2.1⟩)) rfl (by (repeat (first | apply sub_nil | (apply sub_cons; (· (repeat (first | apply sel_here | apply sel_there)))))); done) (by first | exact fun _ h => h | (intro r hr; cases hr; done) | (simp; done) | exact fun _ h => List.mem_append_left _ h | (intro r hr; simp [hr]; done)) rfl ?_; (repeat (first | ((first | (apply wo_v; rfl) | (apply hd_v; rfl) ); (· first | (apply pv_ev; rfl) | (apply pv_fld; rfl) | (apply g_load; first | (apply pv_ld; rfl; (· (repeat (first | apply sel_here | apply sel_there))); rfl) ) | (apply g_pick; first | (apply pv_pick_t; rfl; rfl) | (apply pv_pick_f; rfl; rfl)) | (apply g_un; first | (apply pv_not_t; rfl) | (apply pv_not_f; rfl) | (apply a_not_d; rfl) | (apply pv_not; rfl) ) )) | apply wo_nil | apply Hd.nil | apply wc_seq | apply wc_region | apply wc_skip | (apply wc_true; rfl) | (apply wc_false; rfl) | (apply a_dec_t; rfl; (· first | assumption | omega)) | (apply a_dec_f; rfl; (· first | assumption | omega)) | (apply a_dec_t; rfl; (· first | (simp; done) | (simp; omega))) | (apply a_dec_f; rfl; (· first | (simp; done) | (simp; omega))) | (apply wo_run; rfl; rfl) | (apply Hd.run; rfl; rfl) )))
  cases mrk with
  | true =>
    (repeat (first | ((first | (apply wo_v; rfl) ); (· first | (apply pv_ev; rfl) | (apply pv_fld; rfl) | (apply g_load; first | (apply pv_ld; rfl; (· (repeat (first | apply sel_here ))); rfl) | (apply pv_lda; rfl; (· (repeat (first | apply sel_here | apply sel_there))); (· (repeat (first | apply Cut.here0 | apply Cut.here | apply Cut.there)))) ) | (apply g_bin; first | (apply a_add; rfl; rfl; infer_instance; omega) ) | (apply g_build; apply pv_build; (· (repeat (first | apply Bld.nil )))) )) | apply wo_nil | apply wc_seq | apply wc_region | apply wc_skip | apply wc_ret | (apply wc_true; rfl) | (apply wc_false; rfl) | (apply wo_st; rfl; rfl; rfl; (· (repeat (first | apply sel_here ))); (· (repeat (first | apply SetAt.here | apply SetAt.there))); rfl) | (apply wo_alloc; rfl; intro bx) | (apply wo_sta; rfl; rfl; rfl; rfl; (· (repeat (first | apply sel_here | apply sel_there))); (· (repeat (first | apply LayAt.nil | apply LayAt.here | apply LayAt.there))); rfl) ))
    exact retv rfl (by (repeat (first | apply RV.nil | (apply RV.tmp; rfl) | (apply RV.agg; rfl; (· (repeat (first | apply sel_here ))); infer_instance; (· (repeat (first | apply Cut.here0 | apply Cut.here )))) )); done) (⟨ao5, c5, rfl, .inl ⟨rfl, rfl, rfl⟩⟩) (by (repeat (first | apply sub_nil | (apply sub_cons; (· (repeat (first | apply sel_here | apply sel_there)))))); done) (by first | exact fun _ h => h | (intro r hr; cases hr; done) | (simp; done) | exact fun _ h => List.mem_append_left _ h | (intro r hr; simp [hr]; done))
  | false =>
    (repeat (first | ((first | (apply wo_v; rfl) ); (· first | (apply pv_ev; rfl) | (apply g_build; apply pv_build; (· (repeat (first | apply Bld.nil )))) )) | apply wo_nil | apply wc_seq | apply wc_region | apply wc_ret | (apply wc_true; rfl) | (apply wo_sta; rfl; rfl; rfl; rfl; (· (repeat (first | apply sel_here ))); (· (repeat (first | apply LayAt.nil | apply LayAt.here ))); rfl) ))
    exact retv rfl (by (repeat (first | apply RV.nil | (apply RV.tmp; rfl) | (apply RV.agg; rfl; (· (repeat (first | apply sel_here ))); infer_instance; (· (repeat (first | apply Cut.here0 | apply Cut.here )))) )); done) (⟨ao5, c5, rfl, .inr ⟨rfl, rfl, rfl⟩⟩) (by (repeat (first | apply sub_nil | (apply sub_cons; (· (repeat (first | apply sel_here | apply sel_there)))))); done) (by first | exact fun _ h => h | (intro r hr; cases hr; done) | (simp; done) | exact fun _ h => List.mem_append_left _ h | (intro r hr; simp [hr]; done))
/-ENDN-/
set_option maxHeartbeats 16000000 in
theorem fPut0 (b : Nat) (wh lo : Int) (at_ ti tk : Int) (mrk ky : Bool) (tx : ByteArray) (htx : tx.size ≤ 50) (hw : 0 ≤ wh ∧ wh ≤ 1000000) (hlo : 0 ≤ lo ∧ lo ≤ 1000000) :
    Fn Try.prog 138 #[.pointer (some ⟨b, 0, none⟩), .agg (urow ⟨at_, ti, mrk, true, ky, tx, tk⟩).toArray] [mkI b (.slice none 0 0) wh lo] [] (PutPost b 0 [] ⟨at_, ti, mrk, true, ky, tx, tk⟩ wh lo) := by
  have qf := fFol0 b wh lo (⟨at_, ti, mrk, true, ky, tx, tk⟩ : Un)
  have qd := fDrop b none 0 0 wh lo ⟨hlo.1, hlo.2, by omega⟩
  rw [show lo + ((0 : Nat) : Int) = lo by omega] at qd
  have qc := fCl none 0 0 [] ⟨rfl, .inl ⟨rfl, rfl, rfl⟩⟩ (by omega)
  have qo := fun ao c => fOpen b ao (0 + 1) c wh lo
  have hu2 : ∀ x ∈ [] ++ [(⟨at_, ti, mrk, true, ky, tx, tk⟩ : Un)], x.tx.size ≤ 50 := fun x hx => by
    rcases List.mem_singleton.1 hx with rfl; exact htx
  have hsz : tzU ([] ++ [(⟨at_, ti, mrk, true, ky, tx, tk⟩ : Un)]) ≤ 50 * (0 + 1) := tzU_le hu2
  have qs := fun ao c => fSize ([] ++ [(⟨at_, ti, mrk, true, ky, tx, tk⟩ : Un)]) ao (0 + 1) c rfl (by omega) (fun x hx => by have := hu2 x hx; omega)
  refine fn_intro Try.func138 rfl Try.ntmps138 rfl (fun E => ?_)
  (repeat (first | ((first | (apply wo_v; rfl) ); (· first | (apply pv_ev; rfl) | (apply g_load; first | (apply pv_lda; rfl; (· (repeat (first | apply sel_here | apply sel_there))); (· (repeat (first | apply Cut.here0 | apply Cut.here )))) ) )) | apply wo_nil | apply wc_seq | apply wc_region | (apply wo_box1; rfl; rfl; rfl; intro bx) | (apply wo_boxa; rfl; rfl; intro bx) | (apply wo_alloc; rfl; intro bx) ))
  rename_i b3
  (refine wo_call (qf) rfl (by (repeat (first | apply sub_nil | (apply sub_cons; (· (repeat (first | apply sel_here | apply sel_there)))))); done) (by first | exact fun _ h => h | (intro r hr; cases hr; done) | (simp; done) | exact fun _ h => List.mem_append_left _ h | (intro r hr; simp [hr]; done)) rfl ?_; rintro v L' R' ⟨rfl, rfl, rfl⟩ H' hH RR hR; simp only [List.cons_append, List.nil_append] at hH hR; subst hH; have hR := hR.symm; subst hR)
  (repeat (first | ((first | (apply wo_v; rfl) ); (· first | (apply pv_ev; rfl) | (apply g_un; first | (apply pv_not_t; rfl) | (apply pv_not_f; rfl) ) )) | apply wo_nil | apply wc_seq | apply wc_region | (apply wc_true; rfl) ))
  (refine wo_call (qd) rfl (by (repeat (first | apply sub_nil )); done) (by first | exact fun _ h => h | (intro r hr; cases hr; done) | (simp; done) | exact fun _ h => List.mem_append_left _ h | (intro r hr; simp [hr]; done)) rfl ?_; rintro v L' R' ⟨rfl, rfl, rfl⟩ H' hH RR hR; simp only [List.cons_append, List.nil_append] at hH hR; subst hH; have hR := hR.symm; subst hR)
  (repeat (first | ((first | (apply wo_v; rfl) ); (· first | (apply pv_ev; rfl) | (apply pv_fld; rfl) | (apply g_load; first | (apply pv_ld; rfl; (· (repeat (first | apply sel_here | apply sel_there))); rfl) ) | (apply g_pick; first | (apply pv_pick_t; rfl; rfl) ) | (apply g_un; first | (apply pv_not_t; rfl) ) )) | apply wo_nil | apply wc_seq | apply wc_region | apply wc_skip | (apply wc_true; rfl) | (apply wc_false; rfl) | (apply wo_run; rfl; rfl) ))
  refine wc_own0 106 7 ?_
/-TAIL0-/
  obtain ⟨b4, hb4⟩ : ∃ g, g = bx := ⟨_, rfl⟩
  subst hb4
  (refine wc_regM [0, 1, 2] (aslL [(5, [0]), (6, [1]), (8, [2]), (9, [1, 2]), (13, [1, 0])]) (tblPt b none 0 0 ([] : List Un) (⟨at_, ti, mrk, true, ky, tx, tk⟩ : Un) wh lo) ([frB b4, unB b3 (⟨at_, ti, mrk, true, ky, tx, tk⟩ : Un)]) (fm [(0, [mkI b (.slice none 0 0) wh lo]), (1, [u7 none 0 0 ([] : List Un)]), (2, [])]) mixed (by kernel_rfl) (by kernel_rfl) (by decide) (aslL_ok (by decide)) (by (repeat (first | (apply prm_cons; (· (repeat (first | apply sel_here | apply sel_there)))) | apply List.Perm.nil )); done) ?_; (repeat (first | (apply HdM.val; rfl; rfl; (· first | apply gok_none ); (· first | (apply pv_ev; rfl) | (apply pv_fld; rfl) )) )))
  (refine hm_eff (cs := [0]) rfl (by decide) rfl rfl (by first | exact gok_none | exact gok_run rfl rfl) (fun a ha => outc_mono (outc_ld (L := [mkI b (.slice none 0 0) wh lo]) (pv_ld rfl (by (repeat (first | apply sel_here )); done) rfl) a ha) (fun v M h => ⟨[M], And.intro h.1 (congrArg (fun x => [x]) h.2), rfl, by simp⟩)) (⟨_, _, And.intro rfl rfl, rfl⟩) ?_; rintro v Ms ⟨rfl, rfl⟩ _; simp only [setls, setl, reduceIte, Nat.reduceEqDiff]; (repeat (first | (apply HdM.val; rfl; rfl; (· first | fail ); (· first | fail )) )))
  (refine hm_eff (cs := [1]) rfl (by decide) rfl rfl (by first | exact gok_none | exact gok_run rfl rfl) (fun a ha => outc_mono (outc_call (F1 := _) (T := fun v M => ∃ ao2 c2, v = .slice ao2 0 c2 ∧ M = [u7 ao2 0 c2 ([] : List Un)]) qc rfl (by (repeat (first | apply sub_nil )); done) (by first | exact fun _ h => h | (intro r hr; cases hr; done) | (simp; done) | exact fun _ h => List.mem_append_left _ h | (intro r hr; simp [hr]; done)) (by rintro v L' R' ⟨ao2, c2, rfl, rfl, _⟩; exact ⟨_, ⟨ao2, c2, rfl, rfl⟩, (by (repeat (first | (apply prm_cons; (· (repeat (first | apply sel_here )))) | apply List.Perm.nil )); done)⟩) a ha) (fun v M h => by obtain ⟨ao2, c2, h1, h2⟩ := h; exact ⟨[M], ⟨ao2, c2, h1, congrArg (fun x => [x]) h2⟩, rfl, by simp⟩)) (⟨_, _, ⟨none, 0, rfl, rfl⟩, rfl⟩) ?_; rintro v Ms ⟨ao4, c4, rfl, rfl⟩ _; simp only [setls, setl, reduceIte, Nat.reduceEqDiff]; (repeat (first | (apply HdM.val; rfl; rfl; (· first | apply gok_none ); (· first | (apply pv_ev; rfl) | (apply g_load; first | (apply pv_lda; rfl; (· (repeat (first | apply sel_here | apply sel_there))); (· (repeat (first | apply Cut.here0 | apply Cut.here )))) ) )) )))
  (refine hm_eff (cs := [2]) rfl (by decide) rfl rfl (by first | exact gok_none | exact gok_run rfl rfl) (fun a ha => outc_mono (outc_bsl (by (repeat (first | apply Rws'.nil | (apply Rws'.agg; rfl; rfl; rfl))); done) rfl rfl rfl a ha) (fun v M h => Exists.elim h fun b h => ⟨[M], Exists.intro b (And.intro h.1 (congrArg (fun x => [x]) h.2)), rfl, by simp⟩)) (⟨_, _, Exists.intro 0 (And.intro rfl rfl), rfl⟩) ?_; rintro v Ms ⟨b8, rfl, rfl⟩ _; simp only [setls, setl, reduceIte, Nat.reduceEqDiff]; (repeat (first | (apply HdM.val; rfl; rfl; (· first | fail ); (· first | fail )) )))
  (refine hm_eff (cs := [1, 2]) rfl (by decide) rfl rfl (by first | exact gok_none | exact gok_run rfl rfl) (fun a ha => outc_mono (outc_app_g rfl rfl (by unfold maxLen; omega) (by omega) a ha) (fun v M h => by obtain ⟨b, c, h1, h2⟩ := h; exact ⟨[[_], [_]], ⟨b, c, h1, rfl⟩, rfl, h2⟩)) (⟨_, _, ⟨none, 0, rfl, rfl⟩, rfl⟩) ?_; rintro v Ms ⟨ao5, c5, rfl, rfl⟩ _; simp only [setls, setl, reduceIte, Nat.reduceEqDiff]; (repeat (first | (apply HdM.val; rfl; rfl; (· first | apply gok_none ); (· first | (apply pv_ev; rfl) | (apply pv_fld; rfl) )) )))
  (refine hm_eff (cs := [1, 0]) rfl (by decide) rfl rfl (by first | exact gok_none | exact gok_run rfl rfl) (fun a ha => outc_mono (outc_frA (X := [u7' ao5 (0 + 1) c5 (urs ([] : List Un) ++ [urow (⟨at_, ti, mrk, true, ky, tx, tk⟩ : Un)])]) (L := [mkI b (.slice none 0 0) wh lo]) (outc_st rfl rfl rfl (by (repeat (first | apply SetAt.here | apply SetAt.there)); done)) a ha) (fun v M h => by obtain ⟨M0, ⟨h1, h2⟩, h3⟩ := h; exact ⟨[[_], [_]], ⟨h1, rfl⟩, rfl, by rw [h3, h2]; rfl⟩)) (⟨_, _, ⟨rfl, rfl⟩, rfl⟩) ?_; rintro v Ms ⟨rfl, rfl⟩ _; simp only [setls, setl, reduceIte, Nat.reduceEqDiff]; (repeat (first | fail )))
  (refine HdM.nil ?_; intro H hH; simp only [Hp, fm, look, setl, List.flatMap_cons, List.flatMap_nil, reduceIte, Nat.reduceEqDiff, Option.getD_some, List.append_nil, List.cons_append, List.nil_append] at hH; subst hH)
  (repeat (first | apply wc_seq ))
  rw [show urs ([] : List Un) ++ [urow (⟨at_, ti, mrk, true, ky, tx, tk⟩ : Un)] = urs (([] : List Un) ++ [(⟨at_, ti, mrk, true, ky, tx, tk⟩ : Un)]) from by simp [urs]]
  generalize tzU (([] : List Un) ++ [(⟨at_, ti, mrk, true, ky, tx, tk⟩ : Un)]) = z at *
  (refine wc_quiet mixed (by kernel_rfl) ?_; (repeat (first | ((first | (apply hd_v; rfl) ); (· first | (apply pv_ev; rfl) )) )))
  (refine Hd.call rfl inferInstance (Fn.mono (qo ao5 c5) (fun _ _ _ h => ⟨h.1, h.2.1⟩)) rfl (by (repeat (first | apply sub_nil | (apply sub_cons; (· (repeat (first | apply sel_here | apply sel_there)))))); done) (by first | exact fun _ h => h | (intro r hr; cases hr; done) | (simp; done) | exact fun _ h => List.mem_append_left _ h | (intro r hr; simp [hr]; done)) rfl ?_; (repeat (first | ((first | (apply hd_v; rfl) ); (· first | (apply pv_ev; rfl) | (apply pv_fld; rfl) | (apply g_load; first | (apply pv_ld; rfl; (· (repeat (first | apply sel_here | apply sel_there))); rfl) | (apply pv_lda; rfl; (· (repeat (first | apply sel_here | apply sel_there))); (· (repeat (first | apply Cut.here0 | apply Cut.here | apply Cut.there)))) ) )) | (apply Hd.run; rfl; rfl) )))
  (refine Hd.call rfl inferInstance (Fn.mono (qs ao5 c5) (fun _ _ _ h => ⟨h.1, h.2.1⟩)) rfl (by (repeat (first | apply sub_nil | (apply sub_cons; (· (repeat (first | apply sel_here | apply sel_there)))))); done) (by first | exact fun _ h => h | (intro r hr; cases hr; done) | (simp; done) | exact fun _ h => List.mem_append_left _ h | (intro r hr; simp [hr]; done)) rfl ?_; (repeat (first | ((first | (apply wo_v; rfl) | (apply hd_v; rfl) ); (· first | (apply pv_ev; rfl) | (apply pv_fld; rfl) | (apply g_load; first | (apply pv_ld; rfl; (· (repeat (first | apply sel_here | apply sel_there))); rfl) ) | (apply g_pick; first | (apply pv_pick_t; rfl; rfl) | (apply pv_pick_f; rfl; rfl)) | (apply g_un; first | (apply pv_not_t; rfl) | (apply pv_not_f; rfl) | (apply a_not_d; rfl) | (apply pv_not; rfl) ) )) | apply wo_nil | apply Hd.nil | apply wc_seq | apply wc_region | apply wc_skip | (apply wc_true; rfl) | (apply wc_false; rfl) | (apply a_dec_t; rfl; (· first | assumption | omega)) | (apply a_dec_f; rfl; (· first | assumption | omega)) | (apply a_dec_t; rfl; (· first | (simp; done) | (simp; omega))) | (apply a_dec_f; rfl; (· first | (simp; done) | (simp; omega))) | (apply wo_run; rfl; rfl) | (apply Hd.run; rfl; rfl) )))
  cases mrk with
  | true =>
    (repeat (first | ((first | (apply wo_v; rfl) ); (· first | (apply pv_ev; rfl) | (apply pv_fld; rfl) | (apply g_load; first | (apply pv_ld; rfl; (· (repeat (first | apply sel_here ))); rfl) | (apply pv_lda; rfl; (· (repeat (first | apply sel_here | apply sel_there))); (· (repeat (first | apply Cut.here0 | apply Cut.here | apply Cut.there)))) ) | (apply g_bin; first | (apply a_add; rfl; rfl; infer_instance; omega) ) | (apply g_build; apply pv_build; (· (repeat (first | apply Bld.nil )))) )) | apply wo_nil | apply wc_seq | apply wc_region | apply wc_skip | apply wc_ret | (apply wc_true; rfl) | (apply wc_false; rfl) | (apply wo_st; rfl; rfl; rfl; (· (repeat (first | apply sel_here ))); (· (repeat (first | apply SetAt.here | apply SetAt.there))); rfl) | (apply wo_alloc; rfl; intro bx) | (apply wo_sta; rfl; rfl; rfl; rfl; (· (repeat (first | apply sel_here | apply sel_there))); (· (repeat (first | apply LayAt.nil | apply LayAt.here | apply LayAt.there))); rfl) ))
    exact retv rfl (by (repeat (first | apply RV.nil | (apply RV.tmp; rfl) | (apply RV.agg; rfl; (· (repeat (first | apply sel_here ))); infer_instance; (· (repeat (first | apply Cut.here0 | apply Cut.here )))) )); done) (⟨ao5, c5, rfl, .inl ⟨rfl, rfl, rfl⟩⟩) (by (repeat (first | apply sub_nil | (apply sub_cons; (· (repeat (first | apply sel_here | apply sel_there)))))); done) (by first | exact fun _ h => h | (intro r hr; cases hr; done) | (simp; done) | exact fun _ h => List.mem_append_left _ h | (intro r hr; simp [hr]; done))
  | false =>
    (repeat (first | ((first | (apply wo_v; rfl) ); (· first | (apply pv_ev; rfl) | (apply g_build; apply pv_build; (· (repeat (first | apply Bld.nil )))) )) | apply wo_nil | apply wc_seq | apply wc_region | apply wc_ret | (apply wc_true; rfl) | (apply wo_sta; rfl; rfl; rfl; rfl; (· (repeat (first | apply sel_here ))); (· (repeat (first | apply LayAt.nil | apply LayAt.here ))); rfl) ))
    exact retv rfl (by (repeat (first | apply RV.nil | (apply RV.tmp; rfl) | (apply RV.agg; rfl; (· (repeat (first | apply sel_here ))); infer_instance; (· (repeat (first | apply Cut.here0 | apply Cut.here )))) )); done) (⟨ao5, c5, rfl, .inr ⟨rfl, rfl, rfl⟩⟩) (by (repeat (first | apply sub_nil | (apply sub_cons; (· (repeat (first | apply sel_here | apply sel_there)))))); done) (by first | exact fun _ h => h | (intro r hr; cases hr; done) | (simp; done) | exact fun _ h => List.mem_append_left _ h | (intro r hr; simp [hr]; done))
/-END0-/
end Go.Proofs.Ytlhlidmhlhodiaa

/-
  Package serial: the nearest number (a part of XExt).
-/
namespace Go.Proofs.Ytlhlidmhlhodiaa
set_option linter.unusedSimpArgs false
set_option linter.unusedVariables false
open Go.RowKit
attribute [local irreducible] Pv WO WC Fn

/-- how far n is ahead of a, going round at m -/
def nearD (a n m : Int) : Int := if 2 * ((n - a) % m) < m then (n - a) % m else (n - a) % m - m
theorem nearD16 (a n : Int) : -32768 ≤ nearD a n 65536 ∧ nearD a n 65536 ≤ 32767 ∧ (a + nearD a n 65536) % 65536 = n % 65536 := by unfold nearD; split <;> omega
theorem nearD32 (a n : Int) : -2147483648 ≤ nearD a n 4294967296 ∧ nearD a n 4294967296 ≤ 2147483647 ∧ (a + nearD a n 4294967296) % 4294967296 = n % 4294967296 := by unfold nearD; split <;> omega
theorem half16 : Fn Try.prog 171 #[] [] [] (fun v L' R' => v = .int .u16 32768 ∧ L' = [] ∧ R' = []) := by
  refine fn_intro Try.func171 rfl Try.ntmps171 rfl (fun E => ?_)
  (repeat (first | ((first | (apply wo_v; rfl) ); (· first | (apply pv_ev; rfl) | (apply g_bin; first | (apply a_add; rfl; rfl; infer_instance; omega) | (apply a_sub; rfl; rfl; infer_instance; omega) | (apply a_sub_u; rfl; rfl; infer_instance) | (apply a_shr; rfl; rfl; rfl; omega; rfl) ) )) | apply wo_nil | apply wc_seq | apply wc_region | apply wc_ret ))
  exact retv rfl (by (repeat (first | apply RV.nil | (apply RV.tmp; rfl) )); done) (⟨rfl, rfl, rfl⟩) (by (repeat (first | apply sub_nil )); done) (by first | exact fun _ h => h | (intro r hr; cases hr; done) | (simp; done) | exact fun _ h => List.mem_append_left _ h | (intro r hr; simp [hr]; done))
theorem half32 : Fn Try.prog 185 #[] [] [] (fun v L' R' => v = .int .u32 2147483648 ∧ L' = [] ∧ R' = []) := by
  refine fn_intro Try.func185 rfl Try.ntmps185 rfl (fun E => ?_)
  (repeat (first | ((first | (apply wo_v; rfl) ); (· first | (apply pv_ev; rfl) | (apply g_bin; first | (apply a_add; rfl; rfl; infer_instance; omega) | (apply a_sub; rfl; rfl; infer_instance; omega) | (apply a_sub_u; rfl; rfl; infer_instance) | (apply a_shr; rfl; rfl; rfl; omega; rfl) ) )) | apply wo_nil | apply wc_seq | apply wc_region | apply wc_ret ))
  exact retv rfl (by (repeat (first | apply RV.nil | (apply RV.tmp; rfl) )); done) (⟨rfl, rfl, rfl⟩) (by (repeat (first | apply sub_nil )); done) (by first | exact fun _ h => h | (intro r hr; cases hr; done) | (simp; done) | exact fun _ h => List.mem_append_left _ h | (intro r hr; simp [hr]; done))
theorem dist16s (x y : Int) : Fn Try.prog 153 #[.int .u16 x, .int .u16 y] [] [] (fun v L' R' => v = .int .i64 (nearD y x 65536) ∧ L' = [] ∧ R' = []) := by
  by_cases h : (x - y) % 65536 < 32768
  all_goals
    refine fn_intro Try.func153 rfl Try.ntmps153 rfl (fun E => ?_)
    (repeat (first | ((first | (apply wo_v; rfl) ); (· first | (apply pv_ev; rfl) | (apply g_bin; first | (apply a_sub; rfl; rfl; infer_instance; omega) | (apply a_sub_u; rfl; rfl; infer_instance) ) )) | apply wo_nil | apply wc_seq | apply wc_region ))
    (refine wo_call (half16) rfl (by (repeat (first | apply sub_nil )); done) (by first | exact fun _ h => h | (intro r hr; cases hr; done) | (simp; done) | exact fun _ h => List.mem_append_left _ h | (intro r hr; simp [hr]; done)) rfl ?_; rintro v L' R' ⟨rfl, rfl, rfl⟩ H' hH RR hR; simp only [List.cons_append, List.nil_append] at hH hR; subst hH; have hR := hR.symm; subst hR)
    (repeat (first | ((first | (apply wo_v; rfl) ); (· first | (apply pv_ev; rfl) | (apply g_bin; first | (apply a_sub; rfl; rfl; infer_instance; omega) | (apply a_sub_u; rfl; rfl; infer_instance) ) | (apply g_un; first | (apply a_neg; rfl; infer_instance; omega)) | (apply g_conv; first | (apply a_conv; rfl; infer_instance; infer_instance; infer_instance; omega) ) )) | apply wo_nil | apply wc_seq | apply wc_region | apply wc_skip | apply wc_ret | (apply wc_true; rfl) | (apply wc_false; rfl) | (apply a_dec_t; rfl; (· first | assumption | omega)) | (apply a_dec_f; rfl; (· first | assumption | omega)) ))
    exact retv rfl (by (repeat (first | apply RV.nil | (apply RV.tmp; rfl) )); done) (⟨by show Value.int _ _ = Value.int _ _; congr 1; unfold nearD; split <;> omega, rfl, rfl⟩) (by (repeat (first | apply sub_nil )); done) (by first | exact fun _ h => h | (intro r hr; cases hr; done) | (simp; done) | exact fun _ h => List.mem_append_left _ h | (intro r hr; simp [hr]; done))
theorem near16s (a n : Int) (ha : -1152921504606846976 ≤ a ∧ a ≤ 1152921504606846976) : Fn Try.prog 134 #[.int .i64 a, .int .u16 n] [] [] (fun v L' R' => v = .int .i64 (a + nearD a n 65536) ∧ L' = [] ∧ R' = []) := by
  have h0 := nearD16 (a % 65536) n
  have h1 : nearD (a % 65536) n 65536 = nearD a n 65536 := by
    unfold nearD; rw [show (n - a % 65536) % 65536 = (n - a) % 65536 by omega]
  have h2 := nearD16 a n
  have hd := dist16s n (a % 65536)
  rw [h1] at hd
  clear h0 h1
  refine fn_intro Try.func134 rfl Try.ntmps134 rfl (fun E => ?_)
  (repeat (first | ((first | (apply wo_v; rfl) ); (· first | (apply pv_ev; rfl) | (apply g_conv; first | (apply a_conv; rfl; infer_instance; infer_instance; infer_instance; omega) | (apply a_conv_u; rfl; infer_instance; infer_instance; infer_instance) ) )) | apply wo_nil | apply wc_seq | apply wc_region ))
  (refine wo_call (hd) rfl (by (repeat (first | apply sub_nil )); done) (by first | exact fun _ h => h | (intro r hr; cases hr; done) | (simp; done) | exact fun _ h => List.mem_append_left _ h | (intro r hr; simp [hr]; done)) rfl ?_; rintro v L' R' ⟨rfl, rfl, rfl⟩ H' hH RR hR; simp only [List.cons_append, List.nil_append] at hH hR; subst hH; have hR := hR.symm; subst hR)
  (repeat (first | ((first | (apply wo_v; rfl) ); (· first | (apply pv_ev; rfl) | (apply g_bin; first | (apply a_add; rfl; rfl; infer_instance; omega) ) )) | apply wo_nil | apply wc_ret ))
  exact retv rfl (by (repeat (first | apply RV.nil | (apply RV.tmp; rfl) )); done) (⟨rfl, rfl, rfl⟩) (by (repeat (first | apply sub_nil )); done) (by first | exact fun _ h => h | (intro r hr; cases hr; done) | (simp; done) | exact fun _ h => List.mem_append_left _ h | (intro r hr; simp [hr]; done))
theorem dist32s (x y : Int) : Fn Try.prog 180 #[.int .u32 x, .int .u32 y] [] [] (fun v L' R' => v = .int .i64 (nearD y x 4294967296) ∧ L' = [] ∧ R' = []) := by
  by_cases h : (x - y) % 4294967296 < 2147483648
  all_goals
    refine fn_intro Try.func180 rfl Try.ntmps180 rfl (fun E => ?_)
    (repeat (first | ((first | (apply wo_v; rfl) ); (· first | (apply pv_ev; rfl) | (apply g_bin; first | (apply a_sub; rfl; rfl; infer_instance; omega) | (apply a_sub_u; rfl; rfl; infer_instance) ) )) | apply wo_nil | apply wc_seq | apply wc_region ))
    (refine wo_call (half32) rfl (by (repeat (first | apply sub_nil )); done) (by first | exact fun _ h => h | (intro r hr; cases hr; done) | (simp; done) | exact fun _ h => List.mem_append_left _ h | (intro r hr; simp [hr]; done)) rfl ?_; rintro v L' R' ⟨rfl, rfl, rfl⟩ H' hH RR hR; simp only [List.cons_append, List.nil_append] at hH hR; subst hH; have hR := hR.symm; subst hR)
    (repeat (first | ((first | (apply wo_v; rfl) ); (· first | (apply pv_ev; rfl) | (apply g_bin; first | (apply a_sub; rfl; rfl; infer_instance; omega) | (apply a_sub_u; rfl; rfl; infer_instance) ) | (apply g_un; first | (apply a_neg; rfl; infer_instance; omega)) | (apply g_conv; first | (apply a_conv; rfl; infer_instance; infer_instance; infer_instance; omega) ) )) | apply wo_nil | apply wc_seq | apply wc_region | apply wc_skip | apply wc_ret | (apply wc_true; rfl) | (apply wc_false; rfl) | (apply a_dec_t; rfl; (· first | assumption | omega)) | (apply a_dec_f; rfl; (· first | assumption | omega)) ))
    exact retv rfl (by (repeat (first | apply RV.nil | (apply RV.tmp; rfl) )); done) (⟨by show Value.int _ _ = Value.int _ _; congr 1; unfold nearD; split <;> omega, rfl, rfl⟩) (by (repeat (first | apply sub_nil )); done) (by first | exact fun _ h => h | (intro r hr; cases hr; done) | (simp; done) | exact fun _ h => List.mem_append_left _ h | (intro r hr; simp [hr]; done))
theorem near32s (a n : Int) (ha : -1152921504606846976 ≤ a ∧ a ≤ 1152921504606846976) : Fn Try.prog 172 #[.int .i64 a, .int .u32 n] [] [] (fun v L' R' => v = .int .i64 (a + nearD a n 4294967296) ∧ L' = [] ∧ R' = []) := by
  have h0 := nearD32 (a % 4294967296) n
  have h1 : nearD (a % 4294967296) n 4294967296 = nearD a n 4294967296 := by
    unfold nearD; rw [show (n - a % 4294967296) % 4294967296 = (n - a) % 4294967296 by omega]
  have h2 := nearD32 a n
  have hd := dist32s n (a % 4294967296)
  rw [h1] at hd
  clear h0 h1
  refine fn_intro Try.func172 rfl Try.ntmps172 rfl (fun E => ?_)
  (repeat (first | ((first | (apply wo_v; rfl) ); (· first | (apply pv_ev; rfl) | (apply g_conv; first | (apply a_conv; rfl; infer_instance; infer_instance; infer_instance; omega) | (apply a_conv_u; rfl; infer_instance; infer_instance; infer_instance) ) )) | apply wo_nil | apply wc_seq | apply wc_region ))
  (refine wo_call (hd) rfl (by (repeat (first | apply sub_nil )); done) (by first | exact fun _ h => h | (intro r hr; cases hr; done) | (simp; done) | exact fun _ h => List.mem_append_left _ h | (intro r hr; simp [hr]; done)) rfl ?_; rintro v L' R' ⟨rfl, rfl, rfl⟩ H' hH RR hR; simp only [List.cons_append, List.nil_append] at hH hR; subst hH; have hR := hR.symm; subst hR)
  (repeat (first | ((first | (apply wo_v; rfl) ); (· first | (apply pv_ev; rfl) | (apply g_bin; first | (apply a_add; rfl; rfl; infer_instance; omega) ) )) | apply wo_nil | apply wc_ret ))
  exact retv rfl (by (repeat (first | apply RV.nil | (apply RV.tmp; rfl) )); done) (⟨rfl, rfl, rfl⟩) (by (repeat (first | apply sub_nil )); done) (by first | exact fun _ h => h | (intro r hr; cases hr; done) | (simp; done) | exact fun _ h => List.mem_append_left _ h | (intro r hr; simp [hr]; done))
end Go.Proofs.Ytlhlidmhlhodiaa

/-
  Package ingress: packets in their order.
-/
namespace Go.Proofs.Ytlhlidmhlhodiaa
set_option linter.unusedSimpArgs false
set_option linter.unusedVariables false
open Go.RowKit
attribute [local irreducible] Pv WO WC Fn
set_option maxRecDepth 100000
attribute [local irreducible] ByteArray.extract

abbrev srI (g bB bM : Nat) (sb : Bool) (sm : Int) (cb : Bool) (cl : Int) (mp : Nat) (ks : Int) : It := .ob g (.cells #[.pointer (some ⟨bB, 0, none⟩), .pointer (some ⟨bM, 0, none⟩), .bool sb, .int .i64 sm, .int .u16 0, .int .i64 0, .int .i64 0, .bool cb, .int .i64 cl, .map (some mp), .int .i64 0, .int .i64 ks] 210 (0, 0))
theorem sxPut0 (g bB bM : Nat) (cb : Bool) (cl : Int) (mp : Nat) (ks n : Int) (hn : 0 ≤ n ∧ n ≤ 65535) : Fn Try.prog 95 #[.pointer (some ⟨g, 2, none⟩), .int .u16 n] [srI g bB bM false 0 cb cl mp ks] []
    (fun v L' R' => v = .tuple #[.int .i64 (1048576 + n), .bool true] ∧ L' = [srI g bB bM true (1048576 + n) cb cl mp ks] ∧ R' = []) := by
  refine fn_intro Try.func95 rfl Try.ntmps95 rfl (fun E => ?_)
  (repeat (first | ((first | (apply wo_v; rfl) ); (· first | (apply pv_ev; rfl) | (apply pv_fld; rfl) | (apply g_load; first | (apply pv_ld; rfl; (· (repeat (first | apply sel_here ))); rfl) ) | (apply g_bin; first | (apply a_add; rfl; rfl; infer_instance; omega) ) | (apply g_un; first | (apply pv_not_t; rfl) | (apply pv_not_f; rfl) ) | (apply g_conv; first | (apply a_conv; rfl; infer_instance; infer_instance; infer_instance; omega) ) )) | apply wo_nil | apply wc_seq | apply wc_region | apply wc_ret | (apply wc_true; rfl) | (apply wo_st; rfl; rfl; rfl; (· (repeat (first | apply sel_here ))); (· (repeat (first | apply SetAt.here | apply SetAt.there))); rfl) ))
  exact retv rfl (by (repeat (first | apply RV.nil | (apply RV.tmp; rfl) )); done) (⟨rfl, rfl, rfl⟩) (by (repeat (first | apply sub_nil )); done) (by first | exact fun _ h => h | (intro r hr; cases hr; done) | (simp; done) | exact fun _ h => List.mem_append_left _ h | (intro r hr; simp [hr]; done))
theorem sxPut1 (g bB bM : Nat) (m : Int) (cb : Bool) (cl : Int) (mp : Nat) (ks n : Int) (hm : 0 ≤ m ∧ m ≤ 1125899906842624) (hn : 0 ≤ n ∧ n ≤ 65535) (h : nearD m n 65536 = 1) : Fn Try.prog 95 #[.pointer (some ⟨g, 2, none⟩), .int .u16 n] [srI g bB bM true m cb cl mp ks] []
    (fun v L' R' => v = .tuple #[.int .i64 (m + 1), .bool true] ∧ L' = [srI g bB bM true (m + 1) cb cl mp ks] ∧ R' = []) := by
  have q := near16s m n (by omega)
  rw [h] at q
  have e : max m (m + 1) = m + 1 := by omega
  refine fn_intro Try.func95 rfl Try.ntmps95 rfl (fun E => ?_)
  (repeat (first | ((first | (apply wo_v; rfl) ); (· first | (apply pv_ev; rfl) | (apply pv_fld; rfl) | (apply g_load; first | (apply pv_ld; rfl; (· (repeat (first | apply sel_here ))); rfl) ) | (apply g_un; first | (apply pv_not_t; rfl) ) )) | apply wo_nil | apply wc_seq | apply wc_region | apply wc_skip | (apply wc_true; rfl) | (apply wc_false; rfl) ))
  (refine wo_call (q) rfl (by (repeat (first | apply sub_nil )); done) (by first | exact fun _ h => h | (intro r hr; cases hr; done) | (simp; done) | exact fun _ h => List.mem_append_left _ h | (intro r hr; simp [hr]; done)) rfl ?_; rintro v L' R' ⟨rfl, rfl, rfl⟩ H' hH RR hR; simp only [List.cons_append, List.nil_append] at hH hR; subst hH; have hR := hR.symm; subst hR)
  (repeat (first | ((first | (apply wo_v; rfl) ); (· first | (apply pv_ev; rfl) | (apply pv_fld; rfl) | (apply g_load; first | (apply pv_ld; rfl; (· (repeat (first | apply sel_here ))); rfl) ) | (apply g_pick; first | (apply pv_pick_t; rfl; rfl) ) | (apply g_bin; first | (apply a_sub; rfl; rfl; infer_instance; omega) ) | (apply g_bi; first | (apply pv_max; rfl; rfl)) )) | apply wo_nil | apply wc_seq | apply wc_region | apply wc_ret | (apply wc_true; rfl) | (apply wc_false; rfl) | (apply a_dec_t; rfl; (· first | assumption | omega)) | (apply wo_run; rfl; rfl) | (apply wo_skip; rfl; rfl; rfl; rfl) | (apply wo_skip_u; rfl; rfl; rfl) | (apply a_gt; rfl; rfl; (· first | assumption | omega)) | (apply wo_st; rfl; rfl; rfl; (· (repeat (first | apply sel_here ))); (· (repeat (first | apply SetAt.here | apply SetAt.there))); rfl) ))
  rw [e]
  exact retv rfl (by (repeat (first | apply RV.nil | (apply RV.tmp; rfl) )); done) (⟨rfl, rfl, rfl⟩) (by (repeat (first | apply sub_nil )); done) (by first | exact fun _ h => h | (intro r hr; cases hr; done) | (simp; done) | exact fun _ h => List.mem_append_left _ h | (intro r hr; simp [hr]; done))
theorem cxPut0 (g bB bM : Nat) (sb : Bool) (sm : Int) (mp : Nat) (ks n : Int) (hn : 0 ≤ n ∧ n ≤ 4294967295) : Fn Try.prog 157 #[.pointer (some ⟨g, 7, none⟩), .int .u32 n] [srI g bB bM sb sm false 0 mp ks] []
    (fun v L' R' => v = .int .i64 (68719476736 + n) ∧ L' = [srI g bB bM sb sm true (68719476736 + n) mp ks] ∧ R' = []) := by
  refine fn_intro Try.func157 rfl Try.ntmps157 rfl (fun E => ?_)
  (repeat (first | ((first | (apply wo_v; rfl) ); (· first | (apply pv_ev; rfl) | (apply pv_fld; rfl) | (apply g_load; first | (apply pv_ld; rfl; (· (repeat (first | apply sel_here ))); rfl) ) | (apply g_bin; first | (apply a_add; rfl; rfl; infer_instance; omega) ) | (apply g_un; first | (apply pv_not_t; rfl) | (apply pv_not_f; rfl) ) | (apply g_conv; first | (apply a_conv; rfl; infer_instance; infer_instance; infer_instance; omega) ) )) | apply wo_nil | apply wc_seq | apply wc_region | apply wc_ret | (apply wc_true; rfl) | (apply wo_st; rfl; rfl; rfl; (· (repeat (first | apply sel_here ))); (· (repeat (first | apply SetAt.here | apply SetAt.there))); rfl) ))
  exact retv rfl (by (repeat (first | apply RV.nil | (apply RV.tmp; rfl) )); done) (⟨rfl, rfl, rfl⟩) (by (repeat (first | apply sub_nil )); done) (by first | exact fun _ h => h | (intro r hr; cases hr; done) | (simp; done) | exact fun _ h => List.mem_append_left _ h | (intro r hr; simp [hr]; done))
theorem cxPut1 (g bB bM : Nat) (sb : Bool) (sm l : Int) (mp : Nat) (ks n d : Int) (hl : 0 ≤ l ∧ l ≤ 1125899906842624) (hn : 0 ≤ n ∧ n ≤ 4294967295) (h : nearD l n 4294967296 = d) (hd : 0 ≤ d ∧ d ≤ 4294967296) : Fn Try.prog 157 #[.pointer (some ⟨g, 7, none⟩), .int .u32 n] [srI g bB bM sb sm true l mp ks] []
    (fun v L' R' => v = .int .i64 (l + d) ∧ L' = [srI g bB bM sb sm true (l + d) mp ks] ∧ R' = []) := by
  have q := near32s l n (by omega)
  rw [h] at q
  have e : max l (l + d) = l + d := by omega
  refine fn_intro Try.func157 rfl Try.ntmps157 rfl (fun E => ?_)
  (repeat (first | ((first | (apply wo_v; rfl) ); (· first | (apply pv_ev; rfl) | (apply pv_fld; rfl) | (apply g_load; first | (apply pv_ld; rfl; (· (repeat (first | apply sel_here ))); rfl) ) | (apply g_un; first | (apply pv_not_t; rfl) ) )) | apply wo_nil | apply wc_seq | apply wc_region | apply wc_skip | (apply wc_true; rfl) | (apply wc_false; rfl) ))
  (refine wo_call (q) rfl (by (repeat (first | apply sub_nil )); done) (by first | exact fun _ h => h | (intro r hr; cases hr; done) | (simp; done) | exact fun _ h => List.mem_append_left _ h | (intro r hr; simp [hr]; done)) rfl ?_; rintro v L' R' ⟨rfl, rfl, rfl⟩ H' hH RR hR; simp only [List.cons_append, List.nil_append] at hH hR; subst hH; have hR := hR.symm; subst hR)
  (repeat (first | ((first | (apply wo_v; rfl) ); (· first | (apply pv_ev; rfl) | (apply pv_fld; rfl) | (apply g_load; first | (apply pv_ld; rfl; (· (repeat (first | apply sel_here ))); rfl) ) | (apply g_bi; first | (apply pv_max; rfl; rfl)) )) | apply wo_nil | apply wc_seq | apply wc_region | apply wc_ret | (apply wo_st; rfl; rfl; rfl; (· (repeat (first | apply sel_here ))); (· (repeat (first | apply SetAt.here | apply SetAt.there))); rfl) ))
  rw [e]
  exact retv rfl (by (repeat (first | apply RV.nil | (apply RV.tmp; rfl) )); done) (⟨rfl, rfl, rfl⟩) (by (repeat (first | apply sub_nil )); done) (by first | exact fun _ h => h | (intro r hr; cases hr; done) | (simp; done) | exact fun _ h => List.mem_append_left _ h | (intro r hr; simp [hr]; done))
abbrev bfN (b mp : Nat) : It := bfI b false 0 mp 0
theorem oNew : Fn Try.prog 93 #[.agg #[.int .i64 4, .int .i64 3]] [] [] (fun v L' R' => ∃ b mp, v = .tuple #[.pointer (some ⟨b, 0, none⟩), .int .i64 0] ∧ L' = [bfN b mp, .ob mp (m0 0)] ∧ R' = []) := by
  have qc : Fn Try.prog 132 #[.agg #[.int .i64 4, .int .i64 3]] [] [] (fun v L' R' => v = .int .i64 0 ∧ L' = [] ∧ R' = []) := by
    refine fn_intro Try.func132 rfl Try.ntmps132 rfl (fun E => ?_)
    (repeat (first | ((first | (apply wo_v; rfl) ); (· first | (apply pv_ev; rfl) | (apply pv_fld; rfl) | (apply g_load; first | (apply pv_ld; rfl; (· (repeat (first | apply sel_here ))); rfl) ) | (apply g_pick; first | (apply pv_pick_t; rfl; rfl) | (apply pv_pick_f; rfl; rfl)) )) | apply wo_nil | apply wc_seq | apply wc_region | apply wc_skip | apply wc_ret | (apply wc_true; rfl) | (apply wc_false; rfl) | (apply wo_run; rfl; rfl) | (apply wo_box1; rfl; rfl; rfl; intro bx) | (apply wo_boxa; rfl; rfl; intro bx) ))
    exact retv rfl (by (repeat (first | apply RV.nil | (apply RV.tmp; rfl) )); done) (⟨rfl, rfl, rfl⟩) (by (repeat (first | apply sub_nil )); done) (by first | exact fun _ h => h | (intro r hr; cases hr; done) | (simp; done) | exact fun _ h => List.mem_append_left _ h | (intro r hr; simp [hr]; done))
  refine fn_intro Try.func93 rfl Try.ntmps93 rfl (fun E => ?_)
  (repeat (first | ((first | (apply wo_v; rfl) ); (· first | (apply pv_ev; rfl) | (apply g_load; first | (apply pv_lda; rfl; (· (repeat (first | apply sel_here ))); (· (repeat (first | apply Cut.here0 | apply Cut.here )))) ) )) | apply wo_nil | apply wc_seq | apply wc_region | (apply wo_box1; rfl; rfl; rfl; intro bx) | (apply wo_boxa; rfl; rfl; intro bx) ))
  (refine wo_call (qc) rfl (by (repeat (first | apply sub_nil )); done) (by first | exact fun _ h => h | (intro r hr; cases hr; done) | (simp; done) | exact fun _ h => List.mem_append_left _ h | (intro r hr; simp [hr]; done)) rfl ?_; rintro v L' R' ⟨rfl, rfl, rfl⟩ H' hH RR hR; simp only [List.cons_append, List.nil_append] at hH hR; subst hH; have hR := hR.symm; subst hR)
  (repeat (first | ((first | (apply wo_v; rfl) ); (· first | (apply pv_ev; rfl) | (apply g_load; first | (apply pv_lda; rfl; (· (repeat (first | apply sel_here ))); (· (repeat (first | apply Cut.here0 | apply Cut.here )))) ) )) | apply wo_nil | apply wc_seq | apply wc_region | apply wc_skip | (apply wc_true; rfl) | (apply wc_false; rfl) ))
  refine wo_mmake .i64 rfl (fun mp => ?_)
  show WO _ _ _ _ _ ⟨_, .ob mp (m0 0) :: _, _⟩ _
  (repeat (first | ((first | (apply wo_v; rfl) ); (· first | (apply pv_ev; rfl) | (apply g_build; apply pv_build; (· (repeat (first | apply Bld.nil | (apply Bld.one; rfl; rfl; (· (repeat (first | apply SetAt.here | apply SetAt.there)))) | (apply Bld.agg; rfl; rfl; (· (repeat (first | apply LayAt.nil | apply LayAt.here )))))))) )) | apply wo_nil | apply wc_ret | (apply wo_box1; rfl; rfl; rfl; intro bx) | (apply wo_boxa; rfl; rfl; intro bx) ))
  exact ret2 rfl rfl rfl ⟨_, mp, rfl, rfl, rfl⟩ ((by (repeat (first | apply sub_nil )); done) : List.Perm _ ([_, _] ++ _)) (by first | exact fun _ h => h | (intro r hr; cases hr; done) | (simp; done) | exact fun _ h => List.mem_append_left _ h | (intro r hr; simp [hr]; done))
theorem mNew : Fn Try.prog 94 #[.agg #[.bool true, .int .i64 400, .int .i64 8, .int .i64 30]] [] [] (fun v L' R' => ∃ b, v = .tuple #[.pointer (some ⟨b, 0, none⟩), .int .i64 0] ∧ L' = [mkI b (.slice none 0 0) 0 0] ∧ R' = []) := by
  have qc : Fn Try.prog 133 #[.agg #[.bool true, .int .i64 400, .int .i64 8, .int .i64 30]] [] [] (fun v L' R' => v = .int .i64 0 ∧ L' = [] ∧ R' = []) := by
    refine fn_intro Try.func133 rfl Try.ntmps133 rfl (fun E => ?_)
    (repeat (first | ((first | (apply wo_v; rfl) ); (· first | (apply pv_ev; rfl) | (apply pv_fld; rfl) | (apply g_load; first | (apply pv_ld; rfl; (· (repeat (first | apply sel_here ))); rfl) ) | (apply g_pick; first | (apply pv_pick_t; rfl; rfl) | (apply pv_pick_f; rfl; rfl)) )) | apply wo_nil | apply wc_seq | apply wc_region | apply wc_skip | apply wc_ret | (apply wc_true; rfl) | (apply wc_false; rfl) | (apply wo_run; rfl; rfl) | (apply wo_box1; rfl; rfl; rfl; intro bx) | (apply wo_boxa; rfl; rfl; intro bx) ))
    exact retv rfl (by (repeat (first | apply RV.nil | (apply RV.tmp; rfl) )); done) (⟨rfl, rfl, rfl⟩) (by (repeat (first | apply sub_nil )); done) (by first | exact fun _ h => h | (intro r hr; cases hr; done) | (simp; done) | exact fun _ h => List.mem_append_left _ h | (intro r hr; simp [hr]; done))
  refine fn_intro Try.func94 rfl Try.ntmps94 rfl (fun E => ?_)
  (repeat (first | ((first | (apply wo_v; rfl) ); (· first | (apply pv_ev; rfl) | (apply g_load; first | (apply pv_lda; rfl; (· (repeat (first | apply sel_here ))); (· (repeat (first | apply Cut.here0 | apply Cut.here )))) ) )) | apply wo_nil | apply wc_seq | apply wc_region | (apply wo_box1; rfl; rfl; rfl; intro bx) | (apply wo_boxa; rfl; rfl; intro bx) ))
  (refine wo_call (qc) rfl (by (repeat (first | apply sub_nil )); done) (by first | exact fun _ h => h | (intro r hr; cases hr; done) | (simp; done) | exact fun _ h => List.mem_append_left _ h | (intro r hr; simp [hr]; done)) rfl ?_; rintro v L' R' ⟨rfl, rfl, rfl⟩ H' hH RR hR; simp only [List.cons_append, List.nil_append] at hH hR; subst hH; have hR := hR.symm; subst hR)
  (repeat (first | ((first | (apply wo_v; rfl) ); (· first | (apply pv_ev; rfl) | (apply g_load; first | (apply pv_lda; rfl; (· (repeat (first | apply sel_here ))); (· (repeat (first | apply Cut.here0 | apply Cut.here )))) ) | (apply g_build; apply pv_build; (· (repeat (first | apply Bld.nil | (apply Bld.agg; rfl; rfl; (· (repeat (first | apply LayAt.nil | apply LayAt.here )))))))) )) | apply wo_nil | apply wc_seq | apply wc_region | apply wc_skip | apply wc_ret | (apply wc_true; rfl) | (apply wc_false; rfl) | (apply wo_box1; rfl; rfl; rfl; intro bx) | (apply wo_boxa; rfl; rfl; intro bx) ))
  exact ret2 rfl rfl rfl ⟨_, rfl, rfl, rfl⟩ ((by (repeat (first | apply sub_nil )); done) : List.Perm _ ([_] ++ _)) (by first | exact fun _ h => h | (intro r hr; cases hr; done) | (simp; done) | exact fun _ h => List.mem_append_left _ h | (intro r hr; simp [hr]; done))
theorem iNew : Fn Try.prog 40 #[.agg #[.int .i64 4, .int .i64 3, .bool true, .int .i64 400, .int .i64 8, .int .i64 30]] [] [] (fun v L' R' => ∃ g bB bM mp mq, v = .tuple #[.pointer (some ⟨g, 0, none⟩), .int .i64 0] ∧ L' = [srI g bB bM false 0 false 0 mp 0, bfN bB mq, mkI bM (.slice none 0 0) 0 0, .ob mp (m0 0), .ob mq (m0 0)] ∧ R' = []) := by
  refine fn_intro Try.func40 rfl Try.ntmps40 rfl (fun E => ?_)
  (repeat (first | ((first | (apply wo_v; rfl) ); (· first | (apply pv_ev; rfl) | (apply pv_fld; rfl) | (apply g_load; first | (apply pv_lda; rfl; (· (repeat (first | apply sel_here ))); (· (repeat (first | apply Cut.here0 | apply Cut.here )))) ) )) | apply wo_nil | apply wc_seq | apply wc_region | (apply wo_box1; rfl; rfl; rfl; intro bx) | (apply wo_boxa; rfl; rfl; intro bx) ))
  (refine wo_call (oNew) rfl (by (repeat (first | apply sub_nil )); done) (by first | exact fun _ h => h | (intro r hr; cases hr; done) | (simp; done) | exact fun _ h => List.mem_append_left _ h | (intro r hr; simp [hr]; done)) rfl ?_; rintro v L' R' ⟨bB, mq, rfl, rfl, rfl⟩ H' hH RR hR; simp only [List.cons_append, List.nil_append] at hH hR; subst hH; have hR := hR.symm; subst hR)
  (repeat (first | ((first | (apply wo_v; rfl) ); (· first | (apply pv_ev; rfl) | (apply pv_fld; rfl) | (apply g_load; first | (apply pv_lda; rfl; (· (repeat (first | apply sel_here | apply sel_there))); (· (repeat (first | apply Cut.here0 | apply Cut.here | apply Cut.there)))) ) )) | apply wo_nil | apply wc_seq | apply wc_region | apply wc_skip | (apply wc_true; rfl) | (apply wc_false; rfl) ))
  (refine wo_call (mNew) rfl (by (repeat (first | apply sub_nil )); done) (by first | exact fun _ h => h | (intro r hr; cases hr; done) | (simp; done) | exact fun _ h => List.mem_append_left _ h | (intro r hr; simp [hr]; done)) rfl ?_; rintro v L' R' ⟨bM, rfl, rfl, rfl⟩ H' hH RR hR; simp only [List.cons_append, List.nil_append] at hH hR; subst hH; have hR := hR.symm; subst hR)
  (repeat (first | ((first | (apply wo_v; rfl) ); (· first | (apply pv_ev; rfl) )) | apply wo_nil | apply wc_seq | apply wc_region | apply wc_skip | (apply wc_true; rfl) | (apply wc_false; rfl) ))
  refine wo_mmake .i64 rfl (fun mp => ?_)
  show WO _ _ _ _ _ ⟨_, .ob mp (m0 0) :: _, _⟩ _
  (repeat (first | ((first | (apply wo_v; rfl) ); (· first | (apply pv_ev; rfl) | (apply g_build; apply pv_build; (· (repeat (first | apply Bld.nil | (apply Bld.one; rfl; rfl; (· (repeat (first | apply SetAt.here | apply SetAt.there)))) )))) )) | apply wo_nil | apply wc_ret | (apply wo_box1; rfl; rfl; rfl; intro bx) | (apply wo_boxa; rfl; rfl; intro bx) ))
  exact ret2 rfl rfl rfl ⟨_, bB, bM, mp, mq, rfl, rfl, rfl⟩ ((by (repeat (first | apply sub_nil | (apply sub_cons; (· (repeat (first | apply sel_here | apply sel_there)))))); done) : List.Perm _ ([_, _, _, _, _] ++ _)) (by first | exact fun _ h => h | (intro r hr; cases hr; done) | (simp; done) | exact fun _ h => List.mem_append_left _ h | (intro r hr; simp [hr]; done))
end Go.Proofs.Ytlhlidmhlhodiaa

/-
  Package ingress: a packet in its order, as a unit.
-/
namespace Go.Proofs.Ytlhlidmhlhodiaa
set_option linter.unusedSimpArgs false
set_option linter.unusedVariables false
open Go.RowKit
attribute [local irreducible] Pv WO WC Fn
set_option maxRecDepth 100000
attribute [local irreducible] ByteArray.extract

abbrev pkV (mrk : Bool) (kd sq t ss : Int) (pl : ByteArray) : Value := .agg (pkR mrk kd sq t ss pl).toArray
abbrev pkB (b : Nat) (mrk : Bool) (kd sq t ss : Int) (pl : ByteArray) : It := .ob b (.cells (pkR mrk kd sq t ss pl).toArray 33 (0, 0))
abbrev dP (st : Bool) : Dc := ⟨false, st, 0, -1, false, -1, -1, false, -1⟩
def tblU1 (v1 : Value) (row : List Value) : Nat → List (List It) → Value → List (List It) → Prop := fun k Ls v Ms => match k, Ls with
  | 6, L => v = v1 ∧ Ms = L
  | 7, _ => ∃ b, v = .pointer (some ⟨b, 0, none⟩) ∧ Ms = [[pkB b false 0 0 0 0 ByteArray.empty]]
  | 8, [[.ob b _]] => v = undef ∧ Ms = [[.ob b (.cells row.toArray 33 (0, 0))]]
  | _, _ => False
def tblU2 (ck : Nat) : Nat → List (List It) → Value → List (List It) → Prop := fun k Ls v Ms => match k, Ls with
  | 6, [[.ob b _]] => v = .tuple #[] ∧ Ms = [[.ob b (m0 ck)]]
  | _, _ => False
def tblU3 (g bB bM : Nat) (sm : Int) (cl' : Int) (mp : Nat) (ks : Int) (u : Un) : Nat → List (List It) → Value → List (List It) → Prop := fun k Ls v Ms => match k, Ls with
  | 7, _ => v = .int .i64 cl' ∧ Ms = [[srI g bB bM true sm true cl' mp ks]]
  | 15, _ => ∃ b, v = .pointer (some ⟨b, 0, none⟩) ∧ Ms = [[unB b ⟨0, 0, false, false, false, ByteArray.empty, 0⟩]]
  | 16, [[.ob b _]] => v = undef ∧ Ms = [[unB b u]]
  | _, _ => False
set_option maxHeartbeats 16000000 in
theorem iUnit (g bB bM : Nat) (sm : Int) (cb : Bool) (cl cl' : Int) (mp : Nat) (ks : Int) (at_ tk : Int) (mrk : Bool) (kd sq t ss : Int) (pl r : ByteArray) (st kb : Bool) (bn ck : Nat) (us : Value) (wh lo : Int)
    (hq : Fn Try.prog 157 #[.pointer (some ⟨g, 7, none⟩), .int .u32 t] [srI g bB bM true sm cb cl mp ks] [] (fun v L' R' => v = .int .i64 cl' ∧ L' = [srI g bB bM true sm true cl' mp ks] ∧ R' = []))
    (hp : prs pl = (dP st, r, 0)) (hpl : pl.size ≤ 1000) (hk : keyB st 0 r = kb) :
    Fn Try.prog 139 #[.pointer (some ⟨g, 0, none⟩), thV at_ ByteArray.empty tk] [srI g bB bM true sm cb cl mp ks, .ob mp (m1 .i64 at_ (pkV mrk kd sq t ss pl) bn ck), mkI bM us wh lo] []
      (fun v L' R' => v = .agg (urow ⟨at_, cl', mrk, st, kb, pl, tk⟩).toArray ∧ L' = [srI g bB bM true sm true cl' mp ks, .ob mp (m0 ck), mkI bM us wh lo] ∧ R' = []) := by
  have qp := vParse pl (by omega)
  rw [hp] at qp
  have qk := vKey false st 0 (-1) false (-1) (-1) false (-1) r kb hk
  refine fn_intro Try.func139 rfl Try.ntmps139 rfl (fun E => ?_)
  (repeat (first | ((first | (apply wo_v; rfl) ); (· first | (apply pv_ev; rfl) )) | apply wo_nil | apply wc_seq | apply wc_region | (apply wo_box1; rfl; rfl; rfl; intro bx) | (apply wo_boxa; rfl; rfl; intro bx) | (apply wo_alloc; rfl; intro bx) ))
  rename_i b3
  obtain ⟨b4, hb4⟩ : ∃ g, g = bx := ⟨_, rfl⟩
  subst hb4
  (refine wc_regM [0, 1] (aslL [(6, [1]), (7, [0]), (8, [0])]) (tblU1 (pkV mrk kd sq t ss pl) (pkR mrk kd sq t ss pl)) ([unB b4 ⟨0, 0, false, false, false, ByteArray.empty, 0⟩, thB b3 at_ ByteArray.empty tk, srI g bB bM true sm cb cl mp ks, mkI bM us wh lo]) (fm [(0, []), (1, [.ob mp (m1 .i64 at_ (pkV mrk kd sq t ss pl) bn ck)])]) mixed (by kernel_rfl) (by kernel_rfl) (by decide) (aslL_ok (by decide)) (by (repeat (first | (apply prm_cons; (· (repeat (first | apply sel_here | apply sel_there)))) | apply List.Perm.nil )); done) ?_; (repeat (first | (apply HdM.val; rfl; rfl; (· first | apply gok_none ); (· first | (apply pv_ev; rfl) | (apply pv_fld; rfl) | (apply g_load; first | (apply pv_ld; rfl; (· (repeat (first | apply sel_here | apply sel_there))); rfl) ) )) )))
  (refine hm_eff (cs := [1]) rfl (by decide) rfl rfl (by first | exact gok_none | exact gok_run rfl rfl) (fun a ha => outc_mono (outc_pv (L := [.ob mp (m1 .i64 at_ (pkV mrk kd sq t ss pl) bn ck)]) (pv_m1s rfl rfl (by (repeat (first | apply sel_here )); done)) a ha) (fun v M h => ⟨[M], And.intro h.1 (congrArg (fun x => [x]) h.2), rfl, by simp⟩)) (⟨_, _, And.intro rfl rfl, rfl⟩) ?_; rintro v Ms ⟨rfl, rfl⟩ _; simp only [setls, setl, reduceIte, Nat.reduceEqDiff]; (repeat (first | (apply HdM.val; rfl; rfl; (· first | fail ); (· first | fail )) )))
  (refine hm_eff (cs := [0]) rfl (by decide) rfl rfl (by first | exact gok_none | exact gok_run rfl rfl) (fun a ha => outc_mono (outc_alloc a ha) (fun v M h => Exists.elim h fun b h => ⟨[M], Exists.intro b (And.intro h.1 (congrArg (fun x => [x]) h.2)), rfl, by simp⟩)) (⟨_, _, Exists.intro 0 (And.intro rfl rfl), rfl⟩) ?_; rintro v Ms ⟨b5, rfl, rfl⟩ _; simp only [setls, setl, reduceIte, Nat.reduceEqDiff]; (repeat (first | fail )))
  (refine hm_eff (cs := [0]) rfl (by decide) rfl rfl (by first | exact gok_none | exact gok_run rfl rfl) (fun a ha => outc_mono (outc_sta rfl rfl rfl rfl (by (repeat (first | apply LayAt.nil | apply LayAt.here )); done) a ha) (fun v M h => ⟨[M], And.intro h.1 (congrArg (fun x => [x]) h.2), rfl, by simp⟩)) (⟨_, _, And.intro rfl rfl, rfl⟩) ?_; rintro v Ms ⟨rfl, rfl⟩ _; simp only [setls, setl, reduceIte, Nat.reduceEqDiff]; (repeat (first | fail )))
  (refine HdM.nil ?_; intro H hH; simp only [Hp, fm, look, setl, List.flatMap_cons, List.flatMap_nil, reduceIte, Nat.reduceEqDiff, Option.getD_some, List.append_nil, List.cons_append, List.nil_append] at hH; subst hH)
  (repeat (first | apply wc_seq ))
  (refine wc_regM [0] (aslL [(6, [0])]) (tblU2 ck) ([unB b4 ⟨0, 0, false, false, false, ByteArray.empty, 0⟩, thB b3 at_ ByteArray.empty tk, srI g bB bM true sm cb cl mp ks, mkI bM us wh lo, pkB b5 mrk kd sq t ss pl]) (fm [(0, [.ob mp (m1 .i64 at_ (pkV mrk kd sq t ss pl) bn ck)])]) mixed (by kernel_rfl) (by kernel_rfl) (by decide) (aslL_ok (by decide)) (by (repeat (first | (apply prm_cons; (· (repeat (first | apply sel_here )))) | apply List.Perm.nil )); done) ?_; (repeat (first | (apply HdM.val; rfl; rfl; (· first | apply gok_none ); (· first | (apply pv_ev; rfl) | (apply pv_fld; rfl) | (apply g_load; first | (apply pv_ld; rfl; (· (repeat (first | apply sel_here | apply sel_there))); rfl) ) )) )))
  (refine hm_eff (cs := [0]) rfl (by decide) rfl rfl (by first | exact gok_none | exact gok_run rfl rfl) (fun a ha => outc_mono (outc_m1del rfl rfl a ha) (fun v M h => ⟨[M], And.intro h.1 (congrArg (fun x => [x]) h.2), rfl, by simp⟩)) (⟨_, _, And.intro rfl rfl, rfl⟩) ?_; rintro v Ms ⟨rfl, rfl⟩ _; simp only [setls, setl, reduceIte, Nat.reduceEqDiff]; (repeat (first | fail )))
  (refine HdM.nil ?_; intro H hH; simp only [Hp, fm, look, setl, List.flatMap_cons, List.flatMap_nil, reduceIte, Nat.reduceEqDiff, Option.getD_some, List.append_nil, List.cons_append, List.nil_append] at hH; subst hH)
  (repeat (first | apply wc_seq ))
  (refine wc_regM [0, 1] (aslL [(7, [0]), (15, [1]), (16, [1])]) (tblU3 g bB bM sm cl' mp ks ⟨at_, cl', mrk, false, false, pl, tk⟩) ([unB b4 ⟨0, 0, false, false, false, ByteArray.empty, 0⟩, thB b3 at_ ByteArray.empty tk, mkI bM us wh lo, pkB b5 mrk kd sq t ss pl, .ob mp (m0 ck)]) (fm [(0, [srI g bB bM true sm cb cl mp ks]), (1, [])]) mixed (by kernel_rfl) (by kernel_rfl) (by decide) (aslL_ok (by decide)) (by (repeat (first | (apply prm_cons; (· (repeat (first | apply sel_here | apply sel_there)))) | apply List.Perm.nil )); done) ?_; (repeat (first | (apply HdM.val; rfl; rfl; (· first | apply gok_none ); (· first | (apply pv_ev; rfl) | (apply pv_fld; rfl) | (apply g_load; first | (apply pv_ld; rfl; (· (repeat (first | apply sel_here | apply sel_there))); rfl) ) )) )))
  (refine hm_eff (cs := [0]) rfl (by decide) rfl rfl (by first | exact gok_none | exact gok_run rfl rfl) (fun a ha => outc_mono (outc_call (F1 := _) (T := fun v M => v = .int .i64 cl' ∧ M = [srI g bB bM true sm true cl' mp ks]) hq rfl (by (repeat (first | apply sub_nil )); done) (by first | exact fun _ h => h | (intro r hr; cases hr; done) | (simp; done) | exact fun _ h => List.mem_append_left _ h | (intro r hr; simp [hr]; done)) (by rintro v L' R' ⟨rfl, rfl, _⟩; exact ⟨_, ⟨rfl, rfl⟩, (by (repeat (first | (apply prm_cons; (· (repeat (first | apply sel_here )))) | apply List.Perm.nil )); done)⟩) a ha) (fun v M h => ⟨[M], And.intro h.1 (congrArg (fun x => [x]) h.2), rfl, by simp⟩)) (⟨_, _, And.intro rfl rfl, rfl⟩) ?_; rintro v Ms ⟨rfl, rfl⟩ _; simp only [setls, setl, reduceIte, Nat.reduceEqDiff]; (repeat (first | (apply HdM.val; rfl; rfl; (· first | apply gok_none ); (· first | (apply pv_ev; rfl) | (apply pv_fld; rfl) | (apply g_load; first | (apply pv_ld; rfl; (· (repeat (first | apply sel_here | apply sel_there))); rfl) ) | (apply g_build; apply pv_build; (· (repeat (first | apply Bld.nil | (apply Bld.one; rfl; rfl; (· (repeat (first | apply SetAt.here | apply SetAt.there)))) )))) )) )))
  (refine hm_eff (cs := [1]) rfl (by decide) rfl rfl (by first | exact gok_none | exact gok_run rfl rfl) (fun a ha => outc_mono (outc_alloc a ha) (fun v M h => Exists.elim h fun b h => ⟨[M], Exists.intro b (And.intro h.1 (congrArg (fun x => [x]) h.2)), rfl, by simp⟩)) (⟨_, _, Exists.intro 0 (And.intro rfl rfl), rfl⟩) ?_; rintro v Ms ⟨b6, rfl, rfl⟩ _; simp only [setls, setl, reduceIte, Nat.reduceEqDiff]; (repeat (first | fail )))
  (refine hm_eff (cs := [1]) rfl (by decide) rfl rfl (by first | exact gok_none | exact gok_run rfl rfl) (fun a ha => outc_mono (outc_sta rfl rfl rfl rfl (by (repeat (first | apply LayAt.nil | apply LayAt.here )); done) a ha) (fun v M h => ⟨[M], And.intro h.1 (congrArg (fun x => [x]) h.2), rfl, by simp⟩)) (⟨_, _, And.intro rfl rfl, rfl⟩) ?_; rintro v Ms ⟨rfl, rfl⟩ _; simp only [setls, setl, reduceIte, Nat.reduceEqDiff]; (repeat (first | fail )))
  (refine HdM.nil ?_; intro H hH; simp only [Hp, fm, look, setl, List.flatMap_cons, List.flatMap_nil, reduceIte, Nat.reduceEqDiff, Option.getD_some, List.append_nil, List.cons_append, List.nil_append] at hH; subst hH)
  (repeat (first | ((first | (apply wo_v; rfl) ); (· first | (apply pv_ev; rfl) | (apply pv_fld; rfl) | (apply g_load; first | (apply pv_ld; rfl; (· (repeat (first | apply sel_here | apply sel_there))); rfl) ) )) | apply wc_seq | apply wc_region ))
  (refine wo_call (qp) rfl (by (repeat (first | apply sub_nil )); done) (by first | exact fun _ h => h | (intro r hr; cases hr; done) | (simp; done) | exact fun _ h => List.mem_append_left _ h | (intro r hr; simp [hr]; done)) rfl ?_; rintro v L' R' ⟨rfl, rfl, rfl⟩ H' hH RR hR; simp only [List.cons_append, List.nil_append] at hH hR; subst hH; have hR := hR.symm; subst hR)
  (repeat (first | ((first | (apply wo_v; rfl) ); (· first | (apply pv_ev; rfl) | (apply pv_fld; rfl) | (apply g_load; first | (apply pv_ld; rfl; (· (repeat (first | apply sel_here | apply sel_there))); rfl) ) | (apply g_pick; first | (apply pv_pick_t; rfl; rfl) ) )) | apply wo_nil | apply wc_seq | apply wc_region | (apply wc_true; rfl) | (apply wo_run; rfl; rfl) | (apply wo_skip; rfl; rfl; rfl; rfl) | (apply wo_skip_u; rfl; rfl; rfl) | (apply a_gt; rfl; rfl; (· first | assumption | omega)) | (apply a_gf; rfl; rfl; (· first | assumption | omega)) | (apply a_gt; rfl; rfl; (· first | (simp; done) | (simp; omega))) | (apply a_gf; rfl; rfl; (· first | (simp; done) | (simp; omega))) | (apply wo_alloc; rfl; intro bx) | (apply wo_sta; rfl; rfl; rfl; rfl; (· (repeat (first | apply sel_here ))); (· (repeat (first | apply LayAt.nil | apply LayAt.here ))); rfl) ))
  obtain ⟨b7, hb7⟩ : ∃ g, g = bx := ⟨_, rfl⟩
  subst hb7
  cases st with
  | true =>
    (repeat (first | ((first | (apply wo_v; rfl) ); (· first | (apply pv_ev; rfl) | (apply pv_fld; rfl) | (apply g_load; first | (apply pv_ld; rfl; (· (repeat (first | apply sel_here ))); rfl) | (apply pv_lda; rfl; (· (repeat (first | apply sel_here | apply sel_there))); (· (repeat (first | apply Cut.here0 | apply Cut.here )))) ) | (apply g_pick; first | (apply pv_pick_t; rfl; rfl) ) )) | apply wo_nil | apply wc_region | (apply wo_run; rfl; rfl) | (apply wo_st; rfl; rfl; rfl; (· (repeat (first | apply sel_here | apply sel_there))); (· (repeat (first | apply SetAt.here | apply SetAt.there))); rfl) ))
    (refine wo_call (qk) rfl (by (repeat (first | apply sub_nil )); done) (by first | exact fun _ h => h | (intro r hr; cases hr; done) | (simp; done) | exact fun _ h => List.mem_append_left _ h | (intro r hr; simp [hr]; done)) rfl ?_; rintro v L' R' ⟨rfl, rfl, rfl⟩ H' hH RR hR; simp only [List.cons_append, List.nil_append] at hH hR; subst hH; have hR := hR.symm; subst hR)
    (repeat (first | ((first | (apply wo_v; rfl) ); (· first | (apply pv_ev; rfl) | (apply pv_fld; rfl) | (apply g_load; first | (apply pv_lda; rfl; (· (repeat (first | apply sel_here ))); (· (repeat (first | apply Cut.here0 | apply Cut.here )))) ) )) | apply wo_nil | apply wc_seq | apply wc_region | apply wc_ret | (apply wo_st; rfl; rfl; rfl; (· (repeat (first | apply sel_here ))); (· (repeat (first | apply SetAt.here | apply SetAt.there))); rfl) | (apply wo_sta; rfl; rfl; rfl; rfl; (· (repeat (first | apply sel_here | apply sel_there))); (· (repeat (first | apply LayAt.nil | apply LayAt.here ))); rfl) ))
    exact retv rfl (by (repeat (first | apply RV.nil | (apply RV.agg; rfl; (· (repeat (first | apply sel_here ))); infer_instance; (· (repeat (first | apply Cut.here0 | apply Cut.here )))) )); done) (⟨rfl, rfl, rfl⟩) (by (repeat (first | apply sub_nil | (apply sub_cons; (· (repeat (first | apply sel_here | apply sel_there)))))); done) (by first | exact fun _ h => h | (intro r hr; cases hr; done) | (simp; done) | exact fun _ h => List.mem_append_left _ h | (intro r hr; simp [hr]; done))
  | false =>
    (repeat (first | ((first | (apply wo_v; rfl) ); (· first | (apply pv_ev; rfl) | (apply pv_fld; rfl) | (apply g_load; first | (apply pv_lda; rfl; (· (repeat (first | apply sel_here | apply sel_there))); (· (repeat (first | apply Cut.here0 | apply Cut.here )))) ) | (apply g_pick; first | (apply pv_pick_t; rfl; rfl) | (apply pv_pick_f; rfl; rfl)) )) | apply wo_nil | apply wc_region | (apply wo_run; rfl; rfl) | (apply wo_skip; rfl; rfl; rfl; rfl) | (apply wo_st; rfl; rfl; rfl; (· (repeat (first | apply sel_here | apply sel_there))); (· (repeat (first | apply SetAt.here | apply SetAt.there))); rfl) ))
    (refine wo_call (qk) rfl (by (repeat (first | apply sub_nil )); done) (by first | exact fun _ h => h | (intro r hr; cases hr; done) | (simp; done) | exact fun _ h => List.mem_append_left _ h | (intro r hr; simp [hr]; done)) rfl ?_; rintro v L' R' ⟨rfl, rfl, rfl⟩ H' hH RR hR; simp only [List.cons_append, List.nil_append] at hH hR; subst hH; have hR := hR.symm; subst hR)
    (repeat (first | ((first | (apply wo_v; rfl) ); (· first | (apply pv_ev; rfl) | (apply pv_fld; rfl) | (apply g_load; first | (apply pv_lda; rfl; (· (repeat (first | apply sel_here ))); (· (repeat (first | apply Cut.here0 | apply Cut.here )))) ) )) | apply wo_nil | apply wc_seq | apply wc_region | apply wc_ret | (apply wo_st; rfl; rfl; rfl; (· (repeat (first | apply sel_here ))); (· (repeat (first | apply SetAt.here | apply SetAt.there))); rfl) | (apply wo_sta; rfl; rfl; rfl; rfl; (· (repeat (first | apply sel_here | apply sel_there))); (· (repeat (first | apply LayAt.nil | apply LayAt.here ))); rfl) ))
    exact retv rfl (by (repeat (first | apply RV.nil | (apply RV.agg; rfl; (· (repeat (first | apply sel_here ))); infer_instance; (· (repeat (first | apply Cut.here0 | apply Cut.here )))) )); done) (⟨rfl, rfl, rfl⟩) (by (repeat (first | apply sub_nil | (apply sub_cons; (· (repeat (first | apply sel_here | apply sel_there)))))); done) (by first | exact fun _ h => h | (intro r hr; cases hr; done) | (simp; done) | exact fun _ h => List.mem_append_left _ h | (intro r hr; simp [hr]; done))
end Go.Proofs.Ytlhlidmhlhodiaa

/-
  Drawn regions with classes, where some operations read what no other operation changes ('stable readers').
-/
namespace Go.Proofs.Ytlhlidmhlhodiaa
set_option linter.unusedSimpArgs false
set_option linter.unusedVariables false
open Go.RowKit
def PVF (P : Program) (E : Env) (B0 : List It) (ro : List Ro) (Fm : List It → Prop) (o : Oper) (a : Act) (v : Value) : Prop := ∀ L F w, Fm L → Sat E.B E.S E.T (B0 ++ (L ++ F)) ro w → (execOp a.eval o).run P w = .ok (.value v) w
section
variable (P : Program) (E : Env) (B0 : List It) (ro : List Ro) (ops : Array Oper) (cls : Nat → List Nat) (tbl : Nat → List (List It) → Value → List (List It) → Prop) (Fm : List It → Prop)
def safeF (i : Nat) (o : Oper) (a : Act) (m : Nat → List It) : Prop :=
  if Region.wanted o (yielded ops a.tmps) then
    if cls i = [] then ∃ v, PVF P E B0 ro Fm o a v
    else (∃ v Ms, tbl i ((cls i).map m) v Ms ∧ Ms.length = (cls i).length) ∧ Outc P E B0 ro o a ((cls i).map m).flatten (fun v M => ∃ Ms, tbl i ((cls i).map m) v Ms ∧ Ms.length = (cls i).length ∧ M = Ms.flatten)
  else True
def outF (i : Nat) (o : Oper) (a : Act) (m : Nat → List It) (v : Value) (m' : Nat → List It) : Prop :=
  if Region.wanted o (yielded ops a.tmps) then
    if cls i = [] then PVF P E B0 ro Fm o a v ∧ m' = m
    else ∃ Ms, tbl i ((cls i).map m) v Ms ∧ Ms.length = (cls i).length ∧ m' = updL m (cls i) Ms
  else v = undef ∧ m' = m
def rOpF (i : Nat) (K : Act → (Nat → List It) → Prop) (a : Act) (m : Nat → List It) : Prop :=
  ∀ o, ops[i]? = some o → safeF P E B0 ro ops cls tbl Fm i o a m ∧ ∀ v m', outF P E B0 ro ops cls tbl Fm i o a m v m' → K (a.put o.dst v) m'
end
section
variable {P : Program} {E : Env} {B0 : List It} {ro : List Ro} {ops : Array Oper} {cls : Nat → List Nat} {tbl : Nat → List (List It) → Value → List (List It) → Prop} {Fm : List It → Prop} {md : Region.Mode}
theorem safe_outF {i : Nat} {o : Oper} {a : Act} {m : Nat → List It} (h : safeF P E B0 ro ops cls tbl Fm i o a m) : ∃ v m', outF P E B0 ro ops cls tbl Fm i o a m v m' := by
  unfold safeF at h
  unfold outF
  split at h
  · rename_i hw
    simp only [hw, if_true]
    split at h
    · rename_i hc
      simp only [hc, if_true]
      obtain ⟨v, hv⟩ := h
      exact ⟨v, m, hv, rfl⟩
    · rename_i hc
      simp only [hc, if_false]
      obtain ⟨⟨v, Ms, hv, hl⟩, _⟩ := h
      exact ⟨v, _, Ms, hv, hl, rfl⟩
  · rename_i hw
    simp only [hw]
    exact ⟨undef, m, rfl, rfl⟩
theorem rOpF_mono {i : Nat} {a : Act} {m : Nat → List It} {K K' : Act → (Nat → List It) → Prop} (h : ∀ a m, K a m → K' a m) (hh : rOpF P E B0 ro ops cls tbl Fm i K a m) : rOpF P E B0 ro ops cls tbl Fm i K' a m :=
  fun o ho => ⟨(hh o ho).1, fun v m' hv => h _ _ ((hh o ho).2 v m' hv)⟩
section
variable {i j : Nat} {oi oj : Oper} {a : Act} {m m' : Nat → List It} {u v : Value} {dst : Option Tmp}
theorem safe_putF (hs : ∀ cs b, oj.op ≠ .select cs b) (h : ∀ d, dst = some d → d ∉ oj.looksAt ops) : safeF P E B0 ro ops cls tbl Fm j oj (a.put dst v) m = safeF P E B0 ro ops cls tbl Fm j oj a m := by
  unfold safeF PVF Outc
  rw [wanted_put oj a dst v h, execOp_put oj hs a dst v h]
theorem out_putF (hs : ∀ cs b, oj.op ≠ .select cs b) (h : ∀ d, dst = some d → d ∉ oj.looksAt ops) : outF P E B0 ro ops cls tbl Fm j oj (a.put dst v) m u m' = outF P E B0 ro ops cls tbl Fm j oj a m u m' := by
  unfold outF PVF
  rw [wanted_put oj a dst v h, execOp_put oj hs a dst v h]
theorem out_otherF (h : outF P E B0 ro ops cls tbl Fm i oi a m v m') {ds : List Nat} (hc : ∀ d ∈ ds, d ∉ cls i) : ds.map m' = ds.map m := by
  unfold outF at h
  split at h
  · split at h
    · rw [h.2]
    · obtain ⟨Ms, _, _, rfl⟩ := h
      exact map_updL hc
  · rw [h.2]
theorem safe_otherF (h : outF P E B0 ro ops cls tbl Fm i oi a m v m') (hc : ∀ d ∈ cls j, d ∉ cls i) : safeF P E B0 ro ops cls tbl Fm j oj a m' = safeF P E B0 ro ops cls tbl Fm j oj a m := by
  unfold safeF
  rw [out_otherF h hc]
theorem out_diamondF {m1 m2 : Nat → List It} (hc : ∀ d ∈ cls j, d ∉ cls i) (h1 : outF P E B0 ro ops cls tbl Fm j oj a m u m1) (h2 : outF P E B0 ro ops cls tbl Fm i oi a m1 v m2) :
    ∃ m3, outF P E B0 ro ops cls tbl Fm i oi a m v m3 ∧ outF P E B0 ro ops cls tbl Fm j oj a m3 u m2 := by
  have key : (cls i).map m1 = (cls i).map m := out_otherF h1 (fun d hd hd' => hc d hd' hd)
  unfold outF at h1 h2 ⊢
  by_cases wi : Region.wanted oi (yielded ops a.tmps) = true
  · simp only [wi, if_true] at h2 ⊢
    by_cases wj : Region.wanted oj (yielded ops a.tmps) = true
    · simp only [wj, if_true] at h1 ⊢
      by_cases ci : cls i = []
      · simp only [ci, if_true] at h2 ⊢
        obtain ⟨h2, rfl⟩ := h2
        exact ⟨m, ⟨h2, rfl⟩, h1⟩
      · simp only [ci, if_false] at h2 ⊢
        rw [key] at h2
        obtain ⟨Ms, h2, hl, rfl⟩ := h2
        refine ⟨updL m (cls i) Ms, ⟨Ms, h2, hl, rfl⟩, ?_⟩
        by_cases cj : cls j = []
        · simp only [cj, if_true] at h1 ⊢
          exact ⟨h1.1, by rw [h1.2]⟩
        · simp only [cj, if_false] at h1 ⊢
          obtain ⟨Ns, h1, hl', rfl⟩ := h1
          refine ⟨Ns, by rw [map_updL hc]; exact h1, hl', ?_⟩
          exact (updL_comm (cls j) Ns (cls i) Ms m hc).symm
    · simp only [wj] at h1 ⊢
      obtain ⟨rfl, rfl⟩ := h1
      exact ⟨m2, h2, rfl, rfl⟩
  · simp only [wi] at h2 ⊢
    obtain ⟨rfl, rfl⟩ := h2
    exact ⟨m, ⟨rfl, rfl⟩, h1⟩
theorem rOp_swapF {K : Act → (Nat → List It) → Prop} (hi : ops[i]? = some oi) (hj : ops[j]? = some oj) (hap : oi.apart ops oj = true) (hc : ∀ d ∈ cls j, d ∉ cls i) (hsi : ∀ cs b, oi.op ≠ .select cs b) (hsj : ∀ cs b, oj.op ≠ .select cs b)
    (H : rOpF P E B0 ro ops cls tbl Fm i (rOpF P E B0 ro ops cls tbl Fm j K) a m) : rOpF P E B0 ro ops cls tbl Fm j (rOpF P E B0 ro ops cls tbl Fm i K) a m := by
  obtain ⟨h1, h2, h3⟩ := Oper.apart_spec hap
  obtain ⟨Hs, Ho⟩ := H oi hi
  intro o ho
  obtain rfl : oj = o := by rw [hj] at ho; exact Option.some.inj ho
  refine ⟨?_, fun u m1 hu o ho => ?_⟩
  · obtain ⟨v, m1, hv⟩ := safe_outF Hs
    have := (Ho v m1 hv oj hj).1
    rw [safe_putF hsj h1, safe_otherF hv hc] at this
    exact this
  · obtain rfl : oi = o := by rw [hi] at ho; exact Option.some.inj ho
    refine ⟨?_, fun v m2 hv => ?_⟩
    · rw [safe_putF hsi h3, safe_otherF hu (fun d hd hd' => hc d hd' hd)]
      exact Hs
    · rw [out_putF hsi h3] at hv
      obtain ⟨m3, h4, h5⟩ := out_diamondF hc hu hv
      have := (Ho v m3 h4 oj hj).2 u m2 (by rw [out_putF hsj h1]; exact h5)
      rw [← Act.put_comm a v u h2]
      exact this
end
def wpAnyF (P : Program) (E : Env) (B0 : List It) (ro : List Ro) (ops : Array Oper) (cls : Nat → List Nat) (tbl : Nat → List (List It) → Value → List (List It) → Prop) (Fm : List It → Prop) (md : Region.Mode) (Q : Act → (Nat → List It) → Prop) : Nat → Array Bool → Act → (Nat → List It) → Prop
  | 0, listed, a, m => Region.ready md ops listed = [] ∧ Q a m
  | fuel + 1, listed, a, m => (Region.ready md ops listed = [] → Q a m) ∧ ∀ i ∈ Region.ready md ops listed, rOpF P E B0 ro ops cls tbl Fm i (wpAnyF P E B0 ro ops cls tbl Fm md Q fuel (listed.setIfInBounds i true)) a m
def wpF (P : Program) (E : Env) (B0 : List It) (ro : List Ro) (ops : Array Oper) (cls : Nat → List Nat) (tbl : Nat → List (List It) → Value → List (List It) → Prop) (Fm : List It → Prop) (Q : Act → (Nat → List It) → Prop) : List Oper → Nat → Act → (Nat → List It) → Prop
  | [], _, a, m => Q a m
  | o :: l, k, a, m => rOpF P E B0 ro ops cls tbl Fm k (wpF P E B0 ro ops cls tbl Fm Q l (k + 1)) a m
theorem out_rdrF {i : Nat} {oi : Oper} {a : Act} {m m' : Nat → List It} {v : Value} (hr : Rdr tbl i) (h : outF P E B0 ro ops cls tbl Fm i oi a m v m') : m' = m := by
  unfold outF at h
  split at h
  · split at h
    · exact h.2
    · obtain ⟨Ms, h1, _, rfl⟩ := h
      rw [hr _ _ _ h1]; exact updL_self _ _
  · exact h.2
theorem rOp_swapFR {i j : Nat} {oi oj : Oper} {a : Act} {m : Nat → List It} {K : Act → (Nat → List It) → Prop} (hi : ops[i]? = some oi) (hj : ops[j]? = some oj) (hap : oi.apart ops oj = true) (ri : Rdr tbl i) (rj : Rdr tbl j) (hsi : ∀ cs b, oi.op ≠ .select cs b) (hsj : ∀ cs b, oj.op ≠ .select cs b)
    (H : rOpF P E B0 ro ops cls tbl Fm i (rOpF P E B0 ro ops cls tbl Fm j K) a m) : rOpF P E B0 ro ops cls tbl Fm j (rOpF P E B0 ro ops cls tbl Fm i K) a m := by
  obtain ⟨h1, h2, h3⟩ := Oper.apart_spec hap
  obtain ⟨Hs, Ho⟩ := H oi hi
  intro o ho
  obtain rfl : oj = o := by rw [hj] at ho; exact Option.some.inj ho
  refine ⟨?_, fun u m1 hu o ho => ?_⟩
  · obtain ⟨v, m1, hv⟩ := safe_outF Hs
    have := (Ho v m1 hv oj hj).1
    rw [safe_putF hsj h1, out_rdrF ri hv] at this
    exact this
  · obtain rfl : oi = o := by rw [hi] at ho; exact Option.some.inj ho
    obtain rfl := out_rdrF rj hu
    refine ⟨?_, fun v m2 hv => ?_⟩
    · rw [safe_putF hsi h3]
      exact Hs
    · rw [out_putF hsi h3] at hv
      obtain rfl := out_rdrF ri hv
      have := (Ho v _ hv oj hj).2 u _ (by rw [out_putF hsj h1]; exact hu)
      rw [← Act.put_comm a v u h2]
      exact this
theorem wpAnyF_first {Q : Act → (Nat → List It) → Prop} {i : Nat} {oi : Oper} (hi : ops[i]? = some oi) (hsel : ∀ (j : Nat) (o : Oper) cs b, ops[j]? = some o → o.op ≠ .select cs b)
    (hcls : ∀ (j : Nat) (listed : Array Bool), j ≠ i → Closed md ops listed → (∀ k, k < i → listed.getD k true = true) → listed.getD i true = false → j ∈ Region.ready md ops listed → (∀ d ∈ cls j, d ∉ cls i) ∨ (Rdr tbl i ∧ Rdr tbl j)) :
    ∀ (fuel : Nat) (listed : Array Bool) (a : Act) (m : Nat → List It), Closed md ops listed → (∀ k, k < i → listed.getD k true = true) →
      (∀ j oj, ops[j]? = some oj → j ≠ i → listed.getD j true = false → (∀ e ∈ oj.after, Region.binds md e = true → e.on ≠ i) → oi.apart ops oj = true) →
      i ∈ Region.ready md ops listed → rOpF P E B0 ro ops cls tbl Fm i (wpAnyF P E B0 ro ops cls tbl Fm md Q fuel (listed.setIfInBounds i true)) a m → wpAnyF P E B0 ro ops cls tbl Fm md Q (fuel + 1) listed a m := by
  intro fuel
  induction fuel with
  | zero =>
    intro listed a m _ _ _ hr H
    refine ⟨fun h => (by rw [h] at hr; cases hr), fun j hj => ?_⟩
    by_cases hji : j = i
    · subst hji; exact H
    · have := ready_mono hj hji
      obtain ⟨hs, ho⟩ := H oi hi
      obtain ⟨v, m', hv⟩ := safe_outF hs
      rw [(ho v m' hv).1] at this
      cases this
  | succ fuel ih =>
    intro listed a m hcl hpre hfree hr H
    refine ⟨fun h => (by rw [h] at hr; cases hr), fun j hj => ?_⟩
    by_cases hji : j = i
    · subst hji; exact H
    · obtain ⟨hjun, oj, hoj, hall⟩ := mem_ready.1 hj
      have hnot : ∀ e ∈ oj.after, Region.binds md e = true → e.on ≠ i := fun e he hb heq => by
        have h1 := hall e he hb
        have h0 := (mem_ready.1 hr).1
        rw [heq] at h1
        rcases Nat.lt_or_ge i listed.size with h' | h'
        · simp [h'] at h0 h1; rw [h0] at h1; cases h1
        · simp [Array.getElem?_eq_none h'] at h1
      have h1 := rOpF_mono (fun a' m' h => h.2 j (ready_mono hj hji)) H
      have f1 := hfree j oj hoj hji hjun hnot
      have f2 := hcls j listed hji hcl hpre (mem_ready.1 hr).1 hj
      have h2 := f2.elim (fun f2 => rOp_swapF hi hoj f1 f2 (fun cs b => hsel i oi cs b hi) (fun cs b => hsel j oj cs b hoj) h1) (fun f2 => rOp_swapFR hi hoj f1 f2.1 f2.2 (fun cs b => hsel i oi cs b hi) (fun cs b => hsel j oj cs b hoj) h1)
      refine rOpF_mono (fun a' m' h3 => ih (listed.setIfInBounds j true) a' m' (hcl.set hj) (fun k hk => ?_) (fun k ok hk hki hun hno => ?_) (ready_mono hr (Ne.symm hji)) ?_) h2
      · by_cases hjk : j = k
        · subst hjk
          rcases Nat.lt_or_ge j listed.size with h2 | h2
          · simp [h2]
          · simp [h2]
        · rw [getD_set_ne true hjk]; exact hpre k hk
      · refine hfree k ok hk hki ?_ hno
        by_cases hjk : j = k
        · subst hjk; exact hjun
        · rw [getD_set_ne true hjk] at hun; exact hun
      · rw [Array.setIfInBounds_comm _ _ hji]
        exact h3
theorem wpAnyF_lex {Q : Act → (Nat → List It) → Prop} {rd : List Nat} (hs : Region.noSelect ops = true) (hcl : clsR md ops cls rd = true) (hrd : ∀ k ∈ rd, Rdr tbl k) : ∀ (l : List Oper) (k : Nat) (listed : Array Bool) (a : Act) (m : Nat → List It), Closed md ops listed → ops.size = listed.size → (∀ j, l[j]? = ops[k + j]?) → (∀ j, j < k → listed.getD j true = true) →
    Region.lexFrom md ops l.length k listed = true → wpF P E B0 ro ops cls tbl Fm Q l k a m → wpAnyF P E B0 ro ops cls tbl Fm md Q l.length listed a m
  | [], _, _, _, _, _, _, _, _, hB, h => ⟨by simpa [Region.lexFrom] using hB, h⟩
  | o :: l, k, listed, a, m, hC, hz, hl, hk, hB, h => by
    have h0 : ops[k]? = some o := by simpa using (hl 0).symm
    simp only [List.length_cons, Region.lexFrom, Bool.and_eq_true] at hB
    obtain ⟨⟨hr, hf⟩, hB'⟩ := hB
    have hr' : k ∈ Region.ready md ops listed := by simpa using hr
    refine wpAnyF_first h0 (Region.noSelect_spec hs) (fun j ld hjk hCl hpre hun hj => ?_) l.length listed a m hC hk (fun j oj hj hjk hun hno => Region.free_spec h0 hf j oj hj hjk hun hno) hr' ?_
    · obtain ⟨hjun, oj, hoj, hall⟩ := mem_ready.1 hj
      have hle := lex_lt hpre hjun
      have hks : k < ld.size := by
        rcases Nat.lt_or_ge k ld.size with h' | h'
        · exact h'
        · simp [Array.getD, Nat.not_lt.2 h'] at hun
      rcases clsR_spec hcl hoj (show k < j by omega) with h1 | ⟨h1, h2⟩ | h1
      · exact .inl h1
      · exact .inr ⟨hrd _ h1, hrd _ h2⟩
      · exfalso
        obtain ⟨o2, h2, e, he, hb, hne⟩ := reach_not hCl hun hks _ _ h1
        rw [hoj] at h2
        obtain rfl := Option.some.inj h2
        rw [hall e he hb] at hne; cases hne
    · refine rOpF_mono (fun a' m' h' => wpAnyF_lex hs hcl hrd l (k + 1) _ a' m' (hC.set hr') (by simpa using hz) (fun j => by have := hl (j + 1); simpa [Nat.add_assoc, Nat.add_comm 1 j] using this) (fun j hj => ?_) hB' h') h
      rcases Nat.lt_or_ge j k with h1 | h1
      · rw [getD_set_ne true (show k ≠ j by omega)]; exact hk j h1
      · obtain rfl : j = k := by omega
        rcases Nat.lt_or_ge j listed.size with h2 | h2
        · simp [h2]
        · simp [h2]
theorem wpAny_of_F {all : List Nat} (hn : all.Nodup) {c0 : Nat} (hc0 : c0 ∈ all) (hFam : ∀ i (m : Nat → List It) v Ms, Fm (m c0) → tbl i ((cls i).map m) v Ms → Ms.length = (cls i).length → Fm (updL m (cls i) Ms c0)) (hcs : ∀ i, (cls i).Nodup ∧ ∀ c ∈ cls i, c ∈ all) {Q : Act → (Nat → List It) → Prop} {Q' : Exit → Act → World → Prop} (hQ : ∀ a m w, Sat E.B E.S E.T (Hp B0 all m) ro w → Q a m → Q' .normal a w) :
    ∀ (fuel : Nat) (listed : Array Bool) (a : Act) (m : Nat → List It) (w : World), Fm (m c0) → Sat E.B E.S E.T (Hp B0 all m) ro w → wpAnyF P E B0 ro ops cls tbl Fm md Q fuel listed a m → wpAny P md ops Q' fuel listed a w
  | 0, _, _, _, _, _, hw, h => ⟨h.1, hQ _ _ _ hw h.2⟩
  | fuel + 1, listed, a, m, w, hF, hw, h => ⟨fun h0 => hQ _ _ _ hw (h.1 h0), fun i hi => by
    obtain ⟨_, o, ho, _⟩ := mem_ready.1 hi
    obtain ⟨hs, hk⟩ := h.2 i hi o ho
    have ih := wpAny_of_F hn hc0 hFam hcs hQ fuel (listed.setIfInBounds i true)
    unfold wpOp
    simp only [ho]
    unfold safeF at hs
    unfold outF at hk
    split
    · rename_i hwt
      simp only [hwt, if_true] at hs hk
      refine .inl ?_
      by_cases hc : cls i = []
      · simp only [hc, if_true] at hs hk
        obtain ⟨v, hv⟩ := hs
        unfold Oper.wp
        have hpF : (Hp B0 all m).Perm (B0 ++ (m c0 ++ (all.filter fun c => ![c0].contains c).flatMap m)) := by
          unfold Hp
          have := flat_split hn (cs := [c0]) (by simp) (fun c hc => by rcases List.mem_singleton.1 hc with rfl; exact hc0) m
          simp only [List.map_cons, List.map_nil, List.flatten_cons, List.flatten_nil, List.append_nil] at this
          exact this.append_left B0
        rw [hv _ _ w hF (hw.perm hpF)]
        exact ih _ _ _ hF hw (hk v m ⟨hv, rfl⟩)
      · simp only [hc, if_false] at hs hk
        have hp1 : (Hp B0 all m).Perm (((cls i).map m).flatten ++ (B0 ++ (all.filter fun c => !(cls i).contains c).flatMap m)) := by
          unfold Hp
          exact ((flat_split hn (hcs i).1 (hcs i).2 m).append_left B0).trans (by rw [← List.append_assoc, ← List.append_assoc]; exact List.perm_append_comm.append_right _)
        have hp2 : ∀ Ms : List (List It), Ms.length = (cls i).length → (Ms.flatten ++ (B0 ++ (all.filter fun c => !(cls i).contains c).flatMap m)).Perm (Hp B0 all (updL m (cls i) Ms)) := fun Ms hl => by
          unfold Hp
          refine List.Perm.trans ?_ ((flat_split hn (hcs i).1 (hcs i).2 (updL m (cls i) Ms)).append_left B0).symm
          rw [flat_updL (hcs i).1 hl, rest_same, ← List.append_assoc, ← List.append_assoc]
          exact List.perm_append_comm.append_right _
        have h1 := hs.2 _ w (hw.perm hp1)
        unfold Oper.wp
        generalize (execOp a.eval o).run P w = r at h1
        cases r with
        | ok n w' =>
          cases n <;> simp only [outcU] at h1 <;> simp only [Oper.upon] <;> first | exact h1.elim | skip
          case value u => obtain ⟨M, ⟨Ms, h2, hl, rfl⟩, h3⟩ := h1; exact ih _ _ _ (hFam i m _ Ms hF h2 hl) (h3.perm (hp2 Ms hl)) (hk _ _ ⟨Ms, h2, hl, rfl⟩)
          case skip => obtain ⟨M, ⟨Ms, h2, hl, rfl⟩, h3⟩ := h1; exact ih _ _ _ (hFam i m _ Ms hF h2 hl) (h3.perm (hp2 Ms hl)) (hk _ _ ⟨Ms, h2, hl, rfl⟩)
          case enter f args =>
            obtain ⟨rfl, h2⟩ := h1
            refine h2.mono fun e w'' ⟨v, M, he, ⟨Ms, h3, hl, hM⟩, h4⟩ => ?_
            subst he; subst hM
            exact ih _ _ _ (hFam i m _ Ms hF h3 hl) (h4.perm (hp2 Ms hl)) (hk _ _ ⟨Ms, h3, hl, rfl⟩)
        | halt x w' => simp only [outcU] at h1
    · rename_i hwt
      simp only [hwt] at hk
      exact ih _ _ _ hF hw (hk undef m ⟨rfl, rfl⟩)⟩
theorem HdM.soundF {N : Nat} {K : List (Nat × Value) → (Nat → List It) → Prop} {k : Nat} {l : List Oper} {fr : List (Nat × Value)} {m : Nat → List It} (h : HdM P N E B0 ro ops cls tbl K k l fr m) (hw0 : ∃ L F w, Fm L ∧ Sat E.B E.S E.T (B0 ++ (L ++ F)) ro w) {Q : Act → (Nat → List It) → Prop}
    (hQ : ∀ fr a m, K fr m → Holds N fr a → Q a m) : (∀ j, j < l.length → l[j]? = ops[k + j]?) → ∀ a, Holds N fr a → wpF P E B0 ro ops cls tbl Fm Q l k a m := by
  have shift : ∀ {o : Oper} {l : List Oper} {k : Nat}, (∀ j, j < (o :: l).length → (o :: l)[j]? = ops[k + j]?) → ops[k]? = some o ∧ ∀ j, j < l.length → l[j]? = ops[k + 1 + j]? := fun h =>
    ⟨by simpa using (h 0 (by simp)).symm, fun j hj => by have := h (j + 1) (by simp; omega); simpa [Nat.add_assoc, Nat.add_comm 1 j] using this⟩
  induction h with
  | nil h => exact fun _ a ha => hQ _ a _ h ha
  | @val k fr m op ty pos af rest d v g hd hc hg hv _ ih =>
    intro hl a ha o ho
    obtain ⟨h0, hl'⟩ := shift hl
    rw [h0] at ho
    obtain rfl := Option.some.inj ho
    have hpv : PVF P E B0 ro Fm ⟨some d, op, ty, pos, af, g⟩ a v := fun L F w _ hw => hv N E a w _ _ _ _ _ ⟨ha, hw.left⟩
    unfold safeF outF
    simp only [hg.wanted ha, if_true, hc]
    refine ⟨⟨v, hpv⟩, fun v' m' ⟨hv', hm'⟩ => ?_⟩
    subst hm'
    obtain ⟨L, F, w, hL, hw⟩ := hw0
    have e : v' = v := by
      have h1 := hpv L F w hL hw
      have h2 := hv' L F w hL hw
      rw [h1] at h2
      injection h2 with h2 _
      injection h2 with h2
      exact h2.symm
    subst e
    exact ih hl' _ (ha.put (Nat.le_of_ble_eq_true hd) _)
  | @eff k fr m dst op ty pos af rest cs Ls g hc hne hm hd hg ho hin _ ih =>
    intro hl a ha o ho'
    obtain ⟨h0, hl'⟩ := shift hl
    rw [h0] at ho'
    obtain rfl := Option.some.inj ho'
    unfold safeF outF
    simp only [hg.wanted ha, if_true, hc, hne, if_false, hm]
    refine ⟨⟨hin, ho a ha⟩, fun v' m' ⟨Ms, hv', hlen, hm'⟩ => ?_⟩
    subst hm'
    exact ih v' Ms hv' hlen hl' _ (ha.putF hd _)
  | @skip k fr m d op ty pos af rest j s b c hg hs hb hd _ ih =>
    intro hl a ha o ho
    obtain ⟨h0, hl'⟩ := shift hl
    rw [h0] at ho
    obtain rfl := Option.some.inj ho
    have hwt : ¬ Region.wanted (⟨some d, op, ty, pos, af, some (j, c)⟩ : Oper) (yielded ops a.tmps) = true := by simp [Region.wanted, yielded_of ha hg hs]; simpa using hb
    unfold safeF outF
    simp only [hwt]
    refine ⟨trivial, fun v' m' ⟨hv', hm'⟩ => ?_⟩
    subst hv'; subst hm'
    exact ih hl' _ (ha.put (Nat.le_of_ble_eq_true hd) _)
  | @skipu k fr m d op ty pos af rest j s c hg hs hd _ ih =>
    intro hl a ha o ho
    obtain ⟨h0, hl'⟩ := shift hl
    rw [h0] at ho
    obtain rfl := Option.some.inj ho
    have hwt : ¬ Region.wanted (⟨some d, op, ty, pos, af, some (j, c)⟩ : Oper) (yielded ops a.tmps) = true := by simp [Region.wanted, yielded_undef ha hg hs]
    unfold safeF outF
    simp only [hwt]
    refine ⟨trivial, fun v' m' ⟨hv', hm'⟩ => ?_⟩
    subst hv'; subst hm'
    exact ih hl' _ (ha.put (Nat.le_of_ble_eq_true hd) _)
  | @dec k fr m rest s p _ hs _ _ iht ihf =>
    intro hl a ha
    by_cases hp : p
    · exact iht hp hl a (ha.same hs (by simp [hp]))
    · exact ihf hp hl a (ha.same hs (by simp [hp]))
inductive HdF (P : Program) (N : Nat) (E : Env) (B0 : List It) (ro : List Ro) (ops : Array Oper) (cls : Nat → List Nat) (tbl : Nat → List (List It) → Value → List (List It) → Prop) (Fm : List It → Prop) (K : List (Nat × Value) → (Nat → List It) → Prop) : Nat → List Oper → List (Nat × Value) → (Nat → List It) → Prop
  | done {k rest fr m} (h : HdM P N E B0 ro ops cls tbl K k rest fr m) : HdF P N E B0 ro ops cls tbl Fm K k rest fr m
  | val {k fr m op ty pos af rest d v} (hd : Nat.ble (d + 1) N = true) (hc : cls k = []) (hv : Pv P ⟨fr, B0, ro⟩ op v) (h : HdF P N E B0 ro ops cls tbl Fm K (k + 1) rest ((d, v) :: fr) m) :
      HdF P N E B0 ro ops cls tbl Fm K k (⟨some d, op, ty, pos, af, none⟩ :: rest) fr m
  | vst {k fr m op ty pos af rest d v} (hd : Nat.ble (d + 1) N = true) (hc : cls k = []) (hv : ∀ L, Fm L → Pv P ⟨fr, L ++ B0, ro⟩ op v) (h : HdF P N E B0 ro ops cls tbl Fm K (k + 1) rest ((d, v) :: fr) m) :
      HdF P N E B0 ro ops cls tbl Fm K k (⟨some d, op, ty, pos, af, none⟩ :: rest) fr m
  | eff {k fr m dst op ty pos af rest cs Ls g} (hc : cls k = cs) (hne : cs ≠ []) (hm : cs.map m = Ls) (hd : dstOk dst N = true) (hg : GOk ops fr g) (ho : ∀ a, Holds N fr a → Outc P E B0 ro ⟨dst, op, ty, pos, af, g⟩ a Ls.flatten (fun v M => ∃ Ms, tbl k Ls v Ms ∧ Ms.length = cs.length ∧ M = Ms.flatten))
      (hin : ∃ v Ms, tbl k Ls v Ms ∧ Ms.length = cs.length) (h : ∀ v Ms, tbl k Ls v Ms → Ms.length = cs.length → HdF P N E B0 ro ops cls tbl Fm K (k + 1) rest (putF dst v fr) (updL m cs Ms)) : HdF P N E B0 ro ops cls tbl Fm K k (⟨dst, op, ty, pos, af, g⟩ :: rest) fr m
theorem HdF.sound {N : Nat} {K : List (Nat × Value) → (Nat → List It) → Prop} {k : Nat} {l : List Oper} {fr : List (Nat × Value)} {m : Nat → List It} (h : HdF P N E B0 ro ops cls tbl Fm K k l fr m) (hw0 : ∃ L F w, Fm L ∧ Sat E.B E.S E.T (B0 ++ (L ++ F)) ro w) {Q : Act → (Nat → List It) → Prop}
    (hQ : ∀ fr a m, K fr m → Holds N fr a → Q a m) : (∀ j, j < l.length → l[j]? = ops[k + j]?) → ∀ a, Holds N fr a → wpF P E B0 ro ops cls tbl Fm Q l k a m := by
  have shift : ∀ {o : Oper} {l : List Oper} {k : Nat}, (∀ j, j < (o :: l).length → (o :: l)[j]? = ops[k + j]?) → ops[k]? = some o ∧ ∀ j, j < l.length → l[j]? = ops[k + 1 + j]? := fun h =>
    ⟨by simpa using (h 0 (by simp)).symm, fun j hj => by have := h (j + 1) (by simp; omega); simpa [Nat.add_assoc, Nat.add_comm 1 j] using this⟩
  have hgn : ∀ {fr : List (Nat × Value)}, GOk ops fr none := fun {fr} => gok_none
  have core : ∀ {k : Nat} {fr : List (Nat × Value)} {m : Nat → List It} {op : Op} {ty : TypeId} {pos : String} {af : Array Edge} {rest : List Oper} {d : Tmp} {v : Value}, Nat.ble (d + 1) N = true → cls k = [] → (∀ a, Holds N fr a → PVF P E B0 ro Fm ⟨some d, op, ty, pos, af, none⟩ a v) →
      ((∀ j, j < rest.length → rest[j]? = ops[k + 1 + j]?) → ∀ a, Holds N ((d, v) :: fr) a → wpF P E B0 ro ops cls tbl Fm Q rest (k + 1) a m) →
      (∀ j, j < ((⟨some d, op, ty, pos, af, none⟩ : Oper) :: rest).length → ((⟨some d, op, ty, pos, af, none⟩ : Oper) :: rest)[j]? = ops[k + j]?) → ∀ a, Holds N fr a → wpF P E B0 ro ops cls tbl Fm Q (⟨some d, op, ty, pos, af, none⟩ :: rest) k a m := by
    intro k fr m op ty pos af rest d v hd hc hpv' ih hl a ha o ho
    obtain ⟨h0, hl'⟩ := shift hl
    rw [h0] at ho
    obtain rfl := Option.some.inj ho
    have hpv := hpv' a ha
    unfold safeF outF
    simp only [hgn.wanted ha, if_true, hc]
    refine ⟨⟨v, hpv⟩, fun v' m' ⟨hv', hm'⟩ => ?_⟩
    subst hm'
    obtain ⟨L, F, w, hL, hw⟩ := hw0
    have e : v' = v := by
      have h1 := hpv L F w hL hw
      have h2 := hv' L F w hL hw
      rw [h1] at h2
      injection h2 with h2 _
      injection h2 with h2
      exact h2.symm
    subst e
    exact ih hl' _ (ha.put (Nat.le_of_ble_eq_true hd) _)
  induction h with
  | done h => exact h.soundF hw0 hQ
  | @val k fr m op ty pos af rest d v hd hc hv _ ih =>
    exact core hd hc (fun a ha L F w _ hw => hv N E a w _ _ _ _ _ ⟨ha, hw.left⟩) ih
  | @vst k fr m op ty pos af rest d v hd hc hv _ ih =>
    exact core hd hc (fun a ha L F w hL hw => hv L hL N E a w _ _ _ _ _ ⟨ha, (hw.perm (List.append_assoc B0 L F ▸ (List.perm_append_comm (l₁ := B0) (l₂ := L)).append_right F)).left⟩) ih
  | @eff k fr m dst op ty pos af rest cs Ls g hc hne hm hd hg ho hin _ ih =>
    intro hl a ha o ho'
    obtain ⟨h0, hl'⟩ := shift hl
    rw [h0] at ho'
    obtain rfl := Option.some.inj ho'
    unfold safeF outF
    simp only [hg.wanted ha, if_true, hc, hne, if_false, hm]
    refine ⟨⟨hin, ho a ha⟩, fun v' m' ⟨Ms, hv', hlen, hm'⟩ => ?_⟩
    subst hm'
    exact ih v' Ms hv' hlen hl' _ (ha.putF hd _)
theorem wc_regF (Fm : List It → Prop) (c0 : Nat) {N : Nat} {fr : List (Nat × Value)} {hp : List It} {Kn Kr : St → Prop} {Kx : List (Nat × (St → Prop))} {id : Nat} {l : List Oper} (rd all : List Nat) (cls : Nat → List Nat) (tbl : Nat → List (List It) → Value → List (List It) → Prop) (B0 : List It) (m0 : Nat → List It)
    (hm : P.follows .mixedOrders = true) (hB : Region.lexB .any l.toArray = true) (hcl : clsR .any l.toArray cls rd = true) (hrd : ∀ k ∈ rd, Rdr tbl k) (hn : all.Nodup) (hc0 : c0 ∈ all) (hFam : ∀ i (m : Nat → List It) v Ms, Fm (m c0) → tbl i ((cls i).map m) v Ms → Ms.length = (cls i).length → Fm (updL m (cls i) Ms c0)) (hF0 : Fm (m0 c0)) (hcs : ∀ i, (cls i).Nodup ∧ ∀ c ∈ cls i, c ∈ all) (hperm : hp.Perm (Hp B0 all m0))
    (h : HdF P N E B0 ro l.toArray cls tbl Fm (fun fr m => ∀ H, H = Hp B0 all m → Kn ⟨fr, H, ro⟩) 0 l fr m0) : WC P N E (.region id l.toArray true) ⟨fr, hp, ro⟩ Kn Kx Kr := fun a w ok => by
  simp only [Region.lexB, Bool.and_eq_true] at hB
  have hw : Sat E.B E.S E.T (Hp B0 all m0) ro _ := (ok.s.drawn (w.drawn + 1)).perm hperm
  refine wp_region_any hm (wpAny_of_F (ro := ro) (tbl := tbl) (Q := fun a m => ∃ fr', Kn ⟨fr', Hp B0 all m, ro⟩ ∧ Holds N fr' a) hn hc0 hFam hcs (fun a m w' hs ⟨fr', hk, ha⟩ => ⟨_, hk, ha, hs⟩) _ _ a m0 _ hF0 hw ?_)
  have hpF : (Hp B0 all m0).Perm (B0 ++ (m0 c0 ++ (all.filter fun c => ![c0].contains c).flatMap m0)) := by
    unfold Hp
    have := flat_split hn (cs := [c0]) (by simp) (fun c hc => by rcases List.mem_singleton.1 hc with rfl; exact hc0) m0
    simp only [List.map_cons, List.map_nil, List.flatten_cons, List.flatten_nil, List.append_nil] at this
    exact this.append_left B0
  have := wpAnyF_lex (P := P) (E := E) (B0 := B0) (ro := ro) (tbl := tbl) (md := .any) hB.1 hcl hrd l 0 (Array.replicate l.toArray.size false) a m0 closed0 (by simp) (by simp) (fun j hj => by omega) (by simpa using hB.2)
    (h.sound (Q := fun a m => ∃ fr', Kn ⟨fr', Hp B0 all m, ro⟩ ∧ Holds N fr' a) ⟨_, _, _, hF0, hw.perm hpF⟩ (fun fr a m hk ha => ⟨fr, hk _ rfl, ha⟩) (fun j _ => by simp) a ok.h)
  simpa using this
end
theorem Fn.wide {P : Program} {f : FuncId} {args : Array Value} {L : List It} {R : List Ro} {Post : Value → List It → List Ro → Prop} (h : Fn P f args L R Post) (X : List It) : Fn P f args (L ++ X) R Post := fun w hw => by
  have hs : ∀ b ∈ feet L, b ∈ feet (L ++ X) := fun b hb => by
    obtain ⟨x, h1, h2⟩ := mem_feet.1 hb
    exact mem_feet.2 ⟨x, List.mem_append_left _ h1, h2⟩
  have hl := hw.left
  refine (h w ⟨Frm.refl _ _, hl.sat, fun x hx b hb => .inl (mem_feet.2 ⟨x, hx, hb⟩), hl.dis, hl.rds, hl.rod, fun r hr => .inr (.inl (List.mem_map.2 ⟨r, hr, rfl⟩))⟩).mono fun e w' ⟨v, L', R', he, hP, hS⟩ => ⟨v, L', R', he, hP, ⟨hS.frm.os, hS.frm.tape, hS.frm.output, hS.frm.size, fun k hk hn => hS.frm.block k hk (fun hm => hn (hs k hm))⟩, hS.sat, fun x hx b hb => (hS.own x hx b hb).imp (hs b) id, hS.dis, hS.rds, hS.rod, fun r hr => (hS.rok r hr).imp (hs _) id⟩
end Go.Proofs.Ytlhlidmhlhodiaa
