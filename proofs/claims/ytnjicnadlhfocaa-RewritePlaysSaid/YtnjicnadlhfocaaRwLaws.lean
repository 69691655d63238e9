/-
  Package rewrite, its laws: awake, RewriteTimes.
-/
import Derived.Test.YtnjicnadlhfocaaRwF
import Derived.Test.YtnjicnadlhfocaaSpL
namespace Go.Proofs.Ytnjicnadlhfocaa
set_option linter.unusedSimpArgs false
set_option linter.unusedVariables false
open Go.RowKit
attribute [local irreducible] Pv WO WC Fn
set_option maxRecDepth 100000
attribute [local irreducible] ByteArray.extract

theorem shM_same (s sh la t : Int) : shM s sh la true s t = sh := by simp [shM]
theorem laM_same (s sh la t : Int) : laM s sh la true s t = max la (t + sh) := by simp [laM, shM]
theorem shM_new {s src : Int} (h : s ≠ src) (sh la t : Int) : shM src sh la true s t = la + 3000 - t := by simp [shM, h]
theorem laM_new {s src : Int} (h : s ≠ src) (sh la t : Int) : laM src sh la true s t = max la (t + (la + 3000 - t)) := by simp [laM, shM, h]
theorem pk1_at (a : Bool) (b c d e : Int) (x : ByteArray) : ([pkR a b c d e x] : List (List Value))[0]? = some [.bool a, .int .u8 b, .int .u16 c, .int .u32 d, .int .u32 e, .slice none 0 0, .bool false, .int .u16 0, .string ByteArray.empty, .string x, .int .i64 0] := rfl
theorem rwOne (g : Nat) (ss kd sq pic lv src sh la : Int) (be : Bool) (fr pk by_ : Int) (s t : Int) (tx : ByteArray) (ao : Option Addr) (c : Nat) (R : List Ro) (sh2 la2 t2 sq2 fr2 pk2 by2 : Int) (hS : SR R 7 ao 1 c [[.int .i64 0, .int .i64 t, .bool false, .bool false, .bool false, .string tx, .int .i64 0]])
    (h1 : shM src sh la be s t = sh2) (h2 : laM src sh la be s t = la2) (h3 : la2 % 4294967296 = t2) (h4 : (sq + 1) % 65536 = sq2) (h5 : fr + 1 = fr2) (h6 : pk + 1 = pk2) (h7 : by_ + tx.size = by2)
    (hb : 0 ≤ t ∧ t ≤ 1099511627776 ∧ 0 ≤ la ∧ la ≤ 1099511627776 ∧ -1099511627776 ≤ sh ∧ sh ≤ 1099511627776) (hb2 : -1 ≤ pic ∧ pic ≤ 40000 ∧ -1 ≤ lv ∧ lv ≤ 300) (hb3 : 0 ≤ fr ∧ fr ≤ 1000000 ∧ 0 ≤ pk ∧ pk ≤ 1000000 ∧ 0 ≤ by_ ∧ by_ ≤ 1000000000) (ht : tx.size ≤ 1000) :
    Fn Try.prog 31 #[.pointer (some ⟨g, 0, none⟩), .int .i64 s, .agg #[.slice ao 1 c]] [otI g false ss kd sq pic lv src sh la be fr pk by_] R
      (fun v L' R' => ∃ ao' c', v = .slice ao' 1 c' ∧ L' = [otI g false ss kd sq2 pic lv s sh2 la2 true fr2 pk2 by2, .own pkT 11 ao' 1 c' [pkR false kd sq t2 ss tx]] ∧ R' = []) := by
  refine (rwFrame g false ss kd sq pic lv src sh la be fr pk by_ s ao 1 c ⟨0, t, false, false, false, tx, 0⟩ [] R hS hb hb2 hb3 (by intro x hx; simp at hx; subst hx; exact ht) (by simp)).mono ?_
  rintro v L' R' ⟨ao', c', _, rfl, rfl, rfl⟩
  have e1 : pkN false kd sq (laM src sh la be s t % 4294967296) ss (picM false pic) (lvM false lv tx) [⟨0, t, false, false, false, tx, 0⟩] 1 = [⟨false, kd, sq, t2, ss, tx⟩] := by
    rw [h2, h3]; simp [pkN, payM, sqI]
  have e2 : byN false (picM false pic) (lvM false lv tx) [⟨0, t, false, false, false, tx, 0⟩] 1 = tx.size := by simp [byN, payM]
  dsimp only at e1 e2 ⊢
  refine ⟨ao', c', by rw [e1]; rfl, ?_, rfl⟩
  subst h4 h5 h6 h7
  rw [e1, e2, h1, h2]
  rfl
theorem rwNext (g : Nat) (vi : Bool) (ss kd sq pic lv src sh la : Int) (be : Bool) (fr pk by_ : Int) :
    Fn Try.prog 34 #[.pointer (some ⟨g, 0, none⟩)] [otI g vi ss kd sq pic lv src sh la be fr pk by_] [] (fun v L' R' => v = .int .u16 sq ∧ L' = [otI g vi ss kd sq pic lv src sh la be fr pk by_] ∧ R' = []) := by
  refine fn_intro Try.func34 rfl Try.ntmps34 rfl (fun E => ?_)
  (repeat (first | ((first | (apply wo_v; rfl) ); (· first | (apply pv_ev; rfl) | (apply pv_fld; rfl) | (apply g_load; first | (apply pv_ld; rfl; (· (repeat (first | apply sel_here ))); rfl) ) )) | apply wo_nil | apply wc_seq | apply wc_region | apply wc_ret ))
  exact ret1 rfl rfl ⟨rfl, rfl, rfl⟩ ((by (repeat (first | apply sub_nil )); done) : List.Perm _ ([] ++ _)) (by first | exact fun _ h => h | (intro r hr; cases hr; done) | (simp; done) | exact fun _ h => List.mem_append_left _ h | (intro r hr; simp [hr]; done))
theorem awake15 : Fn Try.prog 28 #[] [] [] (fun v L' R' => v = .bool true ∧ L' = []) := by
  refine fn_intro Try.func28 rfl Try.ntmps28 rfl (fun E => ?_)
  (repeat (first | ((first | (apply wo_v; rfl) ); (· first | (apply pv_ev; rfl) )) | apply wo_nil | apply wc_seq | apply wc_region ))
  (refine wo_call (rwNew false 7 96 5 96 (by decide)) rfl (by (repeat (first | apply sub_nil )); done) (by first | exact fun _ h => h | (intro r hr; cases hr; done) | (simp; done) | exact fun _ h => List.mem_append_left _ h | (intro r hr; simp [hr]; done)) rfl ?_; rintro v L' R' ⟨g, rfl, rfl, rfl⟩ H' hH RR hR; simp only [List.cons_append, List.nil_append] at hH hR; subst hH; have hR := hR.symm; subst hR)
  (repeat (first | ((first | (apply wo_v; rfl) ); (· first | (apply pv_ev; rfl) | (apply g_bin; first | (apply pv_eql_p; rfl; rfl) ) | (apply g_build; apply pv_build; (· (repeat (first | apply Bld.nil | (apply Bld.one; rfl; rfl; (· (repeat (first | apply SetAt.here | apply SetAt.there)))) )))) )) | apply wo_nil | apply wc_seq | apply wc_region | apply wc_skip | (apply wc_true; rfl) | (apply wc_false; rfl) | (apply wo_bsl; (· (repeat (first | apply Rws'.nil | (apply Rws'.one; rfl; rfl; rfl) | (apply Rws'.agg; rfl; rfl; rfl)))); rfl; rfl; rfl; rfl; intro bx) ))
  refine wo_still (by (repeat (first | apply sel_here )); done) (fun R0 hS0 => ?_)
  (repeat (first | ((first | (apply wo_v; rfl) ); (· first | (apply pv_ev; rfl) )) ))
  (refine wo_call (rwOne g 7 96 5 (-1) (-1) 0 0 0 false 0 0 0 1 100 ⟨#[120]⟩ _ _ _ 0 100 100 6 1 1 1 hS0 rfl rfl rfl rfl rfl rfl rfl (by omega) (by omega) (by omega) (by decide)) rfl (by (repeat (first | apply sub_nil )); done) (by first | exact fun _ h => h | (intro r hr; cases hr; done) | (simp; done) | exact fun _ h => List.mem_append_left _ h | (intro r hr; simp [hr]; done)) rfl ?_; rintro v L' R' ⟨a1, c1, rfl, rfl, rfl⟩ H' hH RR hR; simp only [List.cons_append, List.nil_append] at hH hR; subst hH; have hR := hR.symm; subst hR)
  (repeat (first | ((first | (apply wo_v; rfl) ); (· first | (apply pv_ev; rfl) | (apply g_build; apply pv_build; (· (repeat (first | apply Bld.nil | (apply Bld.one; rfl; rfl; (· (repeat (first | apply SetAt.here | apply SetAt.there)))) )))) )) | apply wo_nil | apply wc_seq | apply wc_region | (apply wo_bsl; (· (repeat (first | apply Rws'.nil | (apply Rws'.one; rfl; rfl; rfl) | (apply Rws'.agg; rfl; rfl; rfl)))); rfl; rfl; rfl; rfl; intro bx) ))
  refine wo_still (by (repeat (first | apply sel_here )); done) (fun R1 hS1 => ?_)
  (repeat (first | ((first | (apply wo_v; rfl) ); (· first | (apply pv_ev; rfl) )) ))
  (refine wo_call (rwOne g 7 96 6 (-1) (-1) 1 0 100 true 1 1 1 2 5000 ⟨#[121]⟩ _ _ _ (-1900) 3100 3100 7 2 2 2 hS1 rfl rfl rfl rfl rfl rfl rfl (by omega) (by omega) (by omega) (by decide)) rfl (by (repeat (first | apply sub_nil )); done) (by first | exact fun _ h => h | (intro r hr; cases hr; done) | (simp; done) | exact fun _ h => List.mem_append_left _ h | (intro r hr; simp [hr]; done)) rfl ?_; rintro v L' R' ⟨a2, c2, rfl, rfl, rfl⟩ H' hH RR hR; simp only [List.cons_append, List.nil_append] at hH hR; subst hH; have hR := hR.symm; subst hR)
  refine wo_some (ao := a1) (by (repeat (first | apply sel_here | apply sel_there)); done) (by omega) (fun b4 o4 hao => ?_)
  subst hao
  refine wo_some (ao := a2) (by (repeat (first | apply sel_here | apply sel_there)); done) (by omega) (fun b5 o5 hao => ?_)
  subst hao
  have hr1 := pk1_at false 96 5 100 7 ⟨#[120]⟩
  have hr2 := pk1_at false 96 6 3100 7 ⟨#[121]⟩
  (repeat (first | ((first | (apply wo_v; rfl) ); (· first | (apply pv_ev; rfl) | (apply pv_fld; rfl) | (apply g_load; first | (apply pv_ld; rfl; (· (repeat (first | apply sel_there))); rfl) | (apply pv_ld_ownf; rfl; (· (repeat (first | apply sel_here | apply sel_there))); (· assumption); rfl) ) | (apply g_pick; first | (apply pv_pick_t; rfl; rfl) ) | (apply g_bin; first | (apply pv_eql_s; rfl; rfl) ) | (apply g_bi; first | (apply pv_len_sl; rfl) ) | (apply g_idx; first | (apply pv_idx; rfl; rfl; omega) | (apply (pv_idx_e 0); rfl; rfl; rfl; omega) ) )) | apply wo_nil | apply wc_seq | apply wc_region | apply wc_ret | (apply wo_run; rfl; rfl) ))
  exact ret1 rfl rfl ⟨rfl, rfl⟩ ((by (repeat (first | apply sub_nil )); done) : List.Perm _ ([] ++ _)) (by first | exact fun _ h => h | (intro r hr; cases hr; done) | (simp; done) | exact fun _ h => List.mem_append_left _ h | (intro r hr; simp [hr]; done))
set_option maxHeartbeats 16000000 in
theorem rewriteTimes_fn (A : Option Addr) (m c0 : Nat) (z : Nat → Int) (ot : Int) (R : List Ro) (hm : m ≤ 9223372036854775807) (hA : 0 < m → ∃ b o, A = some ⟨b, o, none⟩ ∧ ⟨b, o, 1, kseg .i64 z m⟩ ∈ R) :
    Fn Try.prog 8 #[.slice A m c0, .int .i64 ot] [] R (fun v _ _ => v = .bool true) := by
  refine fn_intro Try.func8 rfl Try.ntmps8 rfl (fun E => ?_)
  (repeat (first | ((first | (apply wo_v; rfl) ); (· first | (apply pv_ev; rfl) )) | apply wo_nil | apply wc_seq | apply wc_region ))
  (refine wo_call (awake15) rfl (by (repeat (first | apply sub_nil )); done) (by first | exact fun _ h => h | (intro r hr; cases hr; done) | (simp; done) | exact fun _ h => List.mem_append_left _ h | (intro r hr; simp [hr]; done)) rfl ?_; rintro v L' R' ⟨rfl, rfl⟩ H' hH RR hR; simp only [List.cons_append, List.nil_append] at hH hR; subst hH; have hR := hR.symm; subst hR)
  (repeat (first | ((first | (apply wo_v; rfl) ); (· first | (apply pv_ev; rfl) | (apply g_un; first | (apply pv_not_t; rfl) ) )) | apply wo_nil | apply wc_seq | apply wc_region | apply wc_skip | (apply wc_true; rfl) | (apply wc_false; rfl) ))
  (refine wo_call (rwNew false 1 1 1 1 (by decide)) rfl (by (repeat (first | apply sub_nil )); done) (by first | exact fun _ h => h | (intro r hr; cases hr; done) | (simp; done) | exact fun _ h => List.mem_append_left _ h | (intro r hr; simp [hr]; done)) rfl ?_; rintro v L' R' ⟨g, rfl, rfl, rfl⟩ H' hH RR hR; simp only [List.cons_append, List.nil_append] at hH hR; subst hH; have hR := hR.symm; subst hR)
  (repeat (first | ((first | (apply wo_v; rfl) ); (· first | (apply pv_ev; rfl) )) | apply wo_nil | apply wc_seq | apply wc_region ))
  refine wc_join0 (fun st => ∃ (be : Bool) (sq src la at_ fi ls fr pk by_ : Int) (i : Nat) (RR : List Ro), st = ⟨[(0, .slice A m c0), (1, .int .i64 ot), (5, .pointer (some ⟨g, 0, none⟩)), (8, .int .u32 ls)], [otI g false 1 1 sq (-1) (-1) src 0 la be fr pk by_], RR⟩
      ∧ ((i = 0 ∧ be = false ∧ sq = 1 ∧ src = 0 ∧ la = 0 ∧ at_ = 5000 ∧ fi = 0 ∧ ls = 0) ∨ (0 < i ∧ be = true ∧ src = 7 ∧ la = at_ ∧ fi = 5000 ∧ ls = at_)) ∧ 5000 ≤ at_ ∧ at_ ≤ 5000 + 65535 * i ∧ 0 ≤ fr ∧ fr ≤ i ∧ 0 ≤ pk ∧ pk ≤ i ∧ 0 ≤ by_ ∧ by_ ≤ i ∧ i ≤ 50 ∧ i ≤ m ∧ (i = 0 → m = 0)) ?_ ?_
  · refine wc_block ?_
    refine wc_loop' (fun q st => ∃ (be : Bool) (sq src la at_ fi ls fr pk by_ : Int) (i : Nat) (RR : List Ro), q = 51 - i ∧ st = ⟨[(0, .slice A m c0), (1, .int .i64 ot), (5, .pointer (some ⟨g, 0, none⟩)), (6, .int .i64 at_), (7, .int .u32 fi), (8, .int .u32 ls), (9, .int .i64 i)], [otI g false 1 1 sq (-1) (-1) src 0 la be fr pk by_], RR⟩
        ∧ (∀ r ∈ R, r ∈ RR) ∧ ((i = 0 ∧ be = false ∧ sq = 1 ∧ src = 0 ∧ la = 0 ∧ at_ = 5000 ∧ fi = 0 ∧ ls = 0) ∨ (0 < i ∧ be = true ∧ src = 7 ∧ la = at_ ∧ fi = 5000 ∧ ls = at_)) ∧ 5000 ≤ at_ ∧ at_ ≤ 5000 + 65535 * i ∧ 0 ≤ fr ∧ fr ≤ i ∧ 0 ≤ pk ∧ pk ≤ i ∧ 0 ≤ by_ ∧ by_ ≤ i ∧ i ≤ 50 ∧ i ≤ m)
      ⟨false, 1, 0, 0, 5000, 0, 0, 0, 0, 0, 0, _, rfl, rfl, fun r h => List.mem_append_right _ h, .inl (by simp), by omega, by omega, by omega, by omega, by omega, by omega, by omega, by omega, by omega, by omega⟩ (wk_mk (by (repeat (first | apply wkf_nil | (apply wkf_cons; rfl))); done) (by (repeat (first | apply sub_nil )); done) (by first | exact fun _ h => h | (intro r hr; cases hr; done) | (simp; done) | exact fun _ h => List.mem_append_left _ h | (intro r hr; simp [hr]; done))) ?_
    rintro q st ⟨be, sq, src, la, at_, fi, ls, fr, pk, by_, i, RR, rfl, rfl, hRR, hD, b1, b2, b3, b4, b5, b6, b7, b8, b9, b10⟩
    by_cases hlt : i < m ∧ i < 50
    · obtain ⟨h1, h2⟩ := hlt
      obtain ⟨b, o, rfl, hmem⟩ := hA (by omega)
      replace hmem := hRR _ hmem
      have hr := kseg_at (k := .i64) (z := z) h1
      generalize z i = zi at hr
      have q1 : bits .and .i64 zi 65535 = zi % 65536 := and_ones zi 16 (by omega)
      rcases hD with ⟨rfl, rfl, rfl, rfl, rfl, rfl, rfl, rfl⟩ | ⟨h0, rfl, rfl, rfl, rfl, rfl⟩
      · (repeat (first | ((first | (apply wo_v; rfl) ); (· first | (apply pv_ev; rfl) | (apply g_pick; first | (apply pv_pick_t; rfl; rfl) ) | (apply g_bi; first | (apply pv_len_sl; rfl) ) )) | apply wo_nil | apply wc_seq | apply wc_region | apply wc_skip | (apply wc_true; rfl) | (apply wo_run; rfl; rfl) | (apply wo_skip; rfl; rfl; rfl; rfl) | (apply wo_skip_u; rfl; rfl; rfl) | (apply a_gt; rfl; rfl; (· first | assumption | omega)) ))
        refine wc_block ?_
        (repeat (first | ((first | (apply wo_v; rfl) ); (· first | (apply pv_ev; rfl) | (apply g_build; apply pv_build; (· (repeat (first | apply Bld.nil | (apply Bld.one; rfl; rfl; (· (repeat (first | apply SetAt.here | apply SetAt.there)))) )))) )) | apply wo_nil | apply wc_seq | apply wc_region | apply wc_skip | (apply wc_true; rfl) | (apply wc_false; rfl) | (apply wo_bsl; (· (repeat (first | apply Rws'.nil | (apply Rws'.one; rfl; rfl; rfl) | (apply Rws'.agg; rfl; rfl; rfl)))); rfl; rfl; rfl; rfl; intro bx) ))
        refine wo_still (by (repeat (first | apply sel_here )); done) (fun R0 hS0 => ?_)
        (repeat (first | ((first | (apply wo_v; rfl) ); (· first | (apply pv_ev; rfl) )) ))
        (refine wo_call (rwOne g 1 1 1 (-1) (-1) 0 0 0 false fr pk by_ 7 5000 ⟨#[120]⟩ _ _ _ 0 5000 5000 2 (fr + 1) (pk + 1) (by_ + 1) hS0 rfl rfl rfl rfl rfl rfl rfl (by omega) (by omega) (by omega) (by decide)) rfl (by (repeat (first | apply sub_nil )); done) (by first | exact fun _ h => h | (intro r hr; cases hr; done) | (simp; done) | exact fun _ h => List.mem_append_left _ h | (intro r hr; simp [hr]; done)) rfl ?_; rintro v L' R' ⟨a1, c1, rfl, rfl, rfl⟩ H' hH RR hR; simp only [List.cons_append, List.nil_append] at hH hR; subst hH; have hR := hR.symm; subst hR)
        refine wo_some (ao := a1) (by (repeat (first | apply sel_here | apply sel_there)); done) (by omega) (fun b4 o4 hao => ?_)
        subst hao
        have hr1 := pk1_at false 1 1 5000 1 ⟨#[120]⟩
        (repeat (first | ((first | (apply wo_v; rfl) ); (· first | (apply pv_ev; rfl) | (apply pv_fld; rfl) | (apply g_load; first | (apply pv_ld; rfl; (· (repeat (first | apply sel_there))); rfl) | (apply pv_ld_ownf; rfl; (· (repeat (first | apply sel_here | apply sel_there))); (· assumption); rfl) ) | (apply g_bin; first | (apply a_add; rfl; rfl; infer_instance; omega) | (apply a_sub; rfl; rfl; infer_instance; omega) ) | (apply g_bi; first | (apply pv_len_sl; rfl) ) | (apply g_conv; first | (apply a_conv; rfl; infer_instance; infer_instance; infer_instance; omega) ) | (apply g_idx; first | (apply pv_idx; rfl; rfl; omega) | (apply (pv_idx_e 0); rfl; rfl; rfl; omega) ) )) | apply wo_nil | apply wc_seq | apply wc_region | apply wc_skip | (apply wc_true; rfl) | (apply wc_false; rfl) ))
        exact loop_end ⟨true, 2, 7, 5000, 5000, 5000, 5000, fr + 1, pk + 1, by_ + 1, 1, _, rfl, rfl, fun r h => List.mem_append_right _ (hRR r h), .inr (by simp), by omega, by omega, by omega, by omega, by omega, by omega, by omega, by omega, by omega, by omega⟩ (by omega) (wk_mk (by (repeat (first | apply wkf_nil | (apply wkf_cons; rfl))); done) (by (repeat (first | apply sub_nil )); done) (by first | exact fun _ h => h | (intro r hr; cases hr; done) | (simp; done) | exact fun _ h => List.mem_append_left _ h | (intro r hr; simp [hr]; done)))
      · obtain ⟨d, hd⟩ : ∃ d, bits .and .i64 zi 65535 = d := ⟨_, rfl⟩
        (repeat (first | ((first | (apply wo_v; rfl) ); (· first | (apply pv_ev; rfl) | (apply g_pick; first | (apply pv_pick_t; rfl; rfl) ) | (apply g_bi; first | (apply pv_len_sl; rfl) ) )) | apply wo_nil | apply wc_seq | apply wc_region | apply wc_skip | (apply wc_true; rfl) | (apply wc_false; rfl) | (apply a_dec_t; rfl; (· first | assumption | omega)) | (apply wo_run; rfl; rfl) | (apply wo_skip; rfl; rfl; rfl; rfl) | (apply wo_skip_u; rfl; rfl; rfl) | (apply a_gt; rfl; rfl; (· first | assumption | omega)) ))
        refine wc_block ?_
        (repeat (first | ((first | (apply wo_v; rfl) ); (· first | (apply pv_ev; rfl) | (apply g_load; first | (apply pv_ld; rfl; (· (repeat (first | apply sel_there))); rfl) | (apply pv_ld_ownf; rfl; (· (repeat (first | fail ))); (· assumption); rfl) | (apply pv_ld_own1; rfl; (· (repeat (first | apply sel_there))); (· assumption)) | (apply pv_ld_rof; rfl; (· (first | assumption )); (· assumption); rfl) | (apply pv_ld_ro1; rfl; (· (first | assumption )); (· assumption)) ) | (apply g_bin; first | (apply a_add; rfl; rfl; infer_instance; omega) | (apply pv_and; rfl; rfl) ) | (apply g_idx; first | (apply pv_idx; rfl; rfl; omega) ) | (apply g_build; apply pv_build; (· (repeat (first | apply Bld.nil | (apply Bld.one; rfl; rfl; (· (repeat (first | apply SetAt.here | apply SetAt.there)))) )))) )) | apply wo_nil | apply wc_seq | apply wc_region | (apply wc_true; rfl) | (apply wc_false; rfl) | (apply a_dec_t; rfl; (· first | assumption | omega)) | (apply wo_bsl; (· (repeat (first | apply Rws'.nil | (apply Rws'.one; rfl; rfl; rfl) | (apply Rws'.agg; rfl; rfl; rfl)))); rfl; rfl; rfl; rfl; intro bx) ))
        refine wo_still (by (repeat (first | apply sel_here )); done) (fun R0 hS0 => ?_)
        rw [hd] at hS0 q1 ⊢
        obtain ⟨nx, hnx⟩ : ∃ nx, ls + d = nx := ⟨_, rfl⟩
        rw [hnx] at hS0 ⊢
        (repeat (first | ((first | (apply wo_v; rfl) ); (· first | (apply pv_ev; rfl) )) ))
        (refine wo_call (rwOne g 1 1 sq (-1) (-1) 7 0 ls true fr pk by_ 7 nx ⟨#[120]⟩ _ _ _ 0 nx nx _ (fr + 1) (pk + 1) (by_ + 1) hS0 (shM_same ..) (by rw [laM_same]; omega) (by omega) rfl rfl rfl rfl (by omega) (by omega) (by omega) (by decide)) rfl (by (repeat (first | apply sub_nil )); done) (by first | exact fun _ h => h | (intro r hr; cases hr; done) | (simp; done) | exact fun _ h => List.mem_append_left _ h | (intro r hr; simp [hr]; done)) rfl ?_; rintro v L' R' ⟨a1, c1, rfl, rfl, rfl⟩ H' hH RR hR; simp only [List.cons_append, List.nil_append] at hH hR; subst hH; have hR := hR.symm; subst hR)
        refine wo_some (ao := a1) (by (repeat (first | apply sel_here | apply sel_there)); done) (by omega) (fun b4 o4 hao => ?_)
        subst hao
        have hr1 := pk1_at false 1 sq nx 1 ⟨#[120]⟩
        (repeat (first | ((first | (apply wo_v; rfl) ); (· first | (apply pv_ev; rfl) | (apply pv_fld; rfl) | (apply g_load; first | (apply pv_ld; rfl; (· (repeat (first | apply sel_there))); rfl) | (apply pv_ld_ownf; rfl; (· (repeat (first | apply sel_here | apply sel_there))); (· assumption); rfl) ) | (apply g_bin; first | (apply a_add; rfl; rfl; infer_instance; omega) | (apply a_sub; rfl; rfl; infer_instance; omega) ) | (apply g_bi; first | (apply pv_len_sl; rfl) ) | (apply g_conv; first | (apply a_conv; rfl; infer_instance; infer_instance; infer_instance; omega) ) | (apply g_idx; first | (apply pv_idx; rfl; rfl; omega) | (apply (pv_idx_e 0); rfl; rfl; rfl; omega) ) )) | apply wo_nil | apply wc_seq | apply wc_region | apply wc_skip | (apply wc_true; rfl) | (apply wc_false; rfl) | (apply a_dec_t; rfl; (· first | assumption | omega)) | (apply a_dec_f; rfl; (· first | assumption | omega)) ))
        exact loop_end ⟨true, (sq + 1) % 65536, 7, nx, nx, 5000, nx, fr + 1, pk + 1, by_ + 1, i + 1, _, rfl, rfl, fun r h => List.mem_append_right _ (hRR r h), .inr ⟨by omega, rfl, rfl, rfl, rfl, rfl⟩, by omega, by omega, by omega, by omega, by omega, by omega, by omega, by omega, by omega, by omega⟩ (by omega) (wk_mk (by (repeat (first | apply wkf_nil | (apply wkf_cons; rfl))); done) (by (repeat (first | apply sub_nil )); done) (by first | exact fun _ h => h | (intro r hr; cases hr; done) | (simp; done) | exact fun _ h => List.mem_append_left _ h | (intro r hr; simp [hr]; done)))
    · have hex2 : ¬ (i < m) ∨ (i < m ∧ ¬ i < 50) := by omega
      rcases hex2 with h | ⟨h, h'⟩
      all_goals
        (repeat (first | ((first | (apply wo_v; rfl) ); (· first | (apply pv_ev; rfl) | (apply g_pick; first | (apply pv_pick_t; rfl; rfl) | (apply pv_pick_f; rfl; rfl)) | (apply g_bi; first | (apply pv_len_sl; rfl) ) )) | apply wo_nil | apply wc_seq | apply wc_region | (apply wc_exit; rfl) | (apply wc_true; rfl) | (apply wc_false; rfl) | (apply a_dec_t; rfl; (· first | assumption | omega)) | (apply a_dec_f; rfl; (· first | assumption | omega)) | (apply wo_run; rfl; rfl) | (apply wo_skip; rfl; rfl; rfl; rfl) | (apply wo_skip_u; rfl; rfl; rfl) | (apply a_gt; rfl; rfl; (· first | assumption | omega)) | (apply a_gf; rfl; rfl; (· first | assumption | omega)) ))
        exact cut_end ⟨be, sq, src, la, at_, fi, ls, fr, pk, by_, i, RR, rfl, hD, by omega, by omega, by omega, by omega, by omega, by omega, by omega, by omega, by omega, by omega, by omega⟩ (wk_mk (by (repeat (first | apply wkf_nil | (apply wkf_cons; rfl))); done) (by (repeat (first | apply sub_nil )); done) (by first | exact fun _ h => h | (intro r hr; cases hr; done) | (simp; done) | exact fun _ h => List.mem_append_left _ h | (intro r hr; simp [hr]; done)))
  rintro st ⟨be, sq, src, la, at_, fi, ls, fr, pk, by_, i, RR, rfl, hD, b1, b2, b3, b4, b5, b6, b7, b8, b9, b10, b11⟩
  rcases hD with ⟨rfl, rfl, rfl, rfl, rfl, rfl, rfl, rfl⟩ | ⟨h0, rfl, rfl, rfl, rfl, rfl⟩
  · have hm0 := b11 rfl
    subst hm0
    (repeat (first | ((first | (apply wo_v; rfl) ); (· first | (apply pv_ev; rfl) | (apply g_bi; first | (apply pv_len_sl; rfl) ) )) | apply wo_nil | apply wc_seq | apply wc_region | (apply wc_true; rfl) ))
    (refine wo_call (rwNext g false 1 1 1 (-1) (-1) 0 0 0 false fr pk by_) rfl (by (repeat (first | apply sub_nil )); done) (by first | exact fun _ h => h | (intro r hr; cases hr; done) | (simp; done) | exact fun _ h => List.mem_append_left _ h | (intro r hr; simp [hr]; done)) rfl ?_; rintro v L' R' ⟨rfl, rfl, rfl⟩ H' hH RR hR; simp only [List.cons_append, List.nil_append] at hH hR; subst hH; have hR := hR.symm; subst hR)
    (repeat (first | ((first | (apply wo_v; rfl) ); (· first | (apply pv_ev; rfl) )) | apply wo_nil | apply wc_ret ))
    exact ret1 rfl rfl rfl ((by (repeat (first | apply sub_nil )); done) : List.Perm _ ([] ++ _)) (by first | exact fun _ h => h | (intro r hr; cases hr; done) | (simp; done) | exact fun _ h => List.mem_append_left _ h | (intro r hr; simp [hr]; done))
  · have q2 : bits .and .i64 ot 16777215 = ot % 16777216 := and_ones ot 24 (by omega)
    obtain ⟨o2, ho2⟩ : ∃ o2, bits .and .i64 ot 16777215 = o2 := ⟨_, rfl⟩
    (repeat (first | ((first | (apply wo_v; rfl) ); (· first | (apply pv_ev; rfl) | (apply g_bin; first | (apply pv_and; rfl; rfl) ) | (apply g_bi; first | (apply pv_len_sl; rfl) ) | (apply g_build; apply pv_build; (· (repeat (first | apply Bld.nil | (apply Bld.one; rfl; rfl; (· (repeat (first | apply SetAt.here | apply SetAt.there)))) )))) )) | apply wo_nil | apply wc_seq | apply wc_region | apply wc_skip | (apply wc_true; rfl) | (apply wc_false; rfl) | (apply a_dec_t; rfl; (· first | assumption | omega)) | (apply a_dec_f; rfl; (· first | assumption | omega)) | (apply wo_bsl; (· (repeat (first | apply Rws'.nil | (apply Rws'.one; rfl; rfl; rfl) | (apply Rws'.agg; rfl; rfl; rfl)))); rfl; rfl; rfl; rfl; intro bx) ))
    refine wo_still (by (repeat (first | apply sel_here )); done) (fun R0 hS0 => ?_)
    rw [ho2] at hS0 q2 ⊢
    (repeat (first | ((first | (apply wo_v; rfl) ); (· first | (apply pv_ev; rfl) )) ))
    (refine wo_call (rwOne g 1 1 sq (-1) (-1) 7 0 ls true fr pk by_ 8 o2 ⟨#[121]⟩ _ _ _ (ls + 3000 - o2) (ls + 3000) (ls + 3000) _ (fr + 1) (pk + 1) (by_ + 1) hS0 (shM_new (by omega) ..) (by rw [laM_new (by omega)]; omega) (by omega) rfl rfl rfl rfl (by omega) (by omega) (by omega) (by decide)) rfl (by (repeat (first | apply sub_nil )); done) (by first | exact fun _ h => h | (intro r hr; cases hr; done) | (simp; done) | exact fun _ h => List.mem_append_left _ h | (intro r hr; simp [hr]; done)) rfl ?_; rintro v L' R' ⟨a1, c1, rfl, rfl, rfl⟩ H' hH RR hR; simp only [List.cons_append, List.nil_append] at hH hR; subst hH; have hR := hR.symm; subst hR)
    generalize (sq + 1) % 65536 = sq2
    obtain ⟨l2, hl2⟩ : ∃ l2, ls + 3000 = l2 := ⟨_, rfl⟩
    rw [hl2]
    (repeat (first | ((first | (apply wo_v; rfl) ); (· first | (apply pv_ev; rfl) | (apply g_bin; first | (apply a_add; rfl; rfl; infer_instance; omega) | (apply pv_and; rfl; rfl) ) | (apply g_build; apply pv_build; (· (repeat (first | apply Bld.nil | (apply Bld.one; rfl; rfl; (· (repeat (first | apply SetAt.here | apply SetAt.there)))) )))) )) | apply wo_nil | apply wc_seq | apply wc_region | (apply wo_bsl; (· (repeat (first | apply Rws'.nil | (apply Rws'.one; rfl; rfl; rfl) | (apply Rws'.agg; rfl; rfl; rfl)))); rfl; rfl; rfl; rfl; intro bx) ))
    refine wo_still (by (repeat (first | apply sel_here )); done) (fun R1 hS1 => ?_)
    rw [ho2] at hS1 ⊢
    (repeat (first | ((first | (apply wo_v; rfl) ); (· first | (apply pv_ev; rfl) )) ))
    (refine wo_call (rwOne g 1 1 sq2 (-1) (-1) 8 (l2 - o2) l2 true (fr + 1) (pk + 1) (by_ + 1) 8 (o2 + 77) ⟨#[122]⟩ _ _ _ (l2 - o2) (l2 + 77) (l2 + 77) _ _ _ _ hS1 (shM_same ..) (by rw [laM_same]; omega) (by omega) rfl rfl rfl rfl (by omega) (by omega) (by omega) (by decide)) rfl (by (repeat (first | apply sub_nil )); done) (by first | exact fun _ h => h | (intro r hr; cases hr; done) | (simp; done) | exact fun _ h => List.mem_append_left _ h | (intro r hr; simp [hr]; done)) rfl ?_; rintro v L' R' ⟨a2, c2, rfl, rfl, rfl⟩ H' hH RR hR; simp only [List.cons_append, List.nil_append] at hH hR; subst hH; have hR := hR.symm; subst hR)
    refine wo_some (ao := a1) (by (repeat (first | apply sel_here | apply sel_there)); done) (by omega) (fun b4 o4 hao => ?_)
    subst hao
    refine wo_some (ao := a2) (by (repeat (first | apply sel_here | apply sel_there)); done) (by omega) (fun b5 o5 hao => ?_)
    subst hao
    have hr1 := pk1_at false 1 sq l2 1 ⟨#[121]⟩
    have hr2 := pk1_at false 1 sq2 (l2 + 77) 1 ⟨#[122]⟩
    (repeat (first | ((first | (apply wo_v; rfl) ); (· first | (apply pv_ev; rfl) )) | apply wo_nil | apply wc_seq ))
    (refine wc_quiet mixed (by kernel_rfl) ?_; (repeat (first | ((first | (apply hd_v; rfl) ); (· first | (apply pv_ev; rfl) | (apply pv_fld; rfl) | (apply g_load; first | (apply pv_ld; rfl; (· (repeat (first | apply sel_there))); rfl) | (apply pv_ld_ownf; rfl; (· (repeat (first | apply sel_here | apply sel_there))); (· assumption); rfl) ) | (apply g_pick; first | (apply pv_pick_t; rfl; rfl) ) | (apply g_bin; first | (apply a_add; rfl; rfl; infer_instance; omega) ) | (apply g_bi; first | (apply pv_len_sl; rfl) ) | (apply g_idx; first | (apply pv_idx; rfl; rfl; omega) | (apply (pv_idx_e 0); rfl; rfl; rfl; omega) ) )) | apply Hd.nil | apply wc_ret | (apply Hd.run; rfl; rfl) | (apply Hd.skip; rfl; rfl; rfl; rfl) | (apply Hd.skipu; rfl; rfl; rfl) | (apply ah_gt; rfl; rfl; (· first | assumption | omega)) )))
    exact ret1 rfl rfl (by simp) ((by (repeat (first | apply sub_nil )); done) : List.Perm _ ([] ++ _)) (by first | exact fun _ h => h | (intro r hr; cases hr; done) | (simp; done) | exact fun _ h => List.mem_append_left _ h | (intro r hr; simp [hr]; done))
theorem rewriteTimes_walk (A : Option Addr) (n c : Nat) (V : Nat → Nat → Value) {w : World} (hV : Rws [.int .i64] w A n c V) (b : Int) (hb : -9223372036854775808 ≤ b ∧ b ≤ 9223372036854775807) :
    Calls Try.prog 8 #[.slice A n c, .int .i64 b] w fun e w' => e = .returned (.bool true) ∧ Below w.heap.size w w' := by
  obtain ⟨z1, R1, h1, _, h2, h3⟩ := rws_k hV
  exact walk_of (rewriteTimes_fn A n c z1 b R1 h3 h2) h1
end Go.Proofs.Ytnjicnadlhfocaa
