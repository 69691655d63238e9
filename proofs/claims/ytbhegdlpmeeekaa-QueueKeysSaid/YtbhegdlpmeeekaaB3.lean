/-
  Texts of this proof, laid together (part 3 of 3).
-/
import Derived.Test.YtbhegdlpmeeekaaB2
import Derived.MapKept
import Derived.Carry
/-
  Package queue: the other functions.
-/
namespace Go.Proofs.Ytbhegdlpmeeekaa
set_option linter.unusedSimpArgs false
set_option linter.unusedVariables false
open Go.RowKit
attribute [local irreducible] Pv WO WC Fn
set_option maxRecDepth 100000

theorem qLen (q : Nat) (fr mo : Int) (ao : Option Addr) (n c : Nat) (sz : Int) (bk : Bool) (R : List Ro) :
    Fn Try.prog 19 #[.pointer (some ⟨q, 0, none⟩)] [Qc q fr mo ao n c sz bk] R (fun v L' R' => v = .int .i64 n ∧ L' = [Qc q fr mo ao n c sz bk] ∧ R' = R) := by
  refine fn_intro Try.func19 rfl Try.ntmps19 rfl (fun E => ?_)
  (repeat (first | ((first | (apply wo_v; rfl) ); (· first | (apply pv_ev; rfl) | (apply pv_fld; rfl) | (apply g_load; first | (apply pv_ld; rfl; (· (repeat (first | apply sel_here ))); rfl) ) | (apply g_bi; first | (apply pv_len_sl; rfl) ) )) | apply wo_nil | apply wc_seq | apply wc_region | apply wc_ret ))
  exact ret1 rfl rfl ⟨rfl, rfl, rfl⟩ (by (repeat (first | apply sub_nil )); done) (by first | exact fun _ h => h | (intro r hr; cases hr; done) | (simp; done) | exact fun _ h => List.mem_append_left _ h | (intro r hr; simp [hr]; done))
theorem qSize (q : Nat) (fr mo : Int) (ao : Option Addr) (n c : Nat) (sz : Int) (bk : Bool) (R : List Ro) :
    Fn Try.prog 22 #[.pointer (some ⟨q, 0, none⟩)] [Qc q fr mo ao n c sz bk] R (fun v L' R' => v = .int .i64 sz ∧ L' = [Qc q fr mo ao n c sz bk] ∧ R' = R) := by
  refine fn_intro Try.func22 rfl Try.ntmps22 rfl (fun E => ?_)
  (repeat (first | ((first | (apply wo_v; rfl) ); (· first | (apply pv_ev; rfl) | (apply pv_fld; rfl) | (apply g_load; first | (apply pv_ld; rfl; (· (repeat (first | apply sel_here ))); rfl) ) )) | apply wo_nil | apply wc_seq | apply wc_region | apply wc_ret ))
  exact ret1 rfl rfl ⟨rfl, rfl, rfl⟩ (by (repeat (first | apply sub_nil )); done) (by first | exact fun _ h => h | (intro r hr; cases hr; done) | (simp; done) | exact fun _ h => List.mem_append_left _ h | (intro r hr; simp [hr]; done))
theorem qBroken (q : Nat) (fr mo : Int) (ao : Option Addr) (n c : Nat) (sz : Int) (bk : Bool) (R : List Ro) :
    Fn Try.prog 24 #[.pointer (some ⟨q, 0, none⟩)] [Qc q fr mo ao n c sz bk] R (fun v L' R' => v = .bool bk ∧ L' = [Qc q fr mo ao n c sz bk] ∧ R' = R) := by
  refine fn_intro Try.func24 rfl Try.ntmps24 rfl (fun E => ?_)
  (repeat (first | ((first | (apply wo_v; rfl) ); (· first | (apply pv_ev; rfl) | (apply pv_fld; rfl) | (apply g_load; first | (apply pv_ld; rfl; (· (repeat (first | apply sel_here ))); rfl) ) )) | apply wo_nil | apply wc_seq | apply wc_region | apply wc_ret ))
  exact ret1 rfl rfl ⟨rfl, rfl, rfl⟩ (by (repeat (first | apply sub_nil )); done) (by first | exact fun _ h => h | (intro r hr; cases hr; done) | (simp; done) | exact fun _ h => List.mem_append_left _ h | (intro r hr; simp [hr]; done))
def itz : It4 := (0, 0, 0, false)
theorem qFirst (q : Nat) (fr mo : Int) (ao : Option Addr) (n c : Nat) (sz : Int) (bk : Bool) (l : List It4) (R : List Ro) (hS : SR R 4 ao n c (its l)) :
    Fn Try.prog 21 #[.pointer (some ⟨q, 0, none⟩)] [Qc q fr mo ao n c sz bk] R
      (fun v L' R' => v = .tuple #[.agg (itr ((l.head?).getD itz)).toArray, .bool (decide (l ≠ []))] ∧ L' = [Qc q fr mo ao n c sz bk] ∧ R' = R) := by
  have hn : n = l.length := by rw [← hS.len]; exact its_len l
  cases l with
  | nil =>
    simp only [List.length_nil] at hn
    subst hn
    refine fn_intro Try.func21 rfl Try.ntmps21 rfl (fun E => ?_)
    (repeat (first | ((first | (apply wo_v; rfl) ); (· first | (apply pv_ev; rfl) | (apply pv_fld; rfl) | (apply g_load; first | (apply pv_ld; rfl; (· (repeat (first | apply sel_here | apply sel_there))); rfl) ) | (apply g_bi; first | (apply pv_len_sl; rfl) ) | (apply g_build; apply pv_build; (· (repeat (first | apply Bld.nil )))) )) | apply wo_nil | apply wc_seq | apply wc_region | apply wc_ret | (apply wc_true; rfl) | (apply wo_alloc; rfl; intro bx) | (apply wo_sta; rfl; rfl; rfl; rfl; (· (repeat (first | apply sel_here ))); (· (repeat (first | apply LayAt.nil | apply LayAt.here ))); rfl) ))
    exact retv rfl (by (repeat (first | apply RV.nil | (apply RV.tmp; rfl) | (apply RV.agg; rfl; (· (repeat (first | apply sel_here ))); infer_instance; (· (repeat (first | apply Cut.here0 | apply Cut.here )))) )); done) (⟨by simp [itz, outV], rfl, rfl⟩) (by (repeat (first | apply sub_nil | (apply sub_cons; (· (repeat (first | apply sel_here | apply sel_there)))))); done) (by first | exact fun _ h => h | (intro r hr; cases hr; done) | (simp; done) | exact fun _ h => List.mem_append_left _ h | (intro r hr; simp [hr]; done))
  | cons x t =>
    simp only [List.length_cons] at hn
    obtain ⟨b, o, rfl, hm⟩ := hS.pos (by omega)
    have hr : (its (x :: t))[0]? = some [.int .i64 x.1, .int .i64 x.2.1, .int .i64 x.2.2.1, .bool x.2.2.2] := rfl
    refine fn_intro Try.func21 rfl Try.ntmps21 rfl (fun E => ?_)
    (repeat (first | ((first | (apply wo_v; rfl) ); (· first | (apply pv_ev; rfl) | (apply pv_fld; rfl) | (apply g_load; first | (apply pv_ld; rfl; (· (repeat (first | apply sel_here | apply sel_there))); rfl) | (apply pv_lda; rfl; (· (repeat (first | apply sel_there))); (· (repeat (first | fail )))) | (apply pv_ld_owna; rfl; (· (repeat (first | apply sel_there))); (· assumption)) | (apply pv_ld_roa; rfl; (· (first | assumption )); (· assumption))) | (apply g_bi; first | (apply pv_len_sl; rfl) ) | (apply g_idx; first | (apply pv_idx; rfl; rfl; omega) | (apply (pv_idx_e 0); rfl; rfl; rfl; omega) ) )) | apply wo_nil | apply wc_seq | apply wc_region | apply wc_skip | apply wc_ret | (apply wc_true; rfl) | (apply wc_false; rfl) | (apply a_dec_t; rfl; (· first | assumption | omega)) | (apply a_dec_f; rfl; (· first | assumption | omega)) | (apply wo_alloc; rfl; intro bx) | (apply wo_sta; rfl; rfl; rfl; rfl; (· (repeat (first | apply sel_here ))); (· (repeat (first | apply LayAt.nil | apply LayAt.here ))); rfl) ))
    exact retv rfl (by (repeat (first | apply RV.nil | (apply RV.tmp; rfl) | (apply RV.agg; rfl; (· (repeat (first | apply sel_here ))); infer_instance; (· (repeat (first | apply Cut.here0 | apply Cut.here )))) )); done) (⟨by simp [outV], rfl, rfl⟩) (by (repeat (first | apply sub_nil | (apply sub_cons; (· (repeat (first | apply sel_here | apply sel_there)))))); done) (by first | exact fun _ h => h | (intro r hr; cases hr; done) | (simp; done) | exact fun _ h => List.mem_append_left _ h | (intro r hr; simp [hr]; done))
theorem qPop (q : Nat) (fr mo : Int) (ao : Option Addr) (n c : Nat) (bk : Bool) (l : List It4) (R : List Ro) (hS : SR R 4 ao n c (its l)) (ha : allS l) :
    Fn Try.prog 16 #[.pointer (some ⟨q, 0, none⟩)] [Qc q fr mo ao n c (sumS l) bk] R
      (fun v L' R' => ∃ ao' n' c', v = .tuple #[.agg (itr ((l.head?).getD itz)).toArray, .bool (decide (l ≠ []))] ∧ L' = [Qc q fr mo ao' n' c' (sumS l.tail) bk] ∧ SR R' 4 ao' n' c' (its l.tail)) := by
  have hn : n = l.length := by rw [← hS.len]; exact its_len l
  cases l with
  | nil =>
    simp only [List.length_nil] at hn
    subst hn
    refine fn_intro Try.func16 rfl Try.ntmps16 rfl (fun E => ?_)
    (repeat (first | ((first | (apply wo_v; rfl) ); (· first | (apply pv_ev; rfl) | (apply pv_fld; rfl) | (apply g_load; first | (apply pv_ld; rfl; (· (repeat (first | apply sel_here | apply sel_there))); rfl) ) | (apply g_bi; first | (apply pv_len_sl; rfl) ) | (apply g_build; apply pv_build; (· (repeat (first | apply Bld.nil )))) )) | apply wo_nil | apply wc_seq | apply wc_region | apply wc_ret | (apply wc_true; rfl) | (apply wo_alloc; rfl; intro bx) | (apply wo_sta; rfl; rfl; rfl; rfl; (· (repeat (first | apply sel_here ))); (· (repeat (first | apply LayAt.nil | apply LayAt.here ))); rfl) ))
    exact retv rfl (by (repeat (first | apply RV.nil | (apply RV.tmp; rfl) | (apply RV.agg; rfl; (· (repeat (first | apply sel_here ))); infer_instance; (· (repeat (first | apply Cut.here0 | apply Cut.here )))) )); done) (⟨ao, 0, c, by simp [itz, outV], rfl, hS⟩) (by (repeat (first | apply sub_nil | (apply sub_cons; (· (repeat (first | apply sel_here | apply sel_there)))))); done) (by first | exact fun _ h => h | (intro r hr; cases hr; done) | (simp; done) | exact fun _ h => List.mem_append_left _ h | (intro r hr; simp [hr]; done))
  | cons x t =>
    simp only [List.length_cons] at hn
    have hs : sumS (x :: t) = x.2.1 + sumS t := rfl
    have h1 := ha.1 x (.head _)
    have h2 := sumS_pos ha.tail.1
    have h3 := ha.2.1
    have e1 : sumS (x :: t) - x.2.1 = sumS t := by omega
    have h0 : ¬ ((n : Int) = 0) := by omega
    refine fn_intro Try.func16 rfl Try.ntmps16 rfl (fun E => ?_)
    (repeat (first | ((first | (apply wo_v; rfl) ); (· first | (apply pv_ev; rfl) | (apply pv_fld; rfl) | (apply g_load; first | (apply pv_ld; rfl; (· (repeat (first | apply sel_here | apply sel_there))); rfl) ) | (apply g_bi; first | (apply pv_len_sl; rfl) ) )) | apply wo_nil | apply wc_seq | apply wc_region | apply wc_skip | (apply wc_true; rfl) | (apply wc_false; rfl) | (apply a_dec_t; rfl; (· first | assumption | omega)) | (apply a_dec_f; rfl; (· first | assumption | omega)) | (apply wo_alloc; rfl; intro bx) ))
    (refine wo_call (qShift q fr mo ao n c x t (sumS (x :: t)) bk R hS (by omega)) rfl (by (repeat (first | apply sub_nil | (apply sub_cons; (· (repeat (first | apply sel_here | apply sel_there)))))); done) (by first | exact fun _ h => h | (intro r hr; cases hr; done) | (simp; done) | exact fun _ h => List.mem_append_left _ h | (intro r hr; simp [hr]; done)) rfl ?_; rintro v L' R' ⟨rfl, ao1, rfl, hS1⟩ H' hH RR hR; simp only [List.cons_append, List.nil_append] at hH hR; subst hH; have hR := hR.symm; subst hR)
    (repeat (first | ((first | (apply wo_v; rfl) ); (· first | (apply pv_ev; rfl) )) | apply wo_nil | apply wc_ret | (apply wo_sta; rfl; rfl; rfl; rfl; (· (repeat (first | apply sel_here | apply sel_there))); (· (repeat (first | apply LayAt.nil | apply LayAt.here ))); rfl) ))
    rw [e1]
    exact retv rfl (by (repeat (first | apply RV.nil | (apply RV.tmp; rfl) | (apply RV.agg; rfl; (· (repeat (first | apply sel_here ))); infer_instance; (· (repeat (first | apply Cut.here0 | apply Cut.here )))) )); done) (⟨ao1, n - 1, c - 1, by simp [outV], rfl, hS1⟩) (by (repeat (first | apply sub_nil | (apply sub_cons; (· (repeat (first | apply sel_here | apply sel_there)))))); done) (by first | exact fun _ h => h | (intro r hr; cases hr; done) | (simp; done) | exact fun _ h => List.mem_append_left _ h | (intro r hr; simp [hr]; done))
theorem qBreak (q : Nat) (fr mo : Int) (ao : Option Addr) (n c : Nat) (sz : Int) (bk : Bool) (R : List Ro) :
    Fn Try.prog 18 #[.pointer (some ⟨q, 0, none⟩)] [Qc q fr mo ao n c sz bk] R
      (fun v L' R' => v = .slice ao n c ∧ L' = [Qc q fr mo none 0 0 0 true] ∧ R' = R) := by
  refine fn_intro Try.func18 rfl Try.ntmps18 rfl (fun E => ?_)
  (repeat (first | ((first | (apply wo_v; rfl) ); (· first | (apply pv_ev; rfl) | (apply pv_fld; rfl) | (apply g_load; first | (apply pv_ld; rfl; (· (repeat (first | apply sel_here ))); rfl) ) )) | apply wo_nil | apply wc_seq | apply wc_region | apply wc_ret | (apply wo_st; rfl; rfl; rfl; (· (repeat (first | apply sel_here ))); (· (repeat (first | apply SetAt.here | apply SetAt.there))); rfl) ))
  exact ret1 rfl rfl ⟨rfl, rfl, rfl⟩ (by (repeat (first | apply sub_nil )); done) (by first | exact fun _ h => h | (intro r hr; cases hr; done) | (simp; done) | exact fun _ h => List.mem_append_left _ h | (intro r hr; simp [hr]; done))
theorem qNew (fr mo : Int) (hb : 1 ≤ fr ∧ fr ≤ 1024 ∧ 1 ≤ mo ∧ mo ≤ 16777216) :
    Fn Try.prog 13 #[.int .i64 fr, .int .i64 mo] [] [] (fun v L' R' => ∃ q, v = .tuple #[.pointer (some ⟨q, 0, none⟩), .int .i64 0] ∧ L' = [Qc q fr mo none 0 0 0 true] ∧ R' = []) := by
  refine fn_intro Try.func13 rfl Try.ntmps13 rfl (fun E => ?_)
  (repeat (first | ((first | (apply wo_v; rfl) ); (· first | (apply pv_ev; rfl) | (apply g_pick; first | (apply pv_pick_t; rfl; rfl) | (apply pv_pick_f; rfl; rfl)) | (apply g_build; apply pv_build; (· (repeat (first | apply Bld.nil | (apply Bld.one; rfl; rfl; (· (repeat (first | apply SetAt.here | apply SetAt.there)))) )))) )) | apply wo_nil | apply wc_seq | apply wc_region | apply wc_skip | apply wc_ret | (apply wc_true; rfl) | (apply wc_false; rfl) | (apply a_dec_t; rfl; (· first | assumption | omega)) | (apply a_dec_f; rfl; (· first | assumption | omega)) | (apply wo_run; rfl; rfl) | (apply wo_skip; rfl; rfl; rfl; rfl) | (apply wo_skip_u; rfl; rfl; rfl) | (apply a_gt; rfl; rfl; (· first | assumption | omega)) | (apply a_gf; rfl; rfl; (· first | assumption | omega)) | (apply wo_box1; rfl; rfl; rfl; intro bx) | (apply wo_boxa; rfl; rfl; intro bx) ))
  exact ret2 rfl rfl rfl ⟨_, rfl, rfl, rfl⟩ (by (repeat (first | apply sub_nil )); done) (by first | exact fun _ h => h | (intro r hr; cases hr; done) | (simp; done) | exact fun _ h => List.mem_append_left _ h | (intro r hr; simp [hr]; done))
theorem qNewBad (fr mo : Int) (hb : ¬ (1 ≤ fr ∧ fr ≤ 1024 ∧ 1 ≤ mo ∧ mo ≤ 16777216)) :
    Fn Try.prog 13 #[.int .i64 fr, .int .i64 mo] [] [] (fun v L' R' => v = .tuple #[.pointer none, .int .i64 5] ∧ L' = [] ∧ R' = []) := by
  have h : fr < 1 ∨ (1 ≤ fr ∧ 1024 < fr) ∨ (1 ≤ fr ∧ fr ≤ 1024 ∧ mo < 1) ∨ (1 ≤ fr ∧ fr ≤ 1024 ∧ 1 ≤ mo ∧ 16777216 < mo) := by omega
  clear hb
  rcases h with h1 | ⟨h1, h2⟩ | ⟨h1, h2, h3⟩ | ⟨h1, h2, h3, h4⟩
  all_goals
    refine fn_intro Try.func13 rfl Try.ntmps13 rfl (fun E => ?_)
    (repeat (first | ((first | (apply wo_v; rfl) ); (· first | (apply pv_ev; rfl) | (apply g_pick; first | (apply pv_pick_t; rfl; rfl) | (apply pv_pick_f; rfl; rfl)) )) | apply wo_nil | apply wc_seq | apply wc_region | apply wc_ret | (apply wc_true; rfl) | (apply wc_false; rfl) | (apply a_dec_t; rfl; (· first | assumption | omega)) | (apply wo_run; rfl; rfl) | (apply wo_skip; rfl; rfl; rfl; rfl) | (apply wo_skip_u; rfl; rfl; rfl) | (apply a_gt; rfl; rfl; (· first | assumption | omega)) | (apply a_gf; rfl; rfl; (· first | assumption | omega)) ))
    exact ret2 rfl rfl rfl ⟨rfl, rfl, rfl⟩ (by (repeat (first | apply sub_nil )); done) (by first | exact fun _ h => h | (intro r hr; cases hr; done) | (simp; done) | exact fun _ h => List.mem_append_left _ h | (intro r hr; simp [hr]; done))
set_option maxHeartbeats 4000000 in
theorem qExpire (q : Nat) (fr mo : Int) (ao : Option Addr) (n c : Nat) (now age : Int) (l : List It4) (bk : Bool) (R : List Ro) (hS : SR R 4 ao n c (its l)) (ha : allS l) (hb : ∀ x ∈ l, 0 ≤ x.2.2.1 ∧ x.2.2.1 ≤ 1000000) (hnow : 0 ≤ now ∧ now ≤ 1000000) :
    Fn Try.prog 53 #[.pointer (some ⟨q, 0, none⟩), .int .i64 now, .int .i64 age] [Qc q fr mo ao n c (sumS l) bk] R
      (fun v L' R' => ∃ ao' n' c' ao2 m c2, v = .slice ao2 m c2 ∧ L' = [Qc q fr mo ao' n' c' (sumS (expG now age l bk).2.1) (expG now age l bk).2.2]
        ∧ SR R' 4 ao' n' c' (its (expG now age l bk).2.1) ∧ SR R' 4 ao2 m c2 (its (expG now age l bk).1)) := by
  have hlen := ha.2.2
  generalize hG : expG now age l bk = G
  obtain ⟨out, l', bk'⟩ := G
  simp only
  refine fn_intro Try.func53 rfl Try.ntmps53 rfl (fun E => ?_)
  (repeat (first | ((first | (apply wo_v; rfl) ); (· first | (apply pv_ev; rfl) )) | apply wo_nil | apply wc_seq | apply wc_region | apply wc_block ))
  refine wc_own0 qIt 4 ?_
  refine wc_loop' (fun k st => ∃ (l1 : List It4) (bk1 : Bool) (o1 o2 : List It4) (ao1 ao2 : Option Addr) (n1 c1 c2 : Nat) (RR : List Ro), k = l1.length ∧ st = ⟨[(0, .pointer (some ⟨q, 0, none⟩)), (1, .int .i64 now), (2, .int .i64 age), (7, .slice ao2 o1.length c2)], [Qc q fr mo ao1 n1 c1 (sumS l1) bk1, .own qIt 4 ao2 o1.length c2 (its o1)], RR⟩
      ∧ SR RR 4 ao1 n1 c1 (its l1) ∧ allS l1 ∧ expG now age l1 bk1 = (o2, l', bk') ∧ out = o1 ++ o2 ∧ o1.length + l1.length = l.length ∧ ∀ x ∈ l1, 0 ≤ x.2.2.1 ∧ x.2.2.1 ≤ 1000000)
    ⟨l, _, [], out, ao, none, n, c, 0, R, rfl, rfl, hS, ha, hG, rfl, by simp, hb⟩ (wk_mk (by (repeat (first | apply wkf_nil | (apply wkf_cons; rfl))); done) (by (repeat (first | apply sub_nil | (apply sub_cons; (· (repeat (first | apply sel_here | apply sel_there)))))); done) (by first | exact fun _ h => h | (intro r hr; cases hr; done) | (simp; done) | exact fun _ h => List.mem_append_left _ h | (intro r hr; simp [hr]; done))) ?_
  rintro k st ⟨l1, bk1, o1, o2, ao1, ao2, n1, c1, c2, RR, rfl, rfl, hS1, ha1, hG1, hout, hlen1, hb1⟩
  have hn1 : n1 = l1.length := by rw [← hS1.len]; exact its_len l1
  have key : (∃ y t, l1 = y :: t ∧ age ≤ now - y.2.2.1) ∨ (expG now age l1 bk1 = ([], l1, bk1) ∧ (l1 = [] ∨ ∃ y t, l1 = y :: t ∧ ¬ age ≤ now - y.2.2.1)) := by
    cases l1 with
    | nil => exact .inr ⟨expG_nil, .inl rfl⟩
    | cons y t =>
      by_cases h : age ≤ now - y.2.2.1
      · exact .inl ⟨y, t, rfl, h⟩
      · exact .inr ⟨expG_end h, .inr ⟨y, t, rfl, h⟩⟩
  rcases key with ⟨⟨yn, ys, yt, yk⟩, t, rfl, hc⟩ | ⟨hG2, hc⟩
  · have hy := hb1 _ (.head _)
    simp only at hc hy
    obtain ⟨b1, o1', rfl, hm⟩ := hS1.pos (by simp at hn1; omega)
    have h0 : 0 < n1 := by simp at hn1; omega
    have hr : (its ((yn, ys, yt, yk) :: t))[0]? = some [.int .i64 yn, .int .i64 ys, .int .i64 yt, .bool yk] := rfl
    rw [expG_go hc] at hG1
    simp only [Prod.mk.injEq] at hG1
    obtain ⟨g1, g2⟩ := hG1
    (repeat (first | ((first | (apply wo_v; rfl) ); (· first | (apply pv_ev; rfl) | (apply pv_fld; rfl) | (apply g_load; first | (apply pv_ld; rfl; (· (repeat (first | apply sel_here | apply sel_there))); rfl) | (apply pv_ld_ownf; rfl; (· (repeat (first | apply sel_there))); (· assumption); rfl) | (apply pv_ld_own1; rfl; (· (repeat (first | fail ))); (· assumption)) | (apply pv_ld_rof; rfl; (· (first | assumption )); (· assumption); rfl) ) | (apply g_pick; first | (apply pv_pick_t; rfl; rfl) ) | (apply g_bin; first | (apply a_sub; rfl; rfl; infer_instance; omega) ) | (apply g_bi; first | (apply pv_len_sl; rfl) ) | (apply g_idx; first | (apply pv_idx; rfl; rfl; omega) ) )) | apply wo_nil | apply wc_seq | apply wc_region | apply wc_block | apply wc_skip | (apply wc_true; rfl) | (apply wc_false; rfl) | (apply a_dec_t; rfl; (· first | assumption | omega)) | (apply wo_run; rfl; rfl) | (apply wo_skip; rfl; rfl; rfl; rfl) | (apply wo_skip_u; rfl; rfl; rfl) | (apply a_gt; rfl; rfl; (· first | assumption | omega)) ))
    (refine wo_call (qDrop q fr mo _ n1 c1 (yn, ys, yt, yk) t bk1 RR hS1 ha1) rfl (by (repeat (first | apply sub_nil )); done) (by first | exact fun _ h => h | (intro r hr; cases hr; done) | (simp; done) | exact fun _ h => List.mem_append_left _ h | (intro r hr; simp [hr]; done)) rfl ?_; rintro v L' R' ⟨ao3, n3, c3, ao4, m, c4, rfl, rfl, rfl, hS3⟩ H' hH RR hR; simp only [List.cons_append, List.nil_append] at hH hR; subst hH; have hR := hR.symm; subst hR)
    (repeat (first | ((first | (apply wo_v; rfl) ); (· first | (apply pv_ev; rfl) | (apply g_bi; first | fail ) )) ))
    have hl2 : ((yn, ys, yt, yk) :: tw t).length + (dw t).length = ((yn, ys, yt, yk) :: t).length := by have := congrArg List.length (twdw t); simp at this ⊢; omega
    refine wo_app rfl rfl (by (repeat (first | apply sel_here | apply sel_there)); done) (by (repeat (first | apply sel_here | apply sel_there)); done) (by unfold maxLen; simp at hl2 hlen1; omega) (by simp at hl2 hlen1; omega) rfl (fun ao5 c5 => ?_)
    (repeat (first | ((first | (apply wo_v; rfl) ); (· first | (apply pv_ev; rfl) )) | apply wo_nil ))
    rw [← its_app, show o1.length + ((tw t).length + 1) = (o1 ++ ((yn, ys, yt, yk) :: tw t)).length by simp]
    exact loop_end ⟨dw t, _, o1 ++ ((yn, ys, yt, yk) :: tw t), (expG now age (dw t) (bk1 || (dw t).isEmpty)).1, ao3, ao5, n3, c3, c5, _, rfl, rfl, hS3, ha1.tail.dw, by rw [← g2], by rw [hout, ← g1, List.append_assoc], by simp at hl2 hlen1 ⊢; omega, fun x hx => hb1 x (.tail _ (dw_mem hx))⟩ (by have := dw_len t; simp; omega) (wk_mk (by (repeat (first | apply wkf_nil | (apply wkf_cons; rfl))); done) (by (repeat (first | apply sub_nil | (apply sub_cons; (· (repeat (first | apply sel_here | apply sel_there)))))); done) (by first | exact fun _ h => h | (intro r hr; cases hr; done) | (simp; done) | exact fun _ h => List.mem_append_left _ h | (intro r hr; simp [hr]; done)))
  · rw [hG2] at hG1
    simp only [Prod.mk.injEq] at hG1
    obtain ⟨rfl, rfl, rfl⟩ := hG1
    rw [List.append_nil] at hout
    subst hout
    refine wc_still (by (repeat (first | apply sel_here | apply sel_there)); done) (fun R2 hS2 => ?_)
    rcases hc with rfl | ⟨⟨yn, ys, yt, yk⟩, t, rfl, hc⟩
    · simp only [List.length_nil] at hn1
      subst hn1
      (repeat (first | ((first | (apply wo_v; rfl) ); (· first | (apply pv_ev; rfl) | (apply pv_fld; rfl) | (apply g_load; first | (apply pv_ld; rfl; (· (repeat (first | apply sel_here ))); rfl) ) | (apply g_pick; first | (apply pv_pick_t; rfl; rfl) | (apply pv_pick_f; rfl; rfl)) | (apply g_bi; first | (apply pv_len_sl; rfl) ) )) | apply wo_nil | apply wc_seq | apply wc_region | (apply wc_exit; rfl) | apply wc_ret | (apply wc_true; rfl) | (apply wc_false; rfl) | (apply wo_run; rfl; rfl) | (apply wo_skip; rfl; rfl; rfl; rfl) ))
      exact ret1 rfl rfl ⟨ao1, 0, c1, ao2, out.length, c2, rfl, rfl, hS1.mono (fun _ h => List.mem_append_right _ h), hS2⟩ (by (repeat (first | apply sub_nil )); done) (by first | exact fun _ h => h | (intro r hr; cases hr; done) | (simp; done) | exact fun _ h => List.mem_append_left _ h | (intro r hr; simp [hr]; done))
    · have hy := hb1 _ (.head _)
      simp only at hc hy
      obtain ⟨b1, o1', rfl, hm⟩ := hS1.pos (by simp at hn1; omega)
      have h0 : 0 < n1 := by simp at hn1; omega
      have hm2 : (⟨b1, o1', 4, its ((yn, ys, yt, yk) :: t)⟩ : Ro) ∈ R2 ++ RR := List.mem_append_right _ hm
      have hr : (its ((yn, ys, yt, yk) :: t))[0]? = some [.int .i64 yn, .int .i64 ys, .int .i64 yt, .bool yk] := rfl
      (repeat (first | ((first | (apply wo_v; rfl) ); (· first | (apply pv_ev; rfl) | (apply pv_fld; rfl) | (apply g_load; first | (apply pv_ld; rfl; (· (repeat (first | apply sel_here | apply sel_there))); rfl) | (apply pv_ld_ownf; rfl; (· (repeat (first | apply sel_there))); (· assumption); rfl) | (apply pv_ld_own1; rfl; (· (repeat (first | fail ))); (· assumption)) | (apply pv_ld_rof; rfl; (· (first | assumption )); (· assumption); rfl) ) | (apply g_pick; first | (apply pv_pick_t; rfl; rfl) ) | (apply g_bin; first | (apply a_sub; rfl; rfl; infer_instance; omega) ) | (apply g_bi; first | (apply pv_len_sl; rfl) ) | (apply g_idx; first | (apply pv_idx; rfl; rfl; omega) ) )) | apply wo_nil | apply wc_seq | apply wc_region | (apply wc_exit; rfl) | apply wc_ret | (apply wc_true; rfl) | (apply wc_false; rfl) | (apply a_dec_t; rfl; (· first | assumption | omega)) | (apply a_dec_f; rfl; (· first | assumption | omega)) | (apply wo_run; rfl; rfl) | (apply wo_skip; rfl; rfl; rfl; rfl) | (apply wo_skip_u; rfl; rfl; rfl) | (apply a_gt; rfl; rfl; (· first | assumption | omega)) ))
      exact ret1 rfl rfl ⟨some ⟨b1, o1', none⟩, n1, c1, ao2, out.length, c2, rfl, rfl, hS1.mono (fun _ h => List.mem_append_right _ h), hS2⟩ (by (repeat (first | apply sub_nil )); done) (by first | exact fun _ h => h | (intro r hr; cases hr; done) | (simp; done) | exact fun _ h => List.mem_append_left _ h | (intro r hr; simp [hr]; done))
end Go.Proofs.Ytbhegdlpmeeekaa

/-
  The document's answer for layer 18.
-/
namespace Go.Proofs.Ytbhegdlpmeeekaa
set_option linter.unusedSimpArgs false
set_option linter.unusedVariables false
open Go.RowKit
attribute [local irreducible] Pv WO WC Fn
set_option maxRecDepth 100000

abbrev xqT : TypeId := 31
theorem its_drop (l : List It4) (k : Nat) : (its l).drop k = its (l.drop k) := by simp [its]
theorem its_take (l : List It4) (k : Nat) : (its l).take k = its (l.take k) := by simp [its]
theorem sumS_take {l : List It4} {i : Nat} {x : It4} (h : l[i]? = some x) : sumS (l.take (i + 1)) = sumS (l.take i) + x.2.1 := by
  rw [List.take_add_one, h, sumS_app]; simp [sumS]
theorem sumS_part {l : List It4} (h : Pos l) (i : Nat) : 0 ≤ sumS (l.take i) ∧ sumS (l.take i) ≤ sumS l := by
  have h1 := sumS_app (l.take i) (l.drop i)
  rw [List.take_append_drop] at h1
  have h2 : 0 ≤ sumS (l.take i) := sumS_pos fun x hx => h x (List.mem_of_mem_take hx)
  have h3 : 0 ≤ sumS (l.drop i) := sumS_pos fun x hx => h x (List.mem_of_mem_drop hx)
  omega
set_option maxHeartbeats 4000000 in
theorem rSize (ao : Option Addr) (n c : Nat) (l : List It4) (R : List Ro) (hS : SR R 4 ao n c (its l)) (ha : allS l) :
    Fn Try.prog 23 #[.slice ao n c] [] R (fun v L' R' => v = .int .i64 (sumS l) ∧ L' = [] ∧ R' = R) := by
  have hn : n = l.length := by rw [← hS.len]; exact its_len l
  have hlen := ha.2.2
  have ha2 := ha.2.1
  refine fn_intro Try.func23 rfl Try.ntmps23 rfl (fun E => ?_)
  (repeat (first | ((first | (apply wo_v; rfl) ); (· first | (apply pv_ev; rfl) | (apply g_bi; first | (apply pv_len_sl; rfl) ) )) | apply wo_nil | apply wc_seq | apply wc_region | apply wc_block ))
  refine wc_loop' (fun k st => ∃ (i : Nat), k = n - i ∧ i ≤ n ∧ st = ⟨[(3, .int .i64 (sumS (l.take i))), (6, .slice ao n c), (7, .int .i64 n), (8, .int .i64 i)], [], R⟩) ⟨0, rfl, by omega, rfl⟩ (wk_mk (by (repeat (first | apply wkf_nil | (apply wkf_cons; rfl))); done) (by (repeat (first | apply sub_nil )); done) (by first | exact fun _ h => h | (intro r hr; cases hr; done) | (simp; done) | exact fun _ h => List.mem_append_left _ h | (intro r hr; simp [hr]; done))) ?_
  rintro k st ⟨i, rfl, hi, rfl⟩
  have hp := sumS_part ha.1 i
  by_cases hlt : i < n
  · obtain ⟨b, o, rfl, hm⟩ := hS.pos (by omega)
    obtain ⟨⟨xn, xs, xt, xk⟩, hx⟩ : ∃ x, l[i]? = some x := ⟨_, List.getElem?_eq_getElem (by omega)⟩
    have hr : (its l)[i]? = some [.int .i64 xn, .int .i64 xs, .int .i64 xt, .bool xk] := its_at hx
    have e1 := sumS_take hx
    have hp1 := sumS_part ha.1 (i + 1)
    simp only at e1
    (repeat (first | ((first | (apply wo_v; rfl) ); (· first | (apply pv_ev; rfl) | (apply pv_fld; rfl) | (apply g_load; first | (apply pv_ld; rfl; (· (repeat (first | apply sel_here ))); rfl) | (apply pv_lda; rfl; (· (repeat (first | fail ))); (· (repeat (first | fail )))) | (apply pv_ld_owna; rfl; (· (repeat (first | fail ))); (· assumption)) | (apply pv_ld_roa; rfl; (· (first | assumption )); (· assumption))) | (apply g_bin; first | (apply a_add; rfl; rfl; infer_instance; omega) ) | (apply g_idx; first | (apply pv_idx; rfl; rfl; omega) ) )) | apply wo_nil | apply wc_seq | apply wc_region | apply wc_block | apply wc_skip | (apply wc_true; rfl) | (apply wc_false; rfl) | (apply a_dec_t; rfl; (· first | assumption | omega)) | (apply wo_alloc; rfl; intro bx) | (apply wo_sta; rfl; rfl; rfl; rfl; (· (repeat (first | apply sel_here ))); (· (repeat (first | apply LayAt.nil | apply LayAt.here ))); rfl) ))
    rw [← e1]
    exact loop_end ⟨i + 1, rfl, by omega, rfl⟩ (by omega) (wk_mk (by (repeat (first | apply wkf_nil | (apply wkf_cons; rfl))); done) (by (repeat (first | apply sub_nil )); done) (by first | exact fun _ h => h | (intro r hr; cases hr; done) | (simp; done) | exact fun _ h => List.mem_append_left _ h | (intro r hr; simp [hr]; done)))
  · obtain rfl : i = n := by omega
    (repeat (first | ((first | (apply wo_v; rfl) ); (· first | (apply pv_ev; rfl) )) | apply wo_nil | apply wc_seq | apply wc_region | (apply wc_exit; rfl) | apply wc_ret | (apply wc_true; rfl) | (apply wc_false; rfl) | (apply a_dec_t; rfl; (· first | assumption | omega)) | (apply a_dec_f; rfl; (· first | assumption | omega)) ))
    exact ret1 rfl rfl ⟨by rw [List.take_of_length_le (by omega)], rfl, rfl⟩ (by (repeat (first | apply sub_nil )); done) (by first | exact fun _ h => h | (intro r hr; cases hr; done) | (simp; done) | exact fun _ h => List.mem_append_left _ h | (intro r hr; simp [hr]; done))
abbrev rqv (fr mo : Int) (ao : Option Addr) (n c : Nat) (bk : Bool) : List Value := [.int .i64 fr, .int .i64 mo, .slice ao n c, .bool bk]
set_option maxHeartbeats 4000000 in
theorem rDrop (fr mo : Int) (ao : Option Addr) (n c : Nat) (bk : Bool) (x : It4) (t : List It4) (R : List Ro) (hS : SR R 4 ao n c (its (x :: t))) (ha : allS (x :: t)) :
    Fn Try.prog 63 #[.agg (rqv fr mo ao n c bk).toArray] [] R
      (fun v L' R' => ∃ ao' n' c' ao2 m c2, v = .tuple #[.agg (rqv fr mo ao' n' c' (bk || (dw t).isEmpty)).toArray, .slice ao2 m c2] ∧ L' = [] ∧ SR R' 4 ao' n' c' (its (dw t)) ∧ SR R' 4 ao2 m c2 (its (x :: tw t))) := by
  have hn : n = t.length + 1 := by rw [← hS.len, its_len]; rfl
  have hlen := ha.2.2
  have hle := hS.le
  simp only [List.length_cons] at hlen
  obtain ⟨b, o, rfl, hm⟩ := hS.pos (by omega)
  refine fn_intro Try.func63 rfl Try.ntmps63 rfl (fun E => ?_)
  (repeat (first | ((first | (apply wo_v; rfl) ); (· first | (apply pv_ev; rfl) )) | apply wo_nil | apply wc_seq | apply wc_region | apply wc_block | (apply wo_box1; rfl; rfl; rfl; intro bx) | (apply wo_boxa; rfl; rfl; intro bx) | (apply wo_alloc; rfl; intro bx) ))
  rename_i g1
  refine wc_loop' (fun k st => ∃ (a d : List It4), k = d.length ∧ t = a ++ d ∧ (∀ y ∈ a, y.2.2.2 = false) ∧ st = ⟨[(1, .pointer (some ⟨g1, 0, none⟩)), (2, .pointer (some ⟨bx, 0, none⟩)), (4, .int .i64 ((a.length : Int) + 1))], [.ob g1 (.cells (rqv fr mo (some ⟨b, o, none⟩) n c bk).toArray xqT (0, 0)), .ob bx (.cells #[.int .i64 0, .int .i64 0, .slice none 0 0, .bool false] xqT (0, 0))], R⟩) ⟨[], t, rfl, rfl, by simp, rfl⟩ (wk_mk (by (repeat (first | apply wkf_nil | (apply wkf_cons; rfl))); done) (by (repeat (first | apply sub_nil | (apply sub_cons; (· (repeat (first | apply sel_here | apply sel_there)))))); done) (by first | exact fun _ h => h | (intro r hr; cases hr; done) | (simp; done) | exact fun _ h => List.mem_append_left _ h | (intro r hr; simp [hr]; done))) ?_
  rintro k st ⟨a, d, rfl, rfl, hk, rfl⟩
  simp only [List.length_append] at hn hlen
  by_cases hg : ∃ y t, d = y :: t ∧ y.2.2.2 = false
  · obtain ⟨⟨n2, s2, t2, k2⟩, t, rfl, hy⟩ := hg
    simp only at hy
    subst hy
    simp only [List.length_cons] at hn hlen
    have hr : (its (x :: (a ++ (n2, s2, t2, false) :: t)))[a.length + 1]? = some [.int .i64 n2, .int .i64 s2, .int .i64 t2, .bool false] := its_at (x := (n2, s2, t2, false)) (by simp)
    have hi : (a.length : Int) + 1 = ((a.length + 1 : Nat) : Int) := by simp
    rw [hi]
    have hlt : a.length + 1 < n := by omega
    clear hi
    (repeat (first | ((first | (apply wo_v; rfl) ); (· first | (apply pv_ev; rfl) | (apply pv_fld; rfl) | (apply g_load; first | (apply pv_ld; rfl; (· (repeat (first | apply sel_here | apply sel_there))); rfl) | (apply pv_ld_ownf; rfl; (· (repeat (first | apply sel_there))); (· assumption); rfl) | (apply pv_ld_own1; rfl; (· (repeat (first | fail ))); (· assumption)) | (apply pv_ld_rof; rfl; (· (first | assumption )); (· assumption); rfl) ) | (apply g_pick; first | (apply pv_pick_t; rfl; rfl) ) | (apply g_bin; first | (apply a_add; rfl; rfl; infer_instance; omega) ) | (apply g_bi; first | (apply pv_len_sl; rfl) ) | (apply g_un; first | (apply pv_not_t; rfl) | (apply pv_not_f; rfl) ) | (apply g_idx; first | (apply pv_idx; rfl; rfl; omega) ) )) | apply wo_nil | apply wc_seq | apply wc_region | apply wc_block | apply wc_skip | (apply wc_true; rfl) | (apply wo_run; rfl; rfl) | (apply wo_skip; rfl; rfl; rfl; rfl) | (apply wo_skip_u; rfl; rfl; rfl) | (apply a_gt; rfl; rfl; (· first | assumption | omega)) ))
    rw [show ((a.length + 1 : Nat) : Int) + 1 = ((a ++ [(n2, s2, t2, false)]).length : Int) + 1 by simp]
    exact loop_end ⟨a ++ [(n2, s2, t2, false)], t, rfl, by simp, fun z hz => (List.mem_append.1 hz).elim (hk z) (fun h => by rw [List.mem_singleton.1 h]), rfl⟩ (by simp) (wk_mk (by (repeat (first | apply wkf_nil | (apply wkf_cons; rfl))); done) (by (repeat (first | apply sub_nil )); done) (by first | exact fun _ h => h | (intro r hr; cases hr; done) | (simp; done) | exact fun _ h => List.mem_append_left _ h | (intro r hr; simp [hr]; done)))
  · have hd : d = [] ∨ ∃ y t, d = y :: t ∧ y.2.2.2 = true := by
      cases d with
      | nil => exact .inl rfl
      | cons y t =>
        refine .inr ⟨y, t, rfl, ?_⟩
        cases hy : y.2.2.2 with
        | true => rfl
        | false => exact absurd ⟨y, t, rfl, hy⟩ hg
    have hhead : ∀ z, d.head? = some z → z.2.2.2 = true := by
      rcases hd with rfl | ⟨y, t, rfl, hy⟩
      · intro z hz; cases hz
      · intro z hz; cases hz; exact hy
    obtain ⟨g2, g3⟩ := twdw_at hk hhead
    rw [g2, g3]
    have hi : (a.length : Int) + 1 = ((a.length + 1 : Nat) : Int) := by simp
    have hc1 := hS.cut (l := 0) (h := a.length + 1) (m := c) ⟨by omega, by omega, by omega, by omega⟩
    have hc2 := hS.cut (l := a.length + 1) (h := n) (m := c) ⟨by omega, by omega, by omega, by omega⟩
    have e1 : ((its (x :: (a ++ d))).take (a.length + 1)).drop 0 = its (x :: a) := by simp [its]
    have e2 : ((its (x :: (a ++ d))).take n).drop (a.length + 1) = its d := by
      rw [List.take_of_length_le (by rw [hS.len]; exact Nat.le_refl _)]; simp [its]
    rw [e1] at hc1
    rw [e2] at hc2
    generalize hA1 : (if c = 0 then (some ⟨b, o, none⟩ : Option Addr) else (some (⟨b, o, none⟩ : Addr)).map (·.add (0 * 4))) = A1 at hc1
    generalize hA2 : (if c = a.length + 1 then (some ⟨b, o, none⟩ : Option Addr) else (some (⟨b, o, none⟩ : Addr)).map (·.add ((a.length + 1) * 4))) = A2 at hc2
    refine wc_ro 0 (a.length + 1) hm ?_
    refine wc_ro (a.length + 1) n (List.mem_cons_of_mem _ hm) ?_
    rw [e1, e2, hi]
    have hR1 := hc1.mono (R' := ⟨b, elt o (a.length + 1) 4, 4, its d⟩ :: ⟨b, elt o 0 4, 4, its (x :: a)⟩ :: R) (fun r h => List.mem_cons_of_mem _ h)
    have hR2 := hc2.mono (R' := ⟨b, elt o (a.length + 1) 4, 4, its d⟩ :: ⟨b, elt o 0 4, 4, its (x :: a)⟩ :: R) (fun r h => by
      rcases List.mem_cons.1 h with rfl | h
      · exact .head _
      · exact .tail _ (.tail _ h))
    have hmR : ⟨b, o, 4, its (x :: (a ++ d))⟩ ∈ (⟨b, elt o (a.length + 1) 4, 4, its d⟩ :: ⟨b, elt o 0 4, 4, its (x :: a)⟩ :: R) := .tail _ (.tail _ hm)
    clear hc1 hc2
    generalize (⟨b, elt o (a.length + 1) 4, 4, its d⟩ :: ⟨b, elt o 0 4, 4, its (x :: a)⟩ :: R) = RR at hR1 hR2 hmR ⊢
    have hm' : ⟨b, o, 4, its (x :: (a ++ d))⟩ ∈ RR := hmR
    have hcl : a.length + 1 ≤ c := by omega
    rcases hd with rfl | ⟨⟨n2, s2, t2, k2⟩, t, rfl, hy⟩
    · simp only [List.length_nil] at hn
      have hnl : ¬ (((a.length + 1 : Nat) : Int) < (n : Int)) := by omega
      cases bk
      all_goals
        (repeat (first | ((first | (apply wo_v; rfl) ); (· first | (apply pv_ev; rfl) | (apply pv_fld; rfl) | (apply g_load; first | (apply pv_ld; rfl; (· (repeat (first | apply sel_here ))); rfl) ) | (apply g_pick; first | (apply pv_pick_t; rfl; rfl) | (apply pv_pick_f; rfl; rfl)) | (apply g_bi; first | (apply pv_len_sl; rfl) ) )) | apply wo_nil | apply wc_seq | apply wc_region | (apply wc_exit; rfl) | (apply wc_true; rfl) | (apply wc_false; rfl) | (apply wo_run; rfl; rfl) | (apply wo_skip; rfl; rfl; rfl; rfl) | (apply wo_skip_u; rfl; rfl; rfl) | (apply a_gt; rfl; rfl; (· first | assumption | omega)) | (apply a_gf; rfl; rfl; (· first | assumption | omega)) ))
        refine wo_v rfl (pv_cut (l := 0) (h := a.length + 1) (m := c) inferInstance rfl (.hi rfl rfl hcl)) ?_
        rw [hA1]
        (repeat (first | ((first | (apply wo_v; rfl) ); (· first | (apply pv_ev; rfl) | (apply pv_fld; rfl) | (apply g_load; first | (apply pv_ld; rfl; (· (repeat (first | apply sel_here ))); rfl) ) )) | apply wo_nil | apply wc_seq | apply wc_region ))
        refine wo_v rfl (pv_cut (l := a.length + 1) (h := n) (m := c) inferInstance rfl (.lo rfl rfl (by omega))) ?_
        rw [hA2]
        (repeat (first | ((first | (apply wo_v; rfl) ); (· first | (apply pv_ev; rfl) | (apply pv_fld; rfl) | (apply g_load; first | (apply pv_ld; rfl; (· (repeat (first | apply sel_here ))); rfl) | (apply pv_lda; rfl; (· (repeat (first | apply sel_here ))); (· (repeat (first | apply Cut.here0 | apply Cut.here )))) ) | (apply g_pick; first | (apply pv_pick_t; rfl; rfl) | (apply pv_pick_f; rfl; rfl)) | (apply g_bi; first | (apply pv_len_sl; rfl) ) )) | apply wo_nil | apply wc_seq | apply wc_region | apply wc_ret | (apply wo_run; rfl; rfl) | (apply wo_skip; rfl; rfl; rfl; rfl) | (apply wo_st; rfl; rfl; rfl; (· (repeat (first | apply sel_here ))); (· (repeat (first | apply SetAt.here | apply SetAt.there))); rfl) | (apply wo_sta; rfl; rfl; rfl; rfl; (· (repeat (first | apply sel_here | apply sel_there))); (· (repeat (first | apply LayAt.nil | apply LayAt.here ))); rfl) ))
        try rw [show (decide (((n - (a.length + 1) : Nat) : Int) = 0)) = true by simp; omega]
        exact retv rfl (by (repeat (first | apply RV.nil | (apply RV.tmp; rfl) | (apply RV.agg; rfl; (· (repeat (first | apply sel_here ))); infer_instance; (· (repeat (first | apply Cut.here0 | apply Cut.here )))) )); done) (⟨A2, _, _, A1, _, _, rfl, rfl, hR2, hR1⟩) (by (repeat (first | apply sub_nil )); done) (by first | exact fun _ h => h | (intro r hr; cases hr; done) | (simp; done) | exact fun _ h => List.mem_append_left _ h | (intro r hr; simp [hr]; done))
    · simp only at hy
      subst hy
      simp only [List.length_cons] at hn
      have hr : (its (x :: (a ++ (n2, s2, t2, true) :: t)))[a.length + 1]? = some [.int .i64 n2, .int .i64 s2, .int .i64 t2, .bool true] := its_at (x := (n2, s2, t2, true)) (by simp)
      have hnl : a.length + 1 < n := by omega
      cases bk
      all_goals
        (repeat (first | ((first | (apply wo_v; rfl) ); (· first | (apply pv_ev; rfl) | (apply pv_fld; rfl) | (apply g_load; first | (apply pv_ld; rfl; (· (repeat (first | apply sel_here | apply sel_there))); rfl) | (apply pv_ld_ownf; rfl; (· (repeat (first | apply sel_there))); (· assumption); rfl) | (apply pv_ld_own1; rfl; (· (repeat (first | fail ))); (· assumption)) | (apply pv_ld_rof; rfl; (· (first | assumption )); (· assumption); rfl) ) | (apply g_pick; first | (apply pv_pick_t; rfl; rfl) ) | (apply g_bi; first | (apply pv_len_sl; rfl) ) | (apply g_un; first | (apply pv_not_t; rfl) ) | (apply g_idx; first | (apply pv_idx; rfl; rfl; omega) ) )) | apply wo_nil | apply wc_seq | apply wc_region | (apply wc_exit; rfl) | (apply wc_true; rfl) | (apply wc_false; rfl) | (apply wo_run; rfl; rfl) | (apply wo_skip; rfl; rfl; rfl; rfl) | (apply wo_skip_u; rfl; rfl; rfl) | (apply a_gt; rfl; rfl; (· first | assumption | omega)) ))
        refine wo_v rfl (pv_cut (l := 0) (h := a.length + 1) (m := c) inferInstance rfl (.hi rfl rfl hcl)) ?_
        rw [hA1]
        (repeat (first | ((first | (apply wo_v; rfl) ); (· first | (apply pv_ev; rfl) | (apply pv_fld; rfl) | (apply g_load; first | (apply pv_ld; rfl; (· (repeat (first | apply sel_here ))); rfl) ) )) | apply wo_nil | apply wc_seq | apply wc_region ))
        refine wo_v rfl (pv_cut (l := a.length + 1) (h := n) (m := c) inferInstance rfl (.lo rfl rfl (by omega))) ?_
        rw [hA2]
        (repeat (first | ((first | (apply wo_v; rfl) ); (· first | (apply pv_ev; rfl) | (apply pv_fld; rfl) | (apply g_load; first | (apply pv_ld; rfl; (· (repeat (first | apply sel_here ))); rfl) | (apply pv_lda; rfl; (· (repeat (first | apply sel_here ))); (· (repeat (first | apply Cut.here0 | apply Cut.here )))) ) | (apply g_pick; first | (apply pv_pick_t; rfl; rfl) | (apply pv_pick_f; rfl; rfl)) | (apply g_bi; first | (apply pv_len_sl; rfl) ) )) | apply wo_nil | apply wc_seq | apply wc_region | apply wc_ret | (apply wo_run; rfl; rfl) | (apply wo_skip; rfl; rfl; rfl; rfl) | (apply wo_st; rfl; rfl; rfl; (· (repeat (first | apply sel_here ))); (· (repeat (first | apply SetAt.here | apply SetAt.there))); rfl) | (apply wo_sta; rfl; rfl; rfl; rfl; (· (repeat (first | apply sel_here | apply sel_there))); (· (repeat (first | apply LayAt.nil | apply LayAt.here ))); rfl) ))
        try rw [show (decide (((n - (a.length + 1) : Nat) : Int) = 0)) = false by simp; omega]
        exact retv rfl (by (repeat (first | apply RV.nil | (apply RV.tmp; rfl) | (apply RV.agg; rfl; (· (repeat (first | apply sel_here ))); infer_instance; (· (repeat (first | apply Cut.here0 | apply Cut.here )))) )); done) (⟨A2, _, _, A1, _, _, rfl, rfl, hR2, hR1⟩) (by (repeat (first | apply sub_nil )); done) (by first | exact fun _ h => h | (intro r hr; cases hr; done) | (simp; done) | exact fun _ h => List.mem_append_left _ h | (intro r hr; simp [hr]; done))
end Go.Proofs.Ytbhegdlpmeeekaa

/-
  The document's answer for layer 18: Put, Expire.
-/
namespace Go.Proofs.Ytbhegdlpmeeekaa
set_option linter.unusedSimpArgs false
set_option linter.unusedVariables false
open Go.RowKit
attribute [local irreducible] Pv WO WC Fn
set_option maxRecDepth 100000

abbrev xb (g : Nat) (fr mo : Int) (ao : Option Addr) (n c : Nat) (bk : Bool) : It := .ob g (.cells (rqv fr mo ao n c bk).toArray xqT (0, 0))
/-- a copy of a slice, and one item behind it -/
abbrev tblB (n : Nat) (row : List Value) (ys : List (List Value)) : Nat → List (List It) → Value → List (List It) → Prop := fun k Ls v Ms =>
  if k = 0 then ∃ b, v = .slice (some ⟨b, 0, none⟩) 0 0 ∧ Ms = [[.own rIt 4 (some ⟨b, 0, none⟩) 0 0 []]]
  else if k = 3 then ∃ ao' c', v = .slice ao' (0 + n) c' ∧ Ms = [[.own rIt 4 ao' (0 + n) c' ([] ++ ys)]]
  else if k = 5 then ∃ b, v = .slice (some ⟨b, 0, none⟩) 1 1 ∧ Ms = [[.own rIt 4 (some ⟨b, 0, none⟩) 1 1 [row]]]
  else ∃ ao' c', v = .slice ao' (0 + n + 1) c' ∧ Ms = [[.own rIt 4 ao' (0 + n + 1) c' ([] ++ ys ++ [row])], Ls.getD 1 []]
abbrev xz (g : Nat) : It := .ob g (.cells #[.int .i64 0, .int .i64 0, .slice none 0 0, .bool false] xqT (0, 0))
abbrev xi (g : Nat) (xn xs xt : Int) (xk : Bool) : It := .ob g (.cells #[.int .i64 xn, .int .i64 xs, .int .i64 xt, .bool xk] rIt (0, 0))
set_option maxHeartbeats 16000000 in
theorem rPut (fr mo : Int) (ao : Option Addr) (n c : Nat) (xn xs xt : Int) (xk : Bool) (l : List It4) (bk : Bool) (R : List Ro) (hS : SR R 4 ao n c (its l)) (ha : allS l) (hfr : 1 ≤ fr) (hmo : 0 ≤ mo ∧ mo ≤ 16777216) :
    Fn Try.prog 51 #[.agg (rqv fr mo ao n c bk).toArray, .agg #[.int .i64 xn, .int .i64 xs, .int .i64 xt, .bool xk]] [] R
      (fun v L' R' => ∃ ao' n' c' ao2 m c2, v = .tuple #[.agg (rqv fr mo ao' n' c' (putM fr mo l bk (xn, xs, xt, xk)).2.2.2).toArray, .slice ao2 m c2, .bool (putM fr mo l bk (xn, xs, xt, xk)).2.1] ∧ L' = []
        ∧ SR R' 4 ao' n' c' (its (putM fr mo l bk (xn, xs, xt, xk)).2.2.1) ∧ SR R' 4 ao2 m c2 (its (putM fr mo l bk (xn, xs, xt, xk)).1)) := by
  have hn : n = l.length := by rw [← hS.len]; simp [its]
  have hp := sumS_pos ha.1
  have ha2 := ha.2.1
  have hlen := ha.2.2
  by_cases hno : xs < 0 ∨ mo < xs ∨ (bk = true ∧ xk = false)
  · have e : putM fr mo l bk (xn, xs, xt, xk) = ([], false, l, true) := by unfold putM; rw [if_pos (by simpa using hno)]
    rw [e]
    have h3 : xs < 0 ∨ (0 ≤ xs ∧ mo < xs) ∨ (0 ≤ xs ∧ xs ≤ mo ∧ bk = true ∧ xk = false) := by
      rcases Int.lt_or_le xs 0 with h | h
      · exact .inl h
      · rcases Int.lt_or_le mo xs with h' | h'
        · exact .inr (.inl ⟨h, h'⟩)
        · exact .inr (.inr ⟨h, h', by rcases hno with h1 | h1 | h1 <;> first | omega | exact h1⟩)
    clear hno e
    rcases h3 with h | ⟨h0, h⟩ | ⟨h0, h1, rfl, rfl⟩
    all_goals
      refine fn_intro Try.func51 rfl Try.ntmps51 rfl (fun E => ?_)
      (repeat (first | ((first | (apply wo_v; rfl) ); (· first | (apply pv_ev; rfl) | (apply pv_fld; rfl) | (apply g_load; first | (apply pv_ld; rfl; (· (repeat (first | apply sel_here | apply sel_there))); rfl) | (apply pv_lda; rfl; (· (repeat (first | apply sel_here ))); (· (repeat (first | apply Cut.here0 | apply Cut.here )))) ) | (apply g_pick; first | (apply pv_pick_t; rfl; rfl) | (apply pv_pick_f; rfl; rfl)) | (apply g_un; first | (apply pv_not_t; rfl) | (apply pv_not_f; rfl) ) )) | apply wo_nil | apply wc_seq | apply wc_region | apply wc_ret | (apply wc_true; rfl) | (apply wo_run; rfl; rfl) | (apply wo_skip; rfl; rfl; rfl; rfl) | (apply wo_skip_u; rfl; rfl; rfl) | (apply a_gt; rfl; rfl; (· first | assumption | omega)) | (apply a_gf; rfl; rfl; (· first | assumption | omega)) | (apply wo_st; rfl; rfl; rfl; (· (repeat (first | apply sel_here | apply sel_there))); (· (repeat (first | apply SetAt.here | apply SetAt.there))); rfl) | (apply wo_box1; rfl; rfl; rfl; intro bx) | (apply wo_boxa; rfl; rfl; intro bx) | (apply wo_alloc; rfl; intro bx) | (apply wo_sta; rfl; rfl; rfl; rfl; (· (repeat (first | apply sel_here | apply sel_there))); (· (repeat (first | apply LayAt.nil | apply LayAt.here ))); rfl) ))
      exact retv rfl (by (repeat (first | apply RV.nil | (apply RV.tmp; rfl) | (apply RV.agg; rfl; (· (repeat (first | apply sel_here ))); infer_instance; (· (repeat (first | apply Cut.here0 | apply Cut.here )))) )); done) (⟨ao, n, c, none, 0, 0, rfl, rfl, hS, SR.nil _ _⟩) (by (repeat (first | apply sub_nil )); done) (by first | exact fun _ h => h | (intro r hr; cases hr; done) | (simp; done) | exact fun _ h => List.mem_append_left _ h | (intro r hr; simp [hr]; done))
  · have h0 : 0 ≤ xs := by omega
    have h1 : xs ≤ mo := by omega
    have hbk : (bk = false ∧ True) ∨ (bk = true ∧ xk = true) := by cases bk <;> cases xk <;> simp at hno ⊢
    have e : putM fr mo l bk (xn, xs, xt, xk) = if (putG fr mo xs l bk).2.2 = true ∧ xk = false then ((putG fr mo xs l bk).1, false, (putG fr mo xs l bk).2.1, (putG fr mo xs l bk).2.2)
      else ((putG fr mo xs l bk).1, true, (putG fr mo xs l bk).2.1 ++ [(xn, xs, xt, xk)], false) := by unfold putM; rw [if_neg (by simpa using hno)]
    obtain ⟨hspec, hroom⟩ := putG_spec fr mo xs l.length l bk (Nat.le_refl _)
    generalize hG : putG fr mo xs l bk = G at e hspec hroom
    obtain ⟨out, l', bk'⟩ := G
    simp only at e hspec hroom
    rw [e]
    clear e hno
    rcases hbk with ⟨rfl, hx⟩ | ⟨rfl, hx⟩
    all_goals
      refine fn_intro Try.func51 rfl Try.ntmps51 rfl (fun E => ?_)
      (repeat (first | ((first | (apply wo_v; rfl) ); (· first | (apply pv_ev; rfl) | (apply pv_fld; rfl) | (apply g_load; first | (apply pv_ld; rfl; (· (repeat (first | apply sel_here | apply sel_there))); rfl) ) | (apply g_pick; first | (apply pv_pick_t; rfl; rfl) | (apply pv_pick_f; rfl; rfl)) | (apply g_un; first | (apply pv_not_t; rfl) | (apply pv_not_f; rfl) | (apply a_not_d; rfl) | (apply pv_not; rfl) ) )) | apply wo_nil | apply wc_seq | apply wc_region | apply wc_block | apply wc_skip | (apply wc_true; rfl) | (apply wc_false; rfl) | (apply a_dec_t; rfl; (· first | assumption | omega)) | (apply a_dec_f; rfl; (· first | assumption | omega)) | (apply a_dec_t; rfl; (· first | (simp; done) | (simp; omega))) | (apply a_dec_f; rfl; (· first | (simp; done) | (simp; omega))) | (apply wo_run; rfl; rfl) | (apply wo_skip; rfl; rfl; rfl; rfl) | (apply wo_skip_u; rfl; rfl; rfl) | (apply a_gt; rfl; rfl; (· first | assumption | omega)) | (apply a_gf; rfl; rfl; (· first | assumption | omega)) | (apply wo_box1; rfl; rfl; rfl; intro bx) | (apply wo_boxa; rfl; rfl; intro bx) | (apply wo_alloc; rfl; intro bx) | (apply wo_bsl; (· (repeat (first | apply Rws'.nil ))); rfl; rfl; rfl; rfl; intro bx) ))
      try (refine wc_cond rfl (fun h => absurd h (by simp [hx])) (fun _ => ?_); (repeat (first | fail )))
      rename_i g1 g2 g3
      refine wc_loop' (fun k st => ∃ (l1 : List It4) (bk1 : Bool) (o1 o2 : List It4) (ao1 ao2 : Option Addr) (n1 c1 c2 : Nat) (RR : List Ro), k = l1.length ∧ st = ⟨[(2, .pointer (some ⟨g1, 0, none⟩)), (3, .pointer (some ⟨g2, 0, none⟩)), (4, .pointer (some ⟨g3, 0, none⟩)), (7, .slice ao2 o1.length c2)], [xb g1 fr mo ao1 n1 c1 bk1, xi g2 xn xs xt xk, xz g3, .own rIt 4 ao2 o1.length c2 (its o1)], RR⟩
          ∧ SR RR 4 ao1 n1 c1 (its l1) ∧ allS l1 ∧ putG fr mo xs l1 bk1 = (o2, l', bk') ∧ out = o1 ++ o2 ∧ o1.length + l1.length = l.length)
        ⟨l, _, [], out, ao, some ⟨bx, 0, none⟩, n, c, 0, R, rfl, rfl, hS, ha, hG, rfl, by simp⟩ (wk_mk (by (repeat (first | apply wkf_nil | (apply wkf_cons; rfl))); done) (by (repeat (first | apply sub_nil | (apply sub_cons; (· (repeat (first | apply sel_here | apply sel_there)))))); done) (by first | exact fun _ h => h | (intro r hr; cases hr; done) | (simp; done) | exact fun _ h => List.mem_append_left _ h | (intro r hr; simp [hr]; done))) ?_
      rintro k st ⟨l1, bk1, o1, o2, ao1, ao2, n1, c1, c2, RR, rfl, rfl, hS1, ha1, hG1, hout, hlen1⟩
      have hn1 : n1 = l1.length := by rw [← hS1.len]; exact its_len l1
      have hp1 := sumS_pos ha1.1
      have ha12 := ha1.2.1
      have key : (∃ y t, l1 = y :: t) ∧ (fr ≤ (n1 : Int) ∨ ((n1 : Int) < fr ∧ mo - xs < sumS l1)) ∨ ((n1 : Int) < fr ∧ sumS l1 ≤ mo - xs) := by
        cases l1 with
        | nil => refine .inr ⟨?_, ?_⟩ <;> simp [sumS] at hn1 ⊢ <;> omega
        | cons y t =>
          by_cases h : fr ≤ (n1 : Int)
          · exact .inl ⟨⟨y, t, rfl⟩, .inl h⟩
          · by_cases h' : mo - xs < sumS (y :: t)
            · exact .inl ⟨⟨y, t, rfl⟩, .inr ⟨by omega, h'⟩⟩
            · exact .inr ⟨by omega, by omega⟩
      rcases key with ⟨⟨y, t, rfl⟩, hc⟩ | ⟨hc1, hc2⟩
      · have hgo : fr ≤ (t.length : Int) + 1 ∨ mo < sumS (y :: t) + xs := by simp at hn1; omega
        rw [putG_go hgo] at hG1
        simp only [Prod.mk.injEq] at hG1
        obtain ⟨q1, q2⟩ := hG1
        have hl2 : (y :: tw t).length + (dw t).length = (y :: t).length := by have := congrArg List.length (twdw t); simp at this ⊢; omega
        rcases hc with hc | ⟨hc, hc'⟩
        all_goals
          (repeat (first | apply wc_seq ))
          (refine wc_quiet mixed (by kernel_rfl) ?_; (repeat (first | ((first | (apply wo_v; rfl) | (apply hd_v; rfl) ); (· first | (apply pv_ev; rfl) | (apply pv_fld; rfl) | (apply g_load; first | (apply pv_ld; rfl; (· (repeat (first | apply sel_here ))); rfl) | (apply pv_lda; rfl; (· (repeat (first | apply sel_here ))); (· (repeat (first | apply Cut.here0 | apply Cut.here )))) ) | (apply g_pick; first | (apply pv_pick_t; rfl; rfl) ) | (apply g_bi; first | (apply pv_len_sl; rfl) ) )) | apply Hd.nil | apply wc_seq | apply wc_region | apply wc_block | apply wc_skip | (apply wc_true; rfl) | (apply Hd.run; rfl; rfl) | (apply Hd.skip; rfl; rfl; rfl; rfl) | (apply Hd.skipu; rfl; rfl; rfl) | (apply ah_gt; rfl; rfl; (· first | assumption | omega)) | (apply ah_gf; rfl; rfl; (· first | assumption | omega)) )))
          try (refine Hd.call rfl inferInstance (Fn.mono (rSize ao1 n1 c1 (y :: t) RR hS1 ha1) (fun _ _ _ h => ⟨h.1, h.2.1⟩)) rfl (by (repeat (first | apply sub_nil )); done) (by first | exact fun _ h => h | (intro r hr; cases hr; done) | (simp; done) | exact fun _ h => List.mem_append_left _ h | (intro r hr; simp [hr]; done)) rfl ?_; (repeat (first | ((first | (apply wo_v; rfl) | (apply hd_v; rfl) ); (· first | (apply pv_ev; rfl) | (apply pv_fld; rfl) | (apply g_load; first | (apply pv_ld; rfl; (· (repeat (first | apply sel_here | apply sel_there))); rfl) | (apply pv_lda; rfl; (· (repeat (first | apply sel_here ))); (· (repeat (first | apply Cut.here0 | apply Cut.here )))) ) | (apply g_pick; first | (apply pv_pick_t; rfl; rfl) | (apply pv_pick_f; rfl; rfl)) | (apply g_bin; first | (apply a_sub; rfl; rfl; infer_instance; omega) ) )) | apply Hd.nil | apply wc_seq | apply wc_region | apply wc_block | apply wc_skip | (apply wc_true; rfl) | (apply wc_false; rfl) | (apply a_dec_t; rfl; (· first | assumption | omega)) | (apply Hd.run; rfl; rfl) )))
          (refine wo_call (rDrop fr mo ao1 n1 c1 bk1 y t RR hS1 ha1) rfl (by (repeat (first | apply sub_nil )); done) (by first | exact fun _ h => h | (intro r hr; cases hr; done) | (simp; done) | exact fun _ h => List.mem_append_left _ h | (intro r hr; simp [hr]; done)) rfl ?_; rintro v L' R' ⟨ao3, n3, c3, ao4, m, c4, rfl, rfl, hS3, hS4⟩ H' hH RR hR; simp only [List.cons_append, List.nil_append] at hH hR; subst hH; have hR := hR.symm; subst hR)
          (repeat (first | ((first | (apply wo_v; rfl) ); (· first | (apply pv_ev; rfl) | (apply g_load; first | (apply pv_lda; rfl; (· (repeat (first | apply sel_here ))); (· (repeat (first | apply Cut.here0 | apply Cut.here )))) ) | (apply g_bi; first | fail ) )) | apply wo_nil | apply wc_seq | apply wc_region | (apply wo_alloc; rfl; intro bx) | (apply wo_sta; rfl; rfl; rfl; rfl; (· (repeat (first | apply sel_here | apply sel_there))); (· (repeat (first | apply LayAt.nil | apply LayAt.here ))); rfl) ))
          have hm4 : m = (tw t).length + 1 := by rw [← hS4.len, its_len]; rfl
          subst hm4
          refine wo_app_sr rfl rfl (by (repeat (first | apply sel_here | apply sel_there)); done) (hS4.mono (fun _ h => List.mem_append_left _ h)) (by unfold maxLen; simp at hl2 hlen1; omega) (by simp at hl2 hlen1; omega) rfl (fun ao5 c5 => ?_)
          (repeat (first | ((first | (apply wo_v; rfl) ); (· first | (apply pv_ev; rfl) )) | apply wo_nil ))
          rw [← its_app, show o1.length + ((tw t).length + 1) = (o1 ++ (y :: tw t)).length by simp]
          exact loop_end ⟨dw t, _, o1 ++ (y :: tw t), (putG fr mo xs (dw t) (bk1 || (dw t).isEmpty)).1, ao3, ao5, n3, c3, c5, _, rfl, rfl, hS3, ha1.tail.dw, by rw [← q2], by rw [hout, ← q1, List.append_assoc], by simp at hl2 hlen1 ⊢; omega⟩ (by have := dw_len t; simp; omega) (wk_mk (by (repeat (first | apply wkf_nil | (apply wkf_cons; rfl))); done) (by (repeat (first | apply sub_nil | (apply sub_cons; (· (repeat (first | apply sel_here | apply sel_there)))))); done) (by first | exact fun _ h => h | (intro r hr; cases hr; done) | (simp; done) | exact fun _ h => List.mem_append_left _ h | (intro r hr; simp [hr]; done)))
      · have hG2 : putG fr mo xs l1 bk1 = ([], l1, bk1) := by
          cases l1 with
          | nil => exact putG_nil
          | cons y t => exact putG_end (by simp at hn1; omega)
        rw [hG2] at hG1
        simp only [Prod.mk.injEq] at hG1
        obtain ⟨rfl, rfl, rfl⟩ := hG1
        rw [List.append_nil] at hout
        subst hout
        refine wc_still (by (repeat (first | apply sel_here | apply sel_there)); done) (fun R2 hS2 => ?_)
        have hS1' := hS1.mono (R' := R2 ++ RR) (fun _ h => List.mem_append_right _ h)
        generalize R2 ++ RR = R3 at hS2 hS1' ⊢
        by_cases hb : bk1 = true ∧ xk = false
        · rw [if_pos hb]
          obtain ⟨rfl, hk2⟩ := hb
          (repeat (first | apply wc_seq ))
          (refine wc_quiet mixed (by kernel_rfl) ?_; (repeat (first | ((first | (apply hd_v; rfl) ); (· first | (apply pv_ev; rfl) | (apply pv_fld; rfl) | (apply g_load; first | (apply pv_ld; rfl; (· (repeat (first | apply sel_here ))); rfl) ) | (apply g_bi; first | (apply pv_len_sl; rfl) ) )) | (apply Hd.run; rfl; rfl) | (apply Hd.skip; rfl; rfl; rfl; rfl) | (apply Hd.skipu; rfl; rfl; rfl) | (apply ah_gt; rfl; rfl; (· first | assumption | omega)) | (apply ah_gf; rfl; rfl; (· first | assumption | omega)) )))
          (refine Hd.call rfl inferInstance (Fn.mono (rSize ao1 n1 c1 l1 R3 hS1' ha1) (fun _ _ _ h => ⟨h.1, h.2.1⟩)) rfl (by (repeat (first | apply sub_nil )); done) (by first | exact fun _ h => h | (intro r hr; cases hr; done) | (simp; done) | exact fun _ h => List.mem_append_left _ h | (intro r hr; simp [hr]; done)) rfl ?_; (repeat (first | ((first | (apply wo_v; rfl) | (apply hd_v; rfl) ); (· first | (apply pv_ev; rfl) | (apply pv_fld; rfl) | (apply g_load; first | (apply pv_ld; rfl; (· (repeat (first | apply sel_here | apply sel_there))); rfl) | (apply pv_lda; rfl; (· (repeat (first | apply sel_here ))); (· (repeat (first | apply Cut.here0 | apply Cut.here )))) ) | (apply g_pick; first | (apply pv_pick_t; rfl; rfl) | (apply pv_pick_f; rfl; rfl)) | (apply g_bin; first | (apply a_sub; rfl; rfl; infer_instance; omega) ) | (apply g_un; first | (apply pv_not_t; rfl) | (apply pv_not_f; rfl) | (apply a_not_d; rfl) | (apply pv_not; rfl) ) )) | apply wo_nil | apply Hd.nil | apply wc_seq | apply wc_region | (apply wc_exit; rfl) | apply wc_ret | (apply wc_true; rfl) | (apply wc_false; rfl) | (apply a_dec_t; rfl; (· first | assumption | omega)) | (apply a_dec_f; rfl; (· first | assumption | omega)) | (apply wo_run; rfl; rfl) | (apply wo_sta; rfl; rfl; rfl; rfl; (· (repeat (first | apply sel_here | apply sel_there))); (· (repeat (first | apply LayAt.nil | apply LayAt.here ))); rfl) | (apply Hd.run; rfl; rfl) )))
          exact retv rfl (by (repeat (first | apply RV.nil | (apply RV.tmp; rfl) | (apply RV.agg; rfl; (· (repeat (first | apply sel_here ))); infer_instance; (· (repeat (first | apply Cut.here0 | apply Cut.here )))) )); done) (⟨ao1, n1, c1, ao2, out.length, c2, rfl, rfl, hS1', hS2⟩) (by (repeat (first | apply sub_nil )); done) (by first | exact fun _ h => h | (intro r hr; cases hr; done) | (simp; done) | exact fun _ h => List.mem_append_left _ h | (intro r hr; simp [hr]; done))
        · rw [if_neg hb]
          have hb2 : bk1 = false ∨ (bk1 = true ∧ xk = true) := by cases bk1 <;> cases xk <;> simp at hb ⊢
          have e1 : 0 + n1 + 1 = (l1 ++ [(xn, xs, xt, xk)]).length := by simp [hn1]
          have e2 : [] ++ its l1 ++ [itr (xn, xs, xt, xk)] = its (l1 ++ [(xn, xs, xt, xk)]) := by simp [its]
          clear hb
          rcases hb2 with rfl | ⟨rfl, hk2⟩
          all_goals
            (repeat (first | apply wc_seq ))
            (refine wc_quiet mixed (by kernel_rfl) ?_; (repeat (first | ((first | (apply hd_v; rfl) ); (· first | (apply pv_ev; rfl) | (apply pv_fld; rfl) | (apply g_load; first | (apply pv_ld; rfl; (· (repeat (first | apply sel_here ))); rfl) ) | (apply g_bi; first | (apply pv_len_sl; rfl) ) )) | (apply Hd.run; rfl; rfl) | (apply Hd.skip; rfl; rfl; rfl; rfl) | (apply Hd.skipu; rfl; rfl; rfl) | (apply ah_gt; rfl; rfl; (· first | assumption | omega)) | (apply ah_gf; rfl; rfl; (· first | assumption | omega)) )))
            (refine Hd.call rfl inferInstance (Fn.mono (rSize ao1 n1 c1 l1 R3 hS1' ha1) (fun _ _ _ h => ⟨h.1, h.2.1⟩)) rfl (by (repeat (first | apply sub_nil )); done) (by first | exact fun _ h => h | (intro r hr; cases hr; done) | (simp; done) | exact fun _ h => List.mem_append_left _ h | (intro r hr; simp [hr]; done)) rfl ?_; (repeat (first | ((first | (apply wo_v; rfl) | (apply hd_v; rfl) ); (· first | (apply pv_ev; rfl) | (apply pv_fld; rfl) | (apply g_load; first | (apply pv_ld; rfl; (· (repeat (first | apply sel_here | apply sel_there))); rfl) ) | (apply g_pick; first | (apply pv_pick_t; rfl; rfl) | (apply pv_pick_f; rfl; rfl)) | (apply g_bin; first | (apply a_sub; rfl; rfl; infer_instance; omega) ) | (apply g_un; first | (apply pv_not_t; rfl) | (apply pv_not_f; rfl) | (apply a_not_d; rfl) | (apply pv_not; rfl) ) )) | apply wo_nil | apply Hd.nil | apply wc_seq | apply wc_region | apply wc_skip | (apply wc_exit; rfl) | (apply wc_true; rfl) | (apply wc_false; rfl) | (apply a_dec_t; rfl; (· first | assumption | omega)) | (apply a_dec_f; rfl; (· first | assumption | omega)) | (apply a_dec_t; rfl; (· first | (simp; done) | (simp; omega))) | (apply a_dec_f; rfl; (· first | (simp; done) | (simp; omega))) | (apply wo_run; rfl; rfl) | (apply wo_skip; rfl; rfl; rfl; rfl) | (apply wo_st; rfl; rfl; rfl; (· (repeat (first | apply sel_here ))); (· (repeat (first | apply SetAt.here | apply SetAt.there))); rfl) | (apply Hd.run; rfl; rfl) )))
            (refine wc_regMT 7 [0, 1] (aslL [(0, [0]), (3, [0]), (5, [1]), (6, [0, 1])]) (tblB n1 (itr (xn, xs, xt, xk)) (its l1)) ([xb g1 fr mo ao1 n1 c1 false, xi g2 xn xs xt xk, xz g3]) (fm [(0, []), (1, [])]) mixed (by kernel_rfl) (by kernel_rfl) (by decide) (aslL_ok (by decide)) (by (repeat (first | (apply prm_cons; (· (repeat (first | apply sel_here )))) | apply List.Perm.nil )); done) ?_; (repeat (first | (apply HdM.val; rfl; rfl; (· first | fail ); (· first | fail )) )))
            (refine hm_eff (cs := [0]) rfl (by decide) rfl rfl (by first | exact gok_none | exact gok_run rfl rfl) (fun a ha => outc_mono (outc_bsl (by (repeat (first | apply Rws'.nil )); done) rfl rfl rfl a ha) (fun v M h => Exists.elim h fun b h => ⟨[M], Exists.intro b (And.intro h.1 (congrArg (fun x => [x]) h.2)), rfl, by simp⟩)) (⟨_, _, Exists.intro 0 (And.intro rfl rfl), rfl⟩) ?_; rintro v Ms ⟨b, rfl, rfl⟩ _; simp only [setls, setl, reduceIte, Nat.reduceEqDiff]; (repeat (first | (apply HdM.val; rfl; rfl; (· first | apply gok_none ); (· first | (apply pv_ev; rfl) | (apply pv_fld; rfl) | (apply g_load; first | (apply pv_ld; rfl; (· (repeat (first | apply sel_here ))); rfl) ) )) )))
            (refine hm_eff (cs := [0]) rfl (by decide) rfl rfl (by first | exact gok_none | exact gok_run rfl rfl) (fun a ha => outc_mono (outc_app_sr rfl rfl hS1' (by unfold maxLen; omega) (by omega) a ha) (fun v M h => Exists.elim h fun b h => Exists.elim h fun c h => ⟨[M], Exists.intro b (Exists.intro c (And.intro h.1 (congrArg (fun x => [x]) h.2))), rfl, by simp⟩)) (⟨_, _, Exists.intro none (Exists.intro 0 (And.intro rfl rfl)), rfl⟩) ?_; rintro v Ms ⟨ao5, c5, rfl, rfl⟩ _; simp only [setls, setl, reduceIte, Nat.reduceEqDiff]; (repeat (first | (apply HdM.val; rfl; rfl; (· first | apply gok_none ); (· first | (apply pv_ev; rfl) | (apply g_load; first | (apply pv_lda; rfl; (· (repeat (first | apply sel_here | apply sel_there))); (· (repeat (first | apply Cut.here0 | apply Cut.here )))) ) )) )))
            (refine hm_eff (cs := [1]) rfl (by decide) rfl rfl (by first | exact gok_none | exact gok_run rfl rfl) (fun a ha => outc_mono (outc_bsl (by (repeat (first | apply Rws'.nil | (apply Rws'.agg; rfl; rfl; rfl))); done) rfl rfl rfl a ha) (fun v M h => Exists.elim h fun b h => ⟨[M], Exists.intro b (And.intro h.1 (congrArg (fun x => [x]) h.2)), rfl, by simp⟩)) (⟨_, _, Exists.intro 0 (And.intro rfl rfl), rfl⟩) ?_; rintro v Ms ⟨b5, rfl, rfl⟩ _; simp only [setls, setl, reduceIte, Nat.reduceEqDiff]; (repeat (first | (apply HdM.val; rfl; rfl; (· first | fail ); (· first | fail )) )))
            (refine hm_eff (cs := [0, 1]) rfl (by decide) rfl rfl (by first | exact gok_none | exact gok_run rfl rfl) (fun a ha => outc_mono (outc_app rfl rfl (by unfold maxLen; omega) (by omega) a ha) (fun v M h => Exists.elim h fun b h => Exists.elim h fun c h => ⟨[[_], [_]], Exists.intro b (Exists.intro c (And.intro h.1 rfl)), rfl, h.2⟩)) (⟨_, _, Exists.intro none (Exists.intro 0 (And.intro rfl rfl)), rfl⟩) ?_; rintro v Ms ⟨ao6, c6, rfl, rfl⟩ _; simp only [setls, setl, reduceIte, Nat.reduceEqDiff]; (repeat (first | fail )))
            (refine HdM.nil ?_; intro H hH; simp only [Hp, fm, look, setl, List.flatMap_cons, List.flatMap_nil, reduceIte, Nat.reduceEqDiff, Option.getD_some, List.append_nil, List.cons_append, List.nil_append] at hH; subst hH)
            refine wo_still (by (repeat (first | apply sel_here | apply sel_there)); done) (fun R4 hS4 => ?_)
            have hS5 : SR (R4 ++ R3) 4 ao6 (0 + n1 + 1) c6 (its (l1 ++ [(xn, xs, xt, xk)])) := by rw [← e2]; exact hS4
            (repeat (first | ((first | (apply wo_v; rfl) ); (· first | (apply pv_ev; rfl) | (apply pv_fld; rfl) | (apply g_load; first | (apply pv_lda; rfl; (· (repeat (first | apply sel_here ))); (· (repeat (first | apply Cut.here0 | apply Cut.here )))) ) )) | apply wo_nil | apply wc_seq | apply wc_region | apply wc_ret | (apply wo_st; rfl; rfl; rfl; (· (repeat (first | apply sel_here ))); (· (repeat (first | apply SetAt.here | apply SetAt.there))); rfl) | (apply wo_sta; rfl; rfl; rfl; rfl; (· (repeat (first | apply sel_here | apply sel_there))); (· (repeat (first | apply LayAt.nil | apply LayAt.here ))); rfl) ))
            exact retv rfl (by (repeat (first | apply RV.nil | (apply RV.tmp; rfl) | (apply RV.agg; rfl; (· (repeat (first | apply sel_here ))); infer_instance; (· (repeat (first | apply Cut.here0 | apply Cut.here )))) )); done) (⟨ao6, 0 + n1 + 1, c6, ao2, out.length, c2, rfl, rfl, hS5, hS2.mono (fun _ h => List.mem_append_right _ h)⟩) (by (repeat (first | apply sub_nil )); done) (by first | exact fun _ h => h | (intro r hr; cases hr; done) | (simp; done) | exact fun _ h => List.mem_append_left _ h | (intro r hr; simp [hr]; done))
set_option maxHeartbeats 4000000 in
theorem rExpire (fr mo : Int) (ao : Option Addr) (n c : Nat) (now age : Int) (l : List It4) (bk : Bool) (R : List Ro) (hS : SR R 4 ao n c (its l)) (ha : allS l) (hb : ∀ x ∈ l, 0 ≤ x.2.2.1 ∧ x.2.2.1 ≤ 1000000) (hnow : 0 ≤ now ∧ now ≤ 1000000) :
    Fn Try.prog 54 #[.agg (rqv fr mo ao n c bk).toArray, .int .i64 now, .int .i64 age] [] R
      (fun v L' R' => ∃ ao' n' c' ao2 m c2, v = .tuple #[.agg (rqv fr mo ao' n' c' (expG now age l bk).2.2).toArray, .slice ao2 m c2] ∧ L' = []
        ∧ SR R' 4 ao' n' c' (its (expG now age l bk).2.1) ∧ SR R' 4 ao2 m c2 (its (expG now age l bk).1)) := by
  have hlen := ha.2.2
  generalize hG : expG now age l bk = G
  obtain ⟨out, l', bk'⟩ := G
  simp only
  refine fn_intro Try.func54 rfl Try.ntmps54 rfl (fun E => ?_)
  (repeat (first | ((first | (apply wo_v; rfl) ); (· first | (apply pv_ev; rfl) )) | apply wo_nil | apply wc_seq | apply wc_region | apply wc_block | (apply wo_box1; rfl; rfl; rfl; intro bx) | (apply wo_boxa; rfl; rfl; intro bx) | (apply wo_alloc; rfl; intro bx) | (apply wo_bsl; (· (repeat (first | apply Rws'.nil ))); rfl; rfl; rfl; rfl; intro bx) ))
  rename_i g1 g2
  refine wc_loop' (fun k st => ∃ (l1 : List It4) (bk1 : Bool) (o1 o2 : List It4) (ao1 ao2 : Option Addr) (n1 c1 c2 : Nat) (RR : List Ro), k = l1.length ∧ st = ⟨[(1, .int .i64 now), (2, .int .i64 age), (3, .pointer (some ⟨g1, 0, none⟩)), (6, .pointer (some ⟨g2, 0, none⟩)), (8, .slice ao2 o1.length c2)], [xb g1 fr mo ao1 n1 c1 bk1, xz g2, .own rIt 4 ao2 o1.length c2 (its o1)], RR⟩
      ∧ SR RR 4 ao1 n1 c1 (its l1) ∧ allS l1 ∧ expG now age l1 bk1 = (o2, l', bk') ∧ out = o1 ++ o2 ∧ o1.length + l1.length = l.length ∧ ∀ x ∈ l1, 0 ≤ x.2.2.1 ∧ x.2.2.1 ≤ 1000000)
    ⟨l, _, [], out, ao, some ⟨bx, 0, none⟩, n, c, 0, R, rfl, rfl, hS, ha, hG, rfl, by simp, hb⟩ (wk_mk (by (repeat (first | apply wkf_nil | (apply wkf_cons; rfl))); done) (by (repeat (first | apply sub_nil | (apply sub_cons; (· (repeat (first | apply sel_here | apply sel_there)))))); done) (by first | exact fun _ h => h | (intro r hr; cases hr; done) | (simp; done) | exact fun _ h => List.mem_append_left _ h | (intro r hr; simp [hr]; done))) ?_
  rintro k st ⟨l1, bk1, o1, o2, ao1, ao2, n1, c1, c2, RR, rfl, rfl, hS1, ha1, hG1, hout, hlen1, hb1⟩
  have hn1 : n1 = l1.length := by rw [← hS1.len]; exact its_len l1
  have key : (∃ y t, l1 = y :: t ∧ age ≤ now - y.2.2.1) ∨ (expG now age l1 bk1 = ([], l1, bk1) ∧ (l1 = [] ∨ ∃ y t, l1 = y :: t ∧ ¬ age ≤ now - y.2.2.1)) := by
    cases l1 with
    | nil => exact .inr ⟨expG_nil, .inl rfl⟩
    | cons y t =>
      by_cases h : age ≤ now - y.2.2.1
      · exact .inl ⟨y, t, rfl, h⟩
      · exact .inr ⟨expG_end h, .inr ⟨y, t, rfl, h⟩⟩
  rcases key with ⟨⟨yn, ys, yt, yk⟩, t, rfl, hc⟩ | ⟨hG2, hc⟩
  · have hy := hb1 _ (.head _)
    simp only at hc hy
    obtain ⟨b1, o1', rfl, hm⟩ := hS1.pos (by simp at hn1; omega)
    have h0 : 0 < n1 := by simp at hn1; omega
    have hr : (its ((yn, ys, yt, yk) :: t))[0]? = some [.int .i64 yn, .int .i64 ys, .int .i64 yt, .bool yk] := rfl
    rw [expG_go hc] at hG1
    simp only [Prod.mk.injEq] at hG1
    obtain ⟨q1, q2⟩ := hG1
    have hl2 : ((yn, ys, yt, yk) :: tw t).length + (dw t).length = ((yn, ys, yt, yk) :: t).length := by have := congrArg List.length (twdw t); simp at this ⊢; omega
    (repeat (first | ((first | (apply wo_v; rfl) ); (· first | (apply pv_ev; rfl) | (apply pv_fld; rfl) | (apply g_load; first | (apply pv_ld; rfl; (· (repeat (first | apply sel_here | apply sel_there))); rfl) | (apply pv_lda; rfl; (· (repeat (first | apply sel_here ))); (· (repeat (first | apply Cut.here0 | apply Cut.here )))) | (apply pv_ld_ownf; rfl; (· (repeat (first | apply sel_there))); (· assumption); rfl) | (apply pv_ld_own1; rfl; (· (repeat (first | fail ))); (· assumption)) | (apply pv_ld_rof; rfl; (· (first | assumption )); (· assumption); rfl) ) | (apply g_pick; first | (apply pv_pick_t; rfl; rfl) ) | (apply g_bin; first | (apply a_sub; rfl; rfl; infer_instance; omega) ) | (apply g_bi; first | (apply pv_len_sl; rfl) ) | (apply g_idx; first | (apply pv_idx; rfl; rfl; omega) ) )) | apply wo_nil | apply wc_seq | apply wc_region | apply wc_block | apply wc_skip | (apply wc_true; rfl) | (apply wc_false; rfl) | (apply a_dec_t; rfl; (· first | assumption | omega)) | (apply wo_run; rfl; rfl) | (apply wo_skip; rfl; rfl; rfl; rfl) | (apply wo_skip_u; rfl; rfl; rfl) | (apply a_gt; rfl; rfl; (· first | assumption | omega)) ))
    (refine wo_call (rDrop fr mo _ n1 c1 bk1 (yn, ys, yt, yk) t RR hS1 ha1) rfl (by (repeat (first | apply sub_nil )); done) (by first | exact fun _ h => h | (intro r hr; cases hr; done) | (simp; done) | exact fun _ h => List.mem_append_left _ h | (intro r hr; simp [hr]; done)) rfl ?_; rintro v L' R' ⟨ao3, n3, c3, ao4, m, c4, rfl, rfl, hS3, hS4⟩ H' hH RR hR; simp only [List.cons_append, List.nil_append] at hH hR; subst hH; have hR := hR.symm; subst hR)
    (repeat (first | ((first | (apply wo_v; rfl) ); (· first | (apply pv_ev; rfl) | (apply g_load; first | (apply pv_lda; rfl; (· (repeat (first | apply sel_here ))); (· (repeat (first | apply Cut.here0 | apply Cut.here )))) ) | (apply g_bi; first | fail ) )) | apply wo_nil | apply wc_seq | apply wc_region | (apply wo_alloc; rfl; intro bx) | (apply wo_sta; rfl; rfl; rfl; rfl; (· (repeat (first | apply sel_here | apply sel_there))); (· (repeat (first | apply LayAt.nil | apply LayAt.here ))); rfl) ))
    have hm4 : m = (tw t).length + 1 := by rw [← hS4.len, its_len]; rfl
    subst hm4
    refine wo_app_sr rfl rfl (by (repeat (first | apply sel_here | apply sel_there)); done) (hS4.mono (fun _ h => List.mem_append_left _ h)) (by unfold maxLen; simp at hl2 hlen1; omega) (by simp at hl2 hlen1; omega) rfl (fun ao5 c5 => ?_)
    (repeat (first | ((first | (apply wo_v; rfl) ); (· first | (apply pv_ev; rfl) )) | apply wo_nil ))
    rw [← its_app, show o1.length + ((tw t).length + 1) = (o1 ++ ((yn, ys, yt, yk) :: tw t)).length by simp]
    exact loop_end ⟨dw t, _, o1 ++ ((yn, ys, yt, yk) :: tw t), (expG now age (dw t) (bk1 || (dw t).isEmpty)).1, ao3, ao5, n3, c3, c5, _, rfl, rfl, hS3, ha1.tail.dw, by rw [← q2], by rw [hout, ← q1, List.append_assoc], by simp at hl2 hlen1 ⊢; omega, fun x hx => hb1 x (.tail _ (dw_mem hx))⟩ (by have := dw_len t; simp; omega) (wk_mk (by (repeat (first | apply wkf_nil | (apply wkf_cons; rfl))); done) (by (repeat (first | apply sub_nil | (apply sub_cons; (· (repeat (first | apply sel_here | apply sel_there)))))); done) (by first | exact fun _ h => h | (intro r hr; cases hr; done) | (simp; done) | exact fun _ h => List.mem_append_left _ h | (intro r hr; simp [hr]; done)))
  · rw [hG2] at hG1
    simp only [Prod.mk.injEq] at hG1
    obtain ⟨rfl, rfl, rfl⟩ := hG1
    rw [List.append_nil] at hout
    subst hout
    refine wc_still (by (repeat (first | apply sel_here | apply sel_there)); done) (fun R2 hS2 => ?_)
    rcases hc with rfl | ⟨⟨yn, ys, yt, yk⟩, t, rfl, hc⟩
    · simp only [List.length_nil] at hn1
      subst hn1
      (repeat (first | ((first | (apply wo_v; rfl) ); (· first | (apply pv_ev; rfl) | (apply pv_fld; rfl) | (apply g_load; first | (apply pv_ld; rfl; (· (repeat (first | apply sel_here ))); rfl) | (apply pv_lda; rfl; (· (repeat (first | apply sel_here ))); (· (repeat (first | apply Cut.here0 | apply Cut.here )))) ) | (apply g_pick; first | (apply pv_pick_t; rfl; rfl) | (apply pv_pick_f; rfl; rfl)) | (apply g_bi; first | (apply pv_len_sl; rfl) ) )) | apply wo_nil | apply wc_seq | apply wc_region | (apply wc_exit; rfl) | apply wc_ret | (apply wc_true; rfl) | (apply wc_false; rfl) | (apply wo_run; rfl; rfl) | (apply wo_skip; rfl; rfl; rfl; rfl) | (apply wo_sta; rfl; rfl; rfl; rfl; (· (repeat (first | apply sel_here | apply sel_there))); (· (repeat (first | apply LayAt.nil | apply LayAt.here ))); rfl) ))
      exact retv rfl (by (repeat (first | apply RV.nil | (apply RV.tmp; rfl) | (apply RV.agg; rfl; (· (repeat (first | apply sel_here ))); infer_instance; (· (repeat (first | apply Cut.here0 | apply Cut.here )))) )); done) (⟨ao1, 0, c1, ao2, out.length, c2, rfl, rfl, hS1.mono (fun _ h => List.mem_append_right _ h), hS2⟩) (by (repeat (first | apply sub_nil )); done) (by first | exact fun _ h => h | (intro r hr; cases hr; done) | (simp; done) | exact fun _ h => List.mem_append_left _ h | (intro r hr; simp [hr]; done))
    · have hy := hb1 _ (.head _)
      simp only at hc hy
      obtain ⟨b1, o1', rfl, hm⟩ := hS1.pos (by simp at hn1; omega)
      have h0 : 0 < n1 := by simp at hn1; omega
      have hm2 : (⟨b1, o1', 4, its ((yn, ys, yt, yk) :: t)⟩ : Ro) ∈ R2 ++ RR := List.mem_append_right _ hm
      have hr : (its ((yn, ys, yt, yk) :: t))[0]? = some [.int .i64 yn, .int .i64 ys, .int .i64 yt, .bool yk] := rfl
      (repeat (first | ((first | (apply wo_v; rfl) ); (· first | (apply pv_ev; rfl) | (apply pv_fld; rfl) | (apply g_load; first | (apply pv_ld; rfl; (· (repeat (first | apply sel_here | apply sel_there))); rfl) | (apply pv_lda; rfl; (· (repeat (first | apply sel_here ))); (· (repeat (first | apply Cut.here0 | apply Cut.here )))) | (apply pv_ld_ownf; rfl; (· (repeat (first | apply sel_there))); (· assumption); rfl) | (apply pv_ld_own1; rfl; (· (repeat (first | fail ))); (· assumption)) | (apply pv_ld_rof; rfl; (· (first | assumption )); (· assumption); rfl) ) | (apply g_pick; first | (apply pv_pick_t; rfl; rfl) ) | (apply g_bin; first | (apply a_sub; rfl; rfl; infer_instance; omega) ) | (apply g_bi; first | (apply pv_len_sl; rfl) ) | (apply g_idx; first | (apply pv_idx; rfl; rfl; omega) ) )) | apply wo_nil | apply wc_seq | apply wc_region | (apply wc_exit; rfl) | apply wc_ret | (apply wc_true; rfl) | (apply wc_false; rfl) | (apply a_dec_t; rfl; (· first | assumption | omega)) | (apply a_dec_f; rfl; (· first | assumption | omega)) | (apply wo_run; rfl; rfl) | (apply wo_skip; rfl; rfl; rfl; rfl) | (apply wo_skip_u; rfl; rfl; rfl) | (apply a_gt; rfl; rfl; (· first | assumption | omega)) | (apply wo_sta; rfl; rfl; rfl; rfl; (· (repeat (first | apply sel_here | apply sel_there))); (· (repeat (first | apply LayAt.nil | apply LayAt.here ))); rfl) ))
      exact retv rfl (by (repeat (first | apply RV.nil | (apply RV.tmp; rfl) | (apply RV.agg; rfl; (· (repeat (first | apply sel_here ))); infer_instance; (· (repeat (first | apply Cut.here0 | apply Cut.here )))) )); done) (⟨some ⟨b1, o1', none⟩, n1, c1, ao2, out.length, c2, rfl, rfl, hS1.mono (fun _ h => List.mem_append_right _ h), hS2⟩) (by (repeat (first | apply sub_nil )); done) (by first | exact fun _ h => h | (intro r hr; cases hr; done) | (simp; done) | exact fun _ h => List.mem_append_left _ h | (intro r hr; simp [hr]; done))
end Go.Proofs.Ytbhegdlpmeeekaa

/-
  The law's functions of layer 18: same, awake, Begin, Does.
-/
namespace Go.Proofs.Ytbhegdlpmeeekaa
set_option linter.unusedSimpArgs false
set_option linter.unusedVariables false
open Go.RowKit
attribute [local irreducible] Pv WO WC Fn
set_option maxRecDepth 100000

set_option maxHeartbeats 4000000 in
theorem qSame (ao ao2 : Option Addr) (n c m c2 : Nat) (l : List It4) (R : List Ro) (hS : SR R 4 ao n c (its l)) (hS2 : SR R 4 ao2 m c2 (its l)) (hlen : l.length ≤ 1000000000) :
    Fn Try.prog 52 #[.slice ao n c, .slice ao2 m c2] [] R (fun v L' R' => v = .bool true ∧ L' = [] ∧ R' = R) := by
  have hn : n = l.length := by rw [← hS.len]; exact its_len l
  have hm : m = l.length := by rw [← hS2.len]; exact its_len l
  obtain rfl : m = n := by omega
  refine fn_intro Try.func52 rfl Try.ntmps52 rfl (fun E => ?_)
  (repeat (first | ((first | (apply wo_v; rfl) ); (· first | (apply pv_ev; rfl) | (apply g_bi; first | (apply pv_len_sl; rfl) ) )) | apply wo_nil | apply wc_seq | apply wc_region | apply wc_block | apply wc_skip | (apply wc_true; rfl) | (apply wc_false; rfl) | (apply a_dec_t; rfl; (· first | assumption | omega)) | (apply a_dec_f; rfl; (· first | assumption | omega)) ))
  refine wc_loop' (fun k st => ∃ (i : Nat), k = m - i ∧ i ≤ m ∧ st = ⟨[(0, .slice ao m c), (1, .slice ao2 m c2), (12, .int .i64 m), (13, .int .i64 i)], [], R⟩) ⟨0, rfl, by omega, rfl⟩ (wk_mk (by (repeat (first | apply wkf_nil | (apply wkf_cons; rfl))); done) (by (repeat (first | apply sub_nil )); done) (by first | exact fun _ h => h | (intro r hr; cases hr; done) | (simp; done) | exact fun _ h => List.mem_append_left _ h | (intro r hr; simp [hr]; done))) ?_
  rintro k st ⟨i, rfl, hi, rfl⟩
  by_cases hlt : i < m
  · obtain ⟨b, o, rfl, hm1⟩ := hS.pos (by omega)
    obtain ⟨b2, o2, rfl, hm2⟩ := hS2.pos (by omega)
    obtain ⟨⟨xn, xs, xt, xk⟩, hx⟩ : ∃ x, l[i]? = some x := ⟨_, List.getElem?_eq_getElem (by omega)⟩
    have hr : (its l)[i]? = some [.int .i64 xn, .int .i64 xs, .int .i64 xt, .bool xk] := its_at hx
    have he : ¬ ¬ EqRow [.int .i64 xn, .int .i64 xs, .int .i64 xt, .bool xk] [.int .i64 xn, .int .i64 xs, .int .i64 xt, .bool xk] := fun h => h ((EqRow_it (xn, xs, xt, xk) (xn, xs, xt, xk)).2 rfl)
    (repeat (first | ((first | (apply wo_v; rfl) ); (· first | (apply pv_ev; rfl) )) | apply wo_nil | apply wc_seq | apply wc_region | apply wc_block | apply wc_skip | (apply wc_true; rfl) | (apply wc_false; rfl) | (apply a_dec_t; rfl; (· first | assumption | omega)) ))
    (refine wc_quiet mixed (by kernel_rfl) ?_; (repeat (first | ((first | (apply wo_v; rfl) | (apply hd_v; rfl) ); (· first | (apply pv_ev; rfl) | (apply g_load; first | (apply pv_lda; rfl; (· (repeat (first | fail ))); (· (repeat (first | fail )))) | (apply pv_ld_owna; rfl; (· (repeat (first | fail ))); (· assumption)) | (apply pv_ld_roa; rfl; (· (first | assumption )); (· assumption))) | (apply g_bin; first | (apply a_add; rfl; rfl; infer_instance; omega) | (apply pv_neq_s; rfl; rfl) | (apply pv_neq_a; rfl; rfl; infer_instance; rfl; rfl)) | (apply g_idx; first | (apply pv_idx; rfl; rfl; omega) ) )) | apply wo_nil | apply Hd.nil | apply wc_region | apply wc_skip | (apply wc_true; rfl) | (apply wc_false; rfl) | (apply a_dec_t; rfl; (· first | assumption | omega)) | (apply a_dec_f; rfl; (· first | assumption | omega)) )))
    exact loop_end ⟨i + 1, rfl, by omega, rfl⟩ (by omega) (wk_mk (by (repeat (first | apply wkf_nil | (apply wkf_cons; rfl))); done) (by (repeat (first | apply sub_nil )); done) (by first | exact fun _ h => h | (intro r hr; cases hr; done) | (simp; done) | exact fun _ h => List.mem_append_left _ h | (intro r hr; simp [hr]; done)))
  · obtain rfl : i = m := by omega
    (repeat (first | ((first | (apply wo_v; rfl) ); (· first | (apply pv_ev; rfl) )) | apply wo_nil | apply wc_seq | apply wc_region | (apply wc_exit; rfl) | apply wc_ret | (apply wc_true; rfl) | (apply wc_false; rfl) | (apply a_dec_t; rfl; (· first | assumption | omega)) | (apply a_dec_f; rfl; (· first | assumption | omega)) ))
    exact ret1 rfl rfl ⟨rfl, rfl, rfl⟩ (by (repeat (first | apply sub_nil )); done) (by first | exact fun _ h => h | (intro r hr; cases hr; done) | (simp; done) | exact fun _ h => List.mem_append_left _ h | (intro r hr; simp [hr]; done))
theorem as0 : allS [] := ⟨fun x h => (by cases h), by simp [sumS], by simp⟩
theorem as1 : allS [(1, 0, 0, true)] := ⟨fun x h => (by simp at h; subst h; simp), by simp [sumS], by simp⟩
theorem as2 : allS [(1, 0, 0, true), (2, 0, 0, false)] := ⟨fun x h => (by simp at h; rcases h with rfl | rfl <;> simp), by simp [sumS], by simp⟩
theorem putM_spec (fr mo : Int) (l : List It4) (bk : Bool) (x : It4) : ((putM fr mo l bk x).2.1 = false ∧ (putM fr mo l bk x).1 ++ (putM fr mo l bk x).2.2.1 = l)
    ∨ ((putM fr mo l bk x).2.1 = true ∧ 0 ≤ x.2.1 ∧ x.2.1 ≤ mo ∧ ∃ l1, (putM fr mo l bk x).1 ++ l1 = l ∧ (putM fr mo l bk x).2.2.1 = l1 ++ [x] ∧ (l1 = [] ∨ ((l1.length : Int) < fr ∧ sumS l1 + x.2.1 ≤ mo))) := by
  obtain ⟨h1, h2⟩ := putG_spec fr mo x.2.1 l.length l bk (Nat.le_refl _)
  unfold putM
  split
  · exact .inl ⟨rfl, rfl⟩
  · rename_i h
    split
    · exact .inl ⟨rfl, h1⟩
    · exact .inr ⟨rfl, by omega, by omega, _, h1, rfl, h2⟩
theorem putM_out {fr mo : Int} {l : List It4} {bk : Bool} {x : It4} : (putM fr mo l bk x).1.length ≤ l.length := by
  rcases putM_spec fr mo l bk x with ⟨_, h⟩ | ⟨_, _, _, l1, h, _⟩
  all_goals
    have := congrArg List.length h
    simp at this; omega
theorem pm1 : putM 2 100 [] true (1, 0, 0, true) = ([], true, [(1, 0, 0, true)], false) := by simp [putM, putG_nil]
theorem pm2 : putM 2 100 [(1, 0, 0, true)] false (2, 0, 0, false) = ([], true, [(1, 0, 0, true), (2, 0, 0, false)], false) := by
  have h : putG 2 100 0 [(1, 0, 0, true)] false = ([], [(1, 0, 0, true)], false) := putG_end (by simp [sumS])
  simp [putM, h]
theorem pm3 : putM 2 100 [(1, 0, 0, true), (2, 0, 0, false)] false (3, 0, 0, false) = ([(1, 0, 0, true), (2, 0, 0, false)], false, [], true) := by
  have h : putG 2 100 0 [(1, 0, 0, true), (2, 0, 0, false)] false = ([(1, 0, 0, true), (2, 0, 0, false)], [], true) := by
    rw [putG_go (by simp)]
    have h1 : dw [((2, 0, 0, false) : It4)] = [] := rfl
    have h2 : tw [((2, 0, 0, false) : It4)] = [(2, 0, 0, false)] := rfl
    rw [h1, h2, putG_nil]
    rfl
  simp [putM, h]
set_option maxHeartbeats 4000000 in
theorem awake18 : Fn Try.prog 14 #[] [] [] (fun v L' R' => v = .bool true ∧ L' = [] ∧ R' = []) := by
  refine fn_intro Try.func14 rfl Try.ntmps14 rfl (fun E => ?_)
  (repeat (first | ((first | (apply wo_v; rfl) ); (· first | (apply pv_ev; rfl) )) | apply wo_nil | apply wc_seq | apply wc_region ))
  (refine wo_call (qNew 2 100 (by omega)) rfl (by (repeat (first | apply sub_nil )); done) (by first | exact fun _ h => h | (intro r hr; cases hr; done) | (simp; done) | exact fun _ h => List.mem_append_left _ h | (intro r hr; simp [hr]; done)) rfl ?_; rintro v L' R' ⟨q, rfl, rfl, rfl⟩ H' hH RR hR; simp only [List.cons_append, List.nil_append] at hH hR; subst hH; have hR := hR.symm; subst hR)
  (repeat (first | ((first | (apply wo_v; rfl) ); (· first | (apply pv_ev; rfl) | (apply g_pick; first | (apply pv_pick_t; rfl; rfl) | (apply pv_pick_f; rfl; rfl)) | (apply g_bin; first | (apply pv_eql_p; rfl; rfl) ) | (apply g_build; apply pv_build; (· (repeat (first | apply Bld.nil | (apply Bld.one; rfl; rfl; (· (repeat (first | apply SetAt.here | apply SetAt.there)))) )))) )) | apply wo_nil | apply wc_seq | apply wc_region | apply wc_skip | (apply wc_true; rfl) | (apply wc_false; rfl) | (apply wo_run; rfl; rfl) ))
  (refine wo_call (qPut q 2 100 none 0 0 1 0 0 true [] true [] (SR.nil _ _) as0 (by omega) (by omega)) rfl (by (repeat (first | apply sub_nil )); done) (by first | exact fun _ h => h | (intro r hr; cases hr; done) | (simp; done) | exact fun _ h => List.mem_append_left _ h | (intro r hr; simp [hr]; done)) rfl ?_; rintro v L' R' ⟨a1, n1, c1, a2, m2, c2, rfl, rfl, hS1, _⟩ H' hH RR hR; simp only [List.cons_append, List.nil_append] at hH hR; subst hH; have hR := hR.symm; subst hR)
  rw [pm1] at *
  have hS1' := hS1.mono (R' := R' ++ []) (fun _ h => List.mem_append_left _ h)
  clear hS1
  generalize R' ++ [] = R1 at hS1' ⊢
  simp only at hS1' ⊢
  (repeat (first | ((first | (apply wo_v; rfl) ); (· first | (apply pv_ev; rfl) | (apply g_build; apply pv_build; (· (repeat (first | apply Bld.nil | (apply Bld.one; rfl; rfl; (· (repeat (first | apply SetAt.here )))) )))) )) | apply wo_nil | apply wc_seq | apply wc_region ))
  (refine wo_call (qPut q 2 100 a1 n1 c1 2 0 0 false [(1, 0, 0, true)] false R1 hS1' as1 (by omega) (by omega)) rfl (by (repeat (first | apply sub_nil )); done) (by first | exact fun _ h => h | (intro r hr; cases hr; done) | (simp; done) | exact fun _ h => List.mem_append_left _ h | (intro r hr; simp [hr]; done)) rfl ?_; rintro v L' R' ⟨a3, n3, c3, a4, m4, c4, rfl, rfl, hS3, _⟩ H' hH RR hR; simp only [List.cons_append, List.nil_append] at hH hR; subst hH; have hR := hR.symm; subst hR)
  rw [pm2] at *
  have hS3' := hS3.mono (R' := R' ++ R1) (fun _ h => List.mem_append_left _ h)
  clear hS3 hS1'
  generalize R' ++ R1 = R3 at hS3' ⊢
  simp only at hS3' ⊢
  (repeat (first | ((first | (apply wo_v; rfl) ); (· first | (apply pv_ev; rfl) | (apply g_build; apply pv_build; (· (repeat (first | apply Bld.nil | (apply Bld.one; rfl; rfl; (· (repeat (first | apply SetAt.here )))) )))) )) | apply wo_nil | apply wc_seq | apply wc_region ))
  (refine wo_call (qPut q 2 100 a3 n3 c3 3 0 0 false [(1, 0, 0, true), (2, 0, 0, false)] false R3 hS3' as2 (by omega) (by omega)) rfl (by (repeat (first | apply sub_nil )); done) (by first | exact fun _ h => h | (intro r hr; cases hr; done) | (simp; done) | exact fun _ h => List.mem_append_left _ h | (intro r hr; simp [hr]; done)) rfl ?_; rintro v L' R' ⟨a5, n5, c5, a6, m6, c6, rfl, rfl, hS5, hS6⟩ H' hH RR hR; simp only [List.cons_append, List.nil_append] at hH hR; subst hH; have hR := hR.symm; subst hR)
  rw [pm3] at *
  have hS5' := hS5.mono (R' := R' ++ R3) (fun _ h => List.mem_append_left _ h)
  have hS6' := hS6.mono (R' := R' ++ R3) (fun _ h => List.mem_append_left _ h)
  clear hS5 hS3' hS6
  generalize R' ++ R3 = R5 at hS5' hS6' ⊢
  simp only at hS5' hS6' ⊢
  have hm6 : m6 = 2 := by rw [← hS6'.len]; rfl
  have hn5 : n5 = 0 := by rw [← hS5'.len]; rfl
  subst hm6; subst hn5
  obtain ⟨b6, o6, rfl, hm⟩ := hS6'.pos (by omega)
  have hr : (its [(1, 0, 0, true), (2, 0, 0, false)])[0]? = some [.int .i64 1, .int .i64 0, .int .i64 0, .bool true] := rfl
  (repeat (first | ((first | (apply wo_v; rfl) ); (· first | (apply pv_ev; rfl) | (apply pv_fld; rfl) | (apply g_load; first | (apply pv_ld; rfl; (· (repeat (first | apply sel_there))); rfl) | (apply pv_ld_ownf; rfl; (· (repeat (first | apply sel_there))); (· assumption); rfl) | (apply pv_ld_own1; rfl; (· (repeat (first | apply sel_there))); (· assumption)) | (apply pv_ld_rof; rfl; (· (first | assumption )); (· assumption); rfl) ) | (apply g_pick; first | (apply pv_pick_t; rfl; rfl) ) | (apply g_bi; first | (apply pv_len_sl; rfl) ) | (apply g_un; first | (apply pv_not_t; rfl) | (apply pv_not_f; rfl) ) | (apply g_idx; first | (apply pv_idx; rfl; rfl; omega) | (apply (pv_idx_e 0); rfl; rfl; rfl; omega) ) )) | apply wo_nil | apply wc_seq | apply wc_region | (apply wo_run; rfl; rfl) ))
  (refine wo_call (qLen q 2 100 a5 0 c5 0 true _) rfl (by (repeat (first | apply sub_nil )); done) (by first | exact fun _ h => h | (intro r hr; cases hr; done) | (simp; done) | exact fun _ h => List.mem_append_left _ h | (intro r hr; simp [hr]; done)) rfl ?_; rintro v L' R' ⟨rfl, rfl, rfl⟩ H' hH RR hR; simp only [List.cons_append, List.nil_append] at hH hR; subst hH; have hR := hR.symm; subst hR)
  (repeat (first | ((first | (apply wo_v; rfl) ); (· first | (apply pv_ev; rfl) | (apply g_pick; first | (apply pv_pick_t; rfl; rfl) ) )) | (apply wo_run; rfl; rfl) ))
  (refine wo_call (qBroken q 2 100 a5 0 c5 0 true _) rfl (by (repeat (first | apply sub_nil )); done) (by first | exact fun _ h => h | (intro r hr; cases hr; done) | (simp; done) | exact fun _ h => List.mem_append_left _ h | (intro r hr; simp [hr]; done)) rfl ?_; rintro v L' R' ⟨rfl, rfl, rfl⟩ H' hH RR hR; simp only [List.cons_append, List.nil_append] at hH hR; subst hH; have hR := hR.symm; subst hR)
  (repeat (first | ((first | (apply wo_v; rfl) ); (· first | (apply pv_ev; rfl) | (apply g_pick; first | (apply pv_pick_t; rfl; rfl) ) )) | apply wo_nil | apply wc_ret ))
  exact ret1 rfl rfl ⟨rfl, rfl, rfl⟩ (by (repeat (first | apply sub_nil )); done) (by first | exact fun _ h => h | (intro r hr; cases hr; done) | (simp; done) | exact fun _ h => List.mem_append_left _ h | (intro r hr; simp [hr]; done))
abbrev stv (q : Nat) (fr mo : Int) (ao : Option Addr) (n c : Nat) (bk : Bool) (now N age : Int) : List Value := [.pointer (some ⟨q, 0, none⟩), .int .i64 fr, .int .i64 mo, .slice ao n c, .bool bk, .int .i64 now, .int .i64 N, .int .i64 age]
set_option maxHeartbeats 4000000 in
theorem qBegin (f m a : Int) : Fn Try.prog 15 #[.int .i64 f, .int .i64 m, .int .i64 a] [] []
    (fun v L' R' => ∃ q fr mo age, v = .tuple #[.agg (stv q fr mo none 0 0 true 0 0 age).toArray, .bool true] ∧ L' = [Qc q fr mo none 0 0 0 true] ∧ R' = [] ∧ 1 ≤ fr ∧ fr ≤ 8 ∧ 1 ≤ mo ∧ mo ≤ 64 ∧ 1 ≤ age ∧ age ≤ 32) := by
  have q1 := and_7 f
  have q2 := and_63 m
  have q3 := and_31 a
  refine fn_intro Try.func15 rfl Try.ntmps15 rfl (fun E => ?_)
  (repeat (first | ((first | (apply wo_v; rfl) ); (· first | (apply pv_ev; rfl) | (apply g_bin; first | (apply a_add; rfl; rfl; infer_instance; omega) | (apply pv_and; rfl; rfl) ) )) | apply wo_nil | apply wc_seq | apply wc_region | (apply wo_alloc; rfl; intro bx) ))
  (refine wo_call (qNew (1 + bits .and .i64 f 7) (1 + bits .and .i64 m 63) (by omega)) rfl (by (repeat (first | apply sub_nil )); done) (by first | exact fun _ h => h | (intro r hr; cases hr; done) | (simp; done) | exact fun _ h => List.mem_append_left _ h | (intro r hr; simp [hr]; done)) rfl ?_; rintro v L' R' ⟨q, rfl, rfl, rfl⟩ H' hH RR hR; simp only [List.cons_append, List.nil_append] at hH hR; subst hH; have hR := hR.symm; subst hR)
  (repeat (first | ((first | (apply wo_v; rfl) ); (· first | (apply pv_ev; rfl) | (apply g_pick; first | (apply pv_pick_t; rfl; rfl) ) | (apply g_bin; first | (apply a_add; rfl; rfl; infer_instance; omega) | (apply pv_and; rfl; rfl) | (apply pv_neq_p; rfl; rfl) ) | (apply g_build; apply pv_build; (· (repeat (first | apply Bld.nil | (apply Bld.one; rfl; rfl; (· (repeat (first | apply SetAt.here | apply SetAt.there)))) | (apply Bld.agg; rfl; rfl; (· (repeat (first | apply LayAt.nil | apply LayAt.here | apply LayAt.there)))))))) )) | apply wo_nil | apply wc_seq | apply wc_region | apply wc_ret | (apply wo_run; rfl; rfl) | (apply wo_sta; rfl; rfl; rfl; rfl; (· (repeat (first | apply sel_here | apply sel_there))); (· (repeat (first | apply LayAt.nil | apply LayAt.here ))); rfl) ))
  exact retv rfl (by (repeat (first | apply RV.nil | (apply RV.tmp; rfl) | (apply RV.agg; rfl; (· (repeat (first | apply sel_here ))); infer_instance; (· (repeat (first | apply Cut.here0 | apply Cut.here )))) )); done) (⟨q, _, _, _, rfl, rfl, rfl, by omega, by omega, by omega, by omega, by omega, by omega⟩) (by (repeat (first | apply sub_nil | (apply sub_cons; (· (repeat (first | apply sel_here | apply sel_there)))))); done) (by first | exact fun _ h => h | (intro r hr; cases hr; done) | (simp; done) | exact fun _ h => List.mem_append_left _ h | (intro r hr; simp [hr]; done))
/-- what a call makes of items, broken, the clock, the number; what goes out; did something not go -/
structure QS where
  l : List It4
  bk : Bool
  now : Int
  N : Int
def doesM (fr mo age : Int) (s : QS) (k z : Int) (key : Bool) : QS × Int × Bool :=
  if k = 1 then (⟨(putM fr mo s.l s.bk (s.N + 1, z, s.now, key)).2.2.1, (putM fr mo s.l s.bk (s.N + 1, z, s.now, key)).2.2.2, s.now, s.N + 1⟩, 0, !(putM fr mo s.l s.bk (s.N + 1, z, s.now, key)).2.1 || decide ((putM fr mo s.l s.bk (s.N + 1, z, s.now, key)).1 ≠ []))
  else if k = 2 then (⟨s.l.tail, s.bk, s.now, s.N⟩, ((s.l.head?).getD itz).1, false)
  else if k = 3 then (⟨(expG (s.now + bits .and .i64 z 15) age s.l s.bk).2.1, (expG (s.now + bits .and .i64 z 15) age s.l s.bk).2.2, s.now + bits .and .i64 z 15, s.N⟩, 0, decide ((expG (s.now + bits .and .i64 z 15) age s.l s.bk).1 ≠ []))
  else if k = 4 then (⟨[], true, s.now, s.N⟩, 0, true)
  else (s, 0, false)
structure QOk (fr mo age : Int) (s : QS) : Prop where
  fr1 : 1 ≤ fr ∧ fr ≤ 1024
  mo1 : 1 ≤ mo ∧ mo ≤ 16777216
  all : allS s.l
  len : (s.l.length : Int) ≤ fr
  sum : sumS s.l ≤ mo
  tick : ∀ x ∈ s.l, 0 ≤ x.2.2.1 ∧ x.2.2.1 ≤ s.now
  num : ∀ x ∈ s.l, 1 ≤ x.1 ∧ x.1 ≤ s.N
  now : 0 ≤ s.now ∧ s.now ≤ 100000
  N : 0 ≤ s.N ∧ s.N ≤ 100000
abbrev dsb (g : Nat) (q : Nat) (fr mo : Int) (ao : Option Addr) (n c : Nat) (bk : Bool) (now N age : Int) : It := .ob g (.cells (stv q fr mo ao n c bk now N age).toArray 33 (0, 0))
abbrev acb (g : Nat) (k z : Int) (key : Bool) : It := .ob g (.cells #[.int .i64 k, .int .i64 z, .bool key] 38 (0, 0))
abbrev szb (g : Nat) : It := .ob g (.cells #[.pointer none, .int .i64 0, .int .i64 0, .slice none 0 0, .bool false, .int .i64 0, .int .i64 0, .int .i64 0] 33 (0, 0))
abbrev tblS (k0 : Nat) (new : It) : Nat → List (List It) → Value → List (List It) → Prop := fun k Ls v Ms => if k = k0 then v = .bool true ∧ Ms = [[]] else v = undef ∧ Ms = [[new]]
abbrev tblT : Nat → List (List It) → Value → List (List It) → Prop := fun k Ls v Ms => v = .bool true ∧ Ms = [[]]
abbrev DoesPost (q : Nat) (fr mo age : Int) (s : QS) (k z : Int) (key : Bool) : Value → List It → List Ro → Prop := fun v L' R' => ∃ s' out flag ao' n' c' ao2 m c2, (s', out, flag) = doesM fr mo age s k z key ∧ v = .tuple #[.agg (stv q fr mo ao2 m c2 s'.bk s'.now s'.N age).toArray, .int .i64 out, .bool flag, .bool true]
  ∧ L' = [Qc q fr mo ao' n' c' (sumS s'.l) s'.bk] ∧ SR R' 4 ao' n' c' (its s'.l) ∧ SR R' 4 ao2 m c2 (its s'.l)
set_option maxHeartbeats 16000000 in
theorem does1 (q : Nat) (fr mo age : Int) (l : List It4) (bk : Bool) (now N : Int) (ao ao2 : Option Addr) (n c m c2 : Nat) (R : List Ro) (hS : SR R 4 ao n c (its l)) (hS2 : SR R 4 ao2 m c2 (its l)) (hQ : QOk fr mo age ⟨l, bk, now, N⟩) (z : Int) (key : Bool) :
    Fn Try.prog 20 #[.agg (stv q fr mo ao2 m c2 bk now N age).toArray, .agg #[.int .i64 1, .int .i64 z, .bool key]] [Qc q fr mo ao n c (sumS l) bk] R (DoesPost q fr mo age ⟨l, bk, now, N⟩ 1 z key) := by
  obtain ⟨hf, hm, ha, hl, hs, ht, hnum, hnow, hN⟩ := hQ
  simp only at ha hl hs ht hnow hN
  refine fn_intro Try.func20 rfl Try.ntmps20 rfl (fun E => ?_)
  (repeat (first | ((first | (apply wo_v; rfl) ); (· first | (apply pv_ev; rfl) | (apply pv_fld; rfl) | (apply g_load; first | (apply pv_ld; rfl; (· (repeat (first | apply sel_here | apply sel_there))); rfl) | (apply pv_lda; rfl; (· (repeat (first | apply sel_here ))); (· (repeat (first | apply Cut.here0 | apply Cut.here )))) ) | (apply g_bin; first | (apply a_add; rfl; rfl; infer_instance; omega) ) | (apply g_build; apply pv_build; (· (repeat (first | apply Bld.nil | (apply Bld.one; rfl; rfl; (· (repeat (first | apply SetAt.here | apply SetAt.there)))) )))) )) | apply wo_nil | apply wc_seq | apply wc_region | apply wc_block | (apply wc_true; rfl) | (apply wo_st; rfl; rfl; rfl; (· (repeat (first | apply sel_here | apply sel_there))); (· (repeat (first | apply SetAt.here | apply SetAt.there))); rfl) | (apply wo_box1; rfl; rfl; rfl; intro bx) | (apply wo_boxa; rfl; rfl; intro bx) | (apply wo_alloc; rfl; intro bx) | (apply wo_sta; rfl; rfl; rfl; rfl; (· (repeat (first | apply sel_here ))); (· (repeat (first | apply LayAt.nil | apply LayAt.here ))); rfl) ))
  (refine wo_call (qPut q fr mo ao n c (N + 1) z now key l bk R hS ha (by omega) (by omega)) rfl (by (repeat (first | apply sub_nil | (apply sub_cons; (· (repeat (first | apply sel_here | apply sel_there)))))); done) (by first | exact fun _ h => h | (intro r hr; cases hr; done) | (simp; done) | exact fun _ h => List.mem_append_left _ h | (intro r hr; simp [hr]; done)) rfl ?_; rintro v L' R' ⟨a1, n1, c1, a2, m2, d2, rfl, rfl, hS3, hS4⟩ H' hH RR hR; simp only [List.cons_append, List.nil_append] at hH hR; subst hH; have hR := hR.symm; subst hR)
  (repeat (first | ((first | (apply wo_v; rfl) ); (· first | (apply pv_ev; rfl) | (apply pv_fld; rfl) | (apply g_load; first | (apply pv_lda; rfl; (· (repeat (first | apply sel_here | apply sel_there))); (· (repeat (first | apply Cut.here0 | apply Cut.here | apply Cut.there)))) ) )) | apply wo_nil | apply wc_seq | apply wc_region ))
  (refine wo_call (rPut fr mo ao2 m c2 (N + 1) z now key l bk R hS2 ha (by omega) (by omega)) rfl (by (repeat (first | apply sub_nil )); done) (by first | exact fun _ h => h | (intro r hr; cases hr; done) | (simp; done) | exact fun _ h => List.mem_append_left _ h | (intro r hr; simp [hr]; done)) rfl ?_; rintro v L' R' ⟨a3, n3, c3, a4, m4, d4, rfl, rfl, hS5, hS6⟩ H' hH RR hR; simp only [List.cons_append, List.nil_append] at hH hR; subst hH; have hR := hR.symm; subst hR)
  (repeat (first | ((first | (apply wo_v; rfl) ); (· first | (apply pv_ev; rfl) | (apply pv_fld; rfl) | (apply g_load; first | (apply pv_lda; rfl; (· (repeat (first | apply sel_here ))); (· (repeat (first | apply Cut.here0 | apply Cut.here )))) ) )) | apply wo_nil | apply wc_seq | apply wc_region | (apply wo_alloc; rfl; intro bx) | (apply wo_sta; rfl; rfl; rfl; rfl; (· (repeat (first | apply sel_here | apply sel_there))); (· (repeat (first | apply LayAt.nil | apply LayAt.here | apply LayAt.there))); rfl) ))
  rename_i g2 g3 g4 g1 R1 _
  have hR1 : ∀ r ∈ R1, r ∈ R' ++ (R1 ++ R) := fun r (h : r ∈ R1) => by simp [h]
  have hR2 : ∀ r ∈ R', r ∈ R' ++ (R1 ++ R) := fun r h => by simp [h]
  replace hS3 := hS3.mono hR1
  replace hS4 := hS4.mono hR1
  replace hS5 := hS5.mono hR2
  replace hS6 := hS6.mono hR2
  clear hR1 hR2
  generalize R' ++ (R1 ++ R) = RR at hS3 hS4 hS5 hS6 ⊢
  generalize hP : putM fr mo l bk (N + 1, z, now, key) = P at hS3 hS4 hS5 hS6 ⊢
  have hlp : P.1.length ≤ 1000000000 := by rw [← hP]; exact Nat.le_trans putM_out ha.2.2
  obtain ⟨out, tk, l', bk'⟩ := P
  simp only at hS3 hS4 hS5 hS6 hlp ⊢
  have hm2 : m2 = out.length := by rw [← hS4.len]; exact its_len _
  have hm4 : m4 = out.length := by rw [← hS6.len]; exact its_len _
  subst hm2; subst hm4
  refine wc_weak (st' := ⟨[(2, .pointer (some ⟨g2, 0, none⟩)), (4, .pointer (some ⟨g4, 0, none⟩)), (9, .slice a2 out.length d2), (10, .bool tk), (12, .slice a4 out.length d4), (13, .bool tk)],
    [dsb g2 q fr mo a3 n3 c3 bk' now (N + 1) age, szb g4, Qc q fr mo a1 n1 c1 (sumS l') bk'], RR⟩) (wk_mk (by (repeat (first | apply wkf_nil | (apply wkf_cons; rfl))); done) (by (repeat (first | apply sub_nil | (apply sub_cons; (· (repeat (first | apply sel_here | apply sel_there)))))); done) (by first | exact fun _ h => h | (intro r hr; cases hr; done) | (simp; done) | exact fun _ h => List.mem_append_left _ h | (intro r hr; simp [hr]; done))) ?_
  have hD : doesM fr mo age ⟨l, bk, now, N⟩ 1 z key = (⟨l', bk', now, N + 1⟩, 0, !tk || decide (out ≠ [])) := by simp [doesM, hP]
  have hlen0 : decide (0 < (out.length : Int)) = decide (out ≠ []) := by cases out <;> simp
  have hE : ∀ b : Bool, ¬ (b ≠ b) := fun b h => h rfl
  cases tk
  all_goals
    (refine wc_regM [0, 1] (aslL [(14, [0]), (16, [1])]) (tblS 14 (dsb g4 q fr mo a3 n3 c3 bk' now (N + 1) age)) ([dsb g2 q fr mo a3 n3 c3 bk' now (N + 1) age, Qc q fr mo a1 n1 c1 (sumS l') bk']) (fm [(0, []), (1, [szb g4])]) mixed (by kernel_rfl) (by kernel_rfl) (by decide) (aslL_ok (by decide)) (by (repeat (first | (apply prm_cons; (· (repeat (first | apply sel_here | apply sel_there)))) | apply List.Perm.nil )); done) ?_; (repeat (first | (apply HdM.val; rfl; rfl; (· first | apply gok_none | (apply gok_run; rfl; rfl)); (· first | (apply pv_ev; rfl) | (apply g_load; first | (apply pv_lda; rfl; (· (repeat (first | apply sel_here ))); (· (repeat (first | apply Cut.here0 | apply Cut.here )))) ) | (apply g_pick; first | (apply pv_pick_t; rfl; rfl) | (apply pv_pick_f; rfl; rfl)) | (apply g_bin; first | (apply pv_eql_b; rfl; rfl) ) | (apply g_bi; first | (apply pv_len_sl; rfl) ) | (apply g_un; first | (apply pv_not_t; rfl) | (apply pv_not_f; rfl) ) )) | (apply HdM.skip; rfl; rfl; rfl; rfl) | (apply HdM.skipu; rfl; rfl; rfl) | (apply am_gt; rfl; rfl; (· first | assumption | omega)) | (apply am_gf; rfl; rfl; (· first | assumption | omega)) | (apply am_gt; rfl; rfl; (· first | (simp; done) | (simp; omega))) | (apply am_gf; rfl; rfl; (· first | (simp; done) | (simp; omega))))))
    (refine hm_eff (cs := [0]) rfl (by decide) rfl rfl (by first | exact gok_none | exact gok_run rfl rfl) (fun a ha => outc_mono (outc_call (F1 := _) (T := fun v M => v = .bool true ∧ M = []) (qSame a2 a4 _ d2 _ d4 out RR hS4 hS6 hlp) rfl (by (repeat (first | apply sub_nil )); done) (by first | exact fun _ h => h | (intro r hr; cases hr; done) | (simp; done) | exact fun _ h => List.mem_append_left _ h | (intro r hr; simp [hr]; done)) (by rintro v L' R' ⟨rfl, rfl, _⟩; exact ⟨_, ⟨rfl, rfl⟩, (by (repeat (first | (apply prm_cons; (· (repeat (first | apply sel_here )))) | apply List.Perm.nil )); done)⟩) a ha) (fun v M h => ⟨[[]], And.intro h.1 rfl, rfl, h.2⟩)) ⟨_, _, And.intro rfl rfl, rfl⟩ ?_; rintro v Ms ⟨rfl, rfl⟩ _; simp only [setls, setl, reduceIte, Nat.reduceEqDiff]; (repeat (first | (apply HdM.val; rfl; rfl; (· first | apply gok_none ); (· first | (apply pv_ev; rfl) | (apply g_pick; first | (apply pv_pick_t; rfl; rfl) ) )) )))
    (refine hm_eff (cs := [1]) rfl (by decide) rfl rfl (by first | exact gok_none | exact gok_run rfl rfl) (fun a ha => outc_mono (outc_sta rfl rfl rfl rfl (by (repeat (first | apply LayAt.nil | apply LayAt.here )); done) a ha) (fun v M h => ⟨[M], And.intro h.1 (congrArg (fun x => [x]) h.2), rfl, by simp⟩)) ⟨_, _, And.intro rfl rfl, rfl⟩ ?_; rintro v Ms ⟨rfl, rfl⟩ _; simp only [setls, setl, reduceIte, Nat.reduceEqDiff]; (repeat (first | (apply HdM.val; rfl; rfl; (· first | apply gok_none ); (· first | (apply pv_ev; rfl) )) )))
    (refine HdM.nil ?_; intro H hH; simp only [Hp, fm, look, setl, List.flatMap_cons, List.flatMap_nil, reduceIte, Nat.reduceEqDiff, Option.getD_some, List.append_nil, List.cons_append, List.nil_append] at hH; subst hH; (repeat (first | apply wc_ret )))
    try rw [hlen0]
    exact retv rfl (by (repeat (first | apply RV.nil | (apply RV.tmp; rfl) | (apply RV.agg; rfl; (· (repeat (first | apply sel_here | apply sel_there))); infer_instance; (· (repeat (first | apply Cut.here0 | apply Cut.here )))) )); done) (⟨⟨l', bk', now, N + 1⟩, 0, _, a1, n1, c1, a3, n3, c3, hD.symm, rfl, rfl, hS3, hS5⟩) (by (repeat (first | apply sub_nil | (apply sub_cons; (· (repeat (first | apply sel_here | apply sel_there)))))); done) (by first | exact fun _ h => h | (intro r hr; cases hr; done) | (simp; done) | exact fun _ h => List.mem_append_left _ h | (intro r hr; simp [hr]; done))
end Go.Proofs.Ytbhegdlpmeeekaa

/-
  What a call leaves is as it should be.
-/
namespace Go.Proofs.Ytbhegdlpmeeekaa
set_option linter.unusedSimpArgs false
set_option linter.unusedVariables false
open Go.RowKit
attribute [local irreducible] Pv WO WC Fn
set_option maxRecDepth 100000

theorem allS_of {l : List It4} {mo : Int} (h1 : Pos l) (h2 : sumS l ≤ mo) (hmo : mo ≤ 16777216) (h3 : (l.length : Int) ≤ 1024) : allS l := ⟨h1, by omega, by omega⟩
theorem Pos.sub {a b : List It4} (h : Pos (a ++ b)) : Pos b := fun x hx => h x (List.mem_append_right _ hx)
theorem sumS_le {a b : List It4} (h : Pos (a ++ b)) : sumS b ≤ sumS (a ++ b) := by
  rw [sumS_app]
  have := sumS_pos (l := a) fun x hx => h x (List.mem_append_left _ hx)
  omega
theorem QOk.suffix {fr mo age : Int} {a b : List It4} {bk bk' : Bool} {now N : Int} (h : QOk fr mo age ⟨a ++ b, bk, now, N⟩) : QOk fr mo age ⟨b, bk', now, N⟩ := by
  obtain ⟨h1, h2, h3, h4, h5, h6, h7, h8, h9⟩ := h
  simp only [List.length_append] at h3 h4 h5 h6 h7
  have hs := sumS_le h3.1
  have hb : (b.length : Int) ≤ 1024 := by have := h1.2; omega
  exact ⟨h1, h2, allS_of h3.1.sub (Int.le_trans hs h5) h2.2 hb, by show (b.length : Int) ≤ fr; omega, Int.le_trans hs h5, fun x hx => h6 x (List.mem_append_right _ hx), fun x hx => h7 x (List.mem_append_right _ hx), h8, h9⟩
theorem QOk.later {fr mo age : Int} {l : List It4} {bk : Bool} {now N now' N' : Int} (h : QOk fr mo age ⟨l, bk, now, N⟩) (h1 : now ≤ now' ∧ now' ≤ 100000) (h2 : N ≤ N' ∧ N' ≤ 100000) : QOk fr mo age ⟨l, bk, now', N'⟩ := by
  obtain ⟨g1, g2, g3, g4, g5, g6, g7, g8, g9⟩ := h
  exact ⟨g1, g2, g3, g4, g5, fun x hx => by have := g6 x hx; simp only at *; omega, fun x hx => by have := g7 x hx; simp only at *; omega, by simp only at *; omega, by simp only at *; omega⟩
theorem QOk.bk' {fr mo age : Int} {l : List It4} {bk bk' : Bool} {now N : Int} (h : QOk fr mo age ⟨l, bk, now, N⟩) : QOk fr mo age ⟨l, bk', now, N⟩ := QOk.suffix (a := []) h
theorem QOk.nil {fr mo age : Int} {bk bk' : Bool} {l : List It4} {now N : Int} (h : QOk fr mo age ⟨l, bk, now, N⟩) : QOk fr mo age ⟨[], bk', now, N⟩ := QOk.suffix (a := l) (b := []) (bk := bk) (by rw [List.append_nil]; exact h)
/-- what a call leaves is as it should be -/
theorem doesM_ok {fr mo age : Int} {s : QS} (h : QOk fr mo age s) (hnow : s.now + 15 ≤ 100000) (hN : s.N + 1 ≤ 100000) (k z : Int) (key : Bool) :
    QOk fr mo age (doesM fr mo age s k z key).1 ∧ s.now ≤ (doesM fr mo age s k z key).1.now ∧ (doesM fr mo age s k z key).1.now ≤ s.now + 15 ∧ s.N ≤ (doesM fr mo age s k z key).1.N ∧ (doesM fr mo age s k z key).1.N ≤ s.N + 1 := by
  obtain ⟨l, bk, now, N⟩ := s
  simp only at hnow hN
  have h15 := and_15 z
  have hh := h
  obtain ⟨g1, g2, g3, g4, g5, g6, g7, g8, g9⟩ := hh
  simp only at g3 g4 g5 g6 g7 g8 g9
  unfold doesM
  by_cases h1 : k = 1
  · rw [if_pos h1]
    refine ⟨?_, by dsimp only; omega, by dsimp only; omega, by dsimp only; omega, by dsimp only; omega⟩
    rcases putM_spec fr mo l bk (N + 1, z, now, key) with ⟨_, e⟩ | ⟨_, hz0, hz1, l1, e, e2, e3⟩
    · have h2 : QOk fr mo age ⟨(putM fr mo l bk (N + 1, z, now, key)).1 ++ (putM fr mo l bk (N + 1, z, now, key)).2.2.1, bk, now, N⟩ := by rw [e]; exact h
      exact h2.suffix.later (by dsimp only; omega) (by dsimp only; omega)
    · have h2 : QOk fr mo age ⟨(putM fr mo l bk (N + 1, z, now, key)).1 ++ l1, bk, now, N⟩ := by rw [e]; exact h
      have h3 := h2.suffix (bk' := bk)
      obtain ⟨f1, f2, f3, f4, f5, f6, f7, f8, f9⟩ := h3
      simp only at f3 f4 f5 f6 f7 hz0 hz1 e3
      have hlen : ((l1 ++ [(N + 1, z, now, key)]).length : Int) ≤ fr := by
        rw [List.length_append, List.length_singleton]
        rcases e3 with rfl | e3
        · simp; omega
        · omega
      have hsum : sumS (l1 ++ [(N + 1, z, now, key)]) ≤ mo := by
        rw [sumS_app]
        simp only [sumS]
        rcases e3 with rfl | e3
        · simp only [sumS]; omega
        · omega
      have hpos : Pos (l1 ++ [(N + 1, z, now, key)]) := fun x hx => by
        rcases List.mem_append.1 hx with hx | hx
        · exact f3.1 x hx
        · rw [List.mem_singleton.1 hx]; exact hz0
      rw [e2]
      have hb : ((l1 ++ [(N + 1, z, now, key)]).length : Int) ≤ 1024 := by omega
      refine ⟨f1, f2, allS_of hpos hsum f2.2 hb, hlen, hsum, fun x hx => ?_, fun x hx => ?_, by dsimp only; omega, by dsimp only; omega⟩
      · rcases List.mem_append.1 hx with hx | hx
        · have := f6 x hx; simp only; omega
        · rw [List.mem_singleton.1 hx]; simp only; omega
      · rcases List.mem_append.1 hx with hx | hx
        · have := f7 x hx; simp only; omega
        · rw [List.mem_singleton.1 hx]; simp only; omega
  rw [if_neg h1]
  by_cases h2 : k = 2
  · rw [if_pos h2]
    refine ⟨?_, by dsimp only; omega, by dsimp only; omega, by dsimp only; omega, by dsimp only; omega⟩
    cases l with
    | nil => exact h.bk'
    | cons x t => exact QOk.suffix (a := [x]) h
  rw [if_neg h2]
  by_cases h3 : k = 3
  · rw [if_pos h3]
    refine ⟨?_, by dsimp only; omega, by dsimp only; omega, by dsimp only; omega, by dsimp only; omega⟩
    have e := (expG_spec (now + bits .and .i64 z 15) age l.length l bk (Nat.le_refl _)).1
    have h4 : QOk fr mo age ⟨(expG (now + bits .and .i64 z 15) age l bk).1 ++ (expG (now + bits .and .i64 z 15) age l bk).2.1, bk, now, N⟩ := by rw [e]; exact h
    exact h4.suffix.later (by dsimp only; omega) (by dsimp only; omega)
  rw [if_neg h3]
  by_cases h4 : k = 4
  · rw [if_pos h4]
    exact ⟨h.nil, by dsimp only; omega, by dsimp only; omega, by dsimp only; omega, by dsimp only; omega⟩
  rw [if_neg h4]
  exact ⟨h, by dsimp only; omega, by dsimp only; omega, by dsimp only; omega, by dsimp only; omega⟩
def qseg (kd sz : Nat → Int) (ky : Nat → Bool) (n : Nat) : List (List Value) := (List.range n).map fun i => [.int .i64 (kd i), .int .i64 (sz i), .bool (ky i)]
theorem qseg_at {kd sz : Nat → Int} {ky : Nat → Bool} {n i : Nat} (h : i < n) : (qseg kd sz ky n)[i]? = some [.int .i64 (kd i), .int .i64 (sz i), .bool (ky i)] := by simp [qseg, h]
theorem rws_act {w : World} {A : Option Addr} {n c : Nat} {V : Nat → Nat → Value} (h : Rws [.int .i64, .int .i64, .bool] w A n c V) :
    ∃ (kd sz : Nat → Int) (ky : Nat → Bool) (R : List Ro), (∀ r ∈ R, r.sat w) ∧ (0 < n → ∃ b o, A = some ⟨b, o, none⟩ ∧ ⟨b, o, 3, qseg kd sz ky n⟩ ∈ R) := by
  obtain ⟨R, hR, h0⟩ := rws_ro h (by simp)
  obtain ⟨_, _, _, h4⟩ := h
  let f (j i : Nat) : Int := match V i j with | .int _ z => z | _ => 0
  let g (i : Nat) : Bool := match V i 2 with | .bool z => z | _ => false
  refine ⟨f 0, f 1, g, R, hR, fun hn => ?_⟩
  obtain ⟨b, o, hA, hm⟩ := h0 hn
  refine ⟨b, o, hA, ?_⟩
  have e : rowsOf [.int .i64, .int .i64, .bool] V n = qseg (f 0) (f 1) g n := by
    unfold rowsOf qseg
    refine List.map_congr_left fun i hi => ?_
    obtain ⟨z0, hz0, _⟩ := h4 i 0 _ (List.mem_range.1 hi) rfl
    obtain ⟨z1, hz1, _⟩ := h4 i 1 _ (List.mem_range.1 hi) rfl
    obtain ⟨z2, hz2⟩ := h4 i 2 _ (List.mem_range.1 hi) rfl
    simp [f, g, hz0, hz1, hz2, List.range_succ]
  rw [← e]; exact hm
end Go.Proofs.Ytbhegdlpmeeekaa

/-
  QueueKeys, plain: of what goes out, the first one, and each one ahead of which something was dropped, is Key.
-/
namespace Go.Proofs.Ytbhegdlpmeeekaa
set_option linter.unusedSimpArgs false
set_option linter.unusedVariables false
open Go.RowKit
set_option maxRecDepth 100000

def ChainK : List It4 → Prop
  | a :: b :: t => (b.2.2.2 = true ∨ b.1 = a.1 + 1) ∧ ChainK (b :: t)
  | _ => True
theorem ChainK.tail {a : It4} {t : List It4} (h : ChainK (a :: t)) : ChainK t := by
  cases t with
  | nil => trivial
  | cons b t => exact h.2
theorem ChainK.suffix {b : List It4} : ∀ {a : List It4}, ChainK (a ++ b) → ChainK b
  | [], h => h
  | _ :: _, h => ChainK.suffix (ChainK.tail h)
theorem ChainK.snoc {x : It4} : ∀ {l : List It4}, ChainK l → (∀ y, l.getLast? = some y → x.2.2.2 = true ∨ x.1 = y.1 + 1) → ChainK (l ++ [x])
  | [], _, _ => trivial
  | [a], _, h => ⟨h a rfl, trivial⟩
  | a :: b :: t, h, h2 => ⟨h.1, ChainK.snoc (l := b :: t) h.2 (fun y hy => h2 y (by rw [List.getLast?_cons_cons]; exact hy))⟩
structure KI (km : Int → Prop) (l : List It4) (bk : Bool) (N last : Int) : Prop where
  chain : ChainK l
  keys : ∀ x ∈ l, x.2.2.2 = true → km x.1
  first : ∀ x, l.head? = some x → x.2.2.2 = true ∨ (x.1 = last + 1 ∧ 1 ≤ last)
  opn : bk = false → (∀ x, l.getLast? = some x → x.1 = N) ∧ (l = [] → last = N ∧ 1 ≤ N)
theorem dw_head {l : List It4} {x : It4} (h : (dw l).head? = some x) : x.2.2.2 = true := by
  have := List.head?_dropWhile_not (fun x : It4 => !x.2.2.2) l
  unfold dw at h
  rw [h] at this
  simpa using this
theorem KI.drop {km : Int → Prop} {x : It4} {t : List It4} {bk : Bool} {N last : Int} (h : KI km (x :: t) bk N last) : KI km (dw t) (bk || (dw t).isEmpty) N last := by
  obtain ⟨h1, h2, h3, h4⟩ := h
  have e : x :: t = (x :: tw t) ++ dw t := by rw [List.cons_append, twdw]
  refine ⟨by rw [e] at h1; exact h1.suffix, fun y hy => h2 y (by rw [e]; exact List.mem_append_right _ hy), fun y hy => .inl (dw_head hy), fun hb => ?_⟩
  rw [Bool.or_eq_false_iff] at hb
  have hne : dw t ≠ [] := fun h => by rw [h] at hb; exact absurd hb.2 (by simp)
  refine ⟨fun y hy => (h4 hb.1).1 y ?_, fun h => absurd h hne⟩
  rw [e, List.getLast?_append, hy]; rfl
theorem KI.putG {km : Int → Prop} {fr mo s N last : Int} : ∀ (k : Nat) (l : List It4) (bk : Bool), l.length ≤ k → KI km l bk N last → KI km (putG fr mo s l bk).2.1 (putG fr mo s l bk).2.2 N last
  | k, [], bk, _, h => by rw [putG_nil]; exact h
  | 0, x :: t, bk, hk, _ => by simp at hk
  | k + 1, x :: t, bk, hk, h => by
    by_cases hc : fr ≤ (t.length : Int) + 1 ∨ mo < sumS (x :: t) + s
    · rw [putG_go hc]
      exact KI.putG k (dw t) _ (by have := dw_len t; simp at hk; omega) h.drop
    · rw [putG_end hc]; exact h
theorem KI.expG {km : Int → Prop} {now age N last : Int} : ∀ (k : Nat) (l : List It4) (bk : Bool), l.length ≤ k → KI km l bk N last → KI km (expG now age l bk).2.1 (expG now age l bk).2.2 N last
  | k, [], bk, _, h => by rw [expG_nil]; exact h
  | 0, x :: t, bk, hk, _ => by simp at hk
  | k + 1, x :: t, bk, hk, h => by
    by_cases hc : age ≤ now - x.2.2.1
    · rw [expG_go hc]
      exact KI.expG k (dw t) _ (by have := dw_len t; simp at hk; omega) h.drop
    · rw [expG_end hc]; exact h
theorem KI.shut {km : Int → Prop} {l : List It4} {bk : Bool} {N N' last : Int} (h : KI km l bk N last) : KI km l true N' last := ⟨h.chain, h.keys, h.first, fun h => by cases h⟩
theorem KI.more {km km' : Int → Prop} {l : List It4} {bk : Bool} {N last : Int} (h : KI km l bk N last) (hk : ∀ n, km n → km' n) : KI km' l bk N last := ⟨h.chain, fun x hx hx2 => hk _ (h.keys x hx hx2), h.first, h.opn⟩
theorem KI.putM {km : Int → Prop} {fr mo N last sz tk : Int} {key : Bool} {l : List It4} {bk : Bool} (h : KI km l bk N last) (hN : 0 ≤ N) :
    KI (fun n => km n ∨ (key = true ∧ n = N + 1)) (putM fr mo l bk (N + 1, sz, tk, key)).2.2.1 (putM fr mo l bk (N + 1, sz, tk, key)).2.2.2 (N + 1) last := by
  have hG := KI.putG (fr := fr) (mo := mo) (s := sz) l.length l bk (Nat.le_refl _) h
  unfold Go.Proofs.Ytbhegdlpmeeekaa.putM
  dsimp only
  split
  · exact (h.more fun _ h => .inl h).shut
  · rename_i hc
    split
    · rename_i hd
      rw [hd.1]
      exact (hG.more fun _ h => .inl h).shut
    · rename_i hd
      generalize (Go.Proofs.Ytbhegdlpmeeekaa.putG fr mo sz l bk).2.1 = l1 at *
      generalize (Go.Proofs.Ytbhegdlpmeeekaa.putG fr mo sz l bk).2.2 = b1 at *
      have hop : key = false → b1 = false := fun hk => by cases b1; rfl; exact absurd ⟨rfl, hk⟩ hd
      have hlast : ∀ y, l1.getLast? = some y → key = true ∨ N + 1 = y.1 + 1 := fun y hy => by
        cases hk : key with
        | true => exact .inl rfl
        | false => exact .inr (by rw [(hG.opn (hop hk)).1 y hy])
      refine ⟨hG.chain.snoc hlast, fun x hx hx2 => ?_, fun x hx => ?_, fun _ => ⟨fun x hx => ?_, fun h => by simp at h⟩⟩
      · rcases List.mem_append.1 hx with hx | hx
        · exact .inl (hG.keys x hx hx2)
        · rcases List.mem_singleton.1 hx with rfl
          exact .inr ⟨hx2, rfl⟩
      · cases l1 with
        | nil =>
          obtain rfl : (N + 1, sz, tk, key) = x := by simpa using hx
          cases hk : key with
          | true => exact .inl rfl
          | false =>
            have := (hG.opn (hop hk)).2 rfl
            exact .inr ⟨by dsimp only; omega, by omega⟩
        | cons y t => exact hG.first x hx
      · rw [List.getLast?_append] at hx
        obtain rfl : (N + 1, sz, tk, key) = x := by simpa using hx
        rfl
theorem doesM_KI {fr mo age last : Int} {s : QS} (hQ : QOk fr mo age s) {km : Int → Prop} (h : KI km s.l s.bk s.N last) (k z : Int) (key : Bool) :
    (0 < (doesM fr mo age s k z key).2.1 → km (doesM fr mo age s k z key).2.1 ∨ ((doesM fr mo age s k z key).2.1 = last + 1 ∧ 1 ≤ last)) ∧ (k = 1 → (doesM fr mo age s k z key).1.N = s.N + 1)
    ∧ KI (fun n => km n ∨ (k = 1 ∧ key = true ∧ n = (doesM fr mo age s k z key).1.N)) (doesM fr mo age s k z key).1.l (doesM fr mo age s k z key).1.bk (doesM fr mo age s k z key).1.N (if 0 < (doesM fr mo age s k z key).2.1 then (doesM fr mo age s k z key).2.1 else last) := by
  obtain ⟨l, bk, now, N⟩ := s
  have hN := hQ.N.1
  have hnum := hQ.num
  dsimp only at h hN hnum
  unfold doesM
  by_cases h1 : k = 1
  · rw [if_pos h1]
    refine ⟨fun h => absurd h (by simp), fun _ => rfl, ?_⟩
    rw [if_neg (by simp)]
    exact (KI.putM h hN).more fun n hn => hn.imp id (fun hn => ⟨h1, hn.1, hn.2⟩)
  rw [if_neg h1]
  by_cases h2 : k = 2
  · rw [if_pos h2]
    cases l with
    | nil =>
      refine ⟨fun h => absurd h (by simp [itz]), fun e => absurd e h1, ?_⟩
      rw [if_neg (by simp [itz])]
      exact h.more fun _ h => .inl h
    | cons x t =>
      have hx := hnum x (.head _)
      show (0 < x.1 → km x.1 ∨ (x.1 = last + 1 ∧ 1 ≤ last)) ∧ (k = 1 → N = N + 1) ∧ KI (fun n => km n ∨ (k = 1 ∧ key = true ∧ n = N)) t bk N (if 0 < x.1 then x.1 else last)
      refine ⟨fun _ => ?_, fun e => absurd e h1, ?_⟩
      · rcases h.first x rfl with h3 | h3
        · exact .inl (h.keys x (.head _) h3)
        · exact .inr h3
      · rw [if_pos (by omega)]
        refine ⟨h.chain.tail, fun y hy hy2 => .inl (h.keys y (.tail _ hy) hy2), fun y hy => ?_, fun hb => ⟨fun y hy => (h.opn hb).1 y ?_, fun ht => ?_⟩⟩
        · cases t with
          | nil => cases hy
          | cons u t =>
            obtain rfl : u = y := by simpa using hy
            rcases h.chain.1 with h3 | h3
            · exact .inl h3
            · exact .inr ⟨h3, hx.1⟩
        · cases t with
          | nil => cases hy
          | cons u t => rw [List.getLast?_cons_cons]; exact hy
        · subst ht
          have := (h.opn hb).1 x rfl
          omega
  rw [if_neg h2]
  by_cases h3 : k = 3
  · rw [if_pos h3]
    refine ⟨fun h => absurd h (by simp), fun e => absurd e h1, ?_⟩
    rw [if_neg (by simp)]
    exact (KI.expG l.length l bk (Nat.le_refl _) h).more fun _ h => .inl h
  rw [if_neg h3]
  by_cases h4 : k = 4
  · rw [if_pos h4]
    refine ⟨fun h => absurd h (by simp), fun e => absurd e h1, ?_⟩
    rw [if_neg (by simp)]
    exact ⟨trivial, (fun x hx => by cases hx), (fun x hx => by cases hx), (fun h => by cases h)⟩
  rw [if_neg h4]
  refine ⟨fun h => absurd h (by simp), fun e => absurd e h1, ?_⟩
  rw [if_neg (by simp)]
  exact h.more fun _ h => .inl h
theorem doesM_out {fr mo age : Int} {s : QS} (hQ : QOk fr mo age s) (k z : Int) (key : Bool) : 0 ≤ (doesM fr mo age s k z key).2.1 ∧ (doesM fr mo age s k z key).2.1 ≤ 100000 := by
  obtain ⟨l, bk, now, N⟩ := s
  have hN := hQ.N
  have hnum := hQ.num
  dsimp only at hN hnum
  unfold doesM
  split
  · exact ⟨Int.le_refl _, by show (0 : Int) ≤ 100000; omega⟩
  split
  · cases l with
    | nil => exact ⟨Int.le_refl _, by show (0 : Int) ≤ 100000; omega⟩
    | cons x t =>
      have := hnum x (.head _)
      show 0 ≤ x.1 ∧ x.1 ≤ 100000
      omega
  split
  · exact ⟨Int.le_refl _, by show (0 : Int) ≤ 100000; omega⟩
  split
  · exact ⟨Int.le_refl _, by show (0 : Int) ≤ 100000; omega⟩
  · exact ⟨Int.le_refl _, by show (0 : Int) ≤ 100000; omega⟩
end Go.Proofs.Ytbhegdlpmeeekaa

/-
  The law's Does of layer 18: Pop, the clock, Break.
-/
namespace Go.Proofs.Ytbhegdlpmeeekaa
set_option linter.unusedSimpArgs false
set_option linter.unusedVariables false
open Go.RowKit
attribute [local irreducible] Pv WO WC Fn
set_option maxRecDepth 100000
abbrev tblU (new : It) : Nat → List (List It) → Value → List (List It) → Prop := fun k Ls v Ms => v = undef ∧ Ms = [[new]]
set_option maxHeartbeats 16000000 in
theorem does2n (q : Nat) (fr mo age : Int) (bk : Bool) (now N : Int) (ao ao2 : Option Addr) (n c m c2 : Nat) (R : List Ro) (hS : SR R 4 ao n c (its [])) (hS2 : SR R 4 ao2 m c2 (its [])) (z : Int) (key : Bool) :
    Fn Try.prog 20 #[.agg (stv q fr mo ao2 m c2 bk now N age).toArray, .agg #[.int .i64 2, .int .i64 z, .bool key]] [Qc q fr mo ao n c (sumS []) bk] R (DoesPost q fr mo age ⟨[], bk, now, N⟩ 2 z key) := by
  have hm0 : m = 0 := by rw [← hS2.len]; rfl
  subst hm0
  have he : EqRow [.int .i64 0, .int .i64 0, .int .i64 0, .bool false] [.int .i64 0, .int .i64 0, .int .i64 0, .bool false] := (EqRow_it itz itz).2 rfl
  refine fn_intro Try.func20 rfl Try.ntmps20 rfl (fun E => ?_)
  (repeat (first | ((first | (apply wo_v; rfl) ); (· first | (apply pv_ev; rfl) | (apply pv_fld; rfl) | (apply g_load; first | (apply pv_ld; rfl; (· (repeat (first | apply sel_here | apply sel_there))); rfl) ) )) | apply wo_nil | apply wc_seq | apply wc_region | apply wc_block | (apply wc_true; rfl) | (apply wc_false; rfl) | (apply wo_box1; rfl; rfl; rfl; intro bx) | (apply wo_boxa; rfl; rfl; intro bx) | (apply wo_alloc; rfl; intro bx) ))
  (refine wo_call (qPop q fr mo ao n c bk [] R hS as0) rfl (by (repeat (first | apply sub_nil | (apply sub_cons; (· (repeat (first | apply sel_here | apply sel_there)))))); done) (by first | exact fun _ h => h | (intro r hr; cases hr; done) | (simp; done) | exact fun _ h => List.mem_append_left _ h | (intro r hr; simp [hr]; done)) rfl ?_; rintro v L' R' ⟨a1, n1, c1, rfl, rfl, hS3⟩ H' hH RR hR; simp only [List.cons_append, List.nil_append] at hH hR; subst hH; have hR := hR.symm; subst hR)
  (repeat (first | ((first | (apply wo_v; rfl) ); (· first | (apply pv_ev; rfl) | (apply pv_fld; rfl) | (apply g_load; first | (apply pv_ld; rfl; (· (repeat (first | apply sel_here | apply sel_there))); rfl) ) | (apply g_bi; first | (apply pv_len_sl; rfl) ) )) | apply wo_nil | apply wc_seq | apply wc_region | (apply wc_true; rfl) | (apply wo_alloc; rfl; intro bx) | (apply wo_sta; rfl; rfl; rfl; rfl; (· (repeat (first | apply sel_here ))); (· (repeat (first | apply LayAt.nil | apply LayAt.here ))); rfl) ))
  rename_i g2 g3 g4
  have hS3' := hS3.mono (R' := R' ++ R) (fun _ h => List.mem_append_left _ h)
  have hS2' := hS2.mono (R' := R' ++ R) (fun _ h => List.mem_append_right _ h)
  generalize R' ++ R = RR at hS3' hS2' ⊢
  refine wc_weak (st' := ⟨[(2, .pointer (some ⟨g2, 0, none⟩)), (4, .pointer (some ⟨g4, 0, none⟩)), (14, .pointer (some ⟨bx, 0, none⟩)), (15, .bool false)],
    [dsb g2 q fr mo ao2 0 c2 bk now N age, .ob bx (.cells #[.int .i64 0, .int .i64 0, .int .i64 0, .bool false] qIt (0, 0)), szb g4, Qc q fr mo a1 n1 c1 0 bk], RR⟩) (wk_mk (by (repeat (first | apply wkf_nil | (apply wkf_cons; rfl))); done) (by (repeat (first | apply sub_nil | (apply sub_cons; (· (repeat (first | apply sel_here | apply sel_there)))))); done) (by first | exact fun _ h => h | (intro r hr; cases hr; done) | (simp; done) | exact fun _ h => List.mem_append_left _ h | (intro r hr; simp [hr]; done))) ?_
  (refine wc_regM [1] (aslL [(8, [1])]) (tblU (dsb g4 q fr mo ao2 0 c2 bk now N age)) ([dsb g2 q fr mo ao2 0 c2 bk now N age, .ob bx (.cells #[.int .i64 0, .int .i64 0, .int .i64 0, .bool false] qIt (0, 0)), Qc q fr mo a1 n1 c1 0 bk]) (fm [(1, [szb g4])]) mixed (by kernel_rfl) (by kernel_rfl) (by decide) (aslL_ok (by decide)) (by (repeat (first | (apply prm_cons; (· (repeat (first | apply sel_here | apply sel_there)))) | apply List.Perm.nil )); done) ?_; (repeat (first | (apply HdM.val; rfl; rfl; (· first | apply gok_none | (apply gok_run; rfl; rfl)); (· first | (apply pv_ev; rfl) | (apply g_load; first | (apply pv_lda; rfl; (· (repeat (first | apply sel_here | apply sel_there))); (· (repeat (first | apply Cut.here0 | apply Cut.here )))) ) | (apply g_pick; first | (apply pv_pick_t; rfl; rfl) ) | (apply g_bin; first | (apply pv_eql_s; rfl; rfl) | (apply pv_eql_a; rfl; rfl; infer_instance; rfl; rfl) ) | (apply g_un; first | (apply pv_not_t; rfl) | (apply pv_not_f; rfl) ) | (apply g_build; apply pv_build; (· (repeat (first | apply Bld.nil )))) )) )))
  (refine hm_eff (cs := [1]) rfl (by decide) rfl rfl (by first | exact gok_none | exact gok_run rfl rfl) (fun a ha => outc_mono (outc_sta rfl rfl rfl rfl (by (repeat (first | apply LayAt.nil | apply LayAt.here )); done) a ha) (fun v M h => ⟨[M], And.intro h.1 (congrArg (fun x => [x]) h.2), rfl, by simp⟩)) ⟨_, _, And.intro rfl rfl, rfl⟩ ?_; rintro v Ms ⟨rfl, rfl⟩ _; simp only [setls, setl, reduceIte, Nat.reduceEqDiff]; (repeat (first | (apply HdM.val; rfl; rfl; (· first | apply gok_none ); (· first | (apply pv_ev; rfl) )) )))
  (refine HdM.nil ?_; intro H hH; simp only [Hp, fm, look, setl, List.flatMap_cons, List.flatMap_nil, reduceIte, Nat.reduceEqDiff, Option.getD_some, List.append_nil, List.cons_append, List.nil_append] at hH; subst hH; (repeat (first | apply wc_ret )))
  rw [show (decide (EqRow [.int .i64 0, .int .i64 0, .int .i64 0, .bool false] [.int .i64 0, .int .i64 0, .int .i64 0, .bool false])) = true from decide_eq_true he]
  exact retv rfl (by (repeat (first | apply RV.nil | (apply RV.tmp; rfl) | (apply RV.agg; rfl; (· (repeat (first | apply sel_here | apply sel_there))); infer_instance; (· (repeat (first | apply Cut.here0 | apply Cut.here )))) )); done) (⟨⟨[], bk, now, N⟩, 0, false, a1, n1, c1, ao2, 0, c2, rfl, rfl, rfl, hS3', hS2'⟩) (by (repeat (first | apply sub_nil | (apply sub_cons; (· (repeat (first | apply sel_here | apply sel_there)))))); done) (by first | exact fun _ h => h | (intro r hr; cases hr; done) | (simp; done) | exact fun _ h => List.mem_append_left _ h | (intro r hr; simp [hr]; done))
set_option maxHeartbeats 16000000 in
theorem does2c (q : Nat) (fr mo age : Int) (xn xs xt : Int) (xk : Bool) (t : List It4) (bk : Bool) (now N : Int) (ao ao2 : Option Addr) (n c m c2 : Nat) (R : List Ro) (hS : SR R 4 ao n c (its ((xn, xs, xt, xk) :: t))) (hS2 : SR R 4 ao2 m c2 (its ((xn, xs, xt, xk) :: t))) (ha : allS ((xn, xs, xt, xk) :: t)) (z : Int) (key : Bool) :
    Fn Try.prog 20 #[.agg (stv q fr mo ao2 m c2 bk now N age).toArray, .agg #[.int .i64 2, .int .i64 z, .bool key]] [Qc q fr mo ao n c (sumS ((xn, xs, xt, xk) :: t)) bk] R (DoesPost q fr mo age ⟨(xn, xs, xt, xk) :: t, bk, now, N⟩ 2 z key) := by
  have hm : m = t.length + 1 := by rw [← hS2.len]; simp [its]
  have hle := hS2.le
  obtain ⟨b, o, rfl, hmem⟩ := hS2.pos (by omega)
  have h0 : 0 < m := by omega
  have h1 : ¬ ((m : Int) = 0) := by omega
  have hr : (its ((xn, xs, xt, xk) :: t))[0]? = some [.int .i64 xn, .int .i64 xs, .int .i64 xt, .bool xk] := rfl
  have e1 : ((its ((xn, xs, xt, xk) :: t)).take m).drop 1 = its t := by rw [List.take_of_length_le (by rw [hS2.len]; exact Nat.le_refl _)]; rfl
  have he : EqRow [.int .i64 xn, .int .i64 xs, .int .i64 xt, .bool xk] [.int .i64 xn, .int .i64 xs, .int .i64 xt, .bool xk] := (EqRow_it (xn, xs, xt, xk) (xn, xs, xt, xk)).2 rfl
  refine fn_intro Try.func20 rfl Try.ntmps20 rfl (fun E => ?_)
  (repeat (first | ((first | (apply wo_v; rfl) ); (· first | (apply pv_ev; rfl) | (apply pv_fld; rfl) | (apply g_load; first | (apply pv_ld; rfl; (· (repeat (first | apply sel_here | apply sel_there))); rfl) ) )) | apply wo_nil | apply wc_seq | apply wc_region | apply wc_block | (apply wc_true; rfl) | (apply wc_false; rfl) | (apply wo_box1; rfl; rfl; rfl; intro bx) | (apply wo_boxa; rfl; rfl; intro bx) | (apply wo_alloc; rfl; intro bx) ))
  (refine wo_call (qPop q fr mo ao n c bk _ R hS ha) rfl (by (repeat (first | apply sub_nil | (apply sub_cons; (· (repeat (first | apply sel_here | apply sel_there)))))); done) (by first | exact fun _ h => h | (intro r hr; cases hr; done) | (simp; done) | exact fun _ h => List.mem_append_left _ h | (intro r hr; simp [hr]; done)) rfl ?_; rintro v L' R' ⟨a1, n1, c1, rfl, rfl, hS3⟩ H' hH RR hR; simp only [List.cons_append, List.nil_append] at hH hR; subst hH; have hR := hR.symm; subst hR)
  simp only [List.head?_cons, Option.getD_some, List.tail_cons]
  rw [show (decide ((xn, xs, xt, xk) :: t ≠ [])) = true by simp]
  have hmem2 : ⟨b, o, 4, its ((xn, xs, xt, xk) :: t)⟩ ∈ R' ++ R := List.mem_append_right _ hmem
  have hS3' := hS3.mono (R' := R' ++ R) (fun _ h => List.mem_append_left _ h)
  have hS2' := hS2.mono (R' := R' ++ R) (fun _ h => List.mem_append_right _ h)
  generalize R' ++ R = R2 at hmem2 hS3' hS2' ⊢
  (repeat (first | ((first | (apply wo_v; rfl) ); (· first | (apply pv_ev; rfl) | (apply pv_fld; rfl) | (apply g_load; first | (apply pv_ld; rfl; (· (repeat (first | apply sel_here | apply sel_there))); rfl) | (apply pv_lda; rfl; (· (repeat (first | apply sel_there))); (· (repeat (first | fail )))) | (apply pv_ld_owna; rfl; (· (repeat (first | apply sel_there))); (· assumption)) | (apply pv_ld_roa; rfl; (· (first | assumption )); (· assumption))) | (apply g_bi; first | (apply pv_len_sl; rfl) ) | (apply g_idx; first | (apply pv_idx; rfl; rfl; omega) ) )) | apply wo_nil | apply wc_seq | apply wc_region | apply wc_skip | (apply wc_true; rfl) | (apply wc_false; rfl) | (apply a_dec_t; rfl; (· first | assumption | omega)) | (apply a_dec_f; rfl; (· first | assumption | omega)) | (apply wo_alloc; rfl; intro bx) | (apply wo_sta; rfl; rfl; rfl; rfl; (· (repeat (first | apply sel_here ))); (· (repeat (first | apply LayAt.nil | apply LayAt.here ))); rfl) ))
  refine wo_v rfl (pv_cut (l := 1) (h := m) (m := c2) inferInstance rfl (.lo rfl rfl (by omega))) ?_
  refine wo_ro 1 m hmem2 ?_
  have hS4 := hS2'.cut (l := 1) (h := m) (m := c2) ⟨by omega, by omega, by omega, by omega⟩
  rw [e1] at hS4 ⊢
  replace hS3' := hS3'.mono (R' := ⟨b, elt o 1 4, 4, its t⟩ :: R2) (fun _ h => .tail _ h)
  generalize (if c2 = 1 then (some ⟨b, o, none⟩ : Option Addr) else (some (⟨b, o, none⟩ : Addr)).map (·.add (1 * 4))) = ao' at hS4 ⊢
  generalize (⟨b, elt o 1 4, 4, its t⟩ :: R2) = RR at hS3' hS4 ⊢
  (repeat (first | ((first | (apply wo_v; rfl) ); (· first | (apply pv_ev; rfl) | (apply pv_fld; rfl) )) | apply wo_nil | apply wc_seq | (apply wo_st; rfl; rfl; rfl; (· (repeat (first | apply sel_here | apply sel_there))); (· (repeat (first | apply SetAt.here | apply SetAt.there))); rfl) ))
  rename_i g2 g3 g4 g5
  refine wc_weak (st' := ⟨[(2, .pointer (some ⟨g2, 0, none⟩)), (4, .pointer (some ⟨g4, 0, none⟩)), (14, .pointer (some ⟨g5, 0, none⟩)), (15, .bool true), (16, .pointer (some ⟨bx, 0, none⟩))],
    [dsb g2 q fr mo ao' (m - 1) (c2 - 1) bk now N age, .ob g5 (.cells #[.int .i64 xn, .int .i64 xs, .int .i64 xt, .bool xk] qIt (0, 0)), xi bx xn xs xt xk, szb g4, Qc q fr mo a1 n1 c1 (sumS t) bk], RR⟩) (wk_mk (by (repeat (first | apply wkf_nil | (apply wkf_cons; rfl))); done) (by (repeat (first | apply sub_nil | (apply sub_cons; (· (repeat (first | apply sel_here | apply sel_there)))))); done) (by first | exact fun _ h => h | (intro r hr; cases hr; done) | (simp; done) | exact fun _ h => List.mem_append_left _ h | (intro r hr; simp [hr]; done))) ?_
  (refine wc_regM [1] (aslL [(9, [1])]) (tblU (dsb g4 q fr mo ao' (m - 1) (c2 - 1) bk now N age)) ([dsb g2 q fr mo ao' (m - 1) (c2 - 1) bk now N age, .ob g5 (.cells #[.int .i64 xn, .int .i64 xs, .int .i64 xt, .bool xk] qIt (0, 0)), xi bx xn xs xt xk, Qc q fr mo a1 n1 c1 (sumS t) bk]) (fm [(1, [szb g4])]) mixed (by kernel_rfl) (by kernel_rfl) (by decide) (aslL_ok (by decide)) (by (repeat (first | (apply prm_cons; (· (repeat (first | apply sel_here | apply sel_there)))) | apply List.Perm.nil )); done) ?_; (repeat (first | (apply HdM.val; rfl; rfl; (· first | apply gok_none | (apply gok_run; rfl; rfl)); (· first | (apply pv_ev; rfl) | (apply pv_fld; rfl) | (apply g_load; first | (apply pv_ld; rfl; (· (repeat (first | apply sel_here | apply sel_there))); rfl) | (apply pv_lda; rfl; (· (repeat (first | apply sel_here | apply sel_there))); (· (repeat (first | apply Cut.here0 | apply Cut.here )))) ) | (apply g_pick; first | (apply pv_pick_t; rfl; rfl) ) | (apply g_bin; first | (apply pv_eql_s; rfl; rfl) | (apply pv_eql_a; rfl; rfl; infer_instance; rfl; rfl) ) )) )))
  (refine hm_eff (cs := [1]) rfl (by decide) rfl rfl (by first | exact gok_none | exact gok_run rfl rfl) (fun a ha => outc_mono (outc_sta rfl rfl rfl rfl (by (repeat (first | apply LayAt.nil | apply LayAt.here )); done) a ha) (fun v M h => ⟨[M], And.intro h.1 (congrArg (fun x => [x]) h.2), rfl, by simp⟩)) ⟨_, _, And.intro rfl rfl, rfl⟩ ?_; rintro v Ms ⟨rfl, rfl⟩ _; simp only [setls, setl, reduceIte, Nat.reduceEqDiff]; (repeat (first | (apply HdM.val; rfl; rfl; (· first | apply gok_none ); (· first | (apply pv_ev; rfl) )) )))
  (refine HdM.nil ?_; intro H hH; simp only [Hp, fm, look, setl, List.flatMap_cons, List.flatMap_nil, reduceIte, Nat.reduceEqDiff, Option.getD_some, List.append_nil, List.cons_append, List.nil_append] at hH; subst hH; (repeat (first | apply wc_ret )))
  rw [decide_eq_true he]
  exact retv rfl (by (repeat (first | apply RV.nil | (apply RV.tmp; rfl) | (apply RV.agg; rfl; (· (repeat (first | apply sel_here | apply sel_there))); infer_instance; (· (repeat (first | apply Cut.here0 | apply Cut.here )))) )); done) (⟨⟨t, bk, now, N⟩, xn, false, a1, n1, c1, ao', m - 1, c2 - 1, rfl, rfl, rfl, hS3', hS4⟩) (by (repeat (first | apply sub_nil | (apply sub_cons; (· (repeat (first | apply sel_here | apply sel_there)))))); done) (by first | exact fun _ h => h | (intro r hr; cases hr; done) | (simp; done) | exact fun _ h => List.mem_append_left _ h | (intro r hr; simp [hr]; done))
set_option maxHeartbeats 16000000 in
theorem does3 (q : Nat) (fr mo age : Int) (l : List It4) (bk : Bool) (now N : Int) (ao ao2 : Option Addr) (n c m c2 : Nat) (R : List Ro) (hS : SR R 4 ao n c (its l)) (hS2 : SR R 4 ao2 m c2 (its l)) (ha : allS l) (ht : ∀ x ∈ l, 0 ≤ x.2.2.1 ∧ x.2.2.1 ≤ 1000000) (hnow : 0 ≤ now ∧ now ≤ 100000) (z : Int) (key : Bool) :
    Fn Try.prog 20 #[.agg (stv q fr mo ao2 m c2 bk now N age).toArray, .agg #[.int .i64 3, .int .i64 z, .bool key]] [Qc q fr mo ao n c (sumS l) bk] R (DoesPost q fr mo age ⟨l, bk, now, N⟩ 3 z key) := by
  have h15 := and_15 z
  refine fn_intro Try.func20 rfl Try.ntmps20 rfl (fun E => ?_)
  (repeat (first | ((first | (apply wo_v; rfl) ); (· first | (apply pv_ev; rfl) | (apply pv_fld; rfl) | (apply g_load; first | (apply pv_ld; rfl; (· (repeat (first | apply sel_here | apply sel_there))); rfl) ) | (apply g_bin; first | (apply a_add; rfl; rfl; infer_instance; omega) | (apply pv_and; rfl; rfl) ) )) | apply wo_nil | apply wc_seq | apply wc_region | apply wc_block | (apply wc_true; rfl) | (apply wc_false; rfl) | (apply wo_st; rfl; rfl; rfl; (· (repeat (first | apply sel_here | apply sel_there))); (· (repeat (first | apply SetAt.here | apply SetAt.there))); rfl) | (apply wo_box1; rfl; rfl; rfl; intro bx) | (apply wo_boxa; rfl; rfl; intro bx) | (apply wo_alloc; rfl; intro bx) ))
  generalize hn2 : now + bits .and .i64 z 15 = now2
  have hnow2 : 0 ≤ now2 ∧ now2 ≤ 1000000 := by omega
  (refine wo_call (qExpire q fr mo ao n c now2 age l bk R hS ha ht hnow2) rfl (by (repeat (first | apply sub_nil | (apply sub_cons; (· (repeat (first | apply sel_here | apply sel_there)))))); done) (by first | exact fun _ h => h | (intro r hr; cases hr; done) | (simp; done) | exact fun _ h => List.mem_append_left _ h | (intro r hr; simp [hr]; done)) rfl ?_; rintro v L' R' ⟨a1, n1, c1, a2, m2, d2, rfl, rfl, hS3, hS4⟩ H' hH RR hR; simp only [List.cons_append, List.nil_append] at hH hR; subst hH; have hR := hR.symm; subst hR)
  (repeat (first | ((first | (apply wo_v; rfl) ); (· first | (apply pv_ev; rfl) | (apply pv_fld; rfl) | (apply g_load; first | (apply pv_ld; rfl; (· (repeat (first | apply sel_here | apply sel_there))); rfl) | (apply pv_lda; rfl; (· (repeat (first | apply sel_here | apply sel_there))); (· (repeat (first | apply Cut.here0 | apply Cut.here | apply Cut.there)))) ) )) | apply wo_nil | apply wc_seq | apply wc_region ))
  (refine wo_call (rExpire fr mo ao2 m c2 now2 age l bk R hS2 ha ht hnow2) rfl (by (repeat (first | apply sub_nil )); done) (by first | exact fun _ h => h | (intro r hr; cases hr; done) | (simp; done) | exact fun _ h => List.mem_append_left _ h | (intro r hr; simp [hr]; done)) rfl ?_; rintro v L' R' ⟨a3, n3, c3, a4, m4, d4, rfl, rfl, hS5, hS6⟩ H' hH RR hR; simp only [List.cons_append, List.nil_append] at hH hR; subst hH; have hR := hR.symm; subst hR)
  (repeat (first | ((first | (apply wo_v; rfl) ); (· first | (apply pv_ev; rfl) | (apply pv_fld; rfl) | (apply g_load; first | (apply pv_lda; rfl; (· (repeat (first | apply sel_here ))); (· (repeat (first | apply Cut.here0 | apply Cut.here )))) ) )) | apply wo_nil | apply wc_seq | apply wc_region | (apply wo_alloc; rfl; intro bx) | (apply wo_sta; rfl; rfl; rfl; rfl; (· (repeat (first | apply sel_here | apply sel_there))); (· (repeat (first | apply LayAt.nil | apply LayAt.here | apply LayAt.there))); rfl) ))
  rename_i g2 g3 g4 R1 _
  have hR1 : ∀ r ∈ R1, r ∈ R' ++ (R1 ++ R) := fun r (h : r ∈ R1) => by simp [h]
  have hR2 : ∀ r ∈ R', r ∈ R' ++ (R1 ++ R) := fun r h => by simp [h]
  replace hS3 := hS3.mono hR1
  replace hS4 := hS4.mono hR1
  replace hS5 := hS5.mono hR2
  replace hS6 := hS6.mono hR2
  clear hR1 hR2
  generalize R' ++ (R1 ++ R) = RR at hS3 hS4 hS5 hS6 ⊢
  have hspec := expG_spec now2 age l.length l bk (Nat.le_refl _)
  generalize hP : expG now2 age l bk = P at hS3 hS4 hS5 hS6 hspec ⊢
  obtain ⟨out, l', bk'⟩ := P
  have hD : doesM fr mo age ⟨l, bk, now, N⟩ 3 z key = (⟨l', bk', now2, N⟩, 0, decide (out ≠ [])) := by simp [doesM, hn2, hP]
  simp only at hS3 hS4 hS5 hS6 hspec ⊢
  have hlp : out.length ≤ 1000000000 := by have := congrArg List.length hspec.1; have := ha.2.2; simp at *; omega
  have hm2 : m2 = out.length := by rw [← hS4.len]; exact its_len _
  have hm4 : m4 = out.length := by rw [← hS6.len]; exact its_len _
  subst hm2; subst hm4
  refine wc_weak (st' := ⟨[(2, .pointer (some ⟨g2, 0, none⟩)), (4, .pointer (some ⟨g4, 0, none⟩)), (17, .slice a2 out.length d2), (19, .slice a4 out.length d4)],
    [dsb g2 q fr mo a3 n3 c3 bk' now2 N age, szb g4, Qc q fr mo a1 n1 c1 (sumS l') bk'], RR⟩) (wk_mk (by (repeat (first | apply wkf_nil | (apply wkf_cons; rfl))); done) (by (repeat (first | apply sub_nil | (apply sub_cons; (· (repeat (first | apply sel_here | apply sel_there)))))); done) (by first | exact fun _ h => h | (intro r hr; cases hr; done) | (simp; done) | exact fun _ h => List.mem_append_left _ h | (intro r hr; simp [hr]; done))) ?_
  have hlen0 : decide (0 < (out.length : Int)) = decide (out ≠ []) := by cases out <;> simp
  (refine wc_regM [0, 1] (aslL [(6, [0]), (7, [1])]) (tblS 6 (dsb g4 q fr mo a3 n3 c3 bk' now2 N age)) ([dsb g2 q fr mo a3 n3 c3 bk' now2 N age, Qc q fr mo a1 n1 c1 (sumS l') bk']) (fm [(0, []), (1, [szb g4])]) mixed (by kernel_rfl) (by kernel_rfl) (by decide) (aslL_ok (by decide)) (by (repeat (first | (apply prm_cons; (· (repeat (first | apply sel_here | apply sel_there)))) | apply List.Perm.nil )); done) ?_; (repeat (first | (apply HdM.val; rfl; rfl; (· first | apply gok_none ); (· first | (apply pv_ev; rfl) | (apply g_load; first | (apply pv_lda; rfl; (· (repeat (first | apply sel_here ))); (· (repeat (first | apply Cut.here0 | apply Cut.here )))) ) | (apply g_bi; first | (apply pv_len_sl; rfl) ) )) )))
  (refine hm_eff (cs := [0]) rfl (by decide) rfl rfl (by first | exact gok_none | exact gok_run rfl rfl) (fun a ha => outc_mono (outc_call (F1 := _) (T := fun v M => v = .bool true ∧ M = []) (qSame a2 a4 _ d2 _ d4 out RR hS4 hS6 hlp) rfl (by (repeat (first | apply sub_nil )); done) (by first | exact fun _ h => h | (intro r hr; cases hr; done) | (simp; done) | exact fun _ h => List.mem_append_left _ h | (intro r hr; simp [hr]; done)) (by rintro v L' R' ⟨rfl, rfl, _⟩; exact ⟨_, ⟨rfl, rfl⟩, (by (repeat (first | (apply prm_cons; (· (repeat (first | apply sel_here )))) | apply List.Perm.nil )); done)⟩) a ha) (fun v M h => ⟨[[]], And.intro h.1 rfl, rfl, h.2⟩)) ⟨_, _, And.intro rfl rfl, rfl⟩ ?_; rintro v Ms ⟨rfl, rfl⟩ _; simp only [setls, setl, reduceIte, Nat.reduceEqDiff]; (repeat (first | fail )))
  (refine hm_eff (cs := [1]) rfl (by decide) rfl rfl (by first | exact gok_none | exact gok_run rfl rfl) (fun a ha => outc_mono (outc_sta rfl rfl rfl rfl (by (repeat (first | apply LayAt.nil | apply LayAt.here )); done) a ha) (fun v M h => ⟨[M], And.intro h.1 (congrArg (fun x => [x]) h.2), rfl, by simp⟩)) ⟨_, _, And.intro rfl rfl, rfl⟩ ?_; rintro v Ms ⟨rfl, rfl⟩ _; simp only [setls, setl, reduceIte, Nat.reduceEqDiff]; (repeat (first | (apply HdM.val; rfl; rfl; (· first | apply gok_none ); (· first | (apply pv_ev; rfl) )) )))
  (refine HdM.nil ?_; intro H hH; simp only [Hp, fm, look, setl, List.flatMap_cons, List.flatMap_nil, reduceIte, Nat.reduceEqDiff, Option.getD_some, List.append_nil, List.cons_append, List.nil_append] at hH; subst hH; (repeat (first | apply wc_ret )))
  rw [hlen0]
  exact retv rfl (by (repeat (first | apply RV.nil | (apply RV.tmp; rfl) | (apply RV.agg; rfl; (· (repeat (first | apply sel_here | apply sel_there))); infer_instance; (· (repeat (first | apply Cut.here0 | apply Cut.here )))) )); done) (⟨⟨l', bk', now2, N⟩, 0, _, a1, n1, c1, a3, n3, c3, hD.symm, rfl, rfl, hS3, hS5⟩) (by (repeat (first | apply sub_nil | (apply sub_cons; (· (repeat (first | apply sel_here | apply sel_there)))))); done) (by first | exact fun _ h => h | (intro r hr; cases hr; done) | (simp; done) | exact fun _ h => List.mem_append_left _ h | (intro r hr; simp [hr]; done))
set_option maxHeartbeats 16000000 in
theorem does4 (q : Nat) (fr mo age : Int) (l : List It4) (bk : Bool) (now N : Int) (ao ao2 : Option Addr) (n c m c2 : Nat) (R : List Ro) (hS : SR R 4 ao n c (its l)) (hS2 : SR R 4 ao2 m c2 (its l)) (ha : allS l) (z : Int) (key : Bool) :
    Fn Try.prog 20 #[.agg (stv q fr mo ao2 m c2 bk now N age).toArray, .agg #[.int .i64 4, .int .i64 z, .bool key]] [Qc q fr mo ao n c (sumS l) bk] R (DoesPost q fr mo age ⟨l, bk, now, N⟩ 4 z key) := by
  refine fn_intro Try.func20 rfl Try.ntmps20 rfl (fun E => ?_)
  (repeat (first | ((first | (apply wo_v; rfl) ); (· first | (apply pv_ev; rfl) | (apply pv_fld; rfl) | (apply g_load; first | (apply pv_ld; rfl; (· (repeat (first | apply sel_here | apply sel_there))); rfl) ) )) | apply wo_nil | apply wc_seq | apply wc_region | apply wc_block | (apply wc_true; rfl) | (apply wc_false; rfl) | (apply wo_box1; rfl; rfl; rfl; intro bx) | (apply wo_boxa; rfl; rfl; intro bx) | (apply wo_alloc; rfl; intro bx) ))
  (refine wo_call (qBreak q fr mo ao n c (sumS l) bk []) rfl (by (repeat (first | apply sub_nil | (apply sub_cons; (· (repeat (first | apply sel_here | apply sel_there)))))); done) (by first | exact fun _ h => h | (intro r hr; cases hr; done) | (simp; done) | exact fun _ h => List.mem_append_left _ h | (intro r hr; simp [hr]; done)) rfl ?_; rintro v L' R' ⟨rfl, rfl, rfl⟩ H' hH RR hR; simp only [List.cons_append, List.nil_append] at hH hR; subst hH; have hR := hR.symm; subst hR)
  simp only [List.nil_append]
  (repeat (first | ((first | (apply wo_v; rfl) ); (· first | (apply pv_ev; rfl) | (apply pv_fld; rfl) | (apply g_load; first | (apply pv_ld; rfl; (· (repeat (first | apply sel_here | apply sel_there))); rfl) ) )) | apply wo_nil | apply wc_seq | apply wc_region ))
  (refine wo_call (qSame ao ao2 n c m c2 l _ hS hS2 ha.2.2) rfl (by (repeat (first | apply sub_nil )); done) (by first | exact fun _ h => h | (intro r hr; cases hr; done) | (simp; done) | exact fun _ h => List.mem_append_left _ h | (intro r hr; simp [hr]; done)) rfl ?_; rintro v L' R' ⟨rfl, rfl, rfl⟩ H' hH RR hR; simp only [List.cons_append, List.nil_append] at hH hR; subst hH; have hR := hR.symm; subst hR)
  (repeat (first | ((first | (apply wo_v; rfl) ); (· first | (apply pv_ev; rfl) | (apply pv_fld; rfl) | (apply g_load; first | (apply pv_lda; rfl; (· (repeat (first | apply sel_here ))); (· (repeat (first | apply Cut.here0 | apply Cut.here )))) ) )) | apply wo_nil | apply wc_seq | apply wc_region | apply wc_ret | (apply wo_st; rfl; rfl; rfl; (· (repeat (first | apply sel_here | apply sel_there))); (· (repeat (first | apply SetAt.here | apply SetAt.there))); rfl) | (apply wo_sta; rfl; rfl; rfl; rfl; (· (repeat (first | apply sel_here | apply sel_there))); (· (repeat (first | apply LayAt.nil | apply LayAt.here ))); rfl) ))
  exact retv rfl (by (repeat (first | apply RV.nil | (apply RV.tmp; rfl) | (apply RV.agg; rfl; (· (repeat (first | apply sel_here ))); infer_instance; (· (repeat (first | apply Cut.here0 | apply Cut.here )))) )); done) (⟨⟨[], true, now, N⟩, 0, true, none, 0, 0, none, 0, 0, rfl, rfl, rfl, SR.nil _ _, SR.nil _ _⟩) (by (repeat (first | apply sub_nil | (apply sub_cons; (· (repeat (first | apply sel_here | apply sel_there)))))); done) (by first | exact fun _ h => h | (intro r hr; cases hr; done) | (simp; done) | exact fun _ h => List.mem_append_left _ h | (intro r hr; simp [hr]; done))
set_option maxHeartbeats 16000000 in
theorem does0 (q : Nat) (fr mo age : Int) (l : List It4) (bk : Bool) (now N : Int) (ao ao2 : Option Addr) (n c m c2 : Nat) (R : List Ro) (hS : SR R 4 ao n c (its l)) (hS2 : SR R 4 ao2 m c2 (its l)) (k z : Int) (key : Bool) (hk : k ≠ 1 ∧ k ≠ 2 ∧ k ≠ 3 ∧ k ≠ 4) :
    Fn Try.prog 20 #[.agg (stv q fr mo ao2 m c2 bk now N age).toArray, .agg #[.int .i64 k, .int .i64 z, .bool key]] [Qc q fr mo ao n c (sumS l) bk] R (DoesPost q fr mo age ⟨l, bk, now, N⟩ k z key) := by
  obtain ⟨h1, h2, h3, h4⟩ := hk
  have hD : doesM fr mo age ⟨l, bk, now, N⟩ k z key = (⟨l, bk, now, N⟩, 0, false) := by simp [doesM, h1, h2, h3, h4]
  refine fn_intro Try.func20 rfl Try.ntmps20 rfl (fun E => ?_)
  (repeat (first | ((first | (apply wo_v; rfl) ); (· first | (apply pv_ev; rfl) | (apply pv_fld; rfl) | (apply g_load; first | (apply pv_ld; rfl; (· (repeat (first | apply sel_here | apply sel_there))); rfl) | (apply pv_lda; rfl; (· (repeat (first | apply sel_here | apply sel_there))); (· (repeat (first | apply Cut.here0 | apply Cut.here )))) ) )) | apply wo_nil | apply wc_seq | apply wc_region | apply wc_block | apply wc_skip | apply wc_ret | (apply wc_true; rfl) | (apply wc_false; rfl) | (apply a_dec_t; rfl; (· first | assumption | omega)) | (apply a_dec_f; rfl; (· first | assumption | omega)) | (apply wo_box1; rfl; rfl; rfl; intro bx) | (apply wo_boxa; rfl; rfl; intro bx) | (apply wo_alloc; rfl; intro bx) | (apply wo_sta; rfl; rfl; rfl; rfl; (· (repeat (first | apply sel_here ))); (· (repeat (first | apply LayAt.nil | apply LayAt.here ))); rfl) ))
  exact retv rfl (by (repeat (first | apply RV.nil | (apply RV.tmp; rfl) | (apply RV.agg; rfl; (· (repeat (first | apply sel_here ))); infer_instance; (· (repeat (first | apply Cut.here0 | apply Cut.here )))) )); done) (⟨⟨l, bk, now, N⟩, 0, false, ao, n, c, ao2, m, c2, hD.symm, rfl, rfl, hS, hS2⟩) (by (repeat (first | apply sub_nil | (apply sub_cons; (· (repeat (first | apply sel_here | apply sel_there)))))); done) (by first | exact fun _ h => h | (intro r hr; cases hr; done) | (simp; done) | exact fun _ h => List.mem_append_left _ h | (intro r hr; simp [hr]; done))
theorem qDoes (q : Nat) (fr mo age : Int) (l : List It4) (bk : Bool) (now N : Int) (ao ao2 : Option Addr) (n c m c2 : Nat) (R : List Ro) (hS : SR R 4 ao n c (its l)) (hS2 : SR R 4 ao2 m c2 (its l)) (hQ : QOk fr mo age ⟨l, bk, now, N⟩) (k z : Int) (key : Bool) :
    Fn Try.prog 20 #[.agg (stv q fr mo ao2 m c2 bk now N age).toArray, .agg #[.int .i64 k, .int .i64 z, .bool key]] [Qc q fr mo ao n c (sumS l) bk] R (DoesPost q fr mo age ⟨l, bk, now, N⟩ k z key) := by
  by_cases h1 : k = 1
  · subst h1; exact does1 q fr mo age l bk now N ao ao2 n c m c2 R hS hS2 hQ z key
  by_cases h2 : k = 2
  · subst h2
    cases l with
    | nil => exact does2n q fr mo age bk now N ao ao2 n c m c2 R hS hS2 z key
    | cons x t => obtain ⟨xn, xs, xt, xk⟩ := x; exact does2c q fr mo age xn xs xt xk t bk now N ao ao2 n c m c2 R hS hS2 hQ.all z key
  by_cases h3 : k = 3
  · subst h3; exact does3 q fr mo age l bk now N ao ao2 n c m c2 R hS hS2 hQ.all (fun x hx => by have := hQ.tick x hx; have := hQ.now; simp only at *; omega) hQ.now z key
  by_cases h4 : k = 4
  · subst h4; exact does4 q fr mo age l bk now N ao ao2 n c m c2 R hS hS2 hQ.all z key
  exact does0 q fr mo age l bk now N ao ao2 n c m c2 R hS hS2 k z key ⟨h1, h2, h3, h4⟩
end Go.Proofs.Ytbhegdlpmeeekaa

/-
  Sparse frames: a contract over segments that are only read, as one over whole blocks. No program in sight.
-/
namespace Go.Proofs.Ytbhegdlpmeeekaa
set_option linter.unusedSimpArgs false
set_option linter.unusedVariables false
open Go.RowKit

/-- segments that lie in known blocks -/
def Cov (H : List It) (R : List Ro) : Prop := ∀ r ∈ R, ∃ cur t fz, .ob r.b (.cells cur t fz) ∈ H ∧ RowsOk r.sz r.xs ∧ SegIn cur r.o r.xs
theorem Cov.nil (H : List It) : Cov H [] := fun r hr => by cases hr
theorem Cov.append {H : List It} {R R' : List Ro} (h : Cov H R) (h' : Cov H R') : Cov H (R ++ R') := fun r hr => by
  rcases List.mem_append.1 hr with hr | hr
  · exact h r hr
  · exact h' r hr
theorem Frm.wider {S S' : List Nat} {w w' : World} (h : Frm S w w') (hs : ∀ b ∈ S, b ∈ S') : Frm S' w w' :=
  ⟨h.os, h.tape, h.output, h.size, fun k hk hn => h.block k hk (fun hm => hn (hs k hm))⟩
theorem feet_app (a b : List It) : feet (a ++ b) = feet a ++ feet b := by simp [feet]
def ddl : List Nat → List Nat
  | [] => []
  | b :: l => if b ∈ l then ddl l else b :: ddl l
theorem mem_ddl {x : Nat} : ∀ {l : List Nat}, x ∈ ddl l ↔ x ∈ l
  | [] => Iff.rfl
  | b :: l => by
    unfold ddl
    by_cases h : b ∈ l
    · rw [if_pos h, mem_ddl, List.mem_cons]
      exact ⟨.inr, fun h2 => h2.elim (fun e => by rw [e]; exact h) id⟩
    · rw [if_neg h, List.mem_cons, List.mem_cons, mem_ddl]
theorem ddl_nodup : ∀ l : List Nat, (ddl l).Nodup
  | [] => List.nodup_nil
  | b :: l => by
    unfold ddl
    by_cases h : b ∈ l
    · rw [if_pos h]; exact ddl_nodup l
    · rw [if_neg h]; exact List.nodup_cons.2 ⟨fun h2 => h (mem_ddl.1 h2), ddl_nodup l⟩
/-- blocks of the heap, whole -/
def obsOf (w : World) (l : List Nat) : List It := l.map fun b => .ob b (w.heap[b]?.getD default)
theorem Fn.own {P : Program} {f : FuncId} {args : Array Value} {L : List It} {R : List Ro} {Post : Value → List It → List Ro → Prop} (h : Fn P f args L R Post) {H : List It} (hH : Cov H R) :
    Fn P f args (L ++ H) [] (fun v L2 R2 => ∃ L' R' H', Post v L' R' ∧ L2 = L' ++ H' ∧ R2 = [] ∧ Cov H' R') := fun w hw => by
  have hdis := List.pairwise_append.1 hw.dis
  have hrb : ∀ r ∈ R, ∃ cur t fz, .ob r.b (.cells cur t fz) ∈ H ∧ w.heap[r.b]? = some (.cells cur t fz) ∧ RowsOk r.sz r.xs ∧ SegIn cur r.o r.xs := fun r hr => by
    obtain ⟨cur, t, fz, h1, h2, h3⟩ := hH r hr
    exact ⟨cur, t, fz, h1, hw.sat _ (List.mem_append_right _ h1), h2, h3⟩
  have h1 : Sat w (feet L) (blks R) L R w := by
    refine ⟨Frm.refl _ _, fun x hx => hw.sat x (List.mem_append_left _ hx), fun x hx b hb => .inl (mem_feet.2 ⟨x, hx, hb⟩), hdis.1, fun r hr => ?_, fun r hr x hx hf => ?_, fun r hr => .inr (.inl (List.mem_map.2 ⟨r, hr, rfl⟩))⟩
    · obtain ⟨cur, t, fz, _, h2, h3, h4⟩ := hrb r hr
      exact ⟨h3, cur, t, fz, h2, h4⟩
    · obtain ⟨cur, t, fz, h2, _⟩ := hrb r hr
      exact hdis.2.2 x hx _ h2 r.b hf rfl
  refine (h w h1).mono fun e w' ⟨v, L', R', he, hP, hS⟩ => ?_
  have hbk : ∀ b ∈ (ddl (blks R')), ∃ r ∈ R', r.b = b := fun b hb => by
    have := mem_ddl.1 hb
    exact List.mem_map.1 this
  have hin : ∀ r ∈ R', r.b ∈ (ddl (blks R')) := fun r hr => mem_ddl.2 (List.mem_map.2 ⟨r, hr, rfl⟩)
  have hcell : ∀ r ∈ R', ∃ cur t fz, w'.heap[r.b]? = some (.cells cur t fz) ∧ .ob r.b (.cells cur t fz) ∈ obsOf w' (ddl (blks R')) ∧ RowsOk r.sz r.xs ∧ SegIn cur r.o r.xs := fun r hr => by
    obtain ⟨h2, cur, t, fz, h3, h4⟩ := hS.rds r hr
    exact ⟨cur, t, fz, h3, List.mem_map.2 ⟨r.b, hin r hr, by rw [h3]; rfl⟩, h2, h4⟩
  have hH' : ∀ x ∈ obsOf w' (ddl (blks R')), ∃ r ∈ R', x.foot = some r.b ∧ x.sat w' := fun x hx => by
    obtain ⟨b, hb, rfl⟩ := List.mem_map.1 hx
    obtain ⟨r, hr, rfl⟩ := hbk b hb
    obtain ⟨cur, t, fz, h3, _⟩ := hcell r hr
    exact ⟨r, hr, rfl, by show w'.heap[r.b]? = _; rw [h3]; rfl⟩
  refine ⟨v, L' ++ obsOf w' (ddl (blks R')), [], he, ⟨L', R', obsOf w' (ddl (blks R')), hP, rfl, rfl, fun r hr => by
    obtain ⟨cur, t, fz, _, h2, h3⟩ := hcell r hr
    exact ⟨cur, t, fz, h2, h3⟩⟩, ?_⟩
  refine ⟨hS.frm.wider fun b hb => by rw [feet_app]; exact List.mem_append_left _ hb, fun x hx => ?_, fun x hx b hb => ?_, List.pairwise_append.2 ⟨hS.dis, ?_, fun x hx y hy b h2 h3 => ?_⟩, (fun r hr => by cases hr), (fun r hr => by cases hr), (fun r hr => by cases hr)⟩
  · rcases List.mem_append.1 hx with hx | hx
    · exact hS.sat x hx
    · obtain ⟨_, _, _, h2⟩ := hH' x hx
      exact h2
  · rcases List.mem_append.1 hx with hx | hx
    · rcases hS.own x hx b hb with h2 | h2
      · exact .inl (by rw [feet_app]; exact List.mem_append_left _ h2)
      · exact .inr h2
    · obtain ⟨r, hr, h2, _⟩ := hH' x hx
      rw [hb] at h2
      obtain rfl := Option.some.inj h2
      rcases hS.rok r hr with h3 | h3 | h3
      · exact .inl (by rw [feet_app]; exact List.mem_append_left _ h3)
      · obtain ⟨r0, hr0, h4⟩ := List.mem_map.1 h3
        obtain ⟨cur, t, fz, h5, _⟩ := hrb r0 hr0
        exact .inl (by rw [feet_app, ← h4]; exact List.mem_append_right _ (mem_feet.2 ⟨_, h5, rfl⟩))
      · exact .inr h3
  · refine List.pairwise_map.2 ((ddl_nodup _).imp fun {a b} hab c h2 h3 => hab ?_)
    have h2 : some a = some c := h2
    have h3 : some b = some c := h3
    exact Option.some.inj (h2.trans h3.symm)
  · obtain ⟨r, hr, h4, _⟩ := hH' y hy
    rw [h3] at h4
    obtain rfl := Option.some.inj h4
    exact hS.rod r hr x hx h2
end Go.Proofs.Ytbhegdlpmeeekaa

/-
  Sparse frames: maps with whole-number keys, known whole. No program in sight.
-/
namespace Go.Proofs.Ytbhegdlpmeeekaa
set_option linter.unusedSimpArgs false
set_option linter.unusedVariables false
open Go.RowKit

def mEnt (k : IntKind) : Nat → List (Int × Value) → List MapEntry
  | _, [] => []
  | n, (a, v) :: l => ⟨.int k a, v, n⟩ :: mEnt k (n + 1) l
abbrev mob (k : IntKind) (l : List (Int × Value)) : Obj := .map (mEnt k 0 l).toArray l.length
def alook : List (Int × Value) → Int → Option Value
  | [], _ => none
  | (a, v) :: l, x => if x = a then some v else alook l x
def aidx : List (Int × Value) → Int → Nat
  | [], _ => 0
  | (a, _) :: l, x => if x = a then 0 else aidx l x + 1
def aset : List (Int × Value) → Int → Value → List (Int × Value)
  | [], x, v => [(x, v)]
  | (a, u) :: l, x, v => if x = a then (a, v) :: l else (a, u) :: aset l x v
theorem mEnt_len (k : IntKind) : ∀ (l : List (Int × Value)) (n : Nat), (mEnt k n l).length = l.length
  | [], _ => rfl
  | _ :: l, n => by simp [mEnt, mEnt_len k l]
theorem alook_set (l : List (Int × Value)) (x : Int) (v : Value) (y : Int) : alook (aset l x v) y = if y = x then some v else alook l y := by
  induction l with
  | nil => simp [aset, alook]
  | cons p l ih =>
    obtain ⟨a, u⟩ := p
    unfold aset
    by_cases h : x = a
    · subst h; simp only [if_true, alook]
      by_cases h2 : y = x <;> simp [h2]
    · simp only [if_neg h, alook, ih]
      by_cases h2 : y = a
      · subst h2; simp [Ne.symm h]
      · simp [h2]
theorem aidx_lt {l : List (Int × Value)} {x : Int} {v : Value} (h : alook l x = some v) : aidx l x < l.length := by
  induction l with
  | nil => cases h
  | cons p l ih =>
    obtain ⟨a, u⟩ := p
    unfold alook at h
    unfold aidx
    by_cases h2 : x = a
    · simp [h2]
    · rw [if_neg h2] at h ⊢
      have := ih h
      simp; omega
theorem aidx_le (l : List (Int × Value)) (x : Int) : aidx l x ≤ l.length := by
  induction l with
  | nil => simp [aidx]
  | cons p l ih =>
    obtain ⟨a, u⟩ := p
    unfold aidx
    by_cases h2 : x = a
    · simp [h2]
    · rw [if_neg h2]; simp; omega
theorem aidx_none {l : List (Int × Value)} {x : Int} (h : alook l x = none) : aidx l x = l.length := by
  induction l with
  | nil => rfl
  | cons p l ih =>
    obtain ⟨a, u⟩ := p
    unfold alook at h
    unfold aidx
    by_cases h2 : x = a
    · rw [if_pos h2] at h; cases h
    · rw [if_neg h2] at h ⊢
      rw [ih h]; simp
theorem aset_none {l : List (Int × Value)} {x : Int} (v : Value) (h : alook l x = none) : aset l x v = l ++ [(x, v)] := by
  induction l with
  | nil => rfl
  | cons p l ih =>
    obtain ⟨a, u⟩ := p
    unfold alook at h
    unfold aset
    by_cases h2 : x = a
    · rw [if_pos h2] at h; cases h
    · rw [if_neg h2] at h ⊢
      rw [ih h]; rfl
theorem aset_same {l : List (Int × Value)} {x : Int} {v : Value} (h : alook l x = some v) : aset l x v = l := by
  induction l with
  | nil => cases h
  | cons p l ih =>
    obtain ⟨a, u⟩ := p
    unfold alook at h
    unfold aset
    by_cases h2 : x = a
    · rw [if_pos h2] at h ⊢; cases h; rfl
    · rw [if_neg h2] at h ⊢
      rw [ih h]
theorem aset_len_some {l : List (Int × Value)} {x : Int} {u : Value} (v : Value) (h : alook l x = some u) : (aset l x v).length = l.length := by
  induction l with
  | nil => cases h
  | cons p l ih =>
    obtain ⟨a, u⟩ := p
    unfold alook at h
    unfold aset
    by_cases h2 : x = a
    · rw [if_pos h2]; rfl
    · rw [if_neg h2] at h ⊢
      simp [ih h]
theorem aset_len_none {l : List (Int × Value)} {x : Int} (v : Value) (h : alook l x = none) : (aset l x v).length = l.length + 1 := by
  rw [aset_none v h]; simp
theorem aset_len_le (l : List (Int × Value)) (x : Int) (v : Value) : (aset l x v).length ≤ l.length + 1 := by
  cases h : alook l x with
  | none => rw [aset_len_none v h]; omega
  | some u => rw [aset_len_some v h]; omega
theorem aset_aset (l : List (Int × Value)) (x : Int) (u v : Value) : aset (aset l x u) x v = aset l x v := by
  induction l with
  | nil => simp [aset]
  | cons p l ih =>
    obtain ⟨a, z⟩ := p
    by_cases h2 : x = a
    · subst h2; simp [aset]
    · simp [aset, h2, ih]
theorem aidx_set (l : List (Int × Value)) (x : Int) (v : Value) : aidx (aset l x v) x = aidx l x := by
  induction l with
  | nil => simp [aset, aidx]
  | cons p l ih =>
    obtain ⟨a, z⟩ := p
    by_cases h2 : x = a
    · subst h2; simp [aset, aidx]
    · simp [aset, aidx, h2, ih]
theorem findNow_m (k : IntKind) (x : Int) : ∀ (l : List (Int × Value)) (n i : Nat), Instr.findNow (.int k) (.int k x) (mEnt k n l) i = some ((alook l x).map fun v => (i + aidx l x, v))
  | [], _, _ => rfl
  | (a, v) :: l, n, i => by
    have e : Instr.sameNow (.int k) (.int k x) (.int k a) = some (x == a) := by simp [Instr.sameNow]
    unfold mEnt Instr.findNow
    rw [e]
    by_cases h : x = a
    · subst h; simp [alook, aidx]
    · have hb : (x == a) = false := by simpa using h
      rw [hb]
      simp only [findNow_m k x l (n + 1) (i + 1), alook, aidx, if_neg h]
      cases alook l x <;> simp; omega
theorem mEnt_modify (k : IntKind) (x : Int) (v : Value) : ∀ (l : List (Int × Value)) (n : Nat) {u : Value}, alook l x = some u → (mEnt k n l).modify (aidx l x) (fun e => { e with key := .int k x, val := v }) = mEnt k n (aset l x v)
  | [], _, _, h => by cases h
  | (a, z) :: l, n, u, h => by
    unfold alook at h
    by_cases h2 : x = a
    · subst h2; simp [aset, aidx, mEnt]
    · rw [if_neg h2] at h
      simp only [aset, aidx, if_neg h2, mEnt, List.modify_succ_cons, mEnt_modify k x v l (n + 1) h]
theorem mEnt_modify' (k : IntKind) (x : Int) : ∀ (l : List (Int × Value)) (n : Nat) {u : Value}, alook l x = some u → (mEnt k n l).modify (aidx l x) (fun e => { e with key := .int k x }) = mEnt k n l
  | [], _, _, h => by cases h
  | (a, z) :: l, n, u, h => by
    unfold alook at h
    by_cases h2 : x = a
    · subst h2; simp [aidx, mEnt]
    · rw [if_neg h2] at h
      simp only [aidx, if_neg h2, mEnt, List.modify_succ_cons, mEnt_modify' k x l (n + 1) h]
theorem mEnt_modv (k : IntKind) (x : Int) (v : Value) : ∀ (l : List (Int × Value)) (n : Nat) {u : Value}, alook l x = some u → (mEnt k n l).modify (aidx l x) (fun e => { e with val := v }) = mEnt k n (aset l x v)
  | [], _, _, h => by cases h
  | (a, z) :: l, n, u, h => by
    unfold alook at h
    by_cases h2 : x = a
    · subst h2; simp [aset, aidx, mEnt]
    · rw [if_neg h2] at h
      simp only [aset, aidx, if_neg h2, mEnt, List.modify_succ_cons, mEnt_modv k x v l (n + 1) h]
theorem mEnt_at (k : IntKind) (x : Int) : ∀ (l : List (Int × Value)) (n : Nat) {u : Value}, alook l x = some u → (mEnt k n l)[aidx l x]? = some ⟨.int k x, u, n + aidx l x⟩
  | [], _, _, h => by cases h
  | (a, z) :: l, n, u, h => by
    unfold alook at h
    by_cases h2 : x = a
    · subst h2
      rw [if_pos rfl] at h; cases h
      simp [aidx, mEnt]
    · rw [if_neg h2] at h
      simp only [aidx, if_neg h2, mEnt, List.getElem?_cons_succ, mEnt_at k x l (n + 1) h]
      simp; omega
theorem mEnt_push (k : IntKind) (x : Int) (v : Value) : ∀ (l : List (Int × Value)) (n : Nat), mEnt k n l ++ [⟨.int k x, v, n + l.length⟩] = mEnt k n (l ++ [(x, v)])
  | [], _ => rfl
  | (a, z) :: l, n => by
    have := mEnt_push k x v l (n + 1)
    simp only [mEnt, List.cons_append, List.length_cons, List.cons.injEq, true_and]
    rw [← this]
    have e : n + (l.length + 1) = n + 1 + l.length := by omega
    rw [e]
theorem mEnt_find (k : IntKind) : ∀ (l : List (Int × Value)) (n j : Nat), j < l.length → (mEnt k n l).findIdx? (fun e => (e.born : Int) == ((n + j : Nat) : Int)) = some j
  | [], _, _, h => by simp at h
  | (a, z) :: l, n, 0, h => by simp [mEnt, List.findIdx?_cons]
  | (a, z) :: l, n, j + 1, h => by
    have h' := mEnt_find k l (n + 1) j (by simpa using h)
    have e : n + 1 + j = n + (j + 1) := by omega
    rw [e] at h'
    unfold mEnt
    rw [List.findIdx?_cons]
    have hb : (((n : Nat) : Int) == ((n + (j + 1) : Nat) : Int)) = false := by simp; omega
    simp only [hb]
    rw [h']; rfl
/-! contracts of the older kind turned into these -/
section
variable {P : Program} {f : FuncId} {args : Array Value} {g : Nat} {T : TypeId} {cs : Array Value}
theorem sat_none {w w' : World} (h : Below w.heap.size w w') : Sat w (feet []) (blks []) [] [] w' :=
  ⟨⟨h.os, h.tape, h.output, h.size, fun k hk _ => h.block k hk⟩, (by intro x hx; cases hx), (by intro x hx; cases hx), .nil, (by intro r hr; cases hr), (by intro r hr; cases hr), (by intro r hr; cases hr)⟩
theorem fn_pure {v : Value} (h : ∀ w, Calls P f args w fun e w' => e = .returned v ∧ Below w.heap.size w w') : Fn P f args [] [] (fun u L' R' => u = v ∧ L' = [] ∧ R' = []) :=
  fun w _ => (h w).mono fun _ _ ⟨h1, h2⟩ => ⟨v, [], [], h1, ⟨rfl, rfl, rfl⟩, sat_none h2⟩
theorem fn_blk {Q : Value → Array Value → Prop} (h : ∀ w, Blk w g T cs → Calls P f args w fun e w' => ∃ v cs', e = .returned v ∧ Q v cs' ∧ Blk w' g T cs' ∧ w.grownBy w' (some g)) :
    Fn P f args [.ob g (.cells cs T (0, 0))] [] (fun u L' R' => ∃ cs', Q u cs' ∧ L' = [.ob g (.cells cs' T (0, 0))] ∧ R' = []) :=
  fun w hw => (h w (hw.sat _ (.head _))).mono fun _ _ ⟨v, cs', h1, h2, h3, h4⟩ => ⟨v, _, [], h1, ⟨cs', h2, rfl, rfl⟩, Sat.relay (by simpa using Frm.grown h4) h3⟩
theorem fn_read {v : Value} (h : ∀ w, Blk w g T cs → Calls P f args w fun e w' => e = .returned v ∧ w = w') :
    Fn P f args [.ob g (.cells cs T (0, 0))] [] (fun u L' R' => u = v ∧ L' = [.ob g (.cells cs T (0, 0))] ∧ R' = []) :=
  fun w hw => (h w (hw.sat _ (.head _))).mono fun _ _ ⟨h1, h2⟩ => ⟨v, _, [], h1, ⟨rfl, rfl, rfl⟩, by subst h2; exact hw⟩
theorem fn_new {Q : Array Value → Prop} (h : ∀ w, Calls P f args w fun e w' => ∃ g cs, e = .returned (.pointer (some ⟨g, 0, none⟩)) ∧ Q cs ∧ Blk w' g T cs ∧ w.heap.size ≤ g ∧ Below w.heap.size w w') :
    Fn P f args [] [] (fun u L' R' => ∃ g cs, u = .pointer (some ⟨g, 0, none⟩) ∧ Q cs ∧ L' = [.ob g (.cells cs T (0, 0))] ∧ R' = []) :=
  fun w _ => (h w).mono fun _ w' ⟨g, cs, h1, h2, h3, h4, h5⟩ => ⟨_, _, [], h1, ⟨g, cs, rfl, h2, rfl, rfl⟩, Sat.one (L := []) ⟨h5.os, h5.tape, h5.output, h5.size, fun k hk _ => h5.block k hk⟩ h3 (fun b hb => by
    simp only [It.foot, Option.some.injEq] at hb; subst hb; exact .inr h4)⟩
end
section
variable {P : Program} {N : Nat} {E : Env} {fr : List (Nat × Value)} {hp : List It} {ro : List Ro} {Kn Kr : St → Prop} {ops : Array Oper} {rest : List Oper} {dst : Option Tmp} {ty t : TypeId} {pos : String} {af : Array Edge} {F : List It} {x y z : Operand} {k : IntKind} {b : Nat} {l : List (Int × Value)} {a : Int} {v : Value} {kt e : TypeId}
theorem pv_mlook {zv : Value} [ht : TMap P t kt e] [hk : TInt P kt k] [hz : TZV P e zv] (hx : opd fr x = some (.map (some b))) (hy : opd fr y = some (.int k a)) (hs : hp.Perm (.ob b (mob k l) :: F)) :
    Pv P ⟨fr, hp, ro⟩ (.lookup t x y true) (.tuple #[(alook l a).getD zv, .bool (alook l a).isSome]) := fun N E ac w dst ty pos af g ok => by
  have hb : w.heap[b]? = some (mob k l) := ok.s.get hs
  simp only [execOp, ok.h.eval hx, ok.h.eval hy]
  have h1 := findNow_m k a l 0 0
  have hf := MapKept.run_findKey (P := P) (w := w) hk.h h1
  have hc : ∀ em, (Instr.checkKey em 10000 kt (.int k a)).run P w = .ok () w := fun em => MapKept.run_checkKey hk.h (by simp [MapKept.IsKey]) em 9999
  cases h : alook l a with
  | none => rw [h] at hf; simp [Instr.lookup, run_underlying ht.h, MapKept.run_getObj_map hb, hc, hf, Result.andThen, run_zeroV (P := P) (T := e)]
  | some u => rw [h] at hf; simp [Instr.lookup, run_underlying ht.h, MapKept.run_getObj_map hb, hc, hf, Result.andThen]
theorem pv_mlook1 {zv : Value} [ht : TMap P t kt e] [hk : TInt P kt k] [hz : TZV P e zv] (hx : opd fr x = some (.map (some b))) (hy : opd fr y = some (.int k a)) (hs : hp.Perm (.ob b (mob k l) :: F)) :
    Pv P ⟨fr, hp, ro⟩ (.lookup t x y false) ((alook l a).getD zv) := fun N E ac w dst ty pos af g ok => by
  have hb : w.heap[b]? = some (mob k l) := ok.s.get hs
  simp only [execOp, ok.h.eval hx, ok.h.eval hy]
  have h1 := findNow_m k a l 0 0
  have hf := MapKept.run_findKey (P := P) (w := w) hk.h h1
  have hc : ∀ em, (Instr.checkKey em 10000 kt (.int k a)).run P w = .ok () w := fun em => MapKept.run_checkKey hk.h (by simp [MapKept.IsKey]) em 9999
  cases h : alook l a with
  | none => rw [h] at hf; simp [Instr.lookup, run_underlying ht.h, MapKept.run_getObj_map hb, hc, hf, Result.andThen, run_zeroV (P := P) (T := e)]
  | some u => rw [h] at hf; simp [Instr.lookup, run_underlying ht.h, MapKept.run_getObj_map hb, hc, hf, Result.andThen]
theorem pv_min3 {k : IntKind} {a b c : Int} {ats : Array TypeId} (hx : opd fr x = some (.int k a)) (hy : opd fr y = some (.int k b)) (hz : opd fr z = some (.int k c)) : Pv P ⟨fr, hp, ro⟩ (.call ⟨.builtin .min, #[x, y, z], ats⟩) (.int k (min (min a b) c)) := fun N E ac w dst ty pos af g ok => by
  have e : (if b < a then b else a) = min a b := by omega
  have e2 : (if c < min a b then c else min a b) = min (min a b) c := by omega
  simp only [execOp, resolve, List.map_toArray, List.map_cons, List.map_nil, ok.h.eval hx, ok.h.eval hy, ok.h.eval hz]; simp [invoke, builtin, Builtin.min_, Builtin.min2, e, e2, go_sem]
/-! rows of strings that came in -/
def sseg (S : Nat → ByteArray) (n : Nat) : List (List Value) := (List.range n).map fun i => [.string (S i)]
theorem sseg_at {S : Nat → ByteArray} {n i : Nat} (h : i < n) : (sseg S n)[i]? = some [.string (S i)] := by simp [sseg, h]
theorem rws_s {w : World} {A : Option Addr} {n c : Nat} {V : Nat → Nat → Value} (h : Rws [.string] w A n c V) :
    ∃ (S : Nat → ByteArray) (R : List Ro), (∀ r ∈ R, r.sat w) ∧ (∀ i, i < n → (S i).size ≤ maxLen) ∧ (0 < n → ∃ b o, A = some ⟨b, o, none⟩ ∧ ⟨b, o, 1, sseg S n⟩ ∈ R) ∧ n ≤ 9223372036854775807 := by
  obtain ⟨R, hR, h0⟩ := rws_ro h (by simp)
  obtain ⟨h1, h2, _, h4⟩ := h
  refine ⟨fun i => match V i 0 with | .string z => z | _ => ByteArray.empty, R, hR, fun i hi => ?_, fun hn => ?_, by unfold maxLen at h2; omega⟩
  · obtain ⟨z, hz, hw⟩ := h4 i 0 _ hi rfl
    simp only [hz]
    exact hw
  · obtain ⟨b, o, hA, hm⟩ := h0 hn
    refine ⟨b, o, hA, ?_⟩
    have e : rowsOf [.string] V n = sseg (fun i => match V i 0 with | .string z => z | _ => ByteArray.empty) n := by
      unfold rowsOf sseg
      refine List.map_congr_left fun i hi => ?_
      obtain ⟨z, hz, _⟩ := h4 i 0 _ (List.mem_range.1 hi) rfl
      simp [hz]
    rw [← e]; exact hm
theorem g_lk {c : Bool} (h : Pv P ⟨fr, hp, ro⟩ (.lookup t x y c) v) : Pv P ⟨fr, hp, ro⟩ (.lookup t x y c) v := h
theorem pv_mlk_s [ht : TMap P t kt e] [hk : TInt P kt k] {zv : Value} [hz : TZV P e zv] (hx : opd fr x = some (.map (some b))) (hy : opd fr y = some (.int k a)) (hs : hp.Perm (.ob b (mob k l) :: F)) (hl : alook l a = some v) : Pv P ⟨fr, hp, ro⟩ (.lookup t x y false) v := by
  have := pv_mlook1 (P := P) (ro := ro) hx hy hs (t := t); rwa [hl] at this
theorem pv_mlk_n [ht : TMap P t kt e] [hk : TInt P kt k] {zv : Value} [hz : TZV P e zv] (hx : opd fr x = some (.map (some b))) (hy : opd fr y = some (.int k a)) (hs : hp.Perm (.ob b (mob k l) :: F)) (hl : alook l a = none) : Pv P ⟨fr, hp, ro⟩ (.lookup t x y false) zv := by
  have := pv_mlook1 (P := P) (ro := ro) hx hy hs (t := t); rwa [hl] at this
theorem pv_mlko_s [ht : TMap P t kt e] [hk : TInt P kt k] {zv : Value} [hz : TZV P e zv] (hx : opd fr x = some (.map (some b))) (hy : opd fr y = some (.int k a)) (hs : hp.Perm (.ob b (mob k l) :: F)) (hl : alook l a = some v) : Pv P ⟨fr, hp, ro⟩ (.lookup t x y true) (.tuple #[v, .bool true]) := by
  have := pv_mlook (P := P) (ro := ro) hx hy hs (t := t); rwa [hl] at this
theorem pv_mlko_n [ht : TMap P t kt e] [hk : TInt P kt k] {zv : Value} [hz : TZV P e zv] (hx : opd fr x = some (.map (some b))) (hy : opd fr y = some (.int k a)) (hs : hp.Perm (.ob b (mob k l) :: F)) (hl : alook l a = none) : Pv P ⟨fr, hp, ro⟩ (.lookup t x y true) (.tuple #[zv, .bool false]) := by
  have := pv_mlook (P := P) (ro := ro) hx hy hs (t := t); rwa [hl] at this
theorem pv_mlen [ht : TMap P t kt e] (hx : opd fr x = some (.map (some b))) (hs : hp.Perm (.ob b (mob k l) :: F)) : Pv P ⟨fr, hp, ro⟩ (.call ⟨.builtin .len, #[x], #[t]⟩) (.int .i64 l.length) := fun N E ac w dst ty pos af g ok => by
  have hb : w.heap[b]? = some (mob k l) := ok.s.get hs
  simp only [execOp, resolve, List.map_toArray, List.map_cons, List.map_nil, ok.h.eval hx]; simp [invoke, builtin, Builtin.len_, run_underlying ht.h, MapKept.run_getObj_map hb, Result.andThen, goInt, mEnt_len, go_sem]
theorem wo_mmake {d : Nat} (k : IntKind) (hd : Nat.ble (d + 1) N = true)
    (h : ∀ b, WO P N E ops rest ⟨(d, .map (some b)) :: fr, .ob b (mob k []) :: hp, ro⟩ Kn) : WO P N E ops (⟨some d, .makeMap t none, ty, pos, af, none⟩ :: rest) ⟨fr, hp, ro⟩ Kn :=
  wo_eff (L := []) (.refl _) hd fun a w ok => ⟨.map (some w.heap.size), _, w.alloc (.map #[] 0), by simp only [execOp, Option.map_none, Sem.run_bind, run_makeMap, Result.andThen_ok]; rfl, Sat.fresh _, h _⟩
theorem set_frm {w : World} {b : Nat} {o o' : Obj} (hb : w.heap[b]? = some o) : Frm [b] w { w with heap := w.heap.setIfInBounds b o' } ∧ ({ w with heap := w.heap.setIfInBounds b o' } : World).heap[b]? = some o' :=
  ⟨⟨rfl, rfl, rfl, by simp, fun k _ hn => (MapKept.heap_set hb).2 k (by simpa using hn)⟩, (MapKept.heap_set hb).1⟩
theorem run_mput {w : World} [ht : TMap P t kt e] [hk : TInt P kt k] (hb : w.heap[b]? = some (mob k l)) :
    (Instr.mapUpdate t (.map (some b)) (.int k a) v).run P w = .ok () { w with heap := w.heap.setIfInBounds b (mob k (aset l a v)) } := by
  have h1 := findNow_m k a l 0 0
  have hf := MapKept.run_findKey (P := P) (w := w) hk.h h1
  have hc : (Instr.checkKey false 10000 kt (.int k a)).run P w = .ok () w := MapKept.run_checkKey hk.h (by simp [MapKept.IsKey]) false 9999
  cases h : alook l a with
  | none =>
    rw [h] at hf
    have e1 := mEnt_push k a v l 0
    rw [Nat.zero_add] at e1
    simp [Instr.mapUpdate, run_underlying ht.h, MapKept.run_getObj_map hb, hc, hf, MapKept.run_setObj_map _ hb, Result.andThen, mob, aset_none v h, e1]
  | some u =>
    rw [h] at hf
    have e1 := mEnt_modify k a v l 0 h
    have e2 := mEnt_at k a l 0 h
    have hks : (Instr.keyThatStays (.int k a) (.int k a)).run P w = .ok (.int k a) w := MapKept.run_keyThatStays (d := .int k) (by simp [MapKept.IsKey])
    simp [Instr.mapUpdate, run_underlying ht.h, MapKept.run_getObj_map hb, hc, hf, MapKept.run_setObj_map _ hb, Result.andThen, mob, aset_len_some v h, e1, e2, hks]
theorem wo_mput [ht : TMap P t kt e] [hk : TInt P kt k] (hx : opd fr x = some (.map (some b))) (hy : opd fr y = some (.int k a)) (hz : opd fr z = some v) (hs : hp.Perm (.ob b (mob k l) :: F)) (hd : dstOk dst N = true)
    (h : WO P N E ops rest ⟨putF dst undef fr, .ob b (mob k (aset l a v)) :: F, ro⟩ Kn) : WO P N E ops (⟨dst, .mapUpdate t x y z, ty, pos, af, none⟩ :: rest) ⟨fr, hp, ro⟩ Kn :=
  wo_eff_skip (L := [_]) hs hd fun ac w ok => by
    have hb : w.heap[b]? = some (mob k l) := ok.s.get hs
    refine ⟨_, _, ?_, Sat.relay (set_frm hb).1 (set_frm (o' := mob k (aset l a v)) hb).2, by simpa using h⟩
    simp only [execOp, ok.h.eval hx, ok.h.eval hy, ok.h.eval hz, Sem.run_bind, run_mput hb]; rfl
theorem wo_mentry {d : Nat} {zv : Value} [ht : TMap P t kt e] [hk : TInt P kt k] [hzv : TZV P e zv] (hx : opd fr x = some (.map (some b))) (hy : opd fr y = some (.int k a)) (hs : hp.Perm (.ob b (mob k l) :: F)) (hd : Nat.ble (d + 1) N = true)
    (h : WO P N E ops rest ⟨(d, .tuple #[(alook l a).getD zv, .int .i64 (aidx l a)]) :: fr, .ob b (mob k (aset l a ((alook l a).getD zv))) :: F, ro⟩ Kn) : WO P N E ops (⟨some d, .mapEntry t x y, ty, pos, af, none⟩ :: rest) ⟨fr, hp, ro⟩ Kn :=
  wo_eff (L := [_]) hs hd fun ac w ok => by
    have hb : w.heap[b]? = some (mob k l) := ok.s.get hs
    refine ⟨_, _, _, ?_, Sat.relay (set_frm hb).1 (set_frm (o' := mob k (aset l a ((alook l a).getD zv))) hb).2, by simpa [putF] using h⟩
    have h1 := findNow_m k a l 0 0
    have hf := MapKept.run_findKey (P := P) (w := w) hk.h h1
    have hc : (Instr.checkKey false 10000 kt (.int k a)).run P w = .ok () w := MapKept.run_checkKey hk.h (by simp [MapKept.IsKey]) false 9999
    simp only [execOp, ok.h.eval hx, ok.h.eval hy]
    cases h : alook l a with
    | none =>
      rw [h] at hf
      have e1 := mEnt_push k a zv l 0
      rw [Nat.zero_add] at e1
      simp [Instr.mapEntry, run_underlying ht.h, MapKept.run_getObj_map hb, hc, hf, MapKept.run_setObj_map _ hb, Result.andThen, mob, aset_none _ h, e1, run_zeroV (P := P) (T := e), goInt, aidx_none h]
    | some u =>
      rw [h] at hf
      have e1 := mEnt_modify' k a l 0 h
      have e2 := mEnt_at k a l 0 h
      have hks : (Instr.keyThatStays (.int k a) (.int k a)).run P w = .ok (.int k a) w := MapKept.run_keyThatStays (d := .int k) (by simp [MapKept.IsKey])
      simp [Instr.mapEntry, run_underlying ht.h, MapKept.run_getObj_map hb, hc, hf, MapKept.run_setObj_map _ hb, Result.andThen, mob, aset_same h, e1, e2, hks, goInt]
theorem wo_mstore {j : Nat} [ht : TMap P t kt e] (hx : opd fr x = some (.map (some b))) (hy : opd fr y = some (.int .i64 j)) (hz : opd fr z = some v) (hs : hp.Perm (.ob b (mob k l) :: F)) {u : Value} (hl : alook l a = some u) (hj : aidx l a = j) (hd : dstOk dst N = true)
    (h : WO P N E ops rest ⟨putF dst undef fr, .ob b (mob k (aset l a v)) :: F, ro⟩ Kn) : WO P N E ops (⟨dst, .entryStore t x y z, ty, pos, af, none⟩ :: rest) ⟨fr, hp, ro⟩ Kn :=
  wo_eff_skip (L := [_]) hs hd fun ac w ok => by
    have hb : w.heap[b]? = some (mob k l) := ok.s.get hs
    refine ⟨_, _, ?_, Sat.relay (set_frm hb).1 (set_frm (o' := mob k (aset l a v)) hb).2, by simpa using h⟩
    have e1 := mEnt_modv k a v l 0 hl
    have e2 := mEnt_find k l 0 (aidx l a) (aidx_lt hl)
    rw [Nat.zero_add] at e2
    subst hj
    simp only [execOp, ok.h.eval hx, ok.h.eval hy, ok.h.eval hz, Sem.run_bind]
    simp [Instr.entryStore, MapKept.run_getObj_map hb, MapKept.run_setObj_map _ hb, Result.andThen, asInt, asIntOf, e2, mob, e1, aset_len_some v hl, go_sem]
end
end Go.Proofs.Ytbhegdlpmeeekaa

/-
  Sparse frames: interface values: making one, asserting one, calling through one.
-/
namespace Go.Proofs.Ytbhegdlpmeeekaa
set_option linter.unusedSimpArgs false
set_option linter.unusedVariables false
open Go.RowKit

class TIfc (P : Program) (T : TypeId) : Prop where h : ∀ (x : Value) (w : World), (Instr.makeInterface T x).run P w = .ok (.iface T x) w
class TAs (P : Program) (xT T U : TypeId) (f : outParam (Value → Value)) : Prop where h : ∀ (v : Value) (w : World), (Instr.typeAssert (.iface T v) xT U true).run P w = .ok (f v) w
class TInv (P : Program) (T : TypeId) (m : String) (f : outParam FuncId) : Prop where h : ∀ (v : Value) (args : Array Value) (w : World), (callMethod (.iface T v) m args).run P w = .ok (.enter f (#[v] ++ args)) w
section
variable {P : Program} {N : Nat} {E : Env} {fr : List (Nat × Value)} {hp F : List It} {ro : List Ro} {T U xT : TypeId} {x : Operand} {v : Value} {Kn Kr : St → Prop} {Kx : List (Nat × (St → Prop))} {ops : Array Oper} {rest : List Oper} {dst : Option Tmp} {ty : TypeId} {pos : String} {af : Array Edge}
theorem pv_mki (hx : opd fr x = some v) (hT : TIfc P T) : Pv P ⟨fr, hp, ro⟩ (.makeInterface T x) (.iface T v) := fun N E ac w dst ty pos af g ok => by
  simp only [execOp, ok.h.eval hx]; simp [hT.h, go_sem]
theorem pv_tas {f : Value → Value} (hx : opd fr x = some (.iface T v)) (hT : TAs P xT T U f) : Pv P ⟨fr, hp, ro⟩ (.typeAssert x xT U true) (f v) := fun N E ac w dst ty pos af g ok => by
  simp only [execOp, ok.h.eval hx]; simp [hT.h, go_sem]
theorem inv_enter {f : FuncId} {m : String} {a : Act} {l : List Operand} {ats : Array TypeId} {g : Option (Nat × Bool)} (hT : TInv P T m f) (hx : a.eval x = .iface T v) (w : World) :
    (execOp a.eval ⟨dst, .call ⟨.invoke x m, l.toArray, ats⟩, ty, pos, af, g⟩).run P w = .ok (.enter f (v :: l.map a.eval).toArray) w := by
  have e : ∀ r : Array Value, (#[Value.iface T v] ++ r)[0]? = some (Value.iface T v) := fun r => by
    rw [Array.getElem?_append_left (Nat.zero_lt_one)]; rfl
  have e2 : ∀ r : Array Value, (#[Value.iface T v] ++ r).extract 1 (#[Value.iface T v] ++ r).size = r := fun r => by
    apply Array.ext'; simp
  have e3 : (execOp a.eval ⟨dst, .call ⟨.invoke x m, l.toArray, ats⟩, ty, pos, af, g⟩).run P w = (Go.invoke (.fn (.method m) #[]) (#[Value.iface T v] ++ l.toArray.map a.eval)).run P w := by
    simp only [execOp, resolve, hx, Sem.run_bind, Sem.run_pure, Result.andThen_ok]
  rw [e3]
  unfold Go.invoke
  rw [e]
  simp only [e2]
  rw [hT.h]
  simp
theorem wo_inv {f : FuncId} {m : String} {vs : List Value} {L F : List It} {R : List Ro} {Post : Value → List It → List Ro → Prop} {l : List Operand} {ats : Array TypeId}
    (hx : opd fr x = some (.iface T v)) (hT : TInv P T m f) (hF : Fn P f (v :: vs).toArray L R Post) (ha : opdL fr l = some vs) (hs : hp.Perm (L ++ F)) (hr : ∀ r ∈ R, r ∈ ro) (hd : dstOk dst N = true)
    (h : ∀ v L' R', Post v L' R' → ∀ H, H = L' ++ F → ∀ RR, RR = R' ++ ro → WO P N E ops rest ⟨putF dst v fr, H, RR⟩ Kn) :
    WO P N E ops (⟨dst, .call ⟨.invoke x m, l.toArray, ats⟩, ty, pos, af, none⟩ :: rest) ⟨fr, hp, ro⟩ Kn := by
  intro Q hQ a w ok
  unfold wpList
  rw [if_pos (by simp [Region.wanted])]
  refine .inl ?_
  unfold Oper.wp
  rw [inv_enter hT (ok.h.eval hx) w, ok.h.evalL ha]
  refine (hF w (ok.s.start hs hr)).mono fun e w' ⟨v, L', R', he, hP, hS⟩ => ?_
  subst he
  exact h v L' R' hP _ rfl _ rfl Q hQ _ w' ⟨ok.h.putF hd v, ok.s.step hs (fun b hb => by
    obtain ⟨r, h1, h2⟩ := mem_blks.1 hb; exact mem_blks.2 ⟨r, hr r h1, h2⟩) hS⟩
theorem outc_inv {f : FuncId} {m : String} {B0 : List It} {vs : List Value} {L Lc F1 : List It} {R : List Ro} {Post : Value → List It → List Ro → Prop} {TT : Value → List It → Prop} {l : List Operand} {ats : Array TypeId} {g : Option (Nat × Bool)}
    (hx : opd fr x = some (.iface T v)) (hT : TInv P T m f) (hF : Fn P f (v :: vs).toArray L R Post) (ha : opdL fr l = some vs) (hs : (Lc ++ B0).Perm (L ++ F1)) (hr : ∀ r ∈ R, r ∈ ro) (hTT : ∀ v L' R', Post v L' R' → ∃ M, TT v M ∧ (L' ++ F1).Perm (M ++ B0)) :
    ∀ a, Holds N fr a → Outc P E B0 ro ⟨dst, .call ⟨.invoke x m, l.toArray, ats⟩, ty, pos, af, g⟩ a Lc TT := fun a hh F w hw => by
  rw [inv_enter hT (hh.eval hx) w, hh.evalL ha]
  refine ⟨rfl, ?_⟩
  have hp1 : (Lc ++ (B0 ++ F)).Perm (L ++ (F1 ++ F)) := by
    rw [← List.append_assoc, ← List.append_assoc]; exact hs.append_right F
  have hw1 := hw.perm hp1
  refine (hF w (hw1.start (.refl _) hr)).mono fun e w' ⟨v, L', R', he, hP, hS⟩ => ?_
  obtain ⟨M, h1, h2⟩ := hTT v L' R' hP
  have h3 := (hw1.step (.refl _) (fun b hb => by obtain ⟨r, h1, h2⟩ := mem_blks.1 hb; exact mem_blks.2 ⟨r, hr r h1, h2⟩) hS).some_ro (fun r hr => List.mem_append_right _ hr)
  refine ⟨v, M, he, h1, h3.perm ?_⟩
  rw [← List.append_assoc, ← List.append_assoc]
  exact h2.append_right F
theorem outc_app_g {t e sz by_ n c m c2 : Nat} {B0 : List It} {ao ao2 : Option Addr} {xs ys : List (List Value)} {x y : Operand} {g : Option (Nat × Bool)} [TSl P t e sz by_] (hx : opd fr x = some (.slice ao n c)) (hy : opd fr y = some (.slice ao2 m c2))
    (b1 : n + m ≤ maxLen) (b2 : (n + m) * by_ ≤ 140737488355328) :
    ∀ a, Holds N fr a → Outc P E B0 ro ⟨dst, .call ⟨.builtin .append, #[x, y], #[t, t]⟩, ty, pos, af, g⟩ a [.own e sz ao n c xs, .own e sz ao2 m c2 ys] (fun v M => ∃ ao' c', v = .slice ao' (n + m) c' ∧ M = [.own e sz ao' (n + m) c' (xs ++ ys), .own e sz ao2 m c2 ys]) := by
  cases ao2 with
  | some ad =>
    intro a hh F w hw
    have hS2 : OwnSat w e sz (some ad) m c2 ys := hw.get (.swap _ _ _)
    obtain ⟨hsp, _⟩ := hS2.at_ _ rfl
    obtain ⟨b, o, s⟩ := ad
    simp only at hsp
    subst hsp
    exact outc_app hx hy b1 b2 a hh F w hw
  | none =>
    intro a hh F w hw
    obtain ⟨i, z, h1, h2, h3, h4, h5, h6, h7⟩ := sl_und (TSl.h (P := P) (T := t))
    have hS : OwnSat w e sz ao n c xs := hw.get (.refl _)
    have hS2 : OwnSat w e sz none m c2 ys := hw.get (.swap _ _ _)
    have hc0 := hS2.nil rfl
    have hle := hS2.le
    obtain rfl : m = 0 := by omega
    obtain rfl : ys = [] := List.eq_nil_of_length_eq_zero hS2.len
    have hr : (Builtin.append_ #[t, t] ty #[.slice ao n c, .slice none 0 c2]).run P w = .ok (.slice ao n c) w := by
      have hn0 : n + 0 ≤ c := by have := hS.le; omega
      cases ao <;> simp [Builtin.append_, run_underlying h1, sizeOf, typeInfo, h2, Builtin.lenOf, hn0, Builtin.firstCells, storeCells, go_sem] <;> (have := hS.le; omega)
    rw [exec_append (hh.eval hx) (hh.eval hy) hr]
    exact ⟨_, ⟨ao, c, rfl, rfl⟩, by simpa using hw⟩
/-- a field of a structure that is a value -/
def fld1B (P : Program) (T i : Nat) : Option Nat := match P.underlying T with
  | some (.struct fs) => match fs[i]? with
    | some f => if oneB P f.type then some f.offset else none
    | none => none
  | _ => none
class FO (P : Program) (T i : Nat) (off : outParam Nat) : Prop where h : fld1B P T i = some off
theorem pv_field {i off : Nat} {l : List Value} (hx : opd fr x = some (.agg l.toArray)) (hF : FO P T i off) (hl : l[off]? = some v) : Pv P ⟨fr, hp, ro⟩ (.field T x i) v := fun N E ac w dst ty pos af g ok => by
  have h := hF.h
  unfold fld1B at h
  split at h
  · rename_i fs hu
    split at h
    · rename_i f hf
      split at h
      · rename_i h1
        simp only [Option.some.injEq] at h
        subst h
        haveI : TOne P f.type := ⟨h1⟩
        simp only [execOp, ok.h.eval hx]
        have e := run_part_one (P := P) (T := f.type) (w := w) hl
        simp only [Instr.field, Sem.run_bind, run_underlying hu, Result.andThen_ok, hf, asAgg, Sem.run_pure, e]
      · cases h
    · cases h
  · cases h
end
theorem outc_ld {P : Program} {N : Nat} {E : Env} {fr : List (Nat × Value)} {L B0 : List It} {ro : List Ro} {op : Op} {v : Value} {dst : Option Tmp} {ty : TypeId} {pos : String} {af : Array Edge} {g : Option (Nat × Bool)} (h : Pv P ⟨fr, L, ro⟩ op v) :
    ∀ a, Holds N fr a → Outc P E B0 ro ⟨dst, op, ty, pos, af, g⟩ a L (fun v' M => v' = v ∧ M = L) := fun a hh F w hw => by
  unfold Pv at h
  rw [h N E a w dst ty pos af g ⟨hh, hw.left⟩]
  exact ⟨L, ⟨rfl, rfl⟩, hw⟩
theorem outc_fr {P : Program} {E : Env} {B0 X L : List It} {ro : List Ro} {o : Oper} {a : Act} {T : Value → List It → Prop} (h : Outc P E B0 ro o a L T) : Outc P E B0 ro o a (X ++ L) (fun v M => ∃ M0, T v M0 ∧ M = X ++ M0) := fun F w hw => by
  have pm : ∀ Y : List It, ((X ++ Y) ++ (B0 ++ F)).Perm (Y ++ (B0 ++ (X ++ F))) := fun Y => by
    rw [List.append_assoc]
    refine List.perm_append_comm.trans ?_
    rw [List.append_assoc, List.append_assoc]
    refine List.Perm.append_left Y ?_
    exact List.Perm.append_left B0 List.perm_append_comm
  have h1 := h (X ++ F) w (hw.perm (pm L))
  cases hr : (execOp a.eval o).run P w with
  | ok v w' =>
    rw [hr] at h1
    cases v with
    | value v =>
      obtain ⟨M, h2, h3⟩ := h1
      exact ⟨X ++ M, ⟨M, h2, rfl⟩, h3.perm (pm M).symm⟩
    | skip =>
      obtain ⟨M, h2, h3⟩ := h1
      exact ⟨X ++ M, ⟨M, h2, rfl⟩, h3.perm (pm M).symm⟩
    | enter f args =>
      obtain ⟨h0, h1⟩ := h1
      exact ⟨h0, h1.mono fun e w'' ⟨v, M, h2, h3, h4⟩ => ⟨v, X ++ M, h2, ⟨M, h3, rfl⟩, h4.perm (pm M).symm⟩⟩
    | _ => exact h1
  | _ => rw [hr] at h1; exact h1
theorem outc_frA {P : Program} {N : Nat} {E : Env} {fr : List (Nat × Value)} {B0 X L : List It} {ro : List Ro} {o : Oper} {T : Value → List It → Prop} (h : ∀ a, Holds N fr a → Outc P E B0 ro o a L T) : ∀ a, Holds N fr a → Outc P E B0 ro o a (X ++ L) (fun v M => ∃ M0, T v M0 ∧ M = X ++ M0) := fun a ha => outc_fr (h a ha)
end Go.Proofs.Ytbhegdlpmeeekaa

/-
  QueueKeys: of what goes out, the first one, and each one ahead of which something was dropped, is Key.
-/
namespace Go.Proofs.Ytbhegdlpmeeekaa
set_option linter.unusedSimpArgs false
set_option linter.unusedVariables false
open Go.RowKit
attribute [local irreducible] Pv WO WC Fn
set_option maxRecDepth 100000

theorem sub_tl0 {H : List It} : H.Perm (H ++ []) := by rw [List.append_nil]
theorem sub_tl1 {x : It} {H : List It} : (x :: H).Perm (H ++ [x]) := (List.perm_append_singleton x H).symm
theorem sub_tl2 {x y : It} {H : List It} : (x :: y :: H).Perm (H ++ [x, y]) := List.perm_append_comm (l₁ := [x, y]) (l₂ := H)
def tblKy (q : Nat) (fr mo age : Int) (D : QS × Int × Bool) : Nat → List (List It) → Value → List (List It) → Prop := fun k Ls v Ms => match k, Ls with
  | 5, _ => ∃ ao' n' c' ao2 m c2 R' H', v = .tuple #[.agg (stv q fr mo ao2 m c2 D.1.bk D.1.now D.1.N age).toArray, .int .i64 D.2.1, .bool D.2.2, .bool true] ∧ Ms = [Qc q fr mo ao' n' c' (sumS D.1.l) D.1.bk :: H'] ∧ SR R' 4 ao' n' c' (its D.1.l) ∧ SR R' 4 ao2 m c2 (its D.1.l) ∧ Cov H' R'
  | 11, _ => ∃ b, v = .pointer (some ⟨b, 0, none⟩) ∧ Ms = [[szb b]]
  | 12, [x :: H, [.ob b _]] => v = undef ∧ ∃ ao2 m c2 R', Ms = [x :: H, [dsb b q fr mo ao2 m c2 D.1.bk D.1.now D.1.N age]] ∧ SR R' 4 ao2 m c2 (its D.1.l) ∧ Cov H R'
  | _, _ => False
theorem sr_some (l : List It4) (h : l.length ≤ 1024) : ∃ ao n c R H, SR R 4 ao n c (its l) ∧ Cov H R := by
  have hr : RowsOk 4 (its l) := fun r hr => by
    obtain ⟨x, hx, rfl⟩ := List.mem_map.1 hr
    exact ⟨rfl, fun u hu => by simp [itr] at hu; rcases hu with rfl | rfl | rfl | rfl <;> rfl⟩
  refine ⟨some ⟨0, 0, none⟩, l.length, l.length, [⟨0, 0, 4, its l⟩], [.ob 0 (.cells (its l).flatten.toArray 0 (0, 0))], ⟨its_len l, Nat.le_refl _, by unfold maxLen; omega, hr, .inr ⟨0, 0, rfl, fun _ => .head _⟩⟩, fun r hr2 => ?_⟩
  rcases List.mem_singleton.1 hr2 with rfl
  exact ⟨_, _, _, .head _, hr, fun j u hu => by simpa using hu⟩
theorem hin_ky (q : Nat) (fr mo age : Int) (D : QS × Int × Bool) (h : D.1.l.length ≤ 1024) (Ls : List (List It)) : ∃ v Ms, tblKy q fr mo age D 5 Ls v Ms ∧ Ms.length = 1 := by
  obtain ⟨ao, n, c, R, H, h1, h2⟩ := sr_some D.1.l h
  exact ⟨_, _, ⟨ao, n, c, ao, n, c, R, H, rfl, rfl, h1, h1, h2⟩, rfl⟩
abbrev kyB (bm : Nat) (km : List (Int × Value)) : It := .ob bm (mob .i64 km)
set_option maxHeartbeats 32000000 in
theorem queueKeys_fn (f0 m0 a0 : Int) (A : Option Addr) (n c : Nat) (kd sz : Nat → Int) (ky : Nat → Bool) (R : List Ro) (hn : n ≤ 9223372036854775807) (hSeg : 0 < n → ∃ b o, A = some ⟨b, o, none⟩ ∧ ⟨b, o, 3, qseg kd sz ky n⟩ ∈ R) :
    Fn Try.prog 5 #[.int .i64 f0, .int .i64 m0, .int .i64 a0, .slice A n c] [] R (fun v _ _ => v = .bool true) := by
  refine fn_intro Try.func5 rfl Try.ntmps5 rfl (fun E => ?_)
  (repeat (first | ((first | (apply wo_v; rfl) ); (· first | (apply pv_ev; rfl) )) | apply wo_nil | apply wc_seq | apply wc_region ))
  (refine wo_call (qBegin f0 m0 a0) rfl (by (repeat (first | apply sub_nil )); done) (by first | exact fun _ h => h | (intro r hr; cases hr; done) | (simp; done) | exact fun _ h => List.mem_append_left _ h | (intro r hr; simp [hr]; done)) rfl ?_; rintro v L' R' ⟨q, fr, mo, age, rfl, rfl, rfl, hf1, hf2, hm1, hm2, ha1, ha2⟩ H' hH RR hR; simp only [List.cons_append, List.nil_append] at hH hR; subst hH; have hR := hR.symm; subst hR)
  (repeat (first | ((first | (apply wo_v; rfl) ); (· first | (apply pv_ev; rfl) )) | apply wo_nil | apply wc_seq | apply wc_region | (apply wo_alloc; rfl; intro bx) | (apply wo_sta; rfl; rfl; rfl; rfl; (· (repeat (first | apply sel_here ))); (· (repeat (first | apply LayAt.nil | apply LayAt.here ))); rfl) ))
  (refine wo_call (awake18) rfl (by (repeat (first | apply sub_nil )); done) (by first | exact fun _ h => h | (intro r hr; cases hr; done) | (simp; done) | exact fun _ h => List.mem_append_left _ h | (intro r hr; simp [hr]; done)) rfl ?_; rintro v L' R' ⟨rfl, rfl, rfl⟩ H' hH RR hR; simp only [List.cons_append, List.nil_append] at hH hR; subst hH; have hR := hR.symm; subst hR)
  (repeat (first | ((first | (apply wo_v; rfl) ); (· first | (apply pv_ev; rfl) | (apply g_pick; first | (apply pv_pick_t; rfl; rfl) | (apply pv_pick_f; rfl; rfl)) | (apply g_un; first | (apply pv_not_t; rfl) ) )) | apply wo_nil | apply wc_seq | apply wc_region | apply wc_skip | (apply wc_true; rfl) | (apply wc_false; rfl) | (apply wo_run; rfl; rfl) ))
  refine wo_mmake .i64 rfl (fun bm => ?_)
  (repeat (first | ((first | (apply wo_v; rfl) ); (· first | (apply pv_ev; rfl) )) | apply wo_nil | apply wc_seq | apply wc_region | apply wc_block ))
  refine wc_loop' (fun k st => ∃ (i : Nat) (l : List It4) (bk : Bool) (now N last : Int) (ao ao2 : Option Addr) (n1 c1 n2 c2 : Nat) (RH : List Ro) (H : List It) (km : List (Int × Value)), k = 151 - i ∧ SR RH 4 ao n1 c1 (its l) ∧ SR RH 4 ao2 n2 c2 (its l) ∧ Cov H RH ∧ QOk fr mo age ⟨l, bk, now, N⟩ ∧ KI (fun x => alook km x = some (.bool true)) l bk N last ∧ (∀ x, alook km x = none ∨ alook km x = some (.bool true)) ∧ 0 ≤ last ∧ last ≤ 100000 ∧ now ≤ 15 * i ∧ N ≤ i ∧ i ≤ 150 ∧ i ≤ n
      ∧ st = ⟨[(3, .slice A n c), (9, .pointer (some ⟨bx, 0, none⟩)), (11, .map (some bm)), (12, .int .i64 last), (13, .int .i64 i)], dsb bx q fr mo ao2 n2 c2 bk now N age :: kyB bm km :: Qc q fr mo ao n1 c1 (sumS l) bk :: H, R⟩)
    ⟨0, [], true, 0, 0, 0, none, none, 0, 0, 0, 0, [], [], [], rfl, SR.nil _ _, SR.nil _ _, Cov.nil _, ⟨by omega, by omega, as0, by simp; omega, by simp [sumS]; omega, by simp, by simp, by simp, by simp⟩, ⟨trivial, (fun x hx => by cases hx), (fun x hx => by cases hx), (fun h => by cases h)⟩, fun x => .inl rfl, by omega, by omega, by simp, by simp, by omega, by omega, rfl⟩ (wk_mk (by (repeat (first | apply wkf_nil | (apply wkf_cons; rfl))); done) (by (repeat (first | apply sub_nil | (apply sub_cons; (· (repeat (first | apply sel_here | apply sel_there)))))); done) (by first | exact fun _ h => h | (intro r hr; cases hr; done) | (simp; done) | exact fun _ h => List.mem_append_left _ h | (intro r hr; simp [hr]; done))) ?_
  rintro k st ⟨i, l, bk, now, N, last, ao, ao2, n1, c1, n2, c2, RH, H, km, rfl, hS, hS2, hC, hQ, hK, hkm, hl0, hl1, hnow, hN, hi1, hi2, rfl⟩
  obtain ⟨g, hg⟩ : ∃ g, g = bx := ⟨_, rfl⟩
  subst hg
  by_cases hlt : i < n ∧ i < 150
  · obtain ⟨h1, h2⟩ := hlt
    obtain ⟨b, o, rfl, hmem⟩ := hSeg (by omega)
    have hr := qseg_at (kd := kd) (sz := sz) (ky := ky) h1
    obtain ⟨hQ2, hn1, hn2, hN1, hN2⟩ := doesM_ok hQ (by dsimp only; omega) (by dsimp only; omega) (kd i) (sz i) (ky i)
    obtain ⟨hO, hNN, hK2⟩ := doesM_KI hQ hK (kd i) (sz i) (ky i)
    have hF := (qDoes q fr mo age l bk now N ao ao2 n1 c1 n2 c2 RH hS hS2 hQ (kd i) (sz i) (ky i)).own hC
    dsimp only at hn1 hn2 hN1 hN2 hNN
    have hF2 : Fn Try.prog 20 #[.agg (stv q fr mo ao2 n2 c2 bk now N age).toArray, .agg #[.int .i64 (kd i), .int .i64 (sz i), .bool (ky i)]] ([Qc q fr mo ao n1 c1 (sumS l) bk] ++ H) [] (fun v L2 R2 => ∃ ao' n' c' ao2 m c2 R' H', v = .tuple #[.agg (stv q fr mo ao2 m c2 (doesM fr mo age ⟨l, bk, now, N⟩ (kd i) (sz i) (ky i)).1.bk (doesM fr mo age ⟨l, bk, now, N⟩ (kd i) (sz i) (ky i)).1.now (doesM fr mo age ⟨l, bk, now, N⟩ (kd i) (sz i) (ky i)).1.N age).toArray, .int .i64 (doesM fr mo age ⟨l, bk, now, N⟩ (kd i) (sz i) (ky i)).2.1, .bool (doesM fr mo age ⟨l, bk, now, N⟩ (kd i) (sz i) (ky i)).2.2, .bool true] ∧ L2 = Qc q fr mo ao' n' c' (sumS (doesM fr mo age ⟨l, bk, now, N⟩ (kd i) (sz i) (ky i)).1.l) (doesM fr mo age ⟨l, bk, now, N⟩ (kd i) (sz i) (ky i)).1.bk :: H' ∧ R2 = [] ∧ SR R' 4 ao' n' c' (its (doesM fr mo age ⟨l, bk, now, N⟩ (kd i) (sz i) (ky i)).1.l) ∧ SR R' 4 ao2 m c2 (its (doesM fr mo age ⟨l, bk, now, N⟩ (kd i) (sz i) (ky i)).1.l) ∧ Cov H' R') := by
      refine Fn.mono hF ?_
      rintro v L2 R2 ⟨L', R', H', ⟨s', out, flag, a1, p1, d1, a2, p2, d2, hD, rfl, rfl, hS3, hS4⟩, rfl, rfl, hC'⟩
      rw [← hD]
      exact ⟨a1, p1, d1, a2, p2, d2, R', H', rfl, rfl, rfl, hS3, hS4, hC'⟩
    have hout := doesM_out hQ (kd i) (sz i) (ky i)
    clear hF hS hS2 hC hK
    generalize doesM fr mo age ⟨l, bk, now, N⟩ (kd i) (sz i) (ky i) = D at *
    obtain ⟨⟨l', bk', now', N'⟩, out, flag⟩ := D
    dsimp only at hF2 hQ2 hn1 hn2 hN1 hN2 hNN hO hK2 hout
    have hlen := hQ2.len
    have hfr2 := hQ2.fr1
    have hin5 := hin_ky q fr mo age (⟨l', bk', now', N'⟩, out, flag) (by dsimp only at *; omega)
    (repeat (first | ((first | (apply wo_v; rfl) ); (· first | (apply pv_ev; rfl) | (apply g_pick; first | (apply pv_pick_t; rfl; rfl) ) | (apply g_bi; first | (apply pv_len_sl; rfl) ) )) | apply wo_nil | apply wc_seq | apply wc_region | apply wc_skip | (apply wc_true; rfl) | (apply wc_false; rfl) | (apply a_dec_t; rfl; (· first | assumption | omega)) | (apply wo_run; rfl; rfl) | (apply wo_skip; rfl; rfl; rfl; rfl) | (apply wo_skip_u; rfl; rfl; rfl) | (apply a_gt; rfl; rfl; (· first | assumption | omega)) ))
    refine wc_block ?_
    (repeat (first | apply wc_seq ))
    refine wc_regM [0, 1] (aslL [(5, [1]), (11, [0]), (12, [1, 0])]) (tblKy q fr mo age (⟨l', bk', now', N'⟩, out, flag)) [dsb g q fr mo ao2 n2 c2 bk now N age, kyB bm km] (fm [(0, []), (1, Qc q fr mo ao n1 c1 (sumS l) bk :: H)]) mixed (by kernel_rfl) (by kernel_rfl) (by decide) (aslL_ok (by decide)) (by simp [Hp, fm, look]) ?_
    (repeat (first | (apply HdM.val; rfl; rfl; (· first | apply gok_none ); (· first | (apply pv_ev; rfl) | (apply g_load; first | (apply pv_lda; rfl; (· (repeat (first | apply sel_here | apply sel_there))); (· (repeat (first | apply Cut.here0 | apply Cut.here )))) | (apply pv_ld_owna; rfl; (· (repeat (first | apply sel_there))); (· assumption)) | (apply pv_ld_roa; rfl; (· (first | assumption )); (· assumption))) | (apply g_idx; first | (apply pv_idx; rfl; rfl; omega) ) )) ))
    (refine hm_eff (cs := [1]) rfl (by decide) rfl rfl (by first | exact gok_none | exact gok_run rfl rfl) (fun a ha => outc_mono (outc_call (L := [Qc q fr mo ao n1 c1 (sumS l) bk] ++ H) (F1 := [dsb g q fr mo ao2 n2 c2 bk now N age, kyB bm km]) (T := fun v M => ∃ ao' n' c' ao2 m c2 R' H', v = .tuple #[.agg (stv q fr mo ao2 m c2 bk' now' N' age).toArray, .int .i64 out, .bool flag, .bool true] ∧ M = Qc q fr mo ao' n' c' (sumS l') bk' :: H' ∧ SR R' 4 ao' n' c' (its l') ∧ SR R' 4 ao2 m c2 (its l') ∧ Cov H' R') hF2 rfl (by simp) (by first | exact fun _ h => h | (intro r hr; cases hr; done) | (simp; done) | exact fun _ h => List.mem_append_left _ h | (intro r hr; simp [hr]; done)) (by rintro v L' R' ⟨a1, p1, d1, a2, p2, d2, R1, H1, h1, h2, _, h3, h4, h5⟩; exact ⟨_, ⟨a1, p1, d1, a2, p2, d2, R1, H1, h1, rfl, h3, h4, h5⟩, by rw [h2]⟩) a ha) (fun v M h => by obtain ⟨a1, p1, d1, a2, p2, d2, R1, H1, h1, h2, h3, h4, h5⟩ := h; exact ⟨[M], ⟨a1, p1, d1, a2, p2, d2, R1, H1, h1, congrArg (fun x => [x]) h2, h3, h4, h5⟩, rfl, by simp⟩)) (hin5 _) ?_; rintro v Ms ⟨a1, p1, d1, a2, p2, d2, R1, H1, rfl, rfl, hS3, hS4, hC3⟩ _; simp only [setls, setl, reduceIte, Nat.reduceEqDiff]; (repeat (first | (apply HdM.val; rfl; rfl; (· first | apply gok_none ); (· first | (apply pv_ev; rfl) )) )))
    (refine hm_eff (cs := [0]) rfl (by decide) rfl rfl (by first | exact gok_none | exact gok_run rfl rfl) (fun a ha => outc_mono (outc_alloc a ha) (fun v M h => Exists.elim h fun b h => ⟨[M], Exists.intro b (And.intro h.1 (congrArg (fun x => [x]) h.2)), rfl, by simp⟩)) (⟨_, _, Exists.intro 0 (And.intro rfl rfl), rfl⟩) ?_; rintro v Ms ⟨b14, rfl, rfl⟩ _; simp only [setls, setl, reduceIte, Nat.reduceEqDiff]; (repeat (first | fail )))
    (refine hm_eff (cs := [1, 0]) rfl (by decide) rfl rfl (by first | exact gok_none | exact gok_run rfl rfl) (fun a ha => outc_mono (outc_frA (X := Qc q fr mo a1 p1 d1 (sumS l') bk' :: H1) (L := [szb b14]) (outc_sta rfl rfl rfl rfl (by (repeat (first | apply LayAt.nil | apply LayAt.here )); done)) a ha) (fun v M h => by obtain ⟨M0, ⟨h1, h2⟩, h3⟩ := h; exact ⟨[_, [_]], ⟨h1, a2, p2, d2, R1, rfl, hS4, hC3⟩, rfl, by rw [h3, h2]; rfl⟩)) (⟨_, _, ⟨rfl, a2, p2, d2, R1, rfl, hS4, hC3⟩, rfl⟩) ?_; rintro v Ms ⟨rfl, a5, p5, d5, R5, rfl, hS5, hC5⟩ _; simp only [setls, setl, reduceIte, Nat.reduceEqDiff]; (repeat (first | (apply HdM.val; rfl; rfl; (· first | apply gok_none ); (· first | (apply pv_ev; rfl) )) )))
    (refine HdM.nil ?_; intro H hH; simp only [Hp, fm, look, setl, List.flatMap_cons, List.flatMap_nil, reduceIte, Nat.reduceEqDiff, Option.getD_some, List.append_nil, List.cons_append, List.nil_append] at hH; subst hH)
    dsimp only at hS3 hC3 hS5 hC5 ⊢
    refine wc_weak (st' := ⟨[(3, .slice (some ⟨b, o, none⟩) n c), (9, .pointer (some ⟨g, 0, none⟩)), (11, .map (some bm)), (12, .int .i64 last), (13, .int .i64 i), (14, .pointer (some ⟨b14, 0, none⟩)), (15, .int .i64 out), (17, .bool true)], dsb g q fr mo ao2 n2 c2 bk now N age :: dsb b14 q fr mo a5 p5 d5 bk' now' N' age :: kyB bm km :: Qc q fr mo a1 p1 d1 (sumS l') bk' :: H1, R⟩) (wk_mk (by (repeat (first | apply wkf_nil | (apply wkf_cons; rfl))); done) (by (repeat (apply sub_cons; (· (repeat (first | apply sel_here | apply sel_there))))); first | exact sub_tl0 | exact sub_tl1 | exact sub_tl2) (by first | exact fun _ h => h | (intro r hr; cases hr; done) | (simp; done) | exact fun _ h => List.mem_append_left _ h | (intro r hr; simp [hr]; done))) ?_
    clear hF2 hin5
    have hNb := hQ2.N
    dsimp only at hNb
    apply wc_seq
    refine wc_join0 (fun st => st = ⟨[(3, .slice (some ⟨b, o, none⟩) n c), (9, .pointer (some ⟨g, 0, none⟩)), (11, .map (some bm)), (12, .int .i64 last), (13, .int .i64 i), (15, .int .i64 out)], dsb g q fr mo a5 p5 d5 bk' now' N' age :: kyB bm km :: Qc q fr mo a1 p1 d1 (sumS l') bk' :: H1, R⟩) ?_ ?_
    · (repeat (first | ((first | (apply wo_v; rfl) ); (· first | (apply pv_ev; rfl) | (apply g_load; first | (apply pv_lda; rfl; (· (repeat (first | apply sel_here | apply sel_there))); (· (repeat (first | apply Cut.here0 | apply Cut.here )))) ) | (apply g_un; first | (apply pv_not_t; rfl) ) )) | apply wo_nil | apply wc_seq | apply wc_region | apply wc_skip | (apply wc_true; rfl) | (apply wc_false; rfl) | (apply wo_sta; rfl; rfl; rfl; rfl; (· (repeat (first | apply sel_here ))); (· (repeat (first | apply LayAt.nil | apply LayAt.here ))); rfl) ))
      exact cut_end rfl (wk_mk (by (repeat (first | apply wkf_nil | (apply wkf_cons; rfl))); done) (by (repeat (apply sub_cons; (· (repeat (first | apply sel_here | apply sel_there))))); first | exact sub_tl0 | exact sub_tl1 | exact sub_tl2) (by first | exact fun _ h => h | (intro r hr; cases hr; done) | (simp; done) | exact fun _ h => List.mem_append_left _ h | (intro r hr; simp [hr]; done)))
    rintro st rfl
    apply wc_seq
    refine wc_join0 (fun st => ∃ km', (∀ x, alook km' x = none ∨ alook km' x = some (.bool true)) ∧ (∀ x, (alook km x = some (.bool true) ∨ (kd i = 1 ∧ ky i = true ∧ x = N')) → alook km' x = some (.bool true)) ∧ st = ⟨[(3, .slice (some ⟨b, o, none⟩) n c), (9, .pointer (some ⟨g, 0, none⟩)), (11, .map (some bm)), (12, .int .i64 last), (13, .int .i64 i), (15, .int .i64 out)], dsb g q fr mo a5 p5 d5 bk' now' N' age :: kyB bm km' :: Qc q fr mo a1 p1 d1 (sumS l') bk' :: H1, R⟩) ?_ ?_
    · by_cases hk1 : kd i = 1
      · cases hky : ky i with
        | true =>
          have g1 : ∀ x, alook (aset km N' (.bool true)) x = none ∨ alook (aset km N' (.bool true)) x = some (.bool true) := fun x => by
            rw [alook_set]
            by_cases hx : x = N'
            · rw [if_pos hx]; exact .inr rfl
            · rw [if_neg hx]; exact hkm x
          have g2 : ∀ x, (alook km x = some (.bool true) ∨ (kd i = 1 ∧ true = true ∧ x = N')) → alook (aset km N' (.bool true)) x = some (.bool true) := fun x hx => by
            rw [alook_set]
            by_cases hxN : x = N'
            · rw [if_pos hxN]
            · rw [if_neg hxN]
              rcases hx with h | h
              · exact h
              · exact absurd h.2.2 hxN
          rw [hky] at hr
          (repeat (first | ((first | (apply wo_v; rfl) ); (· first | (apply pv_ev; rfl) | (apply pv_fld; rfl) | (apply g_load; first | (apply pv_ld; rfl; (· (repeat (first | apply sel_here | apply sel_there))); rfl) | (apply pv_ld_ownf; rfl; (· (repeat (first | apply sel_there))); (· assumption); rfl) | (apply pv_ld_own1; rfl; (· (repeat (first | fail ))); (· assumption)) | (apply pv_ld_rof; rfl; (· (first | assumption )); (· assumption); rfl) ) | (apply g_pick; first | (apply pv_pick_t; rfl; rfl) ) | (apply g_idx; first | (apply pv_idx; rfl; rfl; omega) ) )) | (apply wo_mput; rfl; rfl; rfl; (· (repeat (first | apply sel_here | apply sel_there))); rfl) | apply wo_nil | apply wc_seq | apply wc_region | (apply wc_true; rfl) | (apply wo_run; rfl; rfl) | (apply wo_skip; rfl; rfl; rfl; rfl) | (apply wo_skip_u; rfl; rfl; rfl) | (apply a_gt; rfl; rfl; (· first | assumption | omega)) ))
          exact cut_end ⟨_, g1, g2, rfl⟩ (wk_mk (by (repeat (first | apply wkf_nil | (apply wkf_cons; rfl))); done) (by (repeat (apply sub_cons; (· (repeat (first | apply sel_here | apply sel_there))))); first | exact sub_tl0 | exact sub_tl1 | exact sub_tl2) (by first | exact fun _ h => h | (intro r hr; cases hr; done) | (simp; done) | exact fun _ h => List.mem_append_left _ h | (intro r hr; simp [hr]; done)))
        | false =>
          rw [hky] at hr
          (repeat (first | ((first | (apply wo_v; rfl) ); (· first | (apply pv_ev; rfl) | (apply pv_fld; rfl) | (apply g_load; first | (apply pv_ld; rfl; (· (repeat (first | apply sel_there))); rfl) | (apply pv_ld_ownf; rfl; (· (repeat (first | apply sel_there))); (· assumption); rfl) | (apply pv_ld_own1; rfl; (· (repeat (first | fail ))); (· assumption)) | (apply pv_ld_rof; rfl; (· (first | assumption )); (· assumption); rfl) ) | (apply g_pick; first | (apply pv_pick_t; rfl; rfl) ) | (apply g_idx; first | (apply pv_idx; rfl; rfl; omega) ) )) | apply wo_nil | apply wc_seq | apply wc_region | apply wc_skip | (apply wc_true; rfl) | (apply wc_false; rfl) | (apply wo_run; rfl; rfl) | (apply wo_skip; rfl; rfl; rfl; rfl) | (apply wo_skip_u; rfl; rfl; rfl) | (apply a_gt; rfl; rfl; (· first | assumption | omega)) ))
          exact cut_end ⟨km, hkm, (fun x hx => by rcases hx with h | h; exact h; exact absurd h.2.1 (by simp)), rfl⟩ (wk_mk (by (repeat (first | apply wkf_nil | (apply wkf_cons; rfl))); done) (by (repeat (apply sub_cons; (· (repeat (first | apply sel_here ))))); first | exact sub_tl0 | exact sub_tl1 | exact sub_tl2) (by first | exact fun _ h => h | (intro r hr; cases hr; done) | (simp; done) | exact fun _ h => List.mem_append_left _ h | (intro r hr; simp [hr]; done)))
      · (repeat (first | ((first | (apply wo_v; rfl) ); (· first | (apply pv_ev; rfl) | (apply pv_fld; rfl) | (apply g_load; first | (apply pv_ld; rfl; (· (repeat (first | apply sel_there))); rfl) | (apply pv_ld_ownf; rfl; (· (repeat (first | apply sel_there))); (· assumption); rfl) | (apply pv_ld_own1; rfl; (· (repeat (first | fail ))); (· assumption)) | (apply pv_ld_rof; rfl; (· (first | assumption )); (· assumption); rfl) ) | (apply g_pick; first | (apply pv_pick_t; rfl; rfl) | (apply pv_pick_f; rfl; rfl)) | (apply g_idx; first | (apply pv_idx; rfl; rfl; omega) ) )) | apply wo_nil | apply wc_seq | apply wc_region | apply wc_skip | (apply wc_true; rfl) | (apply wc_false; rfl) | (apply wo_run; rfl; rfl) | (apply wo_skip; rfl; rfl; rfl; rfl) | (apply wo_skip_u; rfl; rfl; rfl) | (apply a_gt; rfl; rfl; (· first | assumption | omega)) | (apply a_gf; rfl; rfl; (· first | assumption | omega)) ))
        exact cut_end ⟨km, hkm, (fun x hx => by rcases hx with h | h; exact h; exact absurd h.1 hk1), rfl⟩ (wk_mk (by (repeat (first | apply wkf_nil | (apply wkf_cons; rfl))); done) (by (repeat (apply sub_cons; (· (repeat (first | apply sel_here ))))); first | exact sub_tl0 | exact sub_tl1 | exact sub_tl2) (by first | exact fun _ h => h | (intro r hr; cases hr; done) | (simp; done) | exact fun _ h => List.mem_append_left _ h | (intro r hr; simp [hr]; done)))
    rintro st ⟨km', hkm', hkk, rfl⟩
    have hK3 := hK2.more (fun x hx => hkk x hx)
    by_cases h0 : 0 < out
    · rw [if_pos h0] at hK3
      rcases hkm' out with hno | hyes
      · have hx : out = last + 1 ∧ 1 ≤ last := (hO h0).resolve_left (fun h => by rw [hkk out (.inl h)] at hno; cases hno)
        obtain ⟨hx1, hx2⟩ := hx
        (repeat (first | ((first | (apply wo_v; rfl) ); (· first | (apply pv_ev; rfl) | (apply g_pick; first | (apply pv_pick_t; rfl; rfl) | (apply pv_pick_f; rfl; rfl)) | (apply g_bin; first | (apply a_add; rfl; rfl; infer_instance; omega) ) )) | apply wo_nil | apply wc_seq | apply wc_region | apply wc_skip | (apply wc_true; rfl) | (apply wc_false; rfl) | (apply a_dec_t; rfl; (· first | assumption | omega)) | (apply wo_run; rfl; rfl) | (apply wo_skip; rfl; rfl; rfl; rfl) | (apply wo_skip_u; rfl; rfl; rfl) | (apply a_gt; rfl; rfl; (· first | assumption | omega)) | (apply a_gf; rfl; rfl; (· first | assumption | omega)) ))
        exact loop_end ⟨i + 1, l', bk', now', N', out, a1, a5, p1, d1, p5, d5, R1 ++ R5, H1, km', rfl, hS3.mono (fun r hr => List.mem_append_left _ hr), hS5.mono (fun r hr => List.mem_append_right _ hr), hC3.append hC5, hQ2, hK3, hkm', by omega, by omega, by omega, by omega, by omega, by omega, rfl⟩ (by omega) (wk_mk (by (repeat (first | apply wkf_nil | (apply wkf_cons; rfl))); done) (by (repeat (apply sub_cons; (· (repeat (first | apply sel_here ))))); first | exact sub_tl0 | exact sub_tl1 | exact sub_tl2) (by first | exact fun _ h => h | (intro r hr; cases hr; done) | (simp; done) | exact fun _ h => List.mem_append_left _ h | (intro r hr; simp [hr]; done)))
      · by_cases hx1 : out = last + 1
        · by_cases hx2 : last = 0
          · (repeat (first | ((first | (apply wo_v; rfl) ); (· first | (apply pv_ev; rfl) | (apply g_pick; first | (apply pv_pick_t; rfl; rfl) | (apply pv_pick_f; rfl; rfl)) | (apply g_bin; first | (apply a_add; rfl; rfl; infer_instance; omega) ) | (apply g_un; first | (apply pv_not_t; rfl) ) )) | ((apply wo_v; rfl); (· first | (apply g_lk; first | (apply pv_mlk_n; rfl; rfl; (· (repeat (first | apply sel_here | apply sel_there))); (· assumption)) | (apply pv_mlk_s; rfl; rfl; (· (repeat (first | apply sel_here | apply sel_there))); (· assumption)) ) )) | apply wo_nil | apply wc_seq | apply wc_region | apply wc_skip | (apply wc_true; rfl) | (apply wc_false; rfl) | (apply a_dec_t; rfl; (· first | assumption | omega)) | (apply wo_run; rfl; rfl) | (apply wo_skip; rfl; rfl; rfl; rfl) | (apply wo_skip_u; rfl; rfl; rfl) | (apply a_gt; rfl; rfl; (· first | assumption | omega)) | (apply a_gf; rfl; rfl; (· first | assumption | omega)) ))
            exact loop_end ⟨i + 1, l', bk', now', N', out, a1, a5, p1, d1, p5, d5, R1 ++ R5, H1, km', rfl, hS3.mono (fun r hr => List.mem_append_left _ hr), hS5.mono (fun r hr => List.mem_append_right _ hr), hC3.append hC5, hQ2, hK3, hkm', by omega, by omega, by omega, by omega, by omega, by omega, rfl⟩ (by omega) (wk_mk (by (repeat (first | apply wkf_nil | (apply wkf_cons; rfl))); done) (by (repeat (apply sub_cons; (· (repeat (first | apply sel_here ))))); first | exact sub_tl0 | exact sub_tl1 | exact sub_tl2) (by first | exact fun _ h => h | (intro r hr; cases hr; done) | (simp; done) | exact fun _ h => List.mem_append_left _ h | (intro r hr; simp [hr]; done)))
          · (repeat (first | ((first | (apply wo_v; rfl) ); (· first | (apply pv_ev; rfl) | (apply g_pick; first | (apply pv_pick_t; rfl; rfl) | (apply pv_pick_f; rfl; rfl)) | (apply g_bin; first | (apply a_add; rfl; rfl; infer_instance; omega) ) )) | apply wo_nil | apply wc_seq | apply wc_region | apply wc_skip | (apply wc_true; rfl) | (apply wc_false; rfl) | (apply a_dec_t; rfl; (· first | assumption | omega)) | (apply wo_run; rfl; rfl) | (apply wo_skip; rfl; rfl; rfl; rfl) | (apply wo_skip_u; rfl; rfl; rfl) | (apply a_gt; rfl; rfl; (· first | assumption | omega)) | (apply a_gf; rfl; rfl; (· first | assumption | omega)) ))
            exact loop_end ⟨i + 1, l', bk', now', N', out, a1, a5, p1, d1, p5, d5, R1 ++ R5, H1, km', rfl, hS3.mono (fun r hr => List.mem_append_left _ hr), hS5.mono (fun r hr => List.mem_append_right _ hr), hC3.append hC5, hQ2, hK3, hkm', by omega, by omega, by omega, by omega, by omega, by omega, rfl⟩ (by omega) (wk_mk (by (repeat (first | apply wkf_nil | (apply wkf_cons; rfl))); done) (by (repeat (apply sub_cons; (· (repeat (first | apply sel_here ))))); first | exact sub_tl0 | exact sub_tl1 | exact sub_tl2) (by first | exact fun _ h => h | (intro r hr; cases hr; done) | (simp; done) | exact fun _ h => List.mem_append_left _ h | (intro r hr; simp [hr]; done)))
        · by_cases hx2 : last = 0
          · (repeat (first | ((first | (apply wo_v; rfl) ); (· first | (apply pv_ev; rfl) | (apply g_pick; first | (apply pv_pick_t; rfl; rfl) | (apply pv_pick_f; rfl; rfl)) | (apply g_bin; first | (apply a_add; rfl; rfl; infer_instance; omega) ) | (apply g_un; first | (apply pv_not_t; rfl) ) )) | ((apply wo_v; rfl); (· first | (apply g_lk; first | (apply pv_mlk_n; rfl; rfl; (· (repeat (first | apply sel_here | apply sel_there))); (· assumption)) | (apply pv_mlk_s; rfl; rfl; (· (repeat (first | apply sel_here | apply sel_there))); (· assumption)) ) )) | apply wo_nil | apply wc_seq | apply wc_region | apply wc_skip | (apply wc_true; rfl) | (apply wc_false; rfl) | (apply a_dec_t; rfl; (· first | assumption | omega)) | (apply wo_run; rfl; rfl) | (apply wo_skip; rfl; rfl; rfl; rfl) | (apply wo_skip_u; rfl; rfl; rfl) | (apply a_gt; rfl; rfl; (· first | assumption | omega)) ))
            exact loop_end ⟨i + 1, l', bk', now', N', out, a1, a5, p1, d1, p5, d5, R1 ++ R5, H1, km', rfl, hS3.mono (fun r hr => List.mem_append_left _ hr), hS5.mono (fun r hr => List.mem_append_right _ hr), hC3.append hC5, hQ2, hK3, hkm', by omega, by omega, by omega, by omega, by omega, by omega, rfl⟩ (by omega) (wk_mk (by (repeat (first | apply wkf_nil | (apply wkf_cons; rfl))); done) (by (repeat (apply sub_cons; (· (repeat (first | apply sel_here ))))); first | exact sub_tl0 | exact sub_tl1 | exact sub_tl2) (by first | exact fun _ h => h | (intro r hr; cases hr; done) | (simp; done) | exact fun _ h => List.mem_append_left _ h | (intro r hr; simp [hr]; done)))
          · (repeat (first | ((first | (apply wo_v; rfl) ); (· first | (apply pv_ev; rfl) | (apply g_pick; first | (apply pv_pick_t; rfl; rfl) | (apply pv_pick_f; rfl; rfl)) | (apply g_bin; first | (apply a_add; rfl; rfl; infer_instance; omega) ) | (apply g_un; first | (apply pv_not_t; rfl) ) )) | ((apply wo_v; rfl); (· first | (apply g_lk; first | (apply pv_mlk_n; rfl; rfl; (· (repeat (first | apply sel_here | apply sel_there))); (· assumption)) | (apply pv_mlk_s; rfl; rfl; (· (repeat (first | apply sel_here | apply sel_there))); (· assumption)) ) )) | apply wo_nil | apply wc_seq | apply wc_region | apply wc_skip | (apply wc_true; rfl) | (apply wc_false; rfl) | (apply a_dec_t; rfl; (· first | assumption | omega)) | (apply wo_run; rfl; rfl) | (apply wo_skip; rfl; rfl; rfl; rfl) | (apply wo_skip_u; rfl; rfl; rfl) | (apply a_gt; rfl; rfl; (· first | assumption | omega)) | (apply a_gf; rfl; rfl; (· first | assumption | omega)) ))
            exact loop_end ⟨i + 1, l', bk', now', N', out, a1, a5, p1, d1, p5, d5, R1 ++ R5, H1, km', rfl, hS3.mono (fun r hr => List.mem_append_left _ hr), hS5.mono (fun r hr => List.mem_append_right _ hr), hC3.append hC5, hQ2, hK3, hkm', by omega, by omega, by omega, by omega, by omega, by omega, rfl⟩ (by omega) (wk_mk (by (repeat (first | apply wkf_nil | (apply wkf_cons; rfl))); done) (by (repeat (apply sub_cons; (· (repeat (first | apply sel_here ))))); first | exact sub_tl0 | exact sub_tl1 | exact sub_tl2) (by first | exact fun _ h => h | (intro r hr; cases hr; done) | (simp; done) | exact fun _ h => List.mem_append_left _ h | (intro r hr; simp [hr]; done)))
    · rw [if_neg h0] at hK3
      (repeat (first | ((first | (apply wo_v; rfl) ); (· first | (apply pv_ev; rfl) | (apply g_bin; first | (apply a_add; rfl; rfl; infer_instance; omega) ) )) | apply wo_nil | apply wc_seq | apply wc_region | apply wc_skip | (apply wc_true; rfl) | (apply wc_false; rfl) | (apply a_dec_t; rfl; (· first | assumption | omega)) | (apply a_dec_f; rfl; (· first | assumption | omega)) ))
      exact loop_end ⟨i + 1, l', bk', now', N', last, a1, a5, p1, d1, p5, d5, R1 ++ R5, H1, km', rfl, hS3.mono (fun r hr => List.mem_append_left _ hr), hS5.mono (fun r hr => List.mem_append_right _ hr), hC3.append hC5, hQ2, hK3, hkm', by omega, by omega, by omega, by omega, by omega, by omega, rfl⟩ (by omega) (wk_mk (by (repeat (first | apply wkf_nil | (apply wkf_cons; rfl))); done) (by (repeat (apply sub_cons; (· (repeat (first | apply sel_here ))))); first | exact sub_tl0 | exact sub_tl1 | exact sub_tl2) (by first | exact fun _ h => h | (intro r hr; cases hr; done) | (simp; done) | exact fun _ h => List.mem_append_left _ h | (intro r hr; simp [hr]; done)))
  · have hex2 : ¬ (i < n) ∨ (i < n ∧ ¬ i < 150) := by omega
    rcases hex2 with h | ⟨h, h'⟩
    all_goals
      (repeat (first | ((first | (apply wo_v; rfl) ); (· first | (apply pv_ev; rfl) | (apply g_pick; first | (apply pv_pick_t; rfl; rfl) | (apply pv_pick_f; rfl; rfl)) | (apply g_bi; first | (apply pv_len_sl; rfl) ) )) | apply wo_nil | apply wc_seq | apply wc_region | (apply wc_exit; rfl) | apply wc_ret | (apply wc_true; rfl) | (apply wc_false; rfl) | (apply a_dec_t; rfl; (· first | assumption | omega)) | (apply a_dec_f; rfl; (· first | assumption | omega)) | (apply wo_run; rfl; rfl) | (apply wo_skip; rfl; rfl; rfl; rfl) | (apply wo_skip_u; rfl; rfl; rfl) | (apply a_gt; rfl; rfl; (· first | assumption | omega)) | (apply a_gf; rfl; rfl; (· first | assumption | omega)) ))
      exact ret1 rfl rfl rfl ((by (repeat (first | apply sub_nil )); done) : List.Perm _ ([] ++ _)) (by first | exact fun _ h => h | (intro r hr; cases hr; done) | (simp; done) | exact fun _ h => List.mem_append_left _ h | (intro r hr; simp [hr]; done))
theorem queueKeys_walk (f : Int) (hf : -9223372036854775808 ≤ f ∧ f ≤ 9223372036854775807) (m : Int) (hm : -9223372036854775808 ≤ m ∧ m ≤ 9223372036854775807) (a : Int) (ha : -9223372036854775808 ≤ a ∧ a ≤ 9223372036854775807)
    (A : Option Addr) (n c : Nat) (V : Nat → Nat → Value) {w : World} (hV : Rws [.int .i64, .int .i64, .bool] w A n c V) :
    Calls Try.prog 5 #[.int .i64 f, .int .i64 m, .int .i64 a, .slice A n c] w fun e w' => e = .returned (.bool true) ∧ Below w.heap.size w w' := by
  obtain ⟨kd, sz, ky, R, hR, h0⟩ := rws_act hV
  have hb := hV.1
  have hb2 := hV.2.1
  unfold maxLen at hb2
  exact walk_of (queueKeys_fn f m a A n c kd sz ky R (by omega) h0) hR
end Go.Proofs.Ytbhegdlpmeeekaa
