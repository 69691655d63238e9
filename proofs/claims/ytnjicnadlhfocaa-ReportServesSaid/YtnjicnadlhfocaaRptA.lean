/-
  ReportAsked: what is asked of other sources is not asked of this one.
-/
import Derived.Test.YtnjicnadlhfocaaRptC
import Derived.Test.YtnjicnadlhfocaaPairs
namespace Go.Proofs.Ytnjicnadlhfocaa
set_option linter.unusedSimpArgs false
set_option linter.unusedVariables false
open Go.RowKit
attribute [local irreducible] Pv WO WC Fn
set_option maxRecDepth 100000
theorem nSeqsO (f0 to : Int) (l : List (Int × Int)) (A : Option Addr) (n c : Nat) (hl : l.length ≤ 100000) (hb : ∀ x ∈ l, in16 x.1 ∧ in16 x.2) :
    Fn Try.prog 21 #[.agg #[.int .u32 f0, .int .u32 to, .slice A n c]] [pO A n c l] [] (fun v L' R' => ∃ ao c', v = .slice ao (seqL l).length c' ∧ L' = [sO ao (seqL l).length c' (seqL l), pO A n c l] ∧ R' = []) := by
  refine (Fn.own (Q := fun v L0 => ∃ ao c', v = .slice ao (seqL l).length c' ∧ L0 = [sO ao (seqL l).length c' (seqL l)]) (fun R hS => (nSeqs f0 to l A n c R hS hl hb).mono ?_)).mono ?_
  · rintro v L' R' ⟨ao, c', h1, h2, h3⟩; exact ⟨⟨ao, c', h1, h2⟩, h3⟩
  · rintro v L' R' ⟨L0, ⟨ao, c', h1, h2⟩, h3, h4⟩; exact ⟨ao, c', h1, by rw [h3, h2]; rfl, h4⟩
def tblR (ps : List (Int × Int)) (sl : List Int) : Nat → List (List It) → Value → List (List It) → Prop := fun k Ls v Ms => match k, Ls with
  | 4, _ => ∃ ao c, v = .slice ao ps.length c ∧ Ms = [[pO ao ps.length c ps]]
  | 6, [x, _] => ∃ ao c, v = .slice ao sl.length c ∧ Ms = [x, [sO ao sl.length c sl]]
  | _, _ => False
set_option maxHeartbeats 32000000 in
theorem reportAsked_fn (s o : Int) (l : List Int) (A : Option Addr) (n c : Nat) (R : List Ro) (bt : Int) (hbt : in64 bt) (ho : in32 o) (hc : c ≤ 9223372036854775807) (hnc : n ≤ c) (hS : SQ R 1 A n c (c16 l)) (hb : ∀ x ∈ l, in16 x) :
    Fn Try.prog 5 #[.int .u32 s, .int .u32 o, .slice A n c, .int .u64 bt] [] R (fun v _ _ => v = .bool true) := by
  refine fn_intro Try.func5 rfl Try.ntmps5 rfl (fun E => ?_)
  (repeat (first | ((first | (apply wo_v; rfl) ); (· first | (apply pv_ev; rfl) )) | apply wo_nil | apply wc_seq | apply wc_region ))
  (refine wo_call (awake17) rfl (by (repeat (first | apply sub_nil )); done) (by first | exact fun _ h => h | (intro r hr; cases hr; done) | (simp; done) | exact fun _ h => List.mem_append_left _ h | (intro r hr; simp [hr]; done)) rfl ?_; rintro v L' R' ⟨rfl, rfl, rfl⟩ H' hH RR hR; simp only [List.cons_append, List.nil_append] at hH hR; subst hH; have hR := hR.symm; subst hR)
  (repeat (first | ((first | (apply wo_v; rfl) ); (· first | (apply pv_ev; rfl) | (apply g_bi; first | (apply pv_len_sl; rfl) ) | (apply g_un; first | (apply pv_not_t; rfl) ) )) | apply wo_nil | apply wc_seq | apply wc_region | apply wc_skip | (apply wc_true; rfl) | (apply wc_false; rfl) | (apply a_dec_t; rfl; (· first | assumption | omega)) | (apply a_dec_f; rfl; (· first | assumption | omega)) | (apply a_dec_t; rfl; (· first | (simp; done) | (simp; omega))) | (apply a_dec_f; rfl; (· first | (simp; done) | (simp; omega))) ))
  refine wc_join0 (fun st => ∃ (l2 : List Int) (A2 : Option Addr) (n2 c2 : Nat) (R2 : List Ro), st = ⟨[(0, .int .u32 s), (1, .int .u32 o), (2, .slice A2 n2 c2), (3, .int .u64 bt)], [], R2⟩ ∧ SQ R2 1 A2 n2 c2 (c16 l2) ∧ l2.length ≤ 12 ∧ ∀ x ∈ l2, in16 x) ?_ ?_
  · have hn : n = l.length := by rw [← hS.len, c16_len]
    by_cases h12 : 12 < n
    · obtain ⟨a0, o0, rfl, hmem⟩ := hS.pos (by omega)
      (repeat (first | ((first | (apply wo_v; rfl) ); (· first | (apply pv_ev; rfl) )) | apply wc_region | (apply wc_true; rfl) | (apply wc_false; rfl) | (apply a_dec_t; rfl; (· first | assumption | omega)) ))
      refine wo_cut_ro (l := 0) (h := 12) (m := c) rfl hmem (.hi rfl rfl (by omega)) (by omega) rfl (fun o3 ho3 => ?_)
      (repeat (first | ((first | (apply wo_v; rfl) ); (· first | (apply pv_ev; rfl) )) | apply wo_nil ))
      have e : ((c16 l).take 12).drop 0 = c16 (l.take 12) := by rw [List.drop_zero, c16, c16, List.map_take]
      rw [e]
      refine cut_end ⟨l.take 12, _, 12, c, _, rfl, ⟨by rw [c16_len, List.length_take]; omega, fun _ => ⟨a0, o3, rfl, ?_⟩⟩, by rw [List.length_take]; omega, fun x hx => hb x (List.mem_of_mem_take hx)⟩ (wk_mk (by (repeat (first | apply wkf_nil | (apply wkf_cons; rfl))); done) (by (repeat (first | apply sub_nil )); done) (by first | exact fun _ h => h | (intro r hr; cases hr; done) | (simp; done) | exact fun _ h => List.mem_append_left _ h | (intro r hr; simp [hr]; done)))
      rw [ho3 (by omega)]; exact List.mem_cons_self (l := R)
    · (repeat (first | apply wc_skip | (apply wc_true; rfl) | (apply wc_false; rfl) | (apply a_dec_t; rfl; (· first | assumption | omega)) | (apply a_dec_f; rfl; (· first | assumption | omega)) ))
      exact cut_end ⟨l, A, n, c, R, rfl, hS, by omega, hb⟩ (wk_mk (by (repeat (first | apply wkf_nil | (apply wkf_cons; rfl))); done) (by (repeat (first | apply sub_nil )); done) (by first | exact fun _ h => h | (intro r hr; cases hr; done) | (simp; done) | exact fun _ h => List.mem_append_left _ h | (intro r hr; simp [hr]; done)))
  clear hS hb hnc hc
  rintro st ⟨l2, A2, n2, c2, R2, rfl, hS, hl, hb⟩
  obtain ⟨hpi, hpl⟩ := pairM_ok hb
  have q1 := nPairs l2 A2 n2 c2 R2 hS (by omega) hb
  (repeat (first | ((first | (apply wo_v; rfl) ); (· first | (apply pv_ev; rfl) )) | apply wc_seq | apply wc_region ))
  (refine wo_call (q1) rfl (by (repeat (first | apply sub_nil )); done) (by first | exact fun _ h => h | (intro r hr; cases hr; done) | (simp; done) | exact fun _ h => List.mem_append_left _ h | (intro r hr; simp [hr]; done)) rfl ?_; rintro v L' R' ⟨ao, c', rfl, rfl, rfl⟩ H' hH RR hR; simp only [List.cons_append, List.nil_append] at hH hR; subst hH; have hR := hR.symm; subst hR)
  (repeat (first | ((first | (apply wo_v; rfl) ); (· first | (apply pv_ev; rfl) | (apply g_build; apply pv_build; (· (repeat (first | apply Bld.nil | (apply Bld.one; rfl; rfl; (· (repeat (first | apply SetAt.here | apply SetAt.there)))) )))) | (apply pv_mki; rfl; infer_instance) )) | apply wo_nil | apply wc_seq | apply wc_region | (apply wo_bsl; (· (repeat (first | apply Rws'.nil | (apply Rws'.one; rfl; rfl; rfl) | (apply Rws'.agg; rfl; rfl; rfl)))); rfl; rfl; rfl; rfl; intro bx) ))
  rename_i b70 b34 b77
  refine wo_still (ao := some ⟨bx, 0, none⟩) (n := 5) (c := 5) (by (repeat (first | apply sel_here )); done) (fun R5 hS5 => ?_)
  refine wo_still (ao := some ⟨b77, 0, none⟩) (n := 1) (c := 1) (by (repeat (first | apply sel_here )); done) (fun R4 hS4 => ?_)
  refine wo_still (ao := some ⟨b34, 0, none⟩) (n := 1) (c := 1) (by (repeat (first | apply sel_here )); done) (fun R3 hS3 => ?_)
  refine wo_still (ao := some ⟨b70, 0, none⟩) (n := 1) (c := 1) (by (repeat (first | apply sel_here )); done) (fun R6 hS6 => ?_)
  refine wo_still (ao := ao) (c := c') (by (repeat (first | apply sel_here )); done) (fun R7 hS7 => ?_)
  have hS5 := hS5.sq.mono (R' := R7 ++ (R6 ++ (R3 ++ (R4 ++ (R5 ++ R2))))) (fun r hr => List.mem_append_right _ (List.mem_append_right _ (List.mem_append_right _ (List.mem_append_right _ hr))))
  have hS4 := hS4.sq.mono (R' := R7 ++ (R6 ++ (R3 ++ (R4 ++ (R5 ++ R2))))) (fun r hr => List.mem_append_right _ (List.mem_append_right _ (List.mem_append_right _ hr)))
  have hS3 := hS3.sq.mono (R' := R7 ++ (R6 ++ (R3 ++ (R4 ++ (R5 ++ R2))))) (fun r hr => List.mem_append_right _ (List.mem_append_right _ hr))
  have hS6 := hS6.sq.mono (R' := R7 ++ (R6 ++ (R3 ++ (R4 ++ (R5 ++ R2))))) (fun r hr => List.mem_append_right _ hr)
  have hS7 := hS7.sq
  have hS := hS.mono (R' := R7 ++ (R6 ++ (R3 ++ (R4 ++ (R5 ++ R2))))) (fun r hr => List.mem_append_right _ (List.mem_append_right _ (List.mem_append_right _ (List.mem_append_right _ (List.mem_append_right _ hr)))))
  generalize R7 ++ (R6 ++ (R3 ++ (R4 ++ (R5 ++ R2)))) = RG at hS hS3 hS4 hS5 hS6 hS7 ⊢
  have hP : PksV RG [.nack 0 o (pairM l2), .pli 0 o, .fir 0 [(o, 0)], .remb 0 bt [o], .bye [o] ByteArray.empty] [.iface 66 (.agg #[.int .u32 0, .int .u32 o, .slice ao (pairM l2).length c']), .iface 68 (.agg #[.int .u32 0, .int .u32 o]), .iface 73 (.agg #[.int .u32 0, .slice (some ⟨b70, 0, none⟩) 1 1]), .iface 75 (.agg #[.int .u32 0, .int .u64 bt, .slice (some ⟨b34, 0, none⟩) 1 1]), .iface 77 (.agg #[.slice (some ⟨b77, 0, none⟩) 1 1, .string ByteArray.empty])] :=
    (((((PksV.nil RG).snoc (p := .nack 0 o (pairM l2)) ⟨ao, _, c', rfl, hS7⟩).snoc (p := .pli 0 o) rfl).snoc (p := .fir 0 [(o, 0)]) ⟨_, _, _, rfl, hS6⟩).snoc (p := .remb 0 bt [o]) ⟨_, _, _, rfl, hS3⟩).snoc (p := .bye [o] ByteArray.empty) ⟨_, _, _, rfl, hS4⟩
  have z32 : in32 0 := by unfold in32; omega
  have hok : ∀ p ∈ [Pkt.nack 0 o (pairM l2), .pli 0 o, .fir 0 [(o, 0)], .remb 0 bt [o], .bye [o] ByteArray.empty], p.ok 1000 := by
    intro p hp
    simp only [List.mem_cons, List.not_mem_nil, or_false] at hp
    rcases hp with rfl | rfl | rfl | rfl | rfl
    · exact ⟨z32, ho, hpi, by omega⟩
    · exact ⟨z32, ho⟩
    · exact ⟨z32, (fun x hx => by rcases List.mem_singleton.1 hx with rfl; exact ⟨ho, by unfold in8; omega⟩), by simp⟩
    · exact ⟨z32, hbt, (fun x hx => by rcases List.mem_singleton.1 hx with rfl; exact ho), by simp⟩
    · exact ⟨(fun x hx => by rcases List.mem_singleton.1 hx with rfl; exact ho), by simp, by decide⟩
  have qr := fun h => pRead s _ _ (some ⟨bx, 0, none⟩) 5 5 RG h hP (by simp) hok
  have qr := qr hS5
  have hrd : rdA s [.nack 0 o (pairM l2), .pli 0 o, .fir 0 [(o, 0)], .remb 0 bt [o], .bye [o] ByteArray.empty] = if s = o then ⟨seqL (pairM l2), true, bt, true⟩ else ⟨[], false, 0, false⟩ := by
    by_cases h : s = o
    · subst h
      have := hbt.1
      rw [if_pos rfl]
      simp only [rdA, List.foldl, stepA, if_true, List.nil_append, rtM, List.mem_singleton, List.any_cons, List.any_nil, decide_true, Bool.or_true, Bool.true_or, Bool.or_false, true_and, true_or, and_true]
      congr 1
      split <;> omega
    · rw [if_neg h]
      have h' : ¬ o = s := fun e => h e.symm
      simp [rdA, stepA, rtM, h, h']
  rw [hrd] at qr
  by_cases h : s = o
  · rw [if_pos h] at qr
    dsimp only at qr
    (refine wo_call (qr) rfl (by (repeat (first | apply sub_nil )); done) (by first | exact fun _ h => h | (intro r hr; cases hr; done) | (simp; done) | exact fun _ h => List.mem_append_left _ h | (intro r hr; simp [hr]; done)) rfl ?_; rintro v L' R' ⟨a2, k2, rfl, rfl, rfl⟩ H' hH RR hR; simp only [List.cons_append, List.nil_append] at hH hR; subst hH; have hR := hR.symm; subst hR)
    (repeat (first | ((first | (apply wo_v; rfl) ); (· first | (apply pv_ev; rfl) )) | apply wo_nil | apply wc_seq | apply wc_region | apply wc_skip | (apply wc_true; rfl) | (apply wc_false; rfl) | (apply a_dec_t; rfl; (· first | assumption | omega)) | (apply a_dec_f; rfl; (· first | assumption | omega)) | (apply wo_alloc; rfl; intro bx) | (apply wo_sta; rfl; rfl; rfl; rfl; (· (repeat (first | apply sel_here ))); (· (repeat (first | apply LayAt.nil | apply LayAt.here ))); rfl) ))
    have q1 := nPairs l2 A2 n2 c2 RG hS (by omega) hb
    have q2 := fun ao c => nSeqsO 0 0 (pairM l2) ao (pairM l2).length c (by omega) hpi
    generalize hps : pairM l2 = ps at *
    generalize hsl : seqL ps = sl at *
    (refine wc_regM [0, 1] (aslL [(4, [0]), (6, [0, 1])]) (tblR ps sl) ([aO bx (.slice a2 sl.length k2) true bt true, sO a2 sl.length k2 sl]) (fm [(0, []), (1, [])]) mixed (by kernel_rfl) (by kernel_rfl) (by decide) (aslL_ok (by decide)) (by (repeat (first | (apply prm_cons; (· (repeat (first | apply sel_here )))) | apply List.Perm.nil )); done) ?_; (repeat (first | (apply HdM.val; rfl; rfl; (· first | apply gok_none ); (· first | (apply pv_ev; rfl) | (apply pv_fld; rfl) | (apply g_load; first | (apply pv_ld; rfl; (· (repeat (first | apply sel_here ))); rfl) ) | (apply g_bi; first | (apply pv_len_sl; rfl) ) )) )))
    (refine hm_eff (cs := [0]) rfl (by decide) rfl rfl (by first | exact gok_none | exact gok_run rfl rfl) (fun a ha => outc_mono (outc_call (F1 := _) (T := fun v M => ∃ ao c, v = .slice ao ps.length c ∧ M = [pO ao ps.length c ps]) q1 rfl (by (repeat (first | apply sub_nil )); done) (by first | exact fun _ h => h | (intro r hr; cases hr; done) | (simp; done) | exact fun _ h => List.mem_append_left _ h | (intro r hr; simp [hr]; done)) (by rintro v L' R' ⟨ao2, c2, rfl, rfl, _⟩; exact ⟨_, ⟨ao2, c2, rfl, rfl⟩, (by (repeat (first | (apply prm_cons; (· (repeat (first | apply sel_here )))) | apply List.Perm.nil )); done)⟩) a ha) (fun v M h => by obtain ⟨ao2, c2, h1, h2⟩ := h; exact ⟨[M], ⟨ao2, c2, h1, congrArg (fun x => [x]) h2⟩, rfl, by simp⟩)) (⟨_, _, ⟨none, 0, rfl, rfl⟩, rfl⟩) ?_; rintro v Ms ⟨ao5, c5, rfl, rfl⟩ _; simp only [setls, setl, reduceIte, Nat.reduceEqDiff]; (repeat (first | (apply HdM.val; rfl; rfl; (· first | apply gok_none ); (· first | (apply pv_ev; rfl) | (apply g_build; apply pv_build; (· (repeat (first | apply Bld.nil | (apply Bld.one; rfl; rfl; (· (repeat (first | apply SetAt.here | apply SetAt.there)))) )))) )) )))
    (refine hm_eff (cs := [0, 1]) rfl (by decide) rfl rfl (by first | exact gok_none | exact gok_run rfl rfl) (fun a ha => outc_mono (outc_call (F1 := _) (T := fun v M => ∃ ao c, v = .slice ao sl.length c ∧ M = [pO ao5 ps.length c5 ps, sO ao sl.length c sl]) (q2 ao5 c5) rfl (by (repeat (first | apply sub_nil )); done) (by first | exact fun _ h => h | (intro r hr; cases hr; done) | (simp; done) | exact fun _ h => List.mem_append_left _ h | (intro r hr; simp [hr]; done)) (by rintro v L' R' ⟨ao2, c2, rfl, rfl, _⟩; exact ⟨_, ⟨ao2, c2, rfl, rfl⟩, (by (repeat (first | (apply prm_cons; (· (repeat (first | apply sel_here | apply sel_there)))) | apply List.Perm.nil )); done)⟩) a ha) (fun v M h => by obtain ⟨ao2, c2, h1, h2⟩ := h; exact ⟨[[_], [_]], ⟨ao2, c2, h1, rfl⟩, rfl, h2⟩)) (⟨_, _, ⟨none, 0, rfl, rfl⟩, rfl⟩) ?_; rintro v Ms ⟨ao6, c6, rfl, rfl⟩ _; simp only [setls, setl, reduceIte, Nat.reduceEqDiff]; (repeat (first | (apply HdM.val; rfl; rfl; (· first | apply gok_none | (apply gok_run; rfl; rfl)); (· first | (apply pv_ev; rfl) | (apply pv_fld; rfl) | (apply g_load; first | (apply pv_ld; rfl; (· (repeat (first | apply sel_here ))); rfl) ) | (apply g_pick; first | (apply pv_pick_t; rfl; rfl) ) | (apply g_bi; first | (apply pv_len_sl; rfl) ) )) | (apply HdM.skip; rfl; rfl; rfl; rfl) | (apply HdM.skipu; rfl; rfl; rfl) | (apply am_gt; rfl; rfl; (· first | assumption | omega)) )))
    (refine HdM.nil ?_; intro H hH; simp only [Hp, fm, look, setl, List.flatMap_cons, List.flatMap_nil, reduceIte, Nat.reduceEqDiff, Option.getD_some, List.append_nil, List.cons_append, List.nil_append] at hH; subst hH)
    (repeat (first | apply wc_ret ))
    exact ret1 rfl rfl (by simp) ((by (repeat (first | apply sub_nil )); done) : List.Perm _ ([] ++ _)) (by first | exact fun _ h => h | (intro r hr; cases hr; done) | (simp; done) | exact fun _ h => List.mem_append_left _ h | (intro r hr; simp [hr]; done))
  · rw [if_neg h] at qr
    dsimp only [List.length_nil] at qr
    (refine wo_call (qr) rfl (by (repeat (first | apply sub_nil )); done) (by first | exact fun _ h => h | (intro r hr; cases hr; done) | (simp; done) | exact fun _ h => List.mem_append_left _ h | (intro r hr; simp [hr]; done)) rfl ?_; rintro v L' R' ⟨a2, k2, rfl, rfl, rfl⟩ H' hH RR hR; simp only [List.cons_append, List.nil_append] at hH hR; subst hH; have hR := hR.symm; subst hR)
    (repeat (first | ((first | (apply wo_v; rfl) ); (· first | (apply pv_ev; rfl) | (apply pv_fld; rfl) | (apply g_load; first | (apply pv_ld; rfl; (· (repeat (first | apply sel_here ))); rfl) ) | (apply g_pick; first | (apply pv_pick_t; rfl; rfl) ) | (apply g_bi; first | (apply pv_len_sl; rfl) ) | (apply g_un; first | (apply pv_not_t; rfl) | (apply pv_not_f; rfl) ) )) | apply wo_nil | apply wc_seq | apply wc_region | apply wc_ret | (apply wc_true; rfl) | (apply wc_false; rfl) | (apply a_dec_t; rfl; (· first | assumption | omega)) | (apply wo_run; rfl; rfl) | (apply wo_alloc; rfl; intro bx) | (apply wo_sta; rfl; rfl; rfl; rfl; (· (repeat (first | apply sel_here ))); (· (repeat (first | apply LayAt.nil | apply LayAt.here ))); rfl) ))
    exact ret1 rfl rfl (by simp) ((by (repeat (first | apply sub_nil )); done) : List.Perm _ ([] ++ _)) (by first | exact fun _ h => h | (intro r hr; cases hr; done) | (simp; done) | exact fun _ h => List.mem_append_left _ h | (intro r hr; simp [hr]; done))
theorem c16_rows {A : Option Addr} {n c : Nat} {V : Nat → Nat → Value} {w : World} (h : Rws [.int .u16] w A n c V) : ∃ (l : List Int) (R : List Ro), (∀ r ∈ R, r.sat w) ∧ SQ R 1 A n c (c16 l) ∧ (∀ x ∈ l, in16 x) ∧ n ≤ c ∧ c ≤ 9223372036854775807 := by
  have h2 := h.1
  have h3 := h.2.1
  obtain ⟨z, R, h4, h5, h6, _⟩ := rws_k h
  refine ⟨(List.range n).map z, R, h4, ⟨by simp [c16], fun h0 => ?_⟩, fun x hx => ?_, h2, by unfold maxLen at h3; omega⟩
  · obtain ⟨b, o, hA, hm⟩ := h6 h0
    have e : kseg .u16 z n = c16 ((List.range n).map z) := by simp [kseg, c16, Function.comp_def]
    exact ⟨b, o, hA, by rw [← e]; exact hm⟩
  · obtain ⟨i, hi, rfl⟩ := List.mem_map.1 hx
    exact h5 i (List.mem_range.1 hi)
theorem reportAsked_walk (a : Int) (ha : 0 ≤ a ∧ a ≤ 4294967295) (b : Int) (hb : 0 ≤ b ∧ b ≤ 4294967295) (A : Option Addr) (n c : Nat) (V : Nat → Nat → Value) {w : World} (hV : Rws [.int .u16] w A n c V) (d : Int) (hd : 0 ≤ d ∧ d ≤ 18446744073709551615) :
    Calls Try.prog 5 #[.int .u32 a, .int .u32 b, .slice A n c, .int .u64 d] w fun e w' => e = .returned (.bool true) ∧ Below w.heap.size w w' := by
  obtain ⟨l, R, hR, hS, hl, h1, h2⟩ := c16_rows hV
  exact walk_of (reportAsked_fn a b l A n c R d hd hb h2 h1 hS hl) hR
end Go.Proofs.Ytnjicnadlhfocaa
