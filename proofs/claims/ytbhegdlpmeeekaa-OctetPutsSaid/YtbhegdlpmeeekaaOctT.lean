/-
  Layer 2: the law's words: awake, take.
-/
import Derived.Test.YtbhegdlpmeeekaaOctU
namespace Go.Proofs.Ytbhegdlpmeeekaa
set_option linter.unusedSimpArgs false
set_option linter.unusedVariables false
open Go.RowKit
attribute [local irreducible] Pv WO WC Fn
theorem rd123 : rdB ⟨#[1, 2, 3]⟩ 0 2 = (⟨#[1, 2]⟩, ⟨#[3]⟩, 0) := by decide
attribute [local irreducible] ByteArray.extract

theorem w258 : E0 ++ numsS 2 [258] = ⟨#[1, 2]⟩ := by decide
set_option maxHeartbeats 1000000 in
set_option maxRecDepth 100000 in
theorem awake02 : Fn Try.prog 27 #[] [] [] (fun v L' R' => v = .bool true ∧ L' = [] ∧ R' = []) := by
  have hU := fun g bl c2 => wU16 g 0 bl c2 none none E0 [258] (by simp) (by simp) ⟨.inl rfl, .inl ⟨rfl, rfl, rfl⟩⟩ (by decide)
  rw [w258] at hU
  have hq6 := fun g => octU16 g ⟨#[1, 2, 3]⟩ ⟨#[1, 2]⟩ ⟨#[3]⟩ 0 0 (by decide) rd123
  rw [show valK ⟨#[1, 2]⟩ (ByteArray.size ⟨#[1, 2]⟩) = 258 from by decide] at hq6
  refine fn_intro Try.func27 rfl Try.ntmps27 rfl (fun E => ?_)
  (repeat (first | ((first | (apply wo_v; rfl) ); (· first | (apply pv_ev; rfl) )) | apply wo_nil | apply wc_seq | apply wc_region | (apply wo_alloc; rfl; intro bx) ))
  (refine wo_call (octRead ⟨#[1, 2, 3]⟩) rfl (by (repeat (first | apply sub_nil )); done) (by first | exact fun _ h => h | (intro r hr; cases hr; done) | (simp; done) | exact fun _ h => List.mem_append_left _ h | (intro r hr; simp [hr]; done)) rfl ?_; rintro v L' R' ⟨g, rfl, rfl, rfl⟩ H' hH RR hR; simp only [List.cons_append, List.nil_append] at hH hR; subst hH; have hR := hR.symm; subst hR)
  (repeat (first | ((first | (apply wo_v; rfl) ); (· first | (apply pv_ev; rfl) )) | apply wo_nil | apply wc_seq | apply wc_region | (apply wo_bsl; (· (repeat (first | apply Rws'.nil | (apply Rws'.one; rfl; rfl; rfl) ))); rfl; rfl; rfl; rfl; intro bx) ))
  refine wo_own0 5 1 ?_
  (refine wo_call (hU _ bx _) rfl (by (repeat (first | apply sub_nil | (apply sub_cons; (· (repeat (first | apply sel_here | apply sel_there)))))); done) (by first | exact fun _ h => h | (intro r hr; cases hr; done) | (simp; done) | exact fun _ h => List.mem_append_left _ h | (intro r hr; simp [hr]; done)) rfl ?_; rintro v L' R' ⟨p', ao', c', rfl, rfl, rfl, hw⟩ H' hH RR hR; simp only [List.cons_append, List.nil_append] at hH hR; subst hH; have hR := hR.symm; subst hR)
  (repeat (first | ((first | (apply wo_v; rfl) ); (· first | (apply pv_ev; rfl) | (apply g_bin; first | (apply pv_neq_p; rfl; rfl) ) )) | (apply wo_run; rfl; rfl) ))
  (refine wo_call (wText _ c' p' ao' ⟨#[1, 2]⟩ hw) rfl (by (repeat (first | apply sub_nil )); done) (by first | exact fun _ h => h | (intro r hr; cases hr; done) | (simp; done) | exact fun _ h => List.mem_append_left _ h | (intro r hr; simp [hr]; done)) rfl ?_; rintro v L' R' ⟨rfl, rfl, rfl⟩ H' hH RR hR; simp only [List.cons_append, List.nil_append] at hH hR; subst hH; have hR := hR.symm; subst hR)
  (repeat (first | ((first | (apply wo_v; rfl) ); (· first | (apply pv_ev; rfl) | (apply g_pick; first | (apply pv_pick_t; rfl; rfl) ) | (apply g_bin; first | (apply pv_neq_p; rfl; rfl) | (apply pv_eql_s; rfl; rfl) ) )) | (apply wo_run; rfl; rfl) ))
  (refine wo_call (hq6 g) rfl (by (repeat (first | apply sub_nil | (apply sub_cons; (· (repeat (first | apply sel_here | apply sel_there)))))); done) (by first | exact fun _ h => h | (intro r hr; cases hr; done) | (simp; done) | exact fun _ h => List.mem_append_left _ h | (intro r hr; simp [hr]; done)) rfl ?_; rintro v L' R' ⟨rfl, rfl, rfl⟩ H' hH RR hR; simp only [List.cons_append, List.nil_append] at hH hR; subst hH; have hR := hR.symm; subst hR)
  (repeat (first | ((first | (apply wo_v; rfl) ); (· first | (apply pv_ev; rfl) | (apply g_pick; first | (apply pv_pick_t; rfl; rfl) ) )) | (apply wo_run; rfl; rfl) ))
  (refine wo_call (octLen g ⟨#[3]⟩ 0) rfl (by (repeat (first | apply sub_nil )); done) (by first | exact fun _ h => h | (intro r hr; cases hr; done) | (simp; done) | exact fun _ h => List.mem_append_left _ h | (intro r hr; simp [hr]; done)) rfl ?_; rintro v L' R' ⟨rfl, rfl, rfl⟩ H' hH RR hR; simp only [List.cons_append, List.nil_append] at hH hR; subst hH; have hR := hR.symm; subst hR)
  (repeat (first | ((first | (apply wo_v; rfl) ); (· first | (apply pv_ev; rfl) | (apply g_pick; first | (apply pv_pick_t; rfl; rfl) ) )) | apply wo_nil | apply wc_ret | (apply wo_run; rfl; rfl) ))
  exact retv rfl (by (repeat (first | apply RV.nil | (apply RV.tmp; rfl) )); done) ⟨by first | rfl | (simp [outV]; done), rfl, rfl⟩ ((by (repeat (first | apply sub_nil )); done) : List.Perm _ ([] ++ _)) (by first | exact fun _ h => h | (intro r hr; cases hr; done) | (simp; done) | exact fun _ h => List.mem_append_left _ h | (intro r hr; simp [hr]; done))
def tk (s : ByteArray) (e kd n : Int) : ByteArray × Int :=
  if kd = 1 then (rdB s e n).2 else if kd = 2 then (rdB s e (min (max n 1) 8)).2 else if kd = 3 then (rdB s e 1).2 else if kd = 4 then (rdB s e 2).2 else if kd = 5 then (rdB s e 4).2
  else if kd = 6 then (rdB s e s.size).2 else if kd = 7 then rdF s e (bits .and .i64 n 7) else (s, e)
theorem rdF_size (s : ByteArray) (e x : Int) : (rdF s e x).1.size ≤ s.size := by
  have hE : E0.size = 0 := rfl
  unfold rdF; split
  · simp [hE]
  · exact Nat.le_refl _
theorem tk_size (s : ByteArray) (e kd n : Int) : (tk s e kd n).1.size ≤ s.size := by
  unfold tk
  split
  · exact rdB_size2 s e n
  split
  · exact rdB_size2 s e _
  split
  · exact rdB_size2 s e _
  split
  · exact rdB_size2 s e _
  split
  · exact rdB_size2 s e _
  split
  · exact rdB_size2 s e _
  split
  · exact rdF_size s e _
  · exact Nat.le_refl _
/-- an error, and nothing is left -/
def REr (s : ByteArray) (e : Int) : Prop := e ≠ 0 → s = E0
theorem rdB_er {s : ByteArray} {e n : Int} (h : REr s e) : REr (rdB s e n).2.1 (rdB s e n).2.2 := by
  unfold rdB
  split
  · exact h
  split
  · exact fun _ => rfl
  split
  · exact fun _ => rfl
  · exact fun h => absurd rfl h
theorem rdF_er {s : ByteArray} {e x : Int} (h : REr s e) : REr (rdF s e x).1 (rdF s e x).2 := by
  unfold rdF
  split
  · exact fun _ => rfl
  · exact h
theorem tk_er {s : ByteArray} {e kd n : Int} (h : REr s e) : REr (tk s e kd n).1 (tk s e kd n).2 := by
  unfold tk
  split
  · exact rdB_er h
  split
  · exact rdB_er h
  split
  · exact rdB_er h
  split
  · exact rdB_er h
  split
  · exact rdB_er h
  split
  · exact rdB_er h
  split
  · exact rdF_er h
  · exact h
abbrev tkL (kd n : Int) : List Value := [.int .i64 kd, .int .i64 n]
abbrev TakeS (g : Nat) (s : ByteArray) (e kd n : Int) (s2 : ByteArray) (e2 : Int) : Prop := Fn Try.prog 28 #[.pointer (some ⟨g, 0, none⟩), .agg (rrL s e).toArray, .agg (tkL kd n).toArray] [rdO g s e] []
    (fun v L' R' => v = .tuple #[.agg (rrL s2 e2).toArray, .bool true] ∧ L' = [rdO g s2 e2] ∧ R' = [])
set_option maxHeartbeats 1000000 in
theorem take1 (g : Nat) (s : ByteArray) (e n : Int) (hs : s.size ≤ 1099511627776) : TakeS g s e 1 n (tk s e 1 n).1 (tk s e 1 n).2 := by
  rw [show tk s e 1 n = (rdB s e n).2 from rfl]
  have h1 := octBytes g s e n hs
  have h2 := rBytes s e n hs
  generalize rdB s e n = q at h1 h2
  obtain ⟨b, s2, e2⟩ := q
  refine fn_intro Try.func28 rfl Try.ntmps28 rfl (fun E => ?_)
  (repeat (first | ((first | (apply wo_v; rfl) ); (· first | (apply pv_ev; rfl) | (apply pv_fld; rfl) | (apply g_load; first | (apply pv_ld; rfl; (· (repeat (first | apply sel_here | apply sel_there))); rfl) ) )) | apply wo_nil | apply wc_seq | apply wc_region | apply wc_block | (apply wc_true; rfl) | (apply wo_box1; rfl; rfl; rfl; intro bx) | (apply wo_boxa; rfl; rfl; intro bx) | (apply wo_alloc; rfl; intro bx) ))
  (refine wo_call (h1) rfl (by (repeat (first | apply sub_nil | (apply sub_cons; (· (repeat (first | apply sel_here | apply sel_there)))))); done) (by first | exact fun _ h => h | (intro r hr; cases hr; done) | (simp; done) | exact fun _ h => List.mem_append_left _ h | (intro r hr; simp [hr]; done)) rfl ?_; rintro v L' R' ⟨rfl, rfl, rfl⟩ H' hH RR hR; simp only [List.cons_append, List.nil_append] at hH hR; subst hH; have hR := hR.symm; subst hR)
  (repeat (first | ((first | (apply wo_v; rfl) ); (· first | (apply pv_ev; rfl) | (apply pv_fld; rfl) | (apply g_load; first | (apply pv_ld; rfl; (· (repeat (first | apply sel_here | apply sel_there))); rfl) | (apply pv_lda; rfl; (· (repeat (first | apply sel_here | apply sel_there))); (· (repeat (first | apply Cut.here0 | apply Cut.here )))) ) )) | apply wo_nil | apply wc_seq | apply wc_region ))
  (refine wo_call (h2) rfl (by (repeat (first | apply sub_nil )); done) (by first | exact fun _ h => h | (intro r hr; cases hr; done) | (simp; done) | exact fun _ h => List.mem_append_left _ h | (intro r hr; simp [hr]; done)) rfl ?_; rintro v L' R' ⟨rfl, rfl, rfl⟩ H' hH RR hR; simp only [List.cons_append, List.nil_append] at hH hR; subst hH; have hR := hR.symm; subst hR)
  (repeat (first | ((first | (apply wo_v; rfl) ); (· first | (apply pv_ev; rfl) | (apply g_load; first | (apply pv_lda; rfl; (· (repeat (first | apply sel_here ))); (· (repeat (first | apply Cut.here0 | apply Cut.here )))) ) | (apply g_bin; first | (apply pv_eql_s; rfl; rfl) ) )) | apply wo_nil | apply wc_seq | apply wc_region | apply wc_ret | (apply wo_alloc; rfl; intro bx) | (apply wo_sta; rfl; rfl; rfl; rfl; (· (repeat (first | apply sel_here | apply sel_there))); (· (repeat (first | apply LayAt.nil | apply LayAt.here ))); rfl) ))
  exact retv rfl (by (repeat (first | apply RV.nil | (apply RV.tmp; rfl) | (apply RV.agg; rfl; (· (repeat (first | apply sel_here ))); infer_instance; (· (repeat (first | apply Cut.here0 | apply Cut.here )))) )); done) ⟨by first | rfl | (simp [outV]; done), rfl, rfl⟩ (by (repeat (first | apply sub_nil | (apply sub_cons; (· (repeat (first | apply sel_here | apply sel_there)))))); done) (by first | exact fun _ h => h | (intro r hr; cases hr; done) | (simp; done) | exact fun _ h => List.mem_append_left _ h | (intro r hr; simp [hr]; done))
set_option maxHeartbeats 1000000 in
theorem take2 (g : Nat) (s : ByteArray) (e n : Int) (hs : s.size ≤ 1099511627776) : TakeS g s e 2 n (tk s e 2 n).1 (tk s e 2 n).2 := by
  rw [show tk s e 2 n = (rdB s e (min (max n 1) 8)).2 from rfl]
  have hz := rdB_size s e (min (max n 1) 8) (by omega)
  obtain ⟨q, hq⟩ : ∃ q, rdB s e (min (max n 1) 8) = q := ⟨_, rfl⟩
  rw [hq] at hz ⊢
  obtain ⟨b, s2, e2⟩ := q
  have h1 := octNum g s b s2 e n e2 hs hq
  have h2 := rTake s b s2 e n e2 hs hq
  refine fn_intro Try.func28 rfl Try.ntmps28 rfl (fun E => ?_)
  (repeat (first | ((first | (apply wo_v; rfl) ); (· first | (apply pv_ev; rfl) | (apply pv_fld; rfl) | (apply g_load; first | (apply pv_ld; rfl; (· (repeat (first | apply sel_here | apply sel_there))); rfl) ) )) | apply wo_nil | apply wc_seq | apply wc_region | apply wc_block | (apply wc_true; rfl) | (apply wc_false; rfl) | (apply wo_box1; rfl; rfl; rfl; intro bx) | (apply wo_boxa; rfl; rfl; intro bx) | (apply wo_alloc; rfl; intro bx) ))
  (refine wo_call (h1) rfl (by (repeat (first | apply sub_nil | (apply sub_cons; (· (repeat (first | apply sel_here | apply sel_there)))))); done) (by first | exact fun _ h => h | (intro r hr; cases hr; done) | (simp; done) | exact fun _ h => List.mem_append_left _ h | (intro r hr; simp [hr]; done)) rfl ?_; rintro v L' R' ⟨rfl, rfl, rfl⟩ H' hH RR hR; simp only [List.cons_append, List.nil_append] at hH hR; subst hH; have hR := hR.symm; subst hR)
  (repeat (first | ((first | (apply wo_v; rfl) ); (· first | (apply pv_ev; rfl) | (apply pv_fld; rfl) | (apply g_load; first | (apply pv_ld; rfl; (· (repeat (first | apply sel_here | apply sel_there))); rfl) | (apply pv_lda; rfl; (· (repeat (first | apply sel_here | apply sel_there))); (· (repeat (first | apply Cut.here0 | apply Cut.here )))) ) )) | apply wo_nil | apply wc_seq | apply wc_region ))
  (refine wo_call (h2) rfl (by (repeat (first | apply sub_nil )); done) (by first | exact fun _ h => h | (intro r hr; cases hr; done) | (simp; done) | exact fun _ h => List.mem_append_left _ h | (intro r hr; simp [hr]; done)) rfl ?_; rintro v L' R' ⟨rfl, rfl, rfl⟩ H' hH RR hR; simp only [List.cons_append, List.nil_append] at hH hR; subst hH; have hR := hR.symm; subst hR)
  (repeat (first | ((first | (apply wo_v; rfl) ); (· first | (apply pv_ev; rfl) | (apply g_load; first | (apply pv_lda; rfl; (· (repeat (first | apply sel_here ))); (· (repeat (first | apply Cut.here0 | apply Cut.here )))) ) )) | apply wo_nil | apply wc_seq | apply wc_region | apply wc_ret | (apply wo_alloc; rfl; intro bx) | (apply wo_sta; rfl; rfl; rfl; rfl; (· (repeat (first | apply sel_here | apply sel_there))); (· (repeat (first | apply LayAt.nil | apply LayAt.here ))); rfl) ))
  exact retv rfl (by (repeat (first | apply RV.nil | (apply RV.tmp; rfl) | (apply RV.agg; rfl; (· (repeat (first | apply sel_here ))); infer_instance; (· (repeat (first | apply Cut.here0 | apply Cut.here )))) )); done) ⟨by first | rfl | (simp [outV]; done), rfl, rfl⟩ (by (repeat (first | apply sub_nil | (apply sub_cons; (· (repeat (first | apply sel_here | apply sel_there)))))); done) (by first | exact fun _ h => h | (intro r hr; cases hr; done) | (simp; done) | exact fun _ h => List.mem_append_left _ h | (intro r hr; simp [hr]; done))
set_option maxHeartbeats 1000000 in
theorem take3 (g : Nat) (s : ByteArray) (e n : Int) (hs : s.size ≤ 1099511627776) : TakeS g s e 3 n (tk s e 3 n).1 (tk s e 3 n).2 := by
  rw [show tk s e 3 n = (rdB s e 1).2 from rfl]
  have hz := rdB_size s e 1 (by omega)
  obtain ⟨q, hq⟩ : ∃ q, rdB s e 1 = q := ⟨_, rfl⟩
  rw [hq] at hz ⊢
  obtain ⟨b, s2, e2⟩ := q
  simp only at hz
  have hv := valK_le8 b (show b.size ≤ 8 by omega)
  have h1 := octU8 g s b s2 e e2 hs hq
  have h2 := rTake s b s2 e 1 e2 hs (by rw [min_max_lit 1 (by omega)]; exact hq)
  refine fn_intro Try.func28 rfl Try.ntmps28 rfl (fun E => ?_)
  (repeat (first | ((first | (apply wo_v; rfl) ); (· first | (apply pv_ev; rfl) | (apply pv_fld; rfl) | (apply g_load; first | (apply pv_ld; rfl; (· (repeat (first | apply sel_here | apply sel_there))); rfl) ) )) | apply wo_nil | apply wc_seq | apply wc_region | apply wc_block | (apply wc_true; rfl) | (apply wc_false; rfl) | (apply wo_box1; rfl; rfl; rfl; intro bx) | (apply wo_boxa; rfl; rfl; intro bx) | (apply wo_alloc; rfl; intro bx) ))
  (refine wo_call (h1) rfl (by (repeat (first | apply sub_nil | (apply sub_cons; (· (repeat (first | apply sel_here | apply sel_there)))))); done) (by first | exact fun _ h => h | (intro r hr; cases hr; done) | (simp; done) | exact fun _ h => List.mem_append_left _ h | (intro r hr; simp [hr]; done)) rfl ?_; rintro v L' R' ⟨rfl, rfl, rfl⟩ H' hH RR hR; simp only [List.cons_append, List.nil_append] at hH hR; subst hH; have hR := hR.symm; subst hR)
  (repeat (first | ((first | (apply wo_v; rfl) ); (· first | (apply pv_ev; rfl) | (apply g_load; first | (apply pv_lda; rfl; (· (repeat (first | apply sel_here | apply sel_there))); (· (repeat (first | apply Cut.here0 | apply Cut.here )))) ) )) | apply wo_nil | apply wc_seq | apply wc_region ))
  (refine wo_call (h2) rfl (by (repeat (first | apply sub_nil )); done) (by first | exact fun _ h => h | (intro r hr; cases hr; done) | (simp; done) | exact fun _ h => List.mem_append_left _ h | (intro r hr; simp [hr]; done)) rfl ?_; rintro v L' R' ⟨rfl, rfl, rfl⟩ H' hH RR hR; simp only [List.cons_append, List.nil_append] at hH hR; subst hH; have hR := hR.symm; subst hR)
  (repeat (first | ((first | (apply wo_v; rfl) ); (· first | (apply pv_ev; rfl) | (apply g_load; first | (apply pv_lda; rfl; (· (repeat (first | apply sel_here ))); (· (repeat (first | apply Cut.here0 | apply Cut.here )))) ) | (apply g_conv; first | (apply a_conv; rfl; infer_instance; infer_instance; infer_instance; omega) ) )) | apply wo_nil | apply wc_seq | apply wc_region | apply wc_ret | (apply wo_alloc; rfl; intro bx) | (apply wo_sta; rfl; rfl; rfl; rfl; (· (repeat (first | apply sel_here | apply sel_there))); (· (repeat (first | apply LayAt.nil | apply LayAt.here ))); rfl) ))
  exact retv rfl (by (repeat (first | apply RV.nil | (apply RV.tmp; rfl) | (apply RV.agg; rfl; (· (repeat (first | apply sel_here ))); infer_instance; (· (repeat (first | apply Cut.here0 | apply Cut.here )))) )); done) ⟨by first | rfl | (simp [outV]; done), rfl, rfl⟩ (by (repeat (first | apply sub_nil | (apply sub_cons; (· (repeat (first | apply sel_here | apply sel_there)))))); done) (by first | exact fun _ h => h | (intro r hr; cases hr; done) | (simp; done) | exact fun _ h => List.mem_append_left _ h | (intro r hr; simp [hr]; done))
set_option maxHeartbeats 1000000 in
theorem take4 (g : Nat) (s : ByteArray) (e n : Int) (hs : s.size ≤ 1099511627776) : TakeS g s e 4 n (tk s e 4 n).1 (tk s e 4 n).2 := by
  rw [show tk s e 4 n = (rdB s e 2).2 from rfl]
  have hz := rdB_size s e 2 (by omega)
  obtain ⟨q, hq⟩ : ∃ q, rdB s e 2 = q := ⟨_, rfl⟩
  rw [hq] at hz ⊢
  obtain ⟨b, s2, e2⟩ := q
  simp only at hz
  have hv := valK_le8 b (show b.size ≤ 8 by omega)
  have h1 := octU16 g s b s2 e e2 hs hq
  have h2 := rTake s b s2 e 2 e2 hs (by rw [min_max_lit 2 (by omega)]; exact hq)
  refine fn_intro Try.func28 rfl Try.ntmps28 rfl (fun E => ?_)
  (repeat (first | ((first | (apply wo_v; rfl) ); (· first | (apply pv_ev; rfl) | (apply pv_fld; rfl) | (apply g_load; first | (apply pv_ld; rfl; (· (repeat (first | apply sel_here | apply sel_there))); rfl) ) )) | apply wo_nil | apply wc_seq | apply wc_region | apply wc_block | (apply wc_true; rfl) | (apply wc_false; rfl) | (apply wo_box1; rfl; rfl; rfl; intro bx) | (apply wo_boxa; rfl; rfl; intro bx) | (apply wo_alloc; rfl; intro bx) ))
  (refine wo_call (h1) rfl (by (repeat (first | apply sub_nil | (apply sub_cons; (· (repeat (first | apply sel_here | apply sel_there)))))); done) (by first | exact fun _ h => h | (intro r hr; cases hr; done) | (simp; done) | exact fun _ h => List.mem_append_left _ h | (intro r hr; simp [hr]; done)) rfl ?_; rintro v L' R' ⟨rfl, rfl, rfl⟩ H' hH RR hR; simp only [List.cons_append, List.nil_append] at hH hR; subst hH; have hR := hR.symm; subst hR)
  (repeat (first | ((first | (apply wo_v; rfl) ); (· first | (apply pv_ev; rfl) | (apply g_load; first | (apply pv_lda; rfl; (· (repeat (first | apply sel_here | apply sel_there))); (· (repeat (first | apply Cut.here0 | apply Cut.here )))) ) )) | apply wo_nil | apply wc_seq | apply wc_region ))
  (refine wo_call (h2) rfl (by (repeat (first | apply sub_nil )); done) (by first | exact fun _ h => h | (intro r hr; cases hr; done) | (simp; done) | exact fun _ h => List.mem_append_left _ h | (intro r hr; simp [hr]; done)) rfl ?_; rintro v L' R' ⟨rfl, rfl, rfl⟩ H' hH RR hR; simp only [List.cons_append, List.nil_append] at hH hR; subst hH; have hR := hR.symm; subst hR)
  (repeat (first | ((first | (apply wo_v; rfl) ); (· first | (apply pv_ev; rfl) | (apply g_load; first | (apply pv_lda; rfl; (· (repeat (first | apply sel_here ))); (· (repeat (first | apply Cut.here0 | apply Cut.here )))) ) | (apply g_conv; first | (apply a_conv; rfl; infer_instance; infer_instance; infer_instance; omega) ) )) | apply wo_nil | apply wc_seq | apply wc_region | apply wc_ret | (apply wo_alloc; rfl; intro bx) | (apply wo_sta; rfl; rfl; rfl; rfl; (· (repeat (first | apply sel_here | apply sel_there))); (· (repeat (first | apply LayAt.nil | apply LayAt.here ))); rfl) ))
  exact retv rfl (by (repeat (first | apply RV.nil | (apply RV.tmp; rfl) | (apply RV.agg; rfl; (· (repeat (first | apply sel_here ))); infer_instance; (· (repeat (first | apply Cut.here0 | apply Cut.here )))) )); done) ⟨by first | rfl | (simp [outV]; done), rfl, rfl⟩ (by (repeat (first | apply sub_nil | (apply sub_cons; (· (repeat (first | apply sel_here | apply sel_there)))))); done) (by first | exact fun _ h => h | (intro r hr; cases hr; done) | (simp; done) | exact fun _ h => List.mem_append_left _ h | (intro r hr; simp [hr]; done))
set_option maxHeartbeats 1000000 in
theorem take5 (g : Nat) (s : ByteArray) (e n : Int) (hs : s.size ≤ 1099511627776) : TakeS g s e 5 n (tk s e 5 n).1 (tk s e 5 n).2 := by
  rw [show tk s e 5 n = (rdB s e 4).2 from rfl]
  have hz := rdB_size s e 4 (by omega)
  obtain ⟨q, hq⟩ : ∃ q, rdB s e 4 = q := ⟨_, rfl⟩
  rw [hq] at hz ⊢
  obtain ⟨b, s2, e2⟩ := q
  simp only at hz
  have hv := valK_le8 b (show b.size ≤ 8 by omega)
  have h1 := octU32 g s b s2 e e2 hs hq
  have h2 := rTake s b s2 e 4 e2 hs (by rw [min_max_lit 4 (by omega)]; exact hq)
  refine fn_intro Try.func28 rfl Try.ntmps28 rfl (fun E => ?_)
  (repeat (first | ((first | (apply wo_v; rfl) ); (· first | (apply pv_ev; rfl) | (apply pv_fld; rfl) | (apply g_load; first | (apply pv_ld; rfl; (· (repeat (first | apply sel_here | apply sel_there))); rfl) ) )) | apply wo_nil | apply wc_seq | apply wc_region | apply wc_block | (apply wc_true; rfl) | (apply wc_false; rfl) | (apply wo_box1; rfl; rfl; rfl; intro bx) | (apply wo_boxa; rfl; rfl; intro bx) | (apply wo_alloc; rfl; intro bx) ))
  (refine wo_call (h1) rfl (by (repeat (first | apply sub_nil | (apply sub_cons; (· (repeat (first | apply sel_here | apply sel_there)))))); done) (by first | exact fun _ h => h | (intro r hr; cases hr; done) | (simp; done) | exact fun _ h => List.mem_append_left _ h | (intro r hr; simp [hr]; done)) rfl ?_; rintro v L' R' ⟨rfl, rfl, rfl⟩ H' hH RR hR; simp only [List.cons_append, List.nil_append] at hH hR; subst hH; have hR := hR.symm; subst hR)
  (repeat (first | ((first | (apply wo_v; rfl) ); (· first | (apply pv_ev; rfl) | (apply g_load; first | (apply pv_lda; rfl; (· (repeat (first | apply sel_here | apply sel_there))); (· (repeat (first | apply Cut.here0 | apply Cut.here )))) ) )) | apply wo_nil | apply wc_seq | apply wc_region ))
  (refine wo_call (h2) rfl (by (repeat (first | apply sub_nil )); done) (by first | exact fun _ h => h | (intro r hr; cases hr; done) | (simp; done) | exact fun _ h => List.mem_append_left _ h | (intro r hr; simp [hr]; done)) rfl ?_; rintro v L' R' ⟨rfl, rfl, rfl⟩ H' hH RR hR; simp only [List.cons_append, List.nil_append] at hH hR; subst hH; have hR := hR.symm; subst hR)
  (repeat (first | ((first | (apply wo_v; rfl) ); (· first | (apply pv_ev; rfl) | (apply g_load; first | (apply pv_lda; rfl; (· (repeat (first | apply sel_here ))); (· (repeat (first | apply Cut.here0 | apply Cut.here )))) ) | (apply g_conv; first | (apply a_conv; rfl; infer_instance; infer_instance; infer_instance; omega) ) )) | apply wo_nil | apply wc_seq | apply wc_region | apply wc_ret | (apply wo_alloc; rfl; intro bx) | (apply wo_sta; rfl; rfl; rfl; rfl; (· (repeat (first | apply sel_here | apply sel_there))); (· (repeat (first | apply LayAt.nil | apply LayAt.here ))); rfl) ))
  exact retv rfl (by (repeat (first | apply RV.nil | (apply RV.tmp; rfl) | (apply RV.agg; rfl; (· (repeat (first | apply sel_here ))); infer_instance; (· (repeat (first | apply Cut.here0 | apply Cut.here )))) )); done) ⟨by first | rfl | (simp [outV]; done), rfl, rfl⟩ (by (repeat (first | apply sub_nil | (apply sub_cons; (· (repeat (first | apply sel_here | apply sel_there)))))); done) (by first | exact fun _ h => h | (intro r hr; cases hr; done) | (simp; done) | exact fun _ h => List.mem_append_left _ h | (intro r hr; simp [hr]; done))
set_option maxHeartbeats 1000000 in
theorem take6 (g : Nat) (s : ByteArray) (e n : Int) (hs : s.size ≤ 1099511627776) : TakeS g s e 6 n (tk s e 6 n).1 (tk s e 6 n).2 := by
  rw [show tk s e 6 n = (rdB s e s.size).2 from rfl]
  have h1 := octRest g s e hs
  have h2 := rBytes s e s.size hs
  generalize rdB s e s.size = q at h1 h2
  obtain ⟨b, s2, e2⟩ := q
  refine fn_intro Try.func28 rfl Try.ntmps28 rfl (fun E => ?_)
  (repeat (first | ((first | (apply wo_v; rfl) ); (· first | (apply pv_ev; rfl) | (apply pv_fld; rfl) | (apply g_load; first | (apply pv_ld; rfl; (· (repeat (first | apply sel_here | apply sel_there))); rfl) ) )) | apply wo_nil | apply wc_seq | apply wc_region | apply wc_block | (apply wc_true; rfl) | (apply wc_false; rfl) | (apply wo_box1; rfl; rfl; rfl; intro bx) | (apply wo_boxa; rfl; rfl; intro bx) | (apply wo_alloc; rfl; intro bx) ))
  (refine wo_call (h1) rfl (by (repeat (first | apply sub_nil | (apply sub_cons; (· (repeat (first | apply sel_here | apply sel_there)))))); done) (by first | exact fun _ h => h | (intro r hr; cases hr; done) | (simp; done) | exact fun _ h => List.mem_append_left _ h | (intro r hr; simp [hr]; done)) rfl ?_; rintro v L' R' ⟨rfl, rfl, rfl⟩ H' hH RR hR; simp only [List.cons_append, List.nil_append] at hH hR; subst hH; have hR := hR.symm; subst hR)
  (repeat (first | ((first | (apply wo_v; rfl) ); (· first | (apply pv_ev; rfl) | (apply pv_fld; rfl) | (apply g_load; first | (apply pv_ld; rfl; (· (repeat (first | apply sel_here | apply sel_there))); rfl) | (apply pv_lda; rfl; (· (repeat (first | apply sel_here | apply sel_there))); (· (repeat (first | apply Cut.here0 | apply Cut.here )))) ) | (apply g_bi; first | (apply pv_len_str; rfl) ) )) | apply wo_nil | apply wc_seq | apply wc_region ))
  (refine wo_call (h2) rfl (by (repeat (first | apply sub_nil )); done) (by first | exact fun _ h => h | (intro r hr; cases hr; done) | (simp; done) | exact fun _ h => List.mem_append_left _ h | (intro r hr; simp [hr]; done)) rfl ?_; rintro v L' R' ⟨rfl, rfl, rfl⟩ H' hH RR hR; simp only [List.cons_append, List.nil_append] at hH hR; subst hH; have hR := hR.symm; subst hR)
  (repeat (first | ((first | (apply wo_v; rfl) ); (· first | (apply pv_ev; rfl) | (apply g_load; first | (apply pv_lda; rfl; (· (repeat (first | apply sel_here ))); (· (repeat (first | apply Cut.here0 | apply Cut.here )))) ) | (apply g_bin; first | (apply pv_eql_s; rfl; rfl) ) )) | apply wo_nil | apply wc_seq | apply wc_region | apply wc_ret | (apply wo_alloc; rfl; intro bx) | (apply wo_sta; rfl; rfl; rfl; rfl; (· (repeat (first | apply sel_here | apply sel_there))); (· (repeat (first | apply LayAt.nil | apply LayAt.here ))); rfl) ))
  exact retv rfl (by (repeat (first | apply RV.nil | (apply RV.tmp; rfl) | (apply RV.agg; rfl; (· (repeat (first | apply sel_here ))); infer_instance; (· (repeat (first | apply Cut.here0 | apply Cut.here )))) )); done) ⟨by first | rfl | (simp [outV]; done), rfl, rfl⟩ (by (repeat (first | apply sub_nil | (apply sub_cons; (· (repeat (first | apply sel_here | apply sel_there)))))); done) (by first | exact fun _ h => h | (intro r hr; cases hr; done) | (simp; done) | exact fun _ h => List.mem_append_left _ h | (intro r hr; simp [hr]; done))
set_option maxHeartbeats 1000000 in
theorem take7 (g : Nat) (s : ByteArray) (e n : Int) (hs : s.size ≤ 1099511627776) : TakeS g s e 7 n (tk s e 7 n).1 (tk s e 7 n).2 := by
  rw [show tk s e 7 n = rdF s e (bits .and .i64 n 7) from rfl]
  have h1 := octFail g s e (bits .and .i64 n 7)
  have h2 := rFail s e (bits .and .i64 n 7)
  generalize rdF s e (bits .and .i64 n 7) = q at h1 h2
  obtain ⟨s2, e2⟩ := q
  refine fn_intro Try.func28 rfl Try.ntmps28 rfl (fun E => ?_)
  (repeat (first | ((first | (apply wo_v; rfl) ); (· first | (apply pv_ev; rfl) | (apply pv_fld; rfl) | (apply g_load; first | (apply pv_ld; rfl; (· (repeat (first | apply sel_here | apply sel_there))); rfl) ) | (apply g_bin; first | (apply pv_and; rfl; rfl) ) )) | apply wo_nil | apply wc_seq | apply wc_region | apply wc_block | (apply wc_true; rfl) | (apply wc_false; rfl) | (apply wo_box1; rfl; rfl; rfl; intro bx) | (apply wo_boxa; rfl; rfl; intro bx) | (apply wo_alloc; rfl; intro bx) ))
  (refine wo_call (h1) rfl (by (repeat (first | apply sub_nil | (apply sub_cons; (· (repeat (first | apply sel_here | apply sel_there)))))); done) (by first | exact fun _ h => h | (intro r hr; cases hr; done) | (simp; done) | exact fun _ h => List.mem_append_left _ h | (intro r hr; simp [hr]; done)) rfl ?_; rintro v L' R' ⟨rfl, rfl, rfl⟩ H' hH RR hR; simp only [List.cons_append, List.nil_append] at hH hR; subst hH; have hR := hR.symm; subst hR)
  (repeat (first | ((first | (apply wo_v; rfl) ); (· first | (apply pv_ev; rfl) | (apply pv_fld; rfl) | (apply g_load; first | (apply pv_ld; rfl; (· (repeat (first | apply sel_here | apply sel_there))); rfl) | (apply pv_lda; rfl; (· (repeat (first | apply sel_here | apply sel_there))); (· (repeat (first | apply Cut.here0 | apply Cut.here )))) ) | (apply g_bin; first | (apply pv_and; rfl; rfl) ) )) | apply wo_nil | apply wc_seq | apply wc_region ))
  (refine wo_call (h2) rfl (by (repeat (first | apply sub_nil )); done) (by first | exact fun _ h => h | (intro r hr; cases hr; done) | (simp; done) | exact fun _ h => List.mem_append_left _ h | (intro r hr; simp [hr]; done)) rfl ?_; rintro v L' R' ⟨rfl, rfl, rfl⟩ H' hH RR hR; simp only [List.cons_append, List.nil_append] at hH hR; subst hH; have hR := hR.symm; subst hR)
  (repeat (first | ((first | (apply wo_v; rfl) ); (· first | (apply pv_ev; rfl) )) | apply wo_nil | apply wc_ret | (apply wo_sta; rfl; rfl; rfl; rfl; (· (repeat (first | apply sel_here | apply sel_there))); (· (repeat (first | apply LayAt.nil | apply LayAt.here ))); rfl) ))
  exact retv rfl (by (repeat (first | apply RV.nil | (apply RV.tmp; rfl) | (apply RV.agg; rfl; (· (repeat (first | apply sel_here ))); infer_instance; (· (repeat (first | apply Cut.here0 | apply Cut.here )))) )); done) ⟨by first | rfl | (simp [outV]; done), rfl, rfl⟩ (by (repeat (first | apply sub_nil | (apply sub_cons; (· (repeat (first | apply sel_here | apply sel_there)))))); done) (by first | exact fun _ h => h | (intro r hr; cases hr; done) | (simp; done) | exact fun _ h => List.mem_append_left _ h | (intro r hr; simp [hr]; done))
theorem takeX (g : Nat) (s : ByteArray) (e kd n : Int) (h1 : ¬ kd = 1) (h2 : ¬ kd = 2) (h3 : ¬ kd = 3) (h4 : ¬ kd = 4) (h5 : ¬ kd = 5) (h6 : ¬ kd = 6) (h7 : ¬ kd = 7) : TakeS g s e kd n s e := by
  refine fn_intro Try.func28 rfl Try.ntmps28 rfl (fun E => ?_)
  (repeat (first | ((first | (apply wo_v; rfl) ); (· first | (apply pv_ev; rfl) | (apply pv_fld; rfl) | (apply g_load; first | (apply pv_ld; rfl; (· (repeat (first | apply sel_here | apply sel_there))); rfl) | (apply pv_lda; rfl; (· (repeat (first | apply sel_here | apply sel_there))); (· (repeat (first | apply Cut.here0 | apply Cut.here )))) ) )) | apply wo_nil | apply wc_seq | apply wc_region | apply wc_block | apply wc_skip | apply wc_ret | (apply wc_true; rfl) | (apply wc_false; rfl) | (apply a_dec_t; rfl; (· first | assumption | omega)) | (apply a_dec_f; rfl; (· first | assumption | omega)) | (apply wo_box1; rfl; rfl; rfl; intro bx) | (apply wo_boxa; rfl; rfl; intro bx) | (apply wo_alloc; rfl; intro bx) | (apply wo_sta; rfl; rfl; rfl; rfl; (· (repeat (first | apply sel_here ))); (· (repeat (first | apply LayAt.nil | apply LayAt.here ))); rfl) ))
  exact retv rfl (by (repeat (first | apply RV.nil | (apply RV.tmp; rfl) | (apply RV.agg; rfl; (· (repeat (first | apply sel_here ))); infer_instance; (· (repeat (first | apply Cut.here0 | apply Cut.here )))) )); done) ⟨by first | rfl | (simp [outV]; done), rfl, rfl⟩ (by (repeat (first | apply sub_nil | (apply sub_cons; (· (repeat (first | apply sel_here | apply sel_there)))))); done) (by first | exact fun _ h => h | (intro r hr; cases hr; done) | (simp; done) | exact fun _ h => List.mem_append_left _ h | (intro r hr; simp [hr]; done))
theorem octTake (g : Nat) (s : ByteArray) (e kd n : Int) (hs : s.size ≤ 1099511627776) : TakeS g s e kd n (tk s e kd n).1 (tk s e kd n).2 := by
  by_cases h1 : kd = 1
  · subst h1; exact take1 g s e n hs
  by_cases h2 : kd = 2
  · subst h2; exact take2 g s e n hs
  by_cases h3 : kd = 3
  · subst h3; exact take3 g s e n hs
  by_cases h4 : kd = 4
  · subst h4; exact take4 g s e n hs
  by_cases h5 : kd = 5
  · subst h5; exact take5 g s e n hs
  by_cases h6 : kd = 6
  · subst h6; exact take6 g s e n hs
  by_cases h7 : kd = 7
  · subst h7; exact take7 g s e n hs
  have e0 : tk s e kd n = (s, e) := by unfold tk; rw [if_neg h1, if_neg h2, if_neg h3, if_neg h4, if_neg h5, if_neg h6, if_neg h7]
  rw [e0]
  exact takeX g s e kd n h1 h2 h3 h4 h5 h6 h7
end Go.Proofs.Ytbhegdlpmeeekaa
