/-
  The reference of rtp: ext.
-/
import Derived.Test.YtabdikemijihjaaRtpP
namespace Go.Proofs.Ytabdikemijihjaa
set_option linter.unusedSimpArgs false
set_option linter.unusedVariables false
open Go.RowKit
attribute [local irreducible] Pv WO WC Fn
set_option maxRecDepth 100000
attribute [local irreducible] ByteArray.extract

theorem qTake (r : Rs) (k : Int) (hk : min (max k 1) 8 = k) (hs : r.1.size ≤ 1000000) : Fn Try.prog 37 #[.agg (rrL r.1 r.2).toArray, .int .i64 k] [] []
    (fun v L' R' => v = .tuple #[.agg (rrL (tK k r).2.1 (tK k r).2.2).toArray, .int .u64 (tK k r).1] ∧ L' = [] ∧ R' = []) := rTake r.1 _ _ r.2 k _ (by omega) (by rw [hk]; rfl)
abbrev qrI (b : Nat) (r : Rs) : It := .ob b (.cells (rrL r.1 r.2).toArray rrT (0, 0))
abbrev qpI (b : Nat) (mrk : Bool) (kd sq t ss : Int) (cs : Value) (ex : Bool) (pf : Int) (dt pl : ByteArray) (pd : Int) : It := .ob b (.cells (rpR mrk kd sq t ss cs ex pf dt pl pd).toArray 48 (0, 0))
def tblE (x y : It) : Nat → List (List It) → Value → List (List It) → Prop := fun k _ v Ms => v = undef ∧ Ms = if k = 2 then [[x]] else [[y]]
set_option maxHeartbeats 4000000 in
theorem qExt (r : Rs) (hs : r.1.size ≤ 100000) (mrk : Bool) (kd sq t ss : Int) (ao : Option Addr) (n c : Nat) (ex : Bool) (p0 : Int) (d0 pl : ByteArray) (pd : Int) :
    Fn Try.prog 50 #[.agg (rrL r.1 r.2).toArray, .agg (rpR mrk kd sq t ss (.slice ao n c) ex p0 d0 pl pd).toArray] [] []
      (fun v L' R' => v = .tuple #[.agg (rrL (exR true r).2.2.1 (exR true r).2.2.2).toArray, .agg (rpR mrk kd sq t ss (.slice ao n c) ex (exR true r).1 (exR true r).2.1 pl pd).toArray] ∧ L' = [] ∧ R' = []) := by
  have w1 := qTake r 2 (by omega) (by omega)
  have s7 := tK_size 2 r
  have w2 := qTake (tK 2 r).2 2 (by omega) (by omega)
  have s8 := tK_size 2 (tK 2 r).2
  have hv := tK2_b (tK 2 r).2
  have hv1 := tK2_b r
  have e1 : exR true r = ((tK 2 r).1, (rdB (tK 2 (tK 2 r).2).2.1 (tK 2 (tK 2 r).2).2.2 (4 * (tK 2 (tK 2 r).2).1)).1, (rdB (tK 2 (tK 2 r).2).2.1 (tK 2 (tK 2 r).2).2.2 (4 * (tK 2 (tK 2 r).2).1)).2) := rfl
  rw [e1]
  generalize tK 2 (tK 2 r).2 = y2 at w2 s8 hv ⊢
  generalize tK 2 r = y1 at w1 w2 s7 s8 hv1 ⊢
  obtain ⟨pf, r7⟩ := y1
  obtain ⟨ln, r8⟩ := y2
  dsimp only at w1 w2 s7 s8 hv hv1 ⊢
  have w3 := rBytes r8.1 r8.2 (4 * ln) (by omega)
  refine fn_intro Try.func50 rfl Try.ntmps50 rfl (fun E => ?_)
  (repeat (first | ((first | (apply wo_v; rfl) ); (· first | (apply pv_ev; rfl) | (apply g_load; first | (apply pv_lda; rfl; (· (repeat (first | apply sel_here | apply sel_there))); (· (repeat (first | apply Cut.here0 | apply Cut.here )))) ) )) | apply wo_nil | apply wc_seq | apply wc_region | (apply wo_box1; rfl; rfl; rfl; intro bx) | (apply wo_boxa; rfl; rfl; intro bx) | (apply wo_alloc; rfl; intro bx) ))
  rename_i b2 b3 b4
  (refine wo_call (w1) rfl (by (repeat (first | apply sub_nil )); done) (by first | exact fun _ h => h | (intro r hr; cases hr; done) | (simp; done) | exact fun _ h => List.mem_append_left _ h | (intro r hr; simp [hr]; done)) rfl ?_; rintro v L' R' ⟨rfl, rfl, rfl⟩ H' hH RR hR; simp only [List.cons_append, List.nil_append] at hH hR; subst hH; have hR := hR.symm; subst hR)
  (repeat (first | ((first | (apply wo_v; rfl) ); (· first | (apply pv_ev; rfl) | (apply g_load; first | (apply pv_lda; rfl; (· (repeat (first | apply sel_here ))); (· (repeat (first | apply Cut.here0 | apply Cut.here )))) ) )) | apply wo_nil | apply wc_seq | apply wc_region | (apply wo_sta; rfl; rfl; rfl; rfl; (· (repeat (first | apply sel_here | apply sel_there))); (· (repeat (first | apply LayAt.nil | apply LayAt.here ))); rfl) ))
  (refine wo_call (w2) rfl (by (repeat (first | apply sub_nil )); done) (by first | exact fun _ h => h | (intro r hr; cases hr; done) | (simp; done) | exact fun _ h => List.mem_append_left _ h | (intro r hr; simp [hr]; done)) rfl ?_; rintro v L' R' ⟨rfl, rfl, rfl⟩ H' hH RR hR; simp only [List.cons_append, List.nil_append] at hH hR; subst hH; have hR := hR.symm; subst hR)
  (repeat (first | ((first | (apply wo_v; rfl) ); (· first | (apply pv_ev; rfl) | (apply g_load; first | (apply pv_lda; rfl; (· (repeat (first | apply sel_here ))); (· (repeat (first | apply Cut.here0 | apply Cut.here )))) ) | (apply g_bin; first | (apply a_mul; rfl; rfl; infer_instance; omega) ) | (apply g_conv; first | (apply a_conv; rfl; infer_instance; infer_instance; infer_instance; omega) ) )) | apply wo_nil | apply wc_seq | apply wc_region | (apply wo_sta; rfl; rfl; rfl; rfl; (· (repeat (first | apply sel_here ))); (· (repeat (first | apply LayAt.nil | apply LayAt.here ))); rfl) ))
  (refine wo_call (w3) rfl (by (repeat (first | apply sub_nil )); done) (by first | exact fun _ h => h | (intro r hr; cases hr; done) | (simp; done) | exact fun _ h => List.mem_append_left _ h | (intro r hr; simp [hr]; done)) rfl ?_; rintro v L' R' ⟨rfl, rfl, rfl⟩ H' hH RR hR; simp only [List.cons_append, List.nil_append] at hH hR; subst hH; have hR := hR.symm; subst hR)
  (repeat (first | ((first | (apply wo_v; rfl) ); (· first | (apply pv_ev; rfl) | (apply pv_fld; rfl) | (apply g_conv; first | (apply a_conv; rfl; infer_instance; infer_instance; infer_instance; omega) ) )) | apply wo_nil | apply wc_seq | apply wc_region | (apply wo_st; rfl; rfl; rfl; (· (repeat (first | apply sel_here | apply sel_there))); (· (repeat (first | apply SetAt.here | apply SetAt.there))); rfl) | (apply wo_sta; rfl; rfl; rfl; rfl; (· (repeat (first | apply sel_here ))); (· (repeat (first | apply LayAt.nil | apply LayAt.here ))); rfl) ))
  obtain ⟨b5, hb5⟩ : ∃ g, g = bx := ⟨_, rfl⟩
  subst hb5
  generalize rdB r8.1 r8.2 (4 * ln) = y
  obtain ⟨dt, r9⟩ := y
  dsimp only
  (refine wc_regM [0, 1] (aslL [(2, [0]), (3, [1])]) (tblE (qrI b4 r9) (qpI b5 mrk kd sq t ss (.slice ao n c) ex pf dt pl pd)) ([qpI b3 mrk kd sq t ss (.slice ao n c) ex pf dt pl pd, qrI b2 r9]) (fm [(0, [qrI b4 (ByteArray.empty, 0)]), (1, [qpI b5 false 0 0 0 0 (.slice none 0 0) false 0 ByteArray.empty ByteArray.empty 0])]) mixed (by kernel_rfl) (by kernel_rfl) (by decide) (aslL_ok (by decide)) (by (repeat (first | (apply prm_cons; (· (repeat (first | apply sel_here | apply sel_there)))) | apply List.Perm.nil )); done) ?_; (repeat (first | (apply HdM.val; rfl; rfl; (· first | apply gok_none ); (· first | (apply pv_ev; rfl) | (apply g_load; first | (apply pv_lda; rfl; (· (repeat (first | apply sel_here | apply sel_there))); (· (repeat (first | apply Cut.here0 | apply Cut.here )))) ) )) )))
  (refine hm_eff (cs := [0]) rfl (by decide) rfl rfl (by first | exact gok_none | exact gok_run rfl rfl) (fun a ha => outc_mono (outc_sta rfl rfl rfl rfl (by (repeat (first | apply LayAt.nil | apply LayAt.here )); done) a ha) (fun v M h => ⟨[M], And.intro h.1 (congrArg (fun x => [x]) h.2), rfl, by simp⟩)) ⟨_, _, And.intro rfl rfl, rfl⟩ ?_; rintro v Ms ⟨rfl, rfl⟩ _; simp only [setls, setl, reduceIte, Nat.reduceEqDiff]; (repeat (first | fail )))
  (refine hm_eff (cs := [1]) rfl (by decide) rfl rfl (by first | exact gok_none | exact gok_run rfl rfl) (fun a ha => outc_mono (outc_sta rfl rfl rfl rfl (by (repeat (first | apply LayAt.nil | apply LayAt.here )); done) a ha) (fun v M h => ⟨[M], And.intro h.1 (congrArg (fun x => [x]) h.2), rfl, by simp⟩)) ⟨_, _, And.intro rfl rfl, rfl⟩ ?_; rintro v Ms ⟨rfl, rfl⟩ _; simp only [setls, setl, reduceIte, Nat.reduceEqDiff]; (repeat (first | fail )))
  (refine HdM.nil ?_; intro H hH; simp only [Hp, fm, look, setl, List.flatMap_cons, List.flatMap_nil, reduceIte, Nat.reduceEqDiff, Option.getD_some, List.append_nil, List.cons_append, List.nil_append] at hH; subst hH)
  (repeat (first | apply wc_ret ))
  exact retv rfl (by (repeat (first | apply RV.nil | (apply RV.agg; rfl; (· (repeat (first | apply sel_here | apply sel_there))); infer_instance; (· (repeat (first | apply Cut.here0 | apply Cut.here )))) )); done) (⟨rfl, rfl, rfl⟩) (by (repeat (first | apply sub_nil )); done) (by first | exact fun _ h => h | (intro r hr; cases hr; done) | (simp; done) | exact fun _ h => List.mem_append_left _ h | (intro r hr; simp [hr]; done))
theorem tK_err {k : Int} {r : Rs} (h : r.2 ≠ 0) : (tK k r).2 = r := by
  unfold tK rdB; rw [if_pos h]
theorem csN_err {r : Rs} (h : r.2 ≠ 0) : ∀ n, (csN r n).2 = r
  | 0 => rfl
  | n + 1 => by
    rw [csN]
    dsimp only
    rw [tK_err (by rw [csN_err h n]; exact h), csN_err h n]
theorem exR_err {b : Bool} {r : Rs} (h : r.2 ≠ 0) : (exR b r).2.2 = r := by
  unfold exR
  split
  · dsimp only
    have e1 := tK_err (k := 2) h
    have e2 : (tK 2 (tK 2 r).2).2 = r := by rw [tK_err (by rw [e1]; exact h), e1]
    rw [e2]; unfold rdB; rw [if_pos h]
  · rfl
theorem tK1_ok {s : ByteArray} (h : 1 ≤ s.size) : (tK 1 (s, 0)).2.2 = 0 := by
  unfold tK rdB
  dsimp only
  rw [if_neg (by simp), if_neg (by omega), if_neg (by omega)]
theorem prR_short {s : ByteArray} (h : s.size < 2) : prR s = (Rp0, 1) := by
  have e1 : (tK 1 (tK 1 (s, 0)).2).2.2 = 1 := by
    rcases t1_e (s, 0) rfl with h1 | h1
    · have h2 := t1_ok (r := (s, 0)) h1
      have h3 : s.size = 1 + (t1 (s, 0)).2.1.size := by
        have := congrArg ByteArray.size h2.2
        simpa [ByteArray.size_append, b1_size] using this
      have h4 : (t1 (s, 0)).2 = ((t1 (s, 0)).2.1, 0) := Prod.ext rfl h1
      show (t1 (t1 (s, 0)).2).2.2 = 1
      rw [h4]
      have h5 : (t1 (s, 0)).2.1 = E0 := ByteArray.size_eq_zero_iff.1 (by omega)
      rw [h5]; exact congrArg (fun x => x.2.2) t1_end
    · show (t1 (t1 (s, 0)).2).2.2 = 1
      rw [t1_err (r := (t1 (s, 0)).2) (by rw [h1]; omega)]; exact h1
  unfold prR
  rw [if_neg (by omega)]
  dsimp only
  rw [if_neg (by rw [e1]; omega)]
  have h0 : (tK 1 (tK 1 (s, 0)).2).2.2 ≠ 0 := by rw [e1]; omega
  generalize (tK 1 (tK 1 (s, 0)).2) = y at e1 h0 ⊢
  have g1 := tK_err (k := 2) h0
  have g2 : (tK 4 (tK 2 y.2).2).2 = y.2 := by rw [tK_err (by rw [g1]; exact h0), g1]
  have g3 : (tK 4 (tK 4 (tK 2 y.2).2).2).2 = y.2 := by rw [tK_err (by rw [g2]; exact h0), g2]
  have g4 : (csN (tK 4 (tK 4 (tK 2 y.2).2).2).2 ((tK 1 (s, 0)).1 % 16).toNat).2 = y.2 := by rw [g3]; exact csN_err h0 _
  unfold enR
  rw [exR_err (by rw [g4]; exact h0), g4]
  have g5 : (rdB y.2.1 y.2.2 y.2.1.size).2.2 = 1 := by unfold rdB; rw [if_pos h0]; exact e1
  rw [if_pos (by rw [g5]; omega), g5]
theorem tK4_b (r : Rs) : 0 ≤ (tK 4 r).1 ∧ (tK 4 r).1 ≤ 4294967295 := by
  have h : (rdB r.1 r.2 4).1.size ≤ 4 := by have := rdB_size r.1 r.2 4 (by omega); omega
  have h1 := valK_b (rdB r.1 r.2 4).1
  obtain ⟨v0, v1, v2, v3, v4, _⟩ := h1
  show 0 ≤ valK _ _ ∧ valK _ _ ≤ 4294967295
  have h2 : (rdB r.1 r.2 4).1.size = 0 ∨ (rdB r.1 r.2 4).1.size = 1 ∨ (rdB r.1 r.2 4).1.size = 2 ∨ (rdB r.1 r.2 4).1.size = 3 ∨ (rdB r.1 r.2 4).1.size = 4 := by omega
  rcases h2 with h2 | h2 | h2 | h2 | h2
  · rw [h2]; simp [valK]
  · rw [h2]; exact ⟨v0 1, by omega⟩
  · rw [h2]; exact ⟨v0 2, by omega⟩
  · rw [h2]; exact ⟨v0 3, by omega⟩
  · rw [h2]; exact ⟨v0 4, v4⟩
theorem sb_b1 {x : Int} (h : 0 ≤ x ∧ x ≤ 255) : sb (b1 x) 0 = x := by
  have := sb_last E0 h
  rwa [E0_append] at this
theorem two_front {s : ByteArray} (h : 2 ≤ s.size) : ∃ r1 : ByteArray, tK 1 (s, 0) = (sb s 0, (r1, 0)) ∧ tK 1 (r1, 0) = (sb s 1, (s.extract 2 s.size, 0)) := by
  have h1 := tK1_ok (s := s) (by omega)
  have hb := t1_b (s, 0)
  have h2 := (t1_ok (r := (s, 0)) h1).2
  rw [show t1 (s, 0) = tK 1 (s, 0) from rfl] at hb h2
  generalize tK 1 (s, 0) = x at h1 h2 hb ⊢
  obtain ⟨a, r1, e1⟩ := x
  dsimp only at h1 h2 hb ⊢
  subst h1
  have hs1 : s.size = 1 + r1.size := by rw [h2, ByteArray.size_append, b1_size]
  have h3 := tK1_ok (s := r1) (by omega)
  have hb2 := t1_b (r1, 0)
  have h4 := (t1_ok (r := (r1, 0)) h3).2
  rw [show t1 (r1, 0) = tK 1 (r1, 0) from rfl] at hb2 h4
  refine ⟨r1, ?_⟩
  generalize tK 1 (r1, 0) = x at h3 h4 hb2 ⊢
  obtain ⟨b, r2, e2⟩ := x
  dsimp only at h3 h4 hb2 ⊢
  subst h3
  have hs : s = b1 a ++ b1 b ++ r2 := by rw [h2, h4, ByteArray.append_assoc]
  have z : (b1 a ++ b1 b).size = 2 := by rw [ByteArray.size_append, b1_size, b1_size]
  have g0 : sb s 0 = a := by rw [h2, sb_left _ _ (by rw [b1_size]; omega), sb_b1 hb]
  have g1 : sb s 1 = b := by
    rw [hs, sb_left _ _ (by rw [z]; omega)]
    have := sb_last (b1 a) hb2
    rwa [b1_size] at this
  have g2 : s.extract 2 s.size = r2 := by
    have := ByteArray.extract_append_eq_right (a := b1 a ++ b1 b) (b := r2) (i := (b1 a ++ b1 b).size) rfl (by rw [ByteArray.size_append])
    rw [z] at this
    rw [hs, show (b1 a ++ b1 b ++ r2).size = 2 + r2.size by rw [ByteArray.size_append, z]]
    simp only [ByteArray.size_append, b1_size] at this
    exact this
  rw [g0, g1, g2]
  exact ⟨rfl, rfl⟩
abbrev qpZ (b : Nat) : It := qpI b false 0 0 0 0 (.slice none 0 0) false 0 ByteArray.empty ByteArray.empty 0
def tblQ (r : List Value) : Nat → List It → Value → List It → Prop := fun k L v M => match k, L with
  | 14, _ => ∃ b, v = .pointer (some ⟨b, 0, none⟩) ∧ M = [qpZ b]
  | _, [.ob b _] => v = undef ∧ M = [.ob b (.cells r.toArray 48 (0, 0))]
  | _, _ => False
set_option maxHeartbeats 16000000 in
theorem qParse (s : ByteArray) (hs : s.size ≤ 100000) : Fn Try.prog 22 #[.string s] [] []
    (fun v L' R' => ∃ ao c, v = .tuple #[.agg (rpR (prR s).1.mrk (prR s).1.kd (prR s).1.sq (prR s).1.t (prR s).1.ss (.slice ao (prR s).1.cs.length c) (prR s).1.ex (prR s).1.pf (prR s).1.dt (prR s).1.pl (prR s).1.pd).toArray, .int .i64 (prR s).2]
      ∧ L' = [csO ao (prR s).1.cs.length c (prR s).1.cs] ∧ R' = []) := by
  by_cases hsh : s.size < 2
  · rw [prR_short hsh]
    refine fn_intro Try.func22 rfl Try.ntmps22 rfl (fun E => ?_)
    refine wc_own0 42 1 ?_
    (repeat (first | ((first | (apply wo_v; rfl) ); (· first | (apply pv_ev; rfl) | (apply g_bi; first | (apply pv_len_str; rfl) ) | (apply g_build; apply pv_build; (· (repeat (first | apply Bld.nil )))) )) | apply wo_nil | apply wc_seq | apply wc_region | apply wc_skip | apply wc_ret | (apply wc_true; rfl) | (apply wc_false; rfl) | (apply a_dec_t; rfl; (· first | assumption | omega)) | (apply a_dec_f; rfl; (· first | assumption | omega)) | (apply wo_alloc; rfl; intro bx) | (apply wo_sta; rfl; rfl; rfl; rfl; (· (repeat (first | apply sel_here ))); (· (repeat (first | apply LayAt.nil | apply LayAt.here ))); rfl) ))
    exact retv rfl (by (repeat (first | apply RV.nil | (apply RV.tmp; rfl) | (apply RV.agg; rfl; (· (repeat (first | apply sel_here ))); infer_instance; (· (repeat (first | apply Cut.here0 | apply Cut.here )))) )); done) (⟨none, 0, rfl, rfl, rfl⟩) (by (repeat (first | apply sub_nil | (apply sub_cons; (· (repeat (first | apply sel_here | apply sel_there)))))); done) (by first | exact fun _ h => h | (intro r hr; cases hr; done) | (simp; done) | exact fun _ h => List.mem_append_left _ h | (intro r hr; simp [hr]; done))
  by_cases h0 : 1500 < s.size
  · unfold prR
    rw [if_pos h0]
    refine fn_intro Try.func22 rfl Try.ntmps22 rfl (fun E => ?_)
    refine wc_own0 42 1 ?_
    (repeat (first | ((first | (apply wo_v; rfl) ); (· first | (apply pv_ev; rfl) | (apply g_bi; first | (apply pv_len_str; rfl) ) | (apply g_build; apply pv_build; (· (repeat (first | apply Bld.nil )))) )) | apply wo_nil | apply wc_seq | apply wc_region | apply wc_ret | (apply wc_true; rfl) | (apply wc_false; rfl) | (apply a_dec_t; rfl; (· first | assumption | omega)) | (apply wo_alloc; rfl; intro bx) | (apply wo_sta; rfl; rfl; rfl; rfl; (· (repeat (first | apply sel_here ))); (· (repeat (first | apply LayAt.nil | apply LayAt.here ))); rfl) ))
    exact retv rfl (by (repeat (first | apply RV.nil | (apply RV.tmp; rfl) | (apply RV.agg; rfl; (· (repeat (first | apply sel_here ))); infer_instance; (· (repeat (first | apply Cut.here0 | apply Cut.here )))) )); done) (⟨none, 0, rfl, rfl, rfl⟩) (by (repeat (first | apply sub_nil | (apply sub_cons; (· (repeat (first | apply sel_here | apply sel_there)))))); done) (by first | exact fun _ h => h | (intro r hr; cases hr; done) | (simp; done) | exact fun _ h => List.mem_append_left _ h | (intro r hr; simp [hr]; done))
  obtain ⟨r1, k1, k2⟩ := two_front (s := s) (by omega)
  have hx := sb_b s 0
  have hy := sb_b s 1
  have hxe : sb s (Int.toNat 0) = sb s 0 := rfl
  have hye : sb s (Int.toNat 1) = sb s 1 := rfl
  have hx2 : (s.extract 2 s.size).size = s.size - 2 := by rw [ByteArray.size_extract]; omega
  unfold prR
  rw [if_neg h0]
  dsimp only
  rw [k1]
  dsimp only
  rw [k2]
  dsimp only
  clear k1 k2
  by_cases h2 : sb s 0 / 64 = 2
  case neg =>
    rw [if_pos ⟨rfl, h2⟩]
    refine fn_intro Try.func22 rfl Try.ntmps22 rfl (fun E => ?_)
    refine wc_own0 42 1 ?_
    (repeat (first | ((first | (apply wo_v; rfl) ); (· first | (apply pv_ev; rfl) | (apply g_bin; first | (apply a_quo; rfl; rfl; infer_instance; omega) ) | (apply g_bi; first | (apply pv_len_str; rfl) ) | (apply g_build; apply pv_build; (· (repeat (first | apply Bld.nil )))) | (apply pv_index_sn; rfl; rfl; omega) | (apply pv_index_s; rfl; rfl; omega))) | apply wo_nil | apply wc_seq | apply wc_region | apply wc_skip | apply wc_ret | (apply wc_true; rfl) | (apply wc_false; rfl) | (apply a_dec_t; rfl; (· first | assumption | omega)) | (apply a_dec_f; rfl; (· first | assumption | omega)) | (apply wo_alloc; rfl; intro bx) | (apply wo_sta; rfl; rfl; rfl; rfl; (· (repeat (first | apply sel_here ))); (· (repeat (first | apply LayAt.nil | apply LayAt.here ))); rfl) ))
    exact retv rfl (by (repeat (first | apply RV.nil | (apply RV.tmp; rfl) | (apply RV.agg; rfl; (· (repeat (first | apply sel_here ))); infer_instance; (· (repeat (first | apply Cut.here0 | apply Cut.here )))) )); done) (⟨none, 0, rfl, rfl, rfl⟩) (by (repeat (first | apply sub_nil | (apply sub_cons; (· (repeat (first | apply sel_here | apply sel_there)))))); done) (by first | exact fun _ h => h | (intro r hr; cases hr; done) | (simp; done) | exact fun _ h => List.mem_append_left _ h | (intro r hr; simp [hr]; done))
  rw [if_neg (fun h => h.2 h2)]
  have s3 := tK_size 2 (s.extract 2 s.size, 0)
  have v3 := tK2_b (s.extract 2 s.size, 0)
  have c3 := qTake (s.extract 2 s.size, 0) 2 (by omega) (by dsimp only; omega)
  generalize tK 2 (s.extract 2 s.size, 0) = q at c3 s3 v3 ⊢
  obtain ⟨sq, r3⟩ := q
  dsimp only at c3 s3 v3 ⊢
  have s4 := tK_size 4 r3
  have v4 := tK4_b r3
  have c4 := qTake r3 4 (by omega) (by omega)
  generalize tK 4 r3 = q at c4 s4 v4 ⊢
  obtain ⟨t, r4⟩ := q
  dsimp only at c4 s4 v4 ⊢
  have s5 := tK_size 4 r4
  have v5 := tK4_b r4
  have c5 := qTake r4 4 (by omega) (by omega)
  generalize tK 4 r4 = q at c5 s5 v5 ⊢
  obtain ⟨ss, r5⟩ := q
  dsimp only at c5 s5 v5 ⊢
  have e127 : decide (127 < sb s 1) = decide (sb s 1 / 128 = 1) := decide_eq_decide.2 (by omega)
  rw [e127]
  refine fn_intro Try.func22 rfl Try.ntmps22 rfl (fun E => ?_)
  (repeat (first | ((first | (apply wo_v; rfl) ); (· first | (apply pv_ev; rfl) | (apply g_bin; first | (apply a_quo; rfl; rfl; infer_instance; omega) ) | (apply g_bi; first | (apply pv_len_str; rfl) ) | (apply g_build; apply pv_build; (· (repeat (first | apply Bld.nil | (apply Bld.one; rfl; rfl; (· (repeat (first | apply SetAt.here )))) )))) | (apply pv_cs_lo; rfl; rfl; omega) | (apply pv_index_sn; rfl; rfl; omega) | (apply pv_index_s; rfl; rfl; omega))) | apply wo_nil | apply wc_seq | apply wc_region | apply wc_skip | (apply wc_true; rfl) | (apply wc_false; rfl) | (apply a_dec_t; rfl; (· first | assumption | omega)) | (apply a_dec_f; rfl; (· first | assumption | omega)) | (apply wo_alloc; rfl; intro bx) ))
  obtain ⟨bq, hbq⟩ : ∃ g, g = bx := ⟨_, rfl⟩
  subst hbq
  (refine wo_call (c3) rfl (by (repeat (first | apply sub_nil )); done) (by first | exact fun _ h => h | (intro r hr; cases hr; done) | (simp; done) | exact fun _ h => List.mem_append_left _ h | (intro r hr; simp [hr]; done)) rfl ?_; rintro v L' R' ⟨rfl, rfl, rfl⟩ H' hH RR hR; simp only [List.cons_append, List.nil_append] at hH hR; subst hH; have hR := hR.symm; subst hR)
  (repeat (first | ((first | (apply wo_v; rfl) ); (· first | (apply pv_ev; rfl) | (apply g_load; first | (apply pv_lda; rfl; (· (repeat (first | apply sel_here ))); (· (repeat (first | apply Cut.here0 | apply Cut.here )))) ) )) | apply wo_nil | apply wc_seq | apply wc_region | (apply wo_alloc; rfl; intro bx) | (apply wo_sta; rfl; rfl; rfl; rfl; (· (repeat (first | apply sel_here ))); (· (repeat (first | apply LayAt.nil | apply LayAt.here ))); rfl) ))
  (refine wo_call (c4) rfl (by (repeat (first | apply sub_nil )); done) (by first | exact fun _ h => h | (intro r hr; cases hr; done) | (simp; done) | exact fun _ h => List.mem_append_left _ h | (intro r hr; simp [hr]; done)) rfl ?_; rintro v L' R' ⟨rfl, rfl, rfl⟩ H' hH RR hR; simp only [List.cons_append, List.nil_append] at hH hR; subst hH; have hR := hR.symm; subst hR)
  (repeat (first | ((first | (apply wo_v; rfl) ); (· first | (apply pv_ev; rfl) | (apply g_load; first | (apply pv_lda; rfl; (· (repeat (first | apply sel_here ))); (· (repeat (first | apply Cut.here0 | apply Cut.here )))) ) )) | apply wo_nil | apply wc_seq | apply wc_region | (apply wo_sta; rfl; rfl; rfl; rfl; (· (repeat (first | apply sel_here ))); (· (repeat (first | apply LayAt.nil | apply LayAt.here ))); rfl) ))
  (refine wo_call (c5) rfl (by (repeat (first | apply sub_nil )); done) (by first | exact fun _ h => h | (intro r hr; cases hr; done) | (simp; done) | exact fun _ h => List.mem_append_left _ h | (intro r hr; simp [hr]; done)) rfl ?_; rintro v L' R' ⟨rfl, rfl, rfl⟩ H' hH RR hR; simp only [List.cons_append, List.nil_append] at hH hR; subst hH; have hR := hR.symm; subst hR)
  (repeat (first | ((first | (apply wo_v; rfl) ); (· first | (apply pv_ev; rfl) )) | apply wo_nil | apply wc_seq | (apply wo_sta; rfl; rfl; rfl; rfl; (· (repeat (first | apply sel_here ))); (· (repeat (first | apply LayAt.nil | apply LayAt.here ))); rfl) ))
  obtain ⟨br, hbr⟩ : ∃ g, g = bx := ⟨_, rfl⟩
  subst hbr
  have hcn := csN_len r5
  have hcz := csN_size r5
  generalize hmrk : decide (sb s 1 / 128 = 1) = mrk, hkd : sb s 1 % 128 = kd
  (refine wc_reg [0] (asl [(14, 0), (15, 0)]) (tblQ (rpR mrk kd sq t ss (.slice none 0 0) false 0 ByteArray.empty ByteArray.empty 0)) ([qrI br r5, qpZ bq]) (fm [(0, [])]) mixed (by kernel_rfl) (by kernel_rfl) (by decide) (asl_mem (by decide)) (by (repeat (first | (apply prm_cons; (· (repeat (first | apply sel_here )))) | apply List.Perm.nil )); done) ?_; (repeat (first | ((first | (apply HdE.val; rfl; rfl; (· first | apply gok_none ))); (· first | (apply pv_ev; rfl) | (apply g_bin; first | (apply a_quo; rfl; rfl; infer_instance; omega) | (apply pv_rem; rfl; rfl; omega) ) | (apply g_conv; first | (apply a_conv; rfl; infer_instance; infer_instance; infer_instance; omega) ) | (apply g_build; apply pv_build; (· (repeat (first | apply Bld.nil | (apply Bld.one; rfl; rfl; (· (repeat (first | apply SetAt.here | apply SetAt.there)))) )))) | (apply pv_index_sn; rfl; rfl; omega) | (apply pv_index_s; rfl; rfl; omega))) )))
  (refine he_eff rfl rfl rfl (by first | exact gok_none | exact gok_run rfl rfl) outc_alloc ⟨_, _, 0, rfl, rfl⟩ ?_; rintro v M ⟨bp, rfl, rfl⟩; simp only [setl, reduceIte, Nat.reduceEqDiff]; (repeat (first | fail )))
  rw [show decide (sb s (Int.toNat 1) / 128 = 1) = mrk from hmrk, show sb s (Int.toNat 1) % 128 = kd from hkd]
  (refine he_eff rfl rfl rfl (by first | exact gok_none | exact gok_run rfl rfl) (outc_sta rfl rfl rfl rfl (by (repeat (first | apply LayAt.nil | apply LayAt.here )); done)) ⟨_, _, rfl, rfl⟩ ?_; rintro v M ⟨rfl, rfl⟩; simp only [setl, reduceIte, Nat.reduceEqDiff]; (repeat (first | fail )))
  (refine HdE.nil ?_; intro H hH; simp only [Hp, fm, look, setl, List.flatMap_cons, List.flatMap_nil, reduceIte, Nat.reduceEqDiff, Option.getD_some, List.append_nil, List.cons_append, List.nil_append] at hH; subst hH)
  obtain ⟨N, hN⟩ : ∃ N : Nat, sb s 0 % 16 = (N : Int) := ⟨(sb s 0 % 16).toNat, by omega⟩
  have hN2 : (sb s 0 % 16).toNat = N := by omega
  (repeat (first | ((first | (apply wo_v; rfl) ); (· first | (apply pv_ev; rfl) )) | apply wo_nil | apply wc_seq | apply wc_region ))
  rw [hN2]
  refine wc_join0 (fun st => ∃ ao c, st = ⟨[(0, .string s), (2, .pointer (some ⟨bq, 0, none⟩)), (4, .pointer (some ⟨br, 0, none⟩)), (8, .pointer (some ⟨bp, 0, none⟩))], [qrI br (csN r5 N).2, qpI bp mrk kd sq t ss (.slice ao (csN r5 N).1.length c) false 0 ByteArray.empty ByteArray.empty 0, csO ao (csN r5 N).1.length c (csN r5 N).1, qpZ bq], []⟩) ?_ ?_
  · refine wc_block ?_
    refine wc_own0 42 1 ?_
    refine wc_loop' (fun q st => ∃ (i : Nat) (ao : Option Addr) (c : Nat) (l : List Int) (r : Rs), q = N - i ∧ i ≤ N ∧ l = (csN r5 i).1 ∧ r = (csN r5 i).2 ∧ st = ⟨[(0, .string s), (2, .pointer (some ⟨bq, 0, none⟩)), (4, .pointer (some ⟨br, 0, none⟩)), (8, .pointer (some ⟨bp, 0, none⟩)), (9, .int .i64 i)], [qrI br r, qpI bp mrk kd sq t ss (.slice ao l.length c) false 0 ByteArray.empty ByteArray.empty 0, csO ao l.length c l, qpZ bq], []⟩)
      ⟨0, none, 0, [], r5, rfl, Nat.zero_le _, rfl, rfl, rfl⟩ (wk_mk (by (repeat (first | apply wkf_nil | (apply wkf_cons; rfl))); done) (by (repeat (first | apply sub_nil | (apply sub_cons; (· (repeat (first | apply sel_here | apply sel_there)))))); done) (by first | exact fun _ h => h | (intro r hr; cases hr; done) | (simp; done) | exact fun _ h => List.mem_append_left _ h | (intro r hr; simp [hr]; done))) ?_
    rintro q st ⟨i, ao, c, l, r, rfl, hi, hl, hrr, rfl⟩
    have hll : l.length = i := by rw [hl]; exact hcn i
    have hrs := hcz i
    rw [← hrr] at hrs
    by_cases hlt : i < N
    · have e1 : (csN r5 (i + 1)).1 = l ++ [(tK 4 r).1] := by rw [csN, hl, hrr]
      have e2 : (csN r5 (i + 1)).2 = (tK 4 r).2 := by rw [csN, hrr]
      have hU := qTake r 4 (by omega) (by omega)
      have hub := tK4_b r
      generalize tK 4 r = y at hU hub e1 e2
      obtain ⟨x, rr⟩ := y
      dsimp only at hU hub e1 e2
      (repeat (first | ((first | (apply wo_v; rfl) ); (· first | (apply pv_ev; rfl) | (apply g_bin; first | (apply pv_rem; rfl; rfl; omega) ) | (apply g_conv; first | (apply a_conv; rfl; infer_instance; infer_instance; infer_instance; omega) ) | (apply pv_index_sn; rfl; rfl; omega) | (apply pv_index_s; rfl; rfl; omega))) | apply wo_nil | apply wc_seq | apply wc_region | apply wc_skip | (apply wc_true; rfl) | (apply wc_false; rfl) | (apply a_dec_t; rfl; (· first | assumption | omega)) ))
      refine wc_block ?_
      (repeat (first | ((first | (apply wo_v; rfl) ); (· first | (apply pv_ev; rfl) | (apply g_load; first | (apply pv_lda; rfl; (· (repeat (first | apply sel_here ))); (· (repeat (first | apply Cut.here0 | apply Cut.here )))) ) )) | apply wc_seq | apply wc_region ))
      (refine wo_call (hU) rfl (by (repeat (first | apply sub_nil )); done) (by first | exact fun _ h => h | (intro r hr; cases hr; done) | (simp; done) | exact fun _ h => List.mem_append_left _ h | (intro r hr; simp [hr]; done)) rfl ?_; rintro v L' R' ⟨rfl, rfl, rfl⟩ H' hH RR hR; simp only [List.cons_append, List.nil_append] at hH hR; subst hH; have hR := hR.symm; subst hR)
      (repeat (first | ((first | (apply wo_v; rfl) ); (· first | (apply pv_ev; rfl) | (apply pv_fld; rfl) | (apply g_load; first | (apply pv_ld; rfl; (· (repeat (first | apply sel_here | apply sel_there))); rfl) | (apply pv_lda; rfl; (· (repeat (first | apply sel_here ))); (· (repeat (first | apply Cut.here0 | apply Cut.here )))) ) | (apply g_bi; first | fail ) | (apply g_conv; first | (apply a_conv; rfl; infer_instance; infer_instance; infer_instance; omega) ) )) | apply wo_nil | apply wc_seq | apply wc_region | (apply wo_alloc; rfl; intro bx) | (apply wo_bsl; (· (repeat (first | apply Rws'.nil | (apply Rws'.one; rfl; rfl; rfl) ))); rfl; rfl; rfl; rfl; intro bx) | (apply wo_sta; rfl; rfl; rfl; rfl; (· (repeat (first | apply sel_here | apply sel_there))); (· (repeat (first | apply LayAt.nil | apply LayAt.here ))); rfl) ))
      refine wo_app rfl rfl (by (repeat (first | apply sel_here | apply sel_there)); done) (by (repeat (first | apply sel_here )); done) (by unfold maxLen; omega) (by omega) rfl (fun ao2 c2 => ?_)
      (repeat (first | ((first | (apply wo_v; rfl) ); (· first | (apply pv_ev; rfl) | (apply pv_fld; rfl) | (apply g_bin; first | (apply a_add; rfl; rfl; infer_instance; omega) ) )) | apply wo_nil | apply wc_region | (apply wo_st; rfl; rfl; rfl; (· (repeat (first | apply sel_here | apply sel_there))); (· (repeat (first | apply SetAt.here | apply SetAt.there))); rfl) ))
      exact loop_end ⟨i + 1, ao2, c2, l ++ [x], rr, rfl, by omega, e1.symm, e2.symm, by rw [List.length_append, List.length_singleton, csO_snoc]⟩ (by omega) (wk_mk (by (repeat (first | apply wkf_nil | (apply wkf_cons; rfl))); done) (by (repeat (first | apply sub_nil | (apply sub_cons; (· (repeat (first | apply sel_here | apply sel_there)))))); done) (by first | exact fun _ h => h | (intro r hr; cases hr; done) | (simp; done) | exact fun _ h => List.mem_append_left _ h | (intro r hr; simp [hr]; done)))
    · have e : i = N := by omega
      subst e
      subst hl hrr
      (repeat (first | ((first | (apply wo_v; rfl) ); (· first | (apply pv_ev; rfl) | (apply g_bin; first | (apply pv_rem; rfl; rfl; omega) ) | (apply g_conv; first | (apply a_conv; rfl; infer_instance; infer_instance; infer_instance; omega) ) | (apply pv_index_sn; rfl; rfl; omega) | (apply pv_index_s; rfl; rfl; omega))) | apply wo_nil | apply wc_seq | apply wc_region | (apply wc_exit; rfl) | (apply wc_true; rfl) | (apply wc_false; rfl) | (apply a_dec_t; rfl; (· first | assumption | omega)) | (apply a_dec_f; rfl; (· first | assumption | omega)) ))
      exact cut_end ⟨ao, c, rfl⟩ (wk_mk (by (repeat (first | apply wkf_nil | (apply wkf_cons; rfl))); done) (by (repeat (first | apply sub_nil )); done) (by first | exact fun _ h => h | (intro r hr; cases hr; done) | (simp; done) | exact fun _ h => List.mem_append_left _ h | (intro r hr; simp [hr]; done)))
  rintro st ⟨ao, c, rfl⟩
  have hcl := hcn N
  have s6 := hcz N
  clear hcn hcz c3 c4 c5
  generalize csN r5 N = y at s6 hcl ⊢
  obtain ⟨cs, r6⟩ := y
  dsimp only at s6 hcl ⊢
  generalize hex : decide (sb s 0 / 16 % 2 = 1) = ex, hpa : decide (sb s 0 / 32 % 2 = 1) = pa
  apply wc_seq
  refine wc_join0 (fun st => st = ⟨[(0, .string s), (2, .pointer (some ⟨bq, 0, none⟩)), (4, .pointer (some ⟨br, 0, none⟩)), (8, .pointer (some ⟨bp, 0, none⟩))], [qrI br (exR ex r6).2.2, qpI bp mrk kd sq t ss (.slice ao cs.length c) ex (exR ex r6).1 (exR ex r6).2.1 ByteArray.empty 0, csO ao cs.length c cs, qpZ bq], []⟩) ?_ ?_
  · cases ex with
    | false =>
      have hx5 := of_decide_eq_false hex
      (repeat (first | ((first | (apply wo_v; rfl) ); (· first | (apply pv_ev; rfl) | (apply g_bin; first | (apply a_quo; rfl; rfl; infer_instance; omega) | (apply pv_rem; rfl; rfl; omega) ) | (apply pv_index_sn; rfl; rfl; omega) | (apply pv_index_s; rfl; rfl; omega))) | apply wo_nil | apply wc_seq | apply wc_region | apply wc_skip | (apply wc_true; rfl) | (apply wc_false; rfl) | (apply a_dec_t; rfl; (· first | assumption | omega)) | (apply a_dec_f; rfl; (· first | assumption | omega)) ))
      exact cut_end rfl (wk_mk (by (repeat (first | apply wkf_nil | (apply wkf_cons; rfl))); done) (by (repeat (first | apply sub_nil )); done) (by first | exact fun _ h => h | (intro r hr; cases hr; done) | (simp; done) | exact fun _ h => List.mem_append_left _ h | (intro r hr; simp [hr]; done)))
    | true =>
      have hx5 := of_decide_eq_true hex
      have w1 := qExt r6 (by omega) mrk kd sq t ss ao cs.length c false 0 ByteArray.empty ByteArray.empty 0
      generalize exR true r6 = y at w1 ⊢
      obtain ⟨pf, dt, r9⟩ := y
      dsimp only at w1 ⊢
      (repeat (first | ((first | (apply wo_v; rfl) ); (· first | (apply pv_ev; rfl) | (apply g_load; first | (apply pv_lda; rfl; (· (repeat (first | apply sel_here | apply sel_there))); (· (repeat (first | apply Cut.here0 | apply Cut.here )))) ) | (apply g_bin; first | (apply a_quo; rfl; rfl; infer_instance; omega) | (apply pv_rem; rfl; rfl; omega) ) | (apply pv_index_sn; rfl; rfl; omega) | (apply pv_index_s; rfl; rfl; omega))) | apply wo_nil | apply wc_seq | apply wc_region | (apply wc_true; rfl) | (apply wc_false; rfl) | (apply a_dec_t; rfl; (· first | assumption | omega)) ))
      (refine wo_call (w1) rfl (by (repeat (first | apply sub_nil )); done) (by first | exact fun _ h => h | (intro r hr; cases hr; done) | (simp; done) | exact fun _ h => List.mem_append_left _ h | (intro r hr; simp [hr]; done)) rfl ?_; rintro v L' R' ⟨rfl, rfl, rfl⟩ H' hH RR hR; simp only [List.cons_append, List.nil_append] at hH hR; subst hH; have hR := hR.symm; subst hR)
      (repeat (first | ((first | (apply wo_v; rfl) ); (· first | (apply pv_ev; rfl) | (apply pv_fld; rfl) | (apply g_load; first | (apply pv_lda; rfl; (· (repeat (first | apply sel_here | apply sel_there))); (· (repeat (first | apply Cut.here0 | apply Cut.here )))) ) )) | apply wo_nil | apply wc_seq | apply wc_region | (apply wo_st; rfl; rfl; rfl; (· (repeat (first | apply sel_here ))); (· (repeat (first | apply SetAt.here | apply SetAt.there))); rfl) | (apply wo_alloc; rfl; intro bx) | (apply wo_sta; rfl; rfl; rfl; rfl; (· (repeat (first | apply sel_here | apply sel_there))); (· (repeat (first | apply LayAt.nil | apply LayAt.here ))); rfl) ))
      exact cut_end rfl (wk_mk (by (repeat (first | apply wkf_nil | (apply wkf_cons; rfl))); done) (by (repeat (first | apply sub_nil | (apply sub_cons; (· (repeat (first | apply sel_here | apply sel_there)))))); done) (by first | exact fun _ h => h | (intro r hr; cases hr; done) | (simp; done) | exact fun _ h => List.mem_append_left _ h | (intro r hr; simp [hr]; done)))
  rintro st rfl
  have s9 : (exR ex r6).2.2.1.size ≤ 100000 := by
    unfold exR
    split
    · have := rdB_size2 (tK 2 (tK 2 r6).2).2.1 (tK 2 (tK 2 r6).2).2.2 (4 * (tK 2 (tK 2 r6).2).1)
      have h7 := tK_size 2 r6
      have h8 := tK_size 2 (tK 2 r6).2
      dsimp only
      omega
    · dsimp only; omega
  generalize exR ex r6 = y at s9 ⊢
  obtain ⟨pf, dt, pl, e9⟩ := y
  dsimp only [qrI] at s9 ⊢
  unfold enR
  by_cases he : e9 = 0
  case neg =>
    have g5 : (rdB pl e9 pl.size).2.2 = e9 := by unfold rdB; rw [if_pos he]
    dsimp only
    rw [g5, if_pos he]
    refine wc_own0 42 1 ?_
    (repeat (first | ((first | (apply wo_v; rfl) ); (· first | (apply pv_ev; rfl) | (apply pv_fld; rfl) | (apply g_load; first | (apply pv_ld; rfl; (· (repeat (first | apply sel_here | apply sel_there))); rfl) ) )) | apply wo_nil | apply wc_seq | apply wc_region | (apply wc_true; rfl) | (apply wc_false; rfl) | (apply a_dec_t; rfl; (· first | assumption | omega)) ))
    dsimp only
    (refine wc_regM [0] (aslL [(3, [0])]) (tblE (qpZ bq) (qpZ bq)) ([csO none 0 0 [], qrI br (pl, e9), qpI bp mrk kd sq t ss (.slice ao cs.length c) ex pf dt ByteArray.empty 0, csO ao cs.length c cs]) (fm [(0, [qpZ bq])]) mixed (by kernel_rfl) (by kernel_rfl) (by decide) (aslL_ok (by decide)) (by (repeat (first | (apply prm_cons; (· (repeat (first | apply sel_here )))) | apply List.Perm.nil )); done) ?_; (repeat (first | (apply HdM.val; rfl; rfl; (· first | apply gok_none ); (· first | (apply pv_ev; rfl) | (apply pv_fld; rfl) | (apply g_load; first | (apply pv_ld; rfl; (· (repeat (first | apply sel_here | apply sel_there))); rfl) ) | (apply g_build; apply pv_build; (· (repeat (first | apply Bld.nil )))) )) )))
    (refine hm_eff (cs := [0]) rfl (by decide) rfl rfl (by first | exact gok_none | exact gok_run rfl rfl) (fun a ha => outc_mono (outc_sta rfl rfl rfl rfl (by (repeat (first | apply LayAt.nil | apply LayAt.here )); done) a ha) (fun v M h => ⟨[M], And.intro h.1 (congrArg (fun x => [x]) h.2), rfl, by simp⟩)) (⟨_, _, And.intro rfl rfl, rfl⟩) ?_; rintro v Ms ⟨rfl, rfl⟩ _; simp only [setls, setl, reduceIte, Nat.reduceEqDiff]; (repeat (first | (apply HdM.val; rfl; rfl; (· first | apply gok_none ); (· first | (apply pv_ev; rfl) )) )))
    (refine HdM.nil ?_; intro H hH; simp only [Hp, fm, look, setl, List.flatMap_cons, List.flatMap_nil, reduceIte, Nat.reduceEqDiff, Option.getD_some, List.append_nil, List.cons_append, List.nil_append] at hH; subst hH)
    (repeat (first | apply wc_ret ))
    exact retv rfl (by (repeat (first | apply RV.nil | (apply RV.tmp; rfl) | (apply RV.agg; rfl; (· (repeat (first | apply sel_here | apply sel_there))); infer_instance; (· (repeat (first | apply Cut.here0 | apply Cut.here )))) )); done) (⟨none, 0, rfl, rfl, rfl⟩) (by (repeat (first | apply sub_nil )); done) (by first | exact fun _ h => h | (intro r hr; cases hr; done) | (simp; done) | exact fun _ h => List.mem_append_left _ h | (intro r hr; simp [hr]; done))
  subst he
  have g5 : rdB pl 0 pl.size = (pl, E0, 0) := by
    have := rdB_front pl E0 pl.size rfl
    rwa [append_E0] at this
  dsimp only
  rw [g5]
  dsimp only
  rw [if_neg (by simp)]
  cases pa with
  | false =>
    have hx6 := of_decide_eq_false hpa
    rw [if_neg (by simp)]
    (repeat (first | ((first | (apply wo_v; rfl) ); (· first | (apply pv_ev; rfl) | (apply pv_fld; rfl) | (apply g_load; first | (apply pv_ld; rfl; (· (repeat (first | apply sel_here ))); rfl) | (apply pv_lda; rfl; (· (repeat (first | apply sel_here ))); (· (repeat (first | apply Cut.here0 | apply Cut.here )))) ) | (apply g_bin; first | (apply a_quo; rfl; rfl; infer_instance; omega) | (apply pv_rem; rfl; rfl; omega) ) | (apply pv_index_sn; rfl; rfl; omega) | (apply pv_index_s; rfl; rfl; omega))) | apply wo_nil | apply wc_seq | apply wc_region | apply wc_skip | apply wc_ret | (apply wc_true; rfl) | (apply wc_false; rfl) | (apply a_dec_t; rfl; (· first | assumption | omega)) | (apply a_dec_f; rfl; (· first | assumption | omega)) | (apply wo_st; rfl; rfl; rfl; (· (repeat (first | apply sel_here | apply sel_there))); (· (repeat (first | apply SetAt.here | apply SetAt.there))); rfl) | (apply wo_sta; rfl; rfl; rfl; rfl; (· (repeat (first | apply sel_here | apply sel_there))); (· (repeat (first | apply LayAt.nil | apply LayAt.here ))); rfl) ))
    exact retv rfl (by (repeat (first | apply RV.nil | (apply RV.tmp; rfl) | (apply RV.agg; rfl; (· (repeat (first | apply sel_here ))); infer_instance; (· (repeat (first | apply Cut.here0 | apply Cut.here )))) )); done) (⟨ao, c, rfl, rfl, rfl⟩) (by (repeat (first | apply sub_nil | (apply sub_cons; (· (repeat (first | apply sel_here | apply sel_there)))))); done) (by first | exact fun _ h => h | (intro r hr; cases hr; done) | (simp; done) | exact fun _ h => List.mem_append_left _ h | (intro r hr; simp [hr]; done))
  | true =>
    have hx6 := of_decide_eq_true hpa
    rw [if_pos rfl]
    have hb' := sb_b pl ((pl.size : Int) - 1).toNat
    by_cases h7 : pl = E0
    · rw [show padM pl = (0, 1) from if_pos h7]
      dsimp only
      rw [if_pos (by omega)]
      refine wc_own0 42 1 ?_
      (repeat (first | ((first | (apply wo_v; rfl) ); (· first | (apply pv_ev; rfl) | (apply pv_fld; rfl) | (apply g_load; first | (apply pv_ld; rfl; (· (repeat (first | apply sel_here | apply sel_there))); rfl) ) | (apply g_bin; first | (apply a_quo; rfl; rfl; infer_instance; omega) | (apply pv_rem; rfl; rfl; omega) | (apply pv_eql_s; rfl; rfl) ) | (apply g_build; apply pv_build; (· (repeat (first | apply Bld.nil )))) | (apply pv_index_sn; rfl; rfl; omega) | (apply pv_index_s; rfl; rfl; omega))) | apply wo_nil | apply wc_seq | apply wc_region | apply wc_skip | apply wc_ret | (apply wc_true; rfl) | (apply wc_false; rfl) | (apply a_dec_t; rfl; (· first | assumption | omega)) | (apply wo_st; rfl; rfl; rfl; (· (repeat (first | apply sel_here | apply sel_there))); (· (repeat (first | apply SetAt.here | apply SetAt.there))); rfl) | (apply wo_sta; rfl; rfl; rfl; rfl; (· (repeat (first | apply sel_here | apply sel_there))); (· (repeat (first | apply LayAt.nil | apply LayAt.here ))); rfl) ))
      exact retv rfl (by (repeat (first | apply RV.nil | (apply RV.tmp; rfl) | (apply RV.agg; rfl; (· (repeat (first | apply sel_here ))); infer_instance; (· (repeat (first | apply Cut.here0 | apply Cut.here )))) )); done) (⟨none, 0, rfl, rfl, rfl⟩) (by (repeat (first | apply sub_nil | (apply sub_cons; (· (repeat (first | apply sel_here | apply sel_there)))))); done) (by first | exact fun _ h => h | (intro r hr; cases hr; done) | (simp; done) | exact fun _ h => List.mem_append_left _ h | (intro r hr; simp [hr]; done))
    · have h1 : 0 < pl.size := by
        rcases Nat.eq_zero_or_pos pl.size with h | h
        · exact absurd (ByteArray.size_eq_zero_iff.1 h) h7
        · exact h
      have e1 : ((pl.size : Int) - 1).toNat = pl.size - 1 := by omega
      unfold padM
      rw [if_neg h7, ← e1]
      by_cases h2 : sb pl ((pl.size : Int) - 1).toNat = 0
      · rw [if_pos h2]
        dsimp only
        rw [if_pos (by omega)]
        refine wc_own0 42 1 ?_
        (repeat (first | ((first | (apply wo_v; rfl) ); (· first | (apply pv_ev; rfl) | (apply pv_fld; rfl) | (apply g_load; first | (apply pv_ld; rfl; (· (repeat (first | apply sel_here | apply sel_there))); rfl) ) | (apply g_bin; first | (apply a_sub; rfl; rfl; infer_instance; omega) | (apply a_quo; rfl; rfl; infer_instance; omega) | (apply pv_rem; rfl; rfl; omega) | (apply pv_eql_s; rfl; rfl) ) | (apply g_bi; first | (apply pv_len_str; rfl) ) | (apply g_conv; first | (apply a_conv; rfl; infer_instance; infer_instance; infer_instance; omega) ) | (apply g_build; apply pv_build; (· (repeat (first | apply Bld.nil )))) | (apply pv_index_sn; rfl; rfl; omega) | (apply pv_index_s; rfl; rfl; omega))) | apply wo_nil | apply wc_seq | apply wc_region | apply wc_skip | apply wc_ret | (apply wc_true; rfl) | (apply wc_false; rfl) | (apply a_dec_t; rfl; (· first | assumption | omega)) | (apply a_dec_f; rfl; (· first | assumption | omega)) | (apply wo_st; rfl; rfl; rfl; (· (repeat (first | apply sel_here | apply sel_there))); (· (repeat (first | apply SetAt.here | apply SetAt.there))); rfl) | (apply wo_sta; rfl; rfl; rfl; rfl; (· (repeat (first | apply sel_here | apply sel_there))); (· (repeat (first | apply LayAt.nil | apply LayAt.here ))); rfl) ))
        exact retv rfl (by (repeat (first | apply RV.nil | (apply RV.tmp; rfl) | (apply RV.agg; rfl; (· (repeat (first | apply sel_here ))); infer_instance; (· (repeat (first | apply Cut.here0 | apply Cut.here )))) )); done) (⟨none, 0, rfl, rfl, rfl⟩) (by (repeat (first | apply sub_nil | (apply sub_cons; (· (repeat (first | apply sel_here | apply sel_there)))))); done) (by first | exact fun _ h => h | (intro r hr; cases hr; done) | (simp; done) | exact fun _ h => List.mem_append_left _ h | (intro r hr; simp [hr]; done))
      · rw [if_neg h2]
        by_cases h3 : (pl.size : Int) < sb pl ((pl.size : Int) - 1).toNat
        · rw [if_pos h3]
          dsimp only
          rw [if_pos (by omega)]
          refine wc_own0 42 1 ?_
          (repeat (first | ((first | (apply wo_v; rfl) ); (· first | (apply pv_ev; rfl) | (apply pv_fld; rfl) | (apply g_load; first | (apply pv_ld; rfl; (· (repeat (first | apply sel_here | apply sel_there))); rfl) ) | (apply g_bin; first | (apply a_sub; rfl; rfl; infer_instance; omega) | (apply a_quo; rfl; rfl; infer_instance; omega) | (apply pv_rem; rfl; rfl; omega) | (apply pv_eql_s; rfl; rfl) ) | (apply g_bi; first | (apply pv_len_str; rfl) ) | (apply g_conv; first | (apply a_conv; rfl; infer_instance; infer_instance; infer_instance; omega) ) | (apply g_build; apply pv_build; (· (repeat (first | apply Bld.nil )))) | (apply pv_index_sn; rfl; rfl; omega) | (apply pv_index_s; rfl; rfl; omega))) | apply wo_nil | apply wc_seq | apply wc_region | apply wc_skip | apply wc_ret | (apply wc_true; rfl) | (apply wc_false; rfl) | (apply a_dec_t; rfl; (· first | assumption | omega)) | (apply a_dec_f; rfl; (· first | assumption | omega)) | (apply wo_st; rfl; rfl; rfl; (· (repeat (first | apply sel_here | apply sel_there))); (· (repeat (first | apply SetAt.here | apply SetAt.there))); rfl) | (apply wo_sta; rfl; rfl; rfl; rfl; (· (repeat (first | apply sel_here | apply sel_there))); (· (repeat (first | apply LayAt.nil | apply LayAt.here ))); rfl) ))
          exact retv rfl (by (repeat (first | apply RV.nil | (apply RV.tmp; rfl) | (apply RV.agg; rfl; (· (repeat (first | apply sel_here ))); infer_instance; (· (repeat (first | apply Cut.here0 | apply Cut.here )))) )); done) (⟨none, 0, rfl, rfl, rfl⟩) (by (repeat (first | apply sub_nil | (apply sub_cons; (· (repeat (first | apply sel_here | apply sel_there)))))); done) (by first | exact fun _ h => h | (intro r hr; cases hr; done) | (simp; done) | exact fun _ h => List.mem_append_left _ h | (intro r hr; simp [hr]; done))
        · rw [if_neg h3]
          dsimp only
          rw [if_neg (by simp)]
          (repeat (first | ((first | (apply wo_v; rfl) ); (· first | (apply pv_ev; rfl) | (apply pv_fld; rfl) | (apply g_load; first | (apply pv_ld; rfl; (· (repeat (first | apply sel_here | apply sel_there))); rfl) | (apply pv_lda; rfl; (· (repeat (first | apply sel_here ))); (· (repeat (first | apply Cut.here0 | apply Cut.here )))) ) | (apply g_bin; first | (apply a_sub; rfl; rfl; infer_instance; omega) | (apply a_quo; rfl; rfl; infer_instance; omega) | (apply pv_rem; rfl; rfl; omega) | (apply pv_eql_s; rfl; rfl) ) | (apply g_bi; first | (apply pv_len_str; rfl) ) | (apply g_conv; first | (apply a_conv; rfl; infer_instance; infer_instance; infer_instance; omega) ) | (apply pv_cs_hi; rfl; rfl; omega) | (apply pv_index_sn; rfl; rfl; omega) | (apply pv_index_s; rfl; rfl; omega))) | apply wo_nil | apply wc_seq | apply wc_region | apply wc_skip | apply wc_ret | (apply wc_true; rfl) | (apply wc_false; rfl) | (apply a_dec_t; rfl; (· first | assumption | omega)) | (apply a_dec_f; rfl; (· first | assumption | omega)) | (apply wo_st; rfl; rfl; rfl; (· (repeat (first | apply sel_here | apply sel_there))); (· (repeat (first | apply SetAt.here | apply SetAt.there))); rfl) | (apply wo_sta; rfl; rfl; rfl; rfl; (· (repeat (first | apply sel_here | apply sel_there))); (· (repeat (first | apply LayAt.nil | apply LayAt.here ))); rfl) ))
          exact retv rfl (by (repeat (first | apply RV.nil | (apply RV.tmp; rfl) | (apply RV.agg; rfl; (· (repeat (first | apply sel_here ))); infer_instance; (· (repeat (first | apply Cut.here0 | apply Cut.here )))) )); done) (⟨ao, c, rfl, rfl, rfl⟩) (by (repeat (first | apply sub_nil | (apply sub_cons; (· (repeat (first | apply sel_here | apply sel_there)))))); done) (by first | exact fun _ h => h | (intro r hr; cases hr; done) | (simp; done) | exact fun _ h => List.mem_append_left _ h | (intro r hr; simp [hr]; done))
end Go.Proofs.Ytabdikemijihjaa
