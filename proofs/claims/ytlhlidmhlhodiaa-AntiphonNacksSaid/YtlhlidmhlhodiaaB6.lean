/-
  Texts of this proof, laid together (part 6 of 7).
-/
import Derived.Test.YtlhlidmhlhodiaaB5
/-
  Layer 4: the program's functions.
-/
namespace Go.Proofs.Ytlhlidmhlhodiaa
set_option linter.unusedSimpArgs false
set_option linter.unusedVariables false
set_option linter.unusedSimpArgs false
set_option linter.unusedVariables false
open Go.RowKit
attribute [local irreducible] Pv WO WC Fn
attribute [local irreducible] ByteArray.extract
set_option maxRecDepth 100000

abbrev dT : TypeId := 23
instance : TEq Try.prog 23 [.b, .b, .i .i64, .i .i64, .b, .i .i64, .i .i64, .b, .i .i64] := ⟨by kernel_rfl⟩
abbrev dL (nr st : Bool) (pt pic : Int) (wd : Bool) (lv ly : Int) (sy : Bool) (ky : Int) : List Value := [.bool nr, .bool st, .int .i64 pt, .int .i64 pic, .bool wd, .int .i64 lv, .int .i64 ly, .bool sy, .int .i64 ky]
abbrev dv (d : Dc) : List Value := dL d.nr d.st d.pt d.pic d.wd d.lv d.ly d.sy d.ky
abbrev dO (h : Nat) (nr st : Bool) (pt pic : Int) (wd : Bool) (lv ly : Int) (sy : Bool) (ky : Int) : It := .ob h (.cells (dL nr st pt pic wd lv ly sy ky).toArray dT (0, 0))
theorem rdU8 (g : Nat) (r : Rs) (hs : r.1.size ≤ 1099511627776) : Fn Try.prog 63 #[.pointer (some ⟨g, 0, none⟩)] [rdO g r.1 r.2] []
    (fun v L' R' => v = .int .u8 (t1 r).1 ∧ L' = [rdO g (t1 r).2.1 (t1 r).2.2] ∧ R' = []) := octU8 g r.1 _ _ r.2 _ hs rfl
theorem vBit (c : Bool) (b x : Int) (h : bt c b = x) : Fn Try.prog 58 #[.bool c, .int .u8 b] [] [] (fun v L' R' => v = .int .u8 x ∧ L' = [] ∧ R' = []) := by
  subst h
  cases c
  all_goals
    refine fn_intro Try.func58 rfl Try.ntmps58 rfl (fun E => ?_)
    (repeat (first | ((first | (apply wo_v; rfl) ); (· first | (apply pv_ev; rfl) )) | apply wo_nil | apply wc_seq | apply wc_region | apply wc_skip | apply wc_ret | (apply wc_true; rfl) | (apply wc_false; rfl) ))
    exact ret1 rfl rfl ⟨rfl, rfl, rfl⟩ ((by (repeat (first | apply sub_nil )); done) : List.Perm _ ([] ++ _)) (by first | exact fun _ h => h | (intro r hr; cases hr; done) | (simp; done) | exact fun _ h => List.mem_append_left _ h | (intro r hr; simp [hr]; done))
theorem vIn (n m : Int) : Fn Try.prog 56 #[.int .i64 n, .int .i64 m] [] [] (fun v L' R' => v = .bool (decide (-1 ≤ n ∧ n ≤ m)) ∧ L' = [] ∧ R' = []) := by
  by_cases h1 : -1 ≤ n
  · by_cases h2 : n ≤ m
    · rw [show decide (-1 ≤ n ∧ n ≤ m) = true by simp [h1, h2]]
      refine fn_intro Try.func56 rfl Try.ntmps56 rfl (fun E => ?_)
      (repeat (first | ((first | (apply wo_v; rfl) ); (· first | (apply pv_ev; rfl) | (apply g_pick; first | (apply pv_pick_t; rfl; rfl) ) )) | apply wo_nil | apply wc_seq | apply wc_region | apply wc_ret | (apply wo_run; rfl; rfl) | (apply wo_skip; rfl; rfl; rfl; rfl) | (apply wo_skip_u; rfl; rfl; rfl) | (apply a_gt; rfl; rfl; (· first | assumption | omega)) ))
      exact ret1 rfl rfl ⟨by simp [h2], rfl, rfl⟩ ((by (repeat (first | apply sub_nil )); done) : List.Perm _ ([] ++ _)) (by first | exact fun _ h => h | (intro r hr; cases hr; done) | (simp; done) | exact fun _ h => List.mem_append_left _ h | (intro r hr; simp [hr]; done))
    · rw [show decide (-1 ≤ n ∧ n ≤ m) = false by simp [h2]]
      refine fn_intro Try.func56 rfl Try.ntmps56 rfl (fun E => ?_)
      (repeat (first | ((first | (apply wo_v; rfl) ); (· first | (apply pv_ev; rfl) | (apply g_pick; first | (apply pv_pick_t; rfl; rfl) ) )) | apply wo_nil | apply wc_seq | apply wc_region | apply wc_ret | (apply wo_run; rfl; rfl) | (apply wo_skip; rfl; rfl; rfl; rfl) | (apply wo_skip_u; rfl; rfl; rfl) | (apply a_gt; rfl; rfl; (· first | assumption | omega)) ))
      exact ret1 rfl rfl ⟨by simp [h2], rfl, rfl⟩ ((by (repeat (first | apply sub_nil )); done) : List.Perm _ ([] ++ _)) (by first | exact fun _ h => h | (intro r hr; cases hr; done) | (simp; done) | exact fun _ h => List.mem_append_left _ h | (intro r hr; simp [hr]; done))
  · rw [show decide (-1 ≤ n ∧ n ≤ m) = false by simp [h1]]
    refine fn_intro Try.func56 rfl Try.ntmps56 rfl (fun E => ?_)
    (repeat (first | ((first | (apply wo_v; rfl) ); (· first | (apply pv_ev; rfl) | (apply g_pick; first | (apply pv_pick_t; rfl; rfl) | (apply pv_pick_f; rfl; rfl)) )) | apply wo_nil | apply wc_seq | apply wc_region | apply wc_ret | (apply wo_run; rfl; rfl) | (apply wo_skip; rfl; rfl; rfl; rfl) | (apply wo_skip_u; rfl; rfl; rfl) | (apply a_gt; rfl; rfl; (· first | assumption | omega)) | (apply a_gf; rfl; rfl; (· first | assumption | omega)) ))
    exact ret1 rfl rfl ⟨rfl, rfl, rfl⟩ ((by (repeat (first | apply sub_nil )); done) : List.Perm _ ([] ++ _)) (by first | exact fun _ h => h | (intro r hr; cases hr; done) | (simp; done) | exact fun _ h => List.mem_append_left _ h | (intro r hr; simp [hr]; done))
theorem vMore (nr st : Bool) (pt pic : Int) (wd : Bool) (lv ly : Int) (sy : Bool) (ky : Int) (b : Bool) (hb : moreB ⟨nr, st, pt, pic, wd, lv, ly, sy, ky⟩ = b) :
    Fn Try.prog 59 #[.agg (dL nr st pt pic wd lv ly sy ky).toArray] [] [] (fun v L' R' => v = .bool b ∧ L' = [] ∧ R' = []) := by
  subst hb
  unfold moreB
  by_cases h1 : 0 ≤ pic
  · refine fn_intro Try.func59 rfl Try.ntmps59 rfl (fun E => ?_)
    (repeat (first | ((first | (apply wo_v; rfl) ); (· first | (apply pv_ev; rfl) | (apply pv_fld; rfl) | (apply g_load; first | (apply pv_ld; rfl; (· (repeat (first | apply sel_here ))); rfl) ) | (apply g_pick; first | (apply pv_pick_t; rfl; rfl) ) )) | apply wo_nil | apply wc_seq | apply wc_region | apply wc_ret | (apply wo_run; rfl; rfl) | (apply wo_skip; rfl; rfl; rfl; rfl) | (apply wo_skip_u; rfl; rfl; rfl) | (apply a_gt; rfl; rfl; (· first | assumption | omega)) | (apply wo_box1; rfl; rfl; rfl; intro bx) | (apply wo_boxa; rfl; rfl; intro bx) ))
    exact ret1 rfl rfl ⟨by simp [h1], rfl, rfl⟩ ((by (repeat (first | apply sub_nil )); done) : List.Perm _ ([] ++ _)) (by first | exact fun _ h => h | (intro r hr; cases hr; done) | (simp; done) | exact fun _ h => List.mem_append_left _ h | (intro r hr; simp [hr]; done))
  by_cases h2 : 0 ≤ lv
  · refine fn_intro Try.func59 rfl Try.ntmps59 rfl (fun E => ?_)
    (repeat (first | ((first | (apply wo_v; rfl) ); (· first | (apply pv_ev; rfl) | (apply pv_fld; rfl) | (apply g_load; first | (apply pv_ld; rfl; (· (repeat (first | apply sel_here ))); rfl) ) | (apply g_pick; first | (apply pv_pick_t; rfl; rfl) | (apply pv_pick_f; rfl; rfl)) )) | apply wo_nil | apply wc_seq | apply wc_region | apply wc_ret | (apply wo_run; rfl; rfl) | (apply wo_skip; rfl; rfl; rfl; rfl) | (apply wo_skip_u; rfl; rfl; rfl) | (apply a_gt; rfl; rfl; (· first | assumption | omega)) | (apply a_gf; rfl; rfl; (· first | assumption | omega)) | (apply wo_box1; rfl; rfl; rfl; intro bx) | (apply wo_boxa; rfl; rfl; intro bx) ))
    exact ret1 rfl rfl ⟨by simp [h2], rfl, rfl⟩ ((by (repeat (first | apply sub_nil )); done) : List.Perm _ ([] ++ _)) (by first | exact fun _ h => h | (intro r hr; cases hr; done) | (simp; done) | exact fun _ h => List.mem_append_left _ h | (intro r hr; simp [hr]; done))
  by_cases h3 : 0 ≤ ly
  · refine fn_intro Try.func59 rfl Try.ntmps59 rfl (fun E => ?_)
    (repeat (first | ((first | (apply wo_v; rfl) ); (· first | (apply pv_ev; rfl) | (apply pv_fld; rfl) | (apply g_load; first | (apply pv_ld; rfl; (· (repeat (first | apply sel_here ))); rfl) ) | (apply g_pick; first | (apply pv_pick_t; rfl; rfl) | (apply pv_pick_f; rfl; rfl)) )) | apply wo_nil | apply wc_seq | apply wc_region | apply wc_ret | (apply wo_run; rfl; rfl) | (apply wo_skip; rfl; rfl; rfl; rfl) | (apply wo_skip_u; rfl; rfl; rfl) | (apply a_gt; rfl; rfl; (· first | assumption | omega)) | (apply a_gf; rfl; rfl; (· first | assumption | omega)) | (apply wo_box1; rfl; rfl; rfl; intro bx) | (apply wo_boxa; rfl; rfl; intro bx) ))
    exact ret1 rfl rfl ⟨by simp [h3], rfl, rfl⟩ ((by (repeat (first | apply sub_nil )); done) : List.Perm _ ([] ++ _)) (by first | exact fun _ h => h | (intro r hr; cases hr; done) | (simp; done) | exact fun _ h => List.mem_append_left _ h | (intro r hr; simp [hr]; done))
  · refine fn_intro Try.func59 rfl Try.ntmps59 rfl (fun E => ?_)
    (repeat (first | ((first | (apply wo_v; rfl) ); (· first | (apply pv_ev; rfl) | (apply pv_fld; rfl) | (apply g_load; first | (apply pv_ld; rfl; (· (repeat (first | apply sel_here ))); rfl) ) | (apply g_pick; first | (apply pv_pick_t; rfl; rfl) | (apply pv_pick_f; rfl; rfl)) )) | apply wo_nil | apply wc_seq | apply wc_region | apply wc_ret | (apply wo_run; rfl; rfl) | (apply wo_skip; rfl; rfl; rfl; rfl) | (apply wo_skip_u; rfl; rfl; rfl) | (apply a_gt; rfl; rfl; (· first | assumption | omega)) | (apply a_gf; rfl; rfl; (· first | assumption | omega)) | (apply wo_box1; rfl; rfl; rfl; intro bx) | (apply wo_boxa; rfl; rfl; intro bx) ))
    exact ret1 rfl rfl ⟨by simp [h1, h2, h3], rfl, rfl⟩ ((by (repeat (first | apply sub_nil )); done) : List.Perm _ ([] ++ _)) (by first | exact fun _ h => h | (intro r hr; cases hr; done) | (simp; done) | exact fun _ h => List.mem_append_left _ h | (intro r hr; simp [hr]; done))
theorem vPlain : Fn Try.prog 39 #[] [] [] (fun v L' R' => v = .agg (dL false false 0 (-1) false (-1) (-1) false (-1)).toArray ∧ L' = [] ∧ R' = []) := by
  refine fn_intro Try.func39 rfl Try.ntmps39 rfl (fun E => ?_)
  (repeat (first | ((first | (apply wo_v; rfl) ); (· first | (apply pv_ev; rfl) | (apply g_build; apply pv_build; (· (repeat (first | apply Bld.nil | (apply Bld.one; rfl; rfl; (· (repeat (first | apply SetAt.here | apply SetAt.there)))) )))) )) | apply wo_nil | apply wc_seq | apply wc_region | apply wc_ret | (apply wo_alloc; rfl; intro bx) | (apply wo_sta; rfl; rfl; rfl; rfl; (· (repeat (first | apply sel_here ))); (· (repeat (first | apply LayAt.nil | apply LayAt.here ))); rfl) ))
  exact retv rfl (by (repeat (first | apply RV.nil | (apply RV.agg; rfl; (· (repeat (first | apply sel_here ))); infer_instance; (· (repeat (first | apply Cut.here0 | apply Cut.here )))) )); done) (⟨rfl, rfl, rfl⟩) (by (repeat (first | apply sub_nil )); done) (by first | exact fun _ h => h | (intro r hr; cases hr; done) | (simp; done) | exact fun _ h => List.mem_append_left _ h | (intro r hr; simp [hr]; done))
theorem vPicture (h g : Nat) (nr st : Bool) (pt pic : Int) (wd : Bool) (lv ly : Int) (sy : Bool) (ky : Int) (f : Int) (hf : f / 128 % 2 = 1) (r : Rs) (hs : r.1.size ≤ 1099511627776) :
    Fn Try.prog 74 #[.pointer (some ⟨h, 0, none⟩), .pointer (some ⟨g, 0, none⟩)] [dO h nr st pt pic wd lv ly sy ky, rdO g r.1 r.2] []
      (fun v L' R' => v = .tuple #[] ∧ L' = [dO h nr st pt (sPic f r).1 (sPic f r).2.1 lv ly sy ky, rdO g (sPic f r).2.2.1 (sPic f r).2.2.2] ∧ R' = []) := by
  have hb := t1_b r
  have hs1 := t1_size r
  have hb2 := t1_b (t1 r).2
  by_cases hn : 127 < (t1 r).1
  · rw [show sPic f r = ((t1 r).1 % 128 * 256 + (t1 (t1 r).2).1, true, (t1 (t1 r).2).2) by unfold sPic; rw [if_pos hf, if_pos hn]]
    have q := rdU8 g r hs
    have q2 := rdU8 g (t1 r).2 (by omega)
    have e127 := and_127 (t1 r).1
    generalize t1 r = x1 at *
    generalize t1 x1.2 = x2 at *
    refine fn_intro Try.func74 rfl Try.ntmps74 rfl (fun E => ?_)
    (repeat (first | ((first | (apply wo_v; rfl) ); (· first | (apply pv_ev; rfl) )) | apply wc_seq | apply wc_region ))
    (refine wo_call (q) rfl (by (repeat (first | apply sub_nil | (apply sub_cons; (· (repeat (first | apply sel_here | apply sel_there)))))); done) (by first | exact fun _ h => h | (intro r hr; cases hr; done) | (simp; done) | exact fun _ h => List.mem_append_left _ h | (intro r hr; simp [hr]; done)) rfl ?_; rintro v L' R' ⟨rfl, rfl, rfl⟩ H' hH RR hR; simp only [List.cons_append, List.nil_append] at hH hR; subst hH; have hR := hR.symm; subst hR)
    (repeat (first | ((first | (apply wo_v; rfl) ); (· first | (apply pv_ev; rfl) | (apply pv_fld; rfl) | (apply g_load; first | (apply pv_ld; rfl; (· (repeat (first | apply sel_here ))); rfl) ) | (apply g_bin; first | (apply pv_and; rfl; rfl) | (apply a_shl; rfl; rfl; rfl; omega; rfl; infer_instance; omega) ) | (apply g_conv; first | (apply a_conv; rfl; infer_instance; infer_instance; infer_instance; omega) ) )) | apply wo_nil | apply wc_seq | apply wc_region | (apply wc_true; rfl) | (apply wc_false; rfl) | (apply a_dec_t; rfl; (· first | assumption | omega)) | (apply wo_st; rfl; rfl; rfl; (· (repeat (first | apply sel_here | apply sel_there))); (· (repeat (first | apply SetAt.here | apply SetAt.there))); rfl) ))
    rw [e127]
    (repeat (first | ((first | (apply wo_v; rfl) ); (· first | (apply pv_ev; rfl) )) ))
    (refine wo_call (q2) rfl (by (repeat (first | apply sub_nil | (apply sub_cons; (· (repeat (first | apply sel_here | apply sel_there)))))); done) (by first | exact fun _ h => h | (intro r hr; cases hr; done) | (simp; done) | exact fun _ h => List.mem_append_left _ h | (intro r hr; simp [hr]; done)) rfl ?_; rintro v L' R' ⟨rfl, rfl, rfl⟩ H' hH RR hR; simp only [List.cons_append, List.nil_append] at hH hR; subst hH; have hR := hR.symm; subst hR)
    rw [decide_eq_true hn]
    (repeat (first | ((first | (apply wo_v; rfl) ); (· first | (apply pv_ev; rfl) | (apply pv_fld; rfl) | (apply g_bin; first | (apply (a_or 4); rfl; rfl; infer_instance; rfl; omega) | (apply (a_or 5); rfl; rfl; infer_instance; rfl; omega) | (apply (a_or 6); rfl; rfl; infer_instance; rfl; omega) | (apply (a_or 7); rfl; rfl; infer_instance; rfl; omega) | (apply (a_or 8); rfl; rfl; infer_instance; rfl; omega) ) | (apply g_conv; first | (apply a_conv; rfl; infer_instance; infer_instance; infer_instance; omega) ) )) | apply wo_nil | apply wc_region | (apply wo_st; rfl; rfl; rfl; (· (repeat (first | apply sel_here | apply sel_there))); (· (repeat (first | apply SetAt.here | apply SetAt.there))); rfl) ))
    exact ret0 rfl ⟨rfl, rfl, rfl⟩ (by (repeat (first | apply sub_nil )); done) (by first | exact fun _ h => h | (intro r hr; cases hr; done) | (simp; done) | exact fun _ h => List.mem_append_left _ h | (intro r hr; simp [hr]; done))
  · rw [show sPic f r = ((t1 r).1, false, (t1 r).2) by unfold sPic; rw [if_pos hf, if_neg hn]]
    have q := rdU8 g r hs
    generalize t1 r = x1 at *
    refine fn_intro Try.func74 rfl Try.ntmps74 rfl (fun E => ?_)
    (repeat (first | ((first | (apply wo_v; rfl) ); (· first | (apply pv_ev; rfl) )) | apply wc_seq | apply wc_region ))
    (refine wo_call (q) rfl (by (repeat (first | apply sub_nil | (apply sub_cons; (· (repeat (first | apply sel_here | apply sel_there)))))); done) (by first | exact fun _ h => h | (intro r hr; cases hr; done) | (simp; done) | exact fun _ h => List.mem_append_left _ h | (intro r hr; simp [hr]; done)) rfl ?_; rintro v L' R' ⟨rfl, rfl, rfl⟩ H' hH RR hR; simp only [List.cons_append, List.nil_append] at hH hR; subst hH; have hR := hR.symm; subst hR)
    (repeat (first | ((first | (apply wo_v; rfl) ); (· first | (apply pv_ev; rfl) | (apply pv_fld; rfl) | (apply g_load; first | (apply pv_ld; rfl; (· (repeat (first | apply sel_here ))); rfl) ) | (apply g_conv; first | (apply a_conv; rfl; infer_instance; infer_instance; infer_instance; omega) ) )) | apply wo_nil | apply wc_seq | apply wc_region | apply wc_skip | (apply wc_true; rfl) | (apply wc_false; rfl) | (apply a_dec_t; rfl; (· first | assumption | omega)) | (apply a_dec_f; rfl; (· first | assumption | omega)) | (apply wo_st; rfl; rfl; rfl; (· (repeat (first | apply sel_here | apply sel_there))); (· (repeat (first | apply SetAt.here | apply SetAt.there))); rfl) ))
    rw [decide_eq_false hn]
    exact ret0 rfl ⟨rfl, rfl, rfl⟩ (by (repeat (first | apply sub_nil )); done) (by first | exact fun _ h => h | (intro r hr; cases hr; done) | (simp; done) | exact fun _ h => List.mem_append_left _ h | (intro r hr; simp [hr]; done))
theorem rest0 (s : ByteArray) : (rdB s 0 s.size).1 = s := by
  have := rdB_front s E0 s.size rfl
  rw [append_E0] at this
  rw [this]
theorem sFl_size (a : Int) (r : Rs) : (sFl a r).2.1.size ≤ r.1.size := by
  unfold sFl; split
  · exact t1_size r
  · exact Nat.le_refl _
theorem sPic_size (f : Int) (r : Rs) : (sPic f r).2.2.1.size ≤ r.1.size := by
  unfold sPic
  have h1 := t1_size r
  have h2 := t1_size (t1 r).2
  split
  · split
    · simp only; omega
    · exact h1
  · exact Nat.le_refl _
theorem sLv_size (f : Int) (r : Rs) : (sLv f r).2.1.size ≤ r.1.size := by
  unfold sLv; split
  · exact t1_size r
  · exact Nat.le_refl _
theorem sLast_size (f : Int) (r : Rs) : (sLast f r).2.2.2.1.size ≤ r.1.size := by
  unfold sLast; split
  · exact t1_size r
  · exact Nat.le_refl _
abbrev tblV (g z : Nat) (s : ByteArray) (r2 : Rs) (new : It) : Nat → List (List It) → Value → List (List It) → Prop := fun k Ls v Ms =>
  if k = 2 then v = .string s ∧ Ms = [[rdO g r2.1 r2.2]] else v = undef ∧ Ms = [[new]]
set_option maxHeartbeats 64000000 in
theorem vParse (s : ByteArray) (hs : s.size ≤ 1099511627776) : Fn Try.prog 17 #[.string s] [] []
    (fun v L' R' => v = .tuple #[.agg (dv (prs s).1).toArray, .string (prs s).2.1, .int .i64 (prs s).2.2] ∧ L' = [] ∧ R' = []) := by
  obtain ⟨x, hx⟩ : ∃ x, t1 (s, 0) = x := ⟨_, rfl⟩
  have hxb := t1_b (s, 0)
  have hxs := t1_size (s, 0)
  have q1 := fun g => rdU8 g (s, 0) hs
  rw [hx] at hxb hxs q1
  obtain ⟨f, hf⟩ : ∃ f, sFl x.1 x.2 = f := ⟨_, rfl⟩
  have hfb := sFl_b x.1 x.2
  have hfs := sFl_size x.1 x.2
  rw [hf] at hfb hfs
  obtain ⟨p, hp⟩ : ∃ p, sPic f.1 f.2 = p := ⟨_, rfl⟩
  have hps := sPic_size f.1 f.2
  rw [hp] at hps
  obtain ⟨l, hl⟩ : ∃ l, sLv f.1 p.2.2 = l := ⟨_, rfl⟩
  have hls := sLv_size f.1 p.2.2
  rw [hl] at hls
  obtain ⟨q, hq⟩ : ∃ q, sLast f.1 l.2 = q := ⟨_, rfl⟩
  have hqs := sLast_size f.1 l.2
  rw [hq] at hqs
  have hprs : prs s = mkD x.1 p l q := by unfold prs; simp only; rw [hx, hf, hp, hl, hq]
  rw [hprs]
  clear hprs
  dsimp only at hxs
  have e32 : decide (0 < bits .and .u8 x.1 32) = decide (x.1 / 32 % 2 = 1) := by rw [and8_32 hxb]; exact decide_eq_decide.2 (by omega)
  have e16 : decide (0 < bits .and .u8 x.1 16) = decide (x.1 / 16 % 2 = 1) := by rw [and8_16 hxb]; exact decide_eq_decide.2 (by omega)
  have e7 := and8_7 hxb
  obtain ⟨a, r1⟩ := x
  dsimp only at hxb hxs q1 hf hfb hfs e32 e16 e7
  refine fn_intro Try.func17 rfl Try.ntmps17 rfl (fun E => ?_)
  (repeat (first | ((first | (apply wo_v; rfl) ); (· first | (apply pv_ev; rfl) )) | apply wo_nil | apply wc_seq | apply wc_region | (apply wo_alloc; rfl; intro bx) ))
  (refine wo_call (octRead s) rfl (by (repeat (first | apply sub_nil )); done) (by first | exact fun _ h => h | (intro r hr; cases hr; done) | (simp; done) | exact fun _ h => List.mem_append_left _ h | (intro r hr; simp [hr]; done)) rfl ?_; rintro v L' R' ⟨g, rfl, rfl, rfl⟩ H' hH RR hR; simp only [List.cons_append, List.nil_append] at hH hR; subst hH; have hR := hR.symm; subst hR)
  (repeat (first | ((first | (apply wo_v; rfl) ); (· first | (apply pv_ev; rfl) )) | apply wo_nil | apply wc_seq | apply wc_region ))
  (refine wo_call (q1 g) rfl (by (repeat (first | apply sub_nil )); done) (by first | exact fun _ h => h | (intro r hr; cases hr; done) | (simp; done) | exact fun _ h => List.mem_append_left _ h | (intro r hr; simp [hr]; done)) rfl ?_; rintro v L' R' ⟨rfl, rfl, rfl⟩ H' hH RR hR; simp only [List.cons_append, List.nil_append] at hH hR; subst hH; have hR := hR.symm; subst hR)
  (repeat (first | ((first | (apply wo_v; rfl) ); (· first | (apply pv_ev; rfl) )) | apply wo_nil | apply wc_seq | apply wc_region ))
  obtain ⟨z, hz⟩ : ∃ z, z = bx := ⟨_, rfl⟩
  subst hz
  (refine wo_call (vPlain) rfl (by (repeat (first | apply sub_nil )); done) (by first | exact fun _ h => h | (intro r hr; cases hr; done) | (simp; done) | exact fun _ h => List.mem_append_left _ h | (intro r hr; simp [hr]; done)) rfl ?_; rintro v L' R' ⟨rfl, rfl, rfl⟩ H' hH RR hR; simp only [List.cons_append, List.nil_append] at hH hR; subst hH; have hR := hR.symm; subst hR)
  (repeat (first | ((first | (apply wo_v; rfl) ); (· first | (apply pv_ev; rfl) | (apply pv_fld; rfl) | (apply g_bin; first | (apply pv_and; rfl; rfl) ) | (apply g_conv; first | (apply a_conv; rfl; infer_instance; infer_instance; infer_instance; omega) ) )) | apply wo_nil | apply wc_seq | apply wc_region | (apply wc_true; rfl) | (apply wc_false; rfl) | (apply a_dec_t; rfl; (· first | assumption | omega)) | (apply a_dec_f; rfl; (· first | assumption | omega)) | (apply a_dec_t; rfl; (· first | (simp; done) | (simp; omega))) | (apply a_dec_f; rfl; (· first | (simp; done) | (simp; omega))) | (apply wo_st; rfl; rfl; rfl; (· (repeat (first | apply sel_here ))); (· (repeat (first | apply SetAt.here | apply SetAt.there))); rfl) | (apply wo_alloc; rfl; intro bx) | (apply wo_sta; rfl; rfl; rfl; rfl; (· (repeat (first | apply sel_here ))); (· (repeat (first | apply LayAt.nil | apply LayAt.here ))); rfl) ))
  obtain ⟨h, hh⟩ : ∃ h, h = bx := ⟨_, rfl⟩
  subst hh
  rw [e7]
  (repeat (first | (apply wc_true; rfl) | (apply wc_false; rfl) | (apply a_dec_t; rfl; (· first | assumption | omega)) | (apply a_dec_f; rfl; (· first | assumption | omega)) | (apply a_dec_t; rfl; (· first | (simp; done) | (simp; omega))) | (apply a_dec_f; rfl; (· first | (simp; done) | (simp; omega))) ))
  rw [e32, e16]
  generalize hnr : decide (a / 32 % 2 = 1) = nr, hst : decide (a / 16 % 2 = 1) = st
  refine wc_join0 (fun st' => st' = ⟨[(2, .pointer (some ⟨z, 0, none⟩)), (5, .pointer (some ⟨g, 0, none⟩)), (6, .int .u8 a), (7, .pointer (some ⟨h, 0, none⟩)), (8, .int .u8 f.1)], [dO z false false 0 0 false 0 0 false 0, dO h nr st (a % 8) (-1) false (-1) (-1) false (-1), rdO g f.2.1 f.2.2], []⟩) ?_ ?_
  · by_cases hc : 127 < a
    · have e : f = t1 r1 := by rw [← hf]; unfold sFl; rw [if_pos hc]
      have qu := rdU8 g r1 (by omega)
      rw [← e] at qu
      (repeat (first | ((first | (apply wo_v; rfl) ); (· first | (apply pv_ev; rfl) )) | apply wc_region | (apply wc_true; rfl) | (apply wc_false; rfl) | (apply a_dec_t; rfl; (· first | assumption | omega)) ))
      (refine wo_call (qu) rfl (by (repeat (first | apply sub_nil | (apply sub_cons; (· (repeat (first | apply sel_here | apply sel_there)))))); done) (by first | exact fun _ h => h | (intro r hr; cases hr; done) | (simp; done) | exact fun _ h => List.mem_append_left _ h | (intro r hr; simp [hr]; done)) rfl ?_; rintro v L' R' ⟨rfl, rfl, rfl⟩ H' hH RR hR; simp only [List.cons_append, List.nil_append] at hH hR; subst hH; have hR := hR.symm; subst hR)
      (repeat (first | ((first | (apply wo_v; rfl) ); (· first | (apply pv_ev; rfl) )) | apply wo_nil ))
      exact cut_end rfl (wk_mk (by (repeat (first | apply wkf_nil | (apply wkf_cons; rfl))); done) (by (repeat (first | apply sub_nil | (apply sub_cons; (· (repeat (first | apply sel_here | apply sel_there)))))); done) (by first | exact fun _ h => h | (intro r hr; cases hr; done) | (simp; done) | exact fun _ h => List.mem_append_left _ h | (intro r hr; simp [hr]; done)))
    · have e : f = (0, r1) := by rw [← hf]; unfold sFl; rw [if_neg hc]
      rw [e]
      (repeat (first | apply wc_skip | (apply wc_true; rfl) | (apply wc_false; rfl) | (apply a_dec_t; rfl; (· first | assumption | omega)) | (apply a_dec_f; rfl; (· first | assumption | omega)) ))
      exact cut_end rfl (wk_mk (by (repeat (first | apply wkf_nil | (apply wkf_cons; rfl))); done) (by (repeat (first | apply sub_nil | (apply sub_cons; (· (repeat (first | apply sel_here | apply sel_there)))))); done) (by first | exact fun _ h => h | (intro r hr; cases hr; done) | (simp; done) | exact fun _ h => List.mem_append_left _ h | (intro r hr; simp [hr]; done)))
  rintro st' rfl
  clear hf e32 e16 e7 q1 hx
  have e128 := and8_128 hfb
  have e64 := and8_64 hfb
  have e48 := and8_48 hfb
  have e32 := and8_32 hfb
  have e16 := and8_16 hfb
  obtain ⟨fl, r2⟩ := f
  dsimp only at hfb hfs hp hps hl hq e128 e64 e48 e32 e16
  (repeat (first | ((first | (apply wo_v; rfl) ); (· first | (apply pv_ev; rfl) | (apply g_bin; first | (apply pv_and; rfl; rfl) ) )) | apply wo_nil | apply wc_seq | apply wc_region | (apply wc_true; rfl) | (apply wc_false; rfl) | (apply a_dec_t; rfl; (· first | assumption | omega)) | (apply a_dec_f; rfl; (· first | assumption | omega)) | (apply a_dec_t; rfl; (· first | (simp; done) | (simp; omega))) | (apply a_dec_f; rfl; (· first | (simp; done) | (simp; omega))) ))
  refine wc_join0 (fun st' => st' = ⟨[(2, .pointer (some ⟨z, 0, none⟩)), (5, .pointer (some ⟨g, 0, none⟩)), (6, .int .u8 a), (7, .pointer (some ⟨h, 0, none⟩)), (8, .int .u8 fl)], [dO z false false 0 0 false 0 0 false 0, dO h nr st (a % 8) p.1 p.2.1 (-1) (-1) false (-1), rdO g p.2.2.1 p.2.2.2], []⟩) ?_ ?_
  · by_cases hc : fl / 128 % 2 = 1
    · have qp := vPicture h g nr st (a % 8) (-1) false (-1) (-1) false (-1) fl hc r2 (by omega)
      rw [hp] at qp
      (repeat (first | ((first | (apply wo_v; rfl) ); (· first | (apply pv_ev; rfl) )) | apply wc_region | (apply wc_true; rfl) | (apply wc_false; rfl) | (apply a_dec_t; rfl; (· first | assumption | omega)) | (apply a_dec_f; rfl; (· first | assumption | omega)) | (apply a_dec_t; rfl; (· first | (simp; done) | (simp; omega))) ))
      (refine wo_call (qp) rfl (by (repeat (first | apply sub_nil | (apply sub_cons; (· (repeat (first | apply sel_here | apply sel_there)))))); done) (by first | exact fun _ h => h | (intro r hr; cases hr; done) | (simp; done) | exact fun _ h => List.mem_append_left _ h | (intro r hr; simp [hr]; done)) rfl ?_; rintro v L' R' ⟨rfl, rfl, rfl⟩ H' hH RR hR; simp only [List.cons_append, List.nil_append] at hH hR; subst hH; have hR := hR.symm; subst hR)
      (repeat (first | apply wo_nil ))
      exact cut_end rfl (wk_mk (by (repeat (first | apply wkf_nil | (apply wkf_cons; rfl))); done) (by (repeat (first | apply sub_nil | (apply sub_cons; (· (repeat (first | apply sel_here | apply sel_there)))))); done) (by first | exact fun _ h => h | (intro r hr; cases hr; done) | (simp; done) | exact fun _ h => List.mem_append_left _ h | (intro r hr; simp [hr]; done)))
    · have e : p = (-1, false, r2) := by rw [← hp]; unfold sPic; rw [if_neg hc]
      rw [e]
      (repeat (first | apply wc_skip | (apply wc_true; rfl) | (apply wc_false; rfl) | (apply a_dec_t; rfl; (· first | assumption | omega)) | (apply a_dec_f; rfl; (· first | assumption | omega)) | (apply a_dec_t; rfl; (· first | (simp; done) | (simp; omega))) | (apply a_dec_f; rfl; (· first | (simp; done) | (simp; omega))) ))
      exact cut_end rfl (wk_mk (by (repeat (first | apply wkf_nil | (apply wkf_cons; rfl))); done) (by (repeat (first | apply sub_nil )); done) (by first | exact fun _ h => h | (intro r hr; cases hr; done) | (simp; done) | exact fun _ h => List.mem_append_left _ h | (intro r hr; simp [hr]; done)))
  rintro st' rfl
  clear hp e128
  obtain ⟨pc, w, r3⟩ := p
  dsimp only at hps hl hls
  (repeat (first | ((first | (apply wo_v; rfl) ); (· first | (apply pv_ev; rfl) | (apply g_bin; first | (apply pv_and; rfl; rfl) ) )) | apply wo_nil | apply wc_seq | apply wc_region | (apply wc_true; rfl) | (apply wc_false; rfl) | (apply a_dec_t; rfl; (· first | assumption | omega)) | (apply a_dec_f; rfl; (· first | assumption | omega)) | (apply a_dec_t; rfl; (· first | (simp; done) | (simp; omega))) | (apply a_dec_f; rfl; (· first | (simp; done) | (simp; omega))) ))
  refine wc_join0 (fun st' => st' = ⟨[(2, .pointer (some ⟨z, 0, none⟩)), (5, .pointer (some ⟨g, 0, none⟩)), (6, .int .u8 a), (7, .pointer (some ⟨h, 0, none⟩)), (8, .int .u8 fl)], [dO z false false 0 0 false 0 0 false 0, dO h nr st (a % 8) pc w l.1 (-1) false (-1), rdO g l.2.1 l.2.2], []⟩) ?_ ?_
  · by_cases hc : fl / 64 % 2 = 1
    · have e : l = t1 r3 := by rw [← hl]; unfold sLv; rw [if_pos hc]
      have qu := rdU8 g r3 (by omega)
      have hlb := t1_b r3
      rw [← e] at qu hlb
      (repeat (first | ((first | (apply wo_v; rfl) ); (· first | (apply pv_ev; rfl) )) | apply wc_region | (apply wc_true; rfl) | (apply wc_false; rfl) | (apply a_dec_t; rfl; (· first | assumption | omega)) ))
      (refine wo_call (qu) rfl (by (repeat (first | apply sub_nil | (apply sub_cons; (· (repeat (first | apply sel_here | apply sel_there)))))); done) (by first | exact fun _ h => h | (intro r hr; cases hr; done) | (simp; done) | exact fun _ h => List.mem_append_left _ h | (intro r hr; simp [hr]; done)) rfl ?_; rintro v L' R' ⟨rfl, rfl, rfl⟩ H' hH RR hR; simp only [List.cons_append, List.nil_append] at hH hR; subst hH; have hR := hR.symm; subst hR)
      (repeat (first | ((first | (apply wo_v; rfl) ); (· first | (apply pv_ev; rfl) | (apply pv_fld; rfl) | (apply g_conv; first | (apply a_conv; rfl; infer_instance; infer_instance; infer_instance; omega) ) )) | apply wo_nil | (apply wo_st; rfl; rfl; rfl; (· (repeat (first | apply sel_here | apply sel_there))); (· (repeat (first | apply SetAt.here | apply SetAt.there))); rfl) ))
      exact cut_end rfl (wk_mk (by (repeat (first | apply wkf_nil | (apply wkf_cons; rfl))); done) (by (repeat (first | apply sub_nil | (apply sub_cons; (· (repeat (first | apply sel_here | apply sel_there)))))); done) (by first | exact fun _ h => h | (intro r hr; cases hr; done) | (simp; done) | exact fun _ h => List.mem_append_left _ h | (intro r hr; simp [hr]; done)))
    · have e : l = (-1, r3) := by rw [← hl]; unfold sLv; rw [if_neg hc]
      rw [e]
      (repeat (first | apply wc_skip | (apply wc_true; rfl) | (apply wc_false; rfl) | (apply a_dec_t; rfl; (· first | assumption | omega)) | (apply a_dec_f; rfl; (· first | assumption | omega)) ))
      exact cut_end rfl (wk_mk (by (repeat (first | apply wkf_nil | (apply wkf_cons; rfl))); done) (by (repeat (first | apply sub_nil )); done) (by first | exact fun _ h => h | (intro r hr; cases hr; done) | (simp; done) | exact fun _ h => List.mem_append_left _ h | (intro r hr; simp [hr]; done)))
  rintro st' rfl
  clear hl e64
  obtain ⟨lv, r4⟩ := l
  dsimp only at hls hq hqs
  (repeat (first | ((first | (apply wo_v; rfl) ); (· first | (apply pv_ev; rfl) | (apply g_bin; first | (apply pv_and; rfl; rfl) ) )) | apply wo_nil | apply wc_seq | apply wc_region | (apply wc_true; rfl) | (apply wc_false; rfl) | (apply a_dec_t; rfl; (· first | assumption | omega)) | (apply a_dec_f; rfl; (· first | assumption | omega)) | (apply a_dec_t; rfl; (· first | (simp; done) | (simp; omega))) | (apply a_dec_f; rfl; (· first | (simp; done) | (simp; omega))) ))
  refine wc_join0 (fun st' => st' = ⟨[(2, .pointer (some ⟨z, 0, none⟩)), (5, .pointer (some ⟨g, 0, none⟩)), (6, .int .u8 a), (7, .pointer (some ⟨h, 0, none⟩))], [dO z false false 0 0 false 0 0 false 0, dO h nr st (a % 8) pc w lv q.1 q.2.1 q.2.2.1, rdO g q.2.2.2.1 q.2.2.2.2], []⟩) ?_ ?_
  · by_cases hc : 0 < fl / 16 % 4
    · have e : q = (if fl / 32 % 2 = 1 then (t1 r4).1 / 64 else -1, decide (fl / 32 % 2 = 1) && decide ((t1 r4).1 / 32 % 2 = 1), if fl / 16 % 2 = 1 then (t1 r4).1 % 32 else -1, (t1 r4).2) := by rw [← hq]; unfold sLast; rw [if_pos hc]
      have qu := rdU8 g r4 (by omega)
      have hcb := t1_b r4
      rw [e]
      generalize t1 r4 = y at qu hcb ⊢
      obtain ⟨c, r5⟩ := y
      dsimp only at qu hcb
      have e31 := and8_31 hcb
      have ec : decide (0 < bits .and .u8 c 32) = decide (c / 32 % 2 = 1) := by rw [and8_32 hcb]; exact decide_eq_decide.2 (by omega)
      (repeat (first | ((first | (apply wo_v; rfl) ); (· first | (apply pv_ev; rfl) )) | apply wc_seq | apply wc_region | (apply wc_true; rfl) | (apply wc_false; rfl) | (apply a_dec_t; rfl; (· first | assumption | omega)) ))
      (refine wo_call (qu) rfl (by (repeat (first | apply sub_nil | (apply sub_cons; (· (repeat (first | apply sel_here | apply sel_there)))))); done) (by first | exact fun _ h => h | (intro r hr; cases hr; done) | (simp; done) | exact fun _ h => List.mem_append_left _ h | (intro r hr; simp [hr]; done)) rfl ?_; rintro v L' R' ⟨rfl, rfl, rfl⟩ H' hH RR hR; simp only [List.cons_append, List.nil_append] at hH hR; subst hH; have hR := hR.symm; subst hR)
      (repeat (first | ((first | (apply wo_v; rfl) ); (· first | (apply pv_ev; rfl) | (apply g_bin; first | (apply pv_and; rfl; rfl) ) )) | apply wo_nil | apply wc_seq | apply wc_region | (apply wc_true; rfl) | (apply wc_false; rfl) | (apply a_dec_t; rfl; (· first | assumption | omega)) | (apply a_dec_f; rfl; (· first | assumption | omega)) | (apply a_dec_t; rfl; (· first | (simp; done) | (simp; omega))) | (apply a_dec_f; rfl; (· first | (simp; done) | (simp; omega))) ))
      by_cases h1 : fl / 32 % 2 = 1 <;> by_cases h2 : fl / 16 % 2 = 1
      · rw [if_pos h1, if_pos h2, decide_eq_true h1]
        (repeat (first | ((first | (apply wo_v; rfl) ); (· first | (apply pv_ev; rfl) | (apply pv_fld; rfl) | (apply g_bin; first | (apply pv_and; rfl; rfl) | (apply a_shr; rfl; rfl; rfl; omega; rfl) ) | (apply g_conv; first | (apply a_conv; rfl; infer_instance; infer_instance; infer_instance; omega) ) )) | apply wo_nil | apply wc_seq | apply wc_region | (apply wc_true; rfl) | (apply wc_false; rfl) | (apply a_dec_t; rfl; (· first | assumption | omega)) | (apply wo_st; rfl; rfl; rfl; (· (repeat (first | apply sel_here | apply sel_there))); (· (repeat (first | apply SetAt.here | apply SetAt.there))); rfl) ))
        rw [e31]
        (repeat (first | fail ))
        rw [ec]
        exact cut_end rfl (wk_mk (by (repeat (first | apply wkf_nil | (apply wkf_cons; rfl))); done) (by (repeat (first | apply sub_nil | (apply sub_cons; (· (repeat (first | apply sel_here | apply sel_there)))))); done) (by first | exact fun _ h => h | (intro r hr; cases hr; done) | (simp; done) | exact fun _ h => List.mem_append_left _ h | (intro r hr; simp [hr]; done)))
      · rw [if_pos h1, if_neg h2, decide_eq_true h1]
        (repeat (first | ((first | (apply wo_v; rfl) ); (· first | (apply pv_ev; rfl) | (apply pv_fld; rfl) | (apply g_bin; first | (apply pv_and; rfl; rfl) | (apply a_shr; rfl; rfl; rfl; omega; rfl) ) | (apply g_conv; first | (apply a_conv; rfl; infer_instance; infer_instance; infer_instance; omega) ) )) | apply wo_nil | apply wc_seq | apply wc_region | apply wc_skip | (apply wc_true; rfl) | (apply wc_false; rfl) | (apply a_dec_t; rfl; (· first | assumption | omega)) | (apply a_dec_f; rfl; (· first | assumption | omega)) | (apply wo_st; rfl; rfl; rfl; (· (repeat (first | apply sel_here | apply sel_there))); (· (repeat (first | apply SetAt.here | apply SetAt.there))); rfl) ))
        rw [ec]
        exact cut_end rfl (wk_mk (by (repeat (first | apply wkf_nil | (apply wkf_cons; rfl))); done) (by (repeat (first | apply sub_nil | (apply sub_cons; (· (repeat (first | apply sel_here | apply sel_there)))))); done) (by first | exact fun _ h => h | (intro r hr; cases hr; done) | (simp; done) | exact fun _ h => List.mem_append_left _ h | (intro r hr; simp [hr]; done)))
      · rw [if_neg h1, if_pos h2, decide_eq_false h1]
        (repeat (first | ((first | (apply wo_v; rfl) ); (· first | (apply pv_ev; rfl) | (apply pv_fld; rfl) | (apply g_bin; first | (apply pv_and; rfl; rfl) ) | (apply g_conv; first | (apply a_conv; rfl; infer_instance; infer_instance; infer_instance; omega) ) )) | apply wo_nil | apply wc_seq | apply wc_region | apply wc_skip | (apply wc_true; rfl) | (apply wc_false; rfl) | (apply a_dec_t; rfl; (· first | assumption | omega)) | (apply a_dec_f; rfl; (· first | assumption | omega)) | (apply wo_st; rfl; rfl; rfl; (· (repeat (first | apply sel_here | apply sel_there))); (· (repeat (first | apply SetAt.here | apply SetAt.there))); rfl) ))
        rw [e31]
        (repeat (first | fail ))
        exact cut_end rfl (wk_mk (by (repeat (first | apply wkf_nil | (apply wkf_cons; rfl))); done) (by (repeat (first | apply sub_nil | (apply sub_cons; (· (repeat (first | apply sel_here | apply sel_there)))))); done) (by first | exact fun _ h => h | (intro r hr; cases hr; done) | (simp; done) | exact fun _ h => List.mem_append_left _ h | (intro r hr; simp [hr]; done)))
      · omega
    · have e : q = (-1, false, -1, r4) := by rw [← hq]; unfold sLast; rw [if_neg hc]
      rw [e]
      (repeat (first | apply wc_skip | (apply wc_true; rfl) | (apply wc_false; rfl) | (apply a_dec_t; rfl; (· first | assumption | omega)) | (apply a_dec_f; rfl; (· first | assumption | omega)) ))
      exact cut_end rfl (wk_mk (by (repeat (first | apply wkf_nil | (apply wkf_cons; rfl))); done) (by (repeat (first | apply sub_nil )); done) (by first | exact fun _ h => h | (intro r hr; cases hr; done) | (simp; done) | exact fun _ h => List.mem_append_left _ h | (intro r hr; simp [hr]; done)))
  rintro st' rfl
  clear hq e48 e32 e16
  obtain ⟨ly, sy, ky, s6, e6⟩ := q
  dsimp only at hqs
  (repeat (first | ((first | (apply wo_v; rfl) ); (· first | (apply pv_ev; rfl) )) | apply wc_seq | apply wc_region ))
  (refine wo_call (octErr g s6 e6) rfl (by (repeat (first | apply sub_nil | (apply sub_cons; (· (repeat (first | apply sel_here | apply sel_there)))))); done) (by first | exact fun _ h => h | (intro r hr; cases hr; done) | (simp; done) | exact fun _ h => List.mem_append_left _ h | (intro r hr; simp [hr]; done)) rfl ?_; rintro v L' R' ⟨rfl, rfl, rfl⟩ H' hH RR hR; simp only [List.cons_append, List.nil_append] at hH hR; subst hH; have hR := hR.symm; subst hR)
  by_cases he : e6 ≠ 0
  · rw [show mkD a (pc, w, r3) (lv, r4) (ly, sy, ky, s6, e6) = (Dc0, E0, e6) from if_pos he]
    (repeat (first | ((first | (apply wo_v; rfl) ); (· first | (apply pv_ev; rfl) | (apply g_build; apply pv_build; (· (repeat (first | apply Bld.nil )))) )) | apply wo_nil | apply wc_seq | apply wc_region | apply wc_ret | (apply wc_true; rfl) | (apply wc_false; rfl) | (apply a_dec_t; rfl; (· first | assumption | omega)) | (apply wo_sta; rfl; rfl; rfl; rfl; (· (repeat (first | apply sel_here | apply sel_there))); (· (repeat (first | apply LayAt.nil | apply LayAt.here ))); rfl) ))
    exact retv rfl (by (repeat (first | apply RV.nil | (apply RV.tmp; rfl) | (apply RV.agg; rfl; (· (repeat (first | apply sel_here ))); infer_instance; (· (repeat (first | apply Cut.here0 | apply Cut.here )))) )); done) (⟨rfl, rfl, rfl⟩) (by (repeat (first | apply sub_nil )); done) (by first | exact fun _ h => h | (intro r hr; cases hr; done) | (simp; done) | exact fun _ h => List.mem_append_left _ h | (intro r hr; simp [hr]; done))
  · obtain rfl := Classical.not_not.1 he
    have hm : mkD a (pc, w, r3) (lv, r4) (ly, sy, ky, s6, 0) = (⟨nr, st, a % 8, pc, w, lv, ly, sy, ky⟩, s6, 0) := by unfold mkD; simp only; rw [if_neg (by simp), hnr, hst]
    rw [hm]
    have qr := octRest g s6 0 (by omega)
    rw [rest0] at qr
    (repeat (first | ((first | (apply wo_v; rfl) ); (· first | (apply pv_ev; rfl) )) | apply wo_nil | apply wc_seq | apply wc_region | apply wc_skip | (apply wc_true; rfl) | (apply wc_false; rfl) ))
    (refine wc_regM [0, 1] (aslL [(2, [0]), (3, [1])]) (tblV g z s6 (rdB s6 0 s6.size).2 (dO z nr st (a % 8) pc w lv ly sy ky)) ([dO h nr st (a % 8) pc w lv ly sy ky]) (fm [(0, [rdO g s6 0]), (1, [dO z false false 0 0 false 0 0 false 0])]) mixed (by kernel_rfl) (by kernel_rfl) (by decide) (aslL_ok (by decide)) (by (repeat (first | (apply prm_cons; (· (repeat (first | apply sel_here | apply sel_there)))) | apply List.Perm.nil )); done) ?_; (repeat (first | (apply HdM.val; rfl; rfl; (· first | apply gok_none ); (· first | (apply pv_ev; rfl) | (apply g_load; first | (apply pv_lda; rfl; (· (repeat (first | apply sel_here ))); (· (repeat (first | apply Cut.here0 | apply Cut.here )))) ) )) )))
    (refine hm_eff (cs := [0]) rfl (by decide) rfl rfl (by first | exact gok_none | exact gok_run rfl rfl) (fun a ha => outc_mono (outc_call (F1 := _) (T := fun v M => v = .string s6 ∧ M = [rdO g (rdB s6 0 s6.size).2.1 (rdB s6 0 s6.size).2.2]) qr rfl (by (repeat (first | apply sub_nil )); done) (by first | exact fun _ h => h | (intro r hr; cases hr; done) | (simp; done) | exact fun _ h => List.mem_append_left _ h | (intro r hr; simp [hr]; done)) (by rintro v L' R' ⟨rfl, rfl, _⟩; exact ⟨_, ⟨rfl, rfl⟩, (by (repeat (first | (apply prm_cons; (· (repeat (first | apply sel_here )))) | apply List.Perm.nil )); done)⟩) a ha) (fun v M h => ⟨[M], And.intro h.1 (congrArg (fun x => [x]) h.2), rfl, by simp⟩)) (⟨_, _, And.intro rfl rfl, rfl⟩) ?_; rintro v Ms ⟨rfl, rfl⟩ _; simp only [setls, setl, reduceIte, Nat.reduceEqDiff]; (repeat (first | fail )))
    (refine hm_eff (cs := [1]) rfl (by decide) rfl rfl (by first | exact gok_none | exact gok_run rfl rfl) (fun a ha => outc_mono (outc_sta rfl rfl rfl rfl (by (repeat (first | apply LayAt.nil | apply LayAt.here )); done) a ha) (fun v M h => ⟨[M], And.intro h.1 (congrArg (fun x => [x]) h.2), rfl, by simp⟩)) ⟨_, _, And.intro rfl rfl, rfl⟩ ?_; rintro v Ms ⟨rfl, rfl⟩ _; simp only [setls, setl, reduceIte, Nat.reduceEqDiff]; (repeat (first | (apply HdM.val; rfl; rfl; (· first | apply gok_none ); (· first | (apply pv_ev; rfl) )) )))
    (refine HdM.nil ?_; intro H hH; simp only [Hp, fm, look, setl, List.flatMap_cons, List.flatMap_nil, reduceIte, Nat.reduceEqDiff, Option.getD_some, List.append_nil, List.cons_append, List.nil_append] at hH; subst hH)
    (repeat (first | apply wc_ret ))
    exact retv rfl (by (repeat (first | apply RV.nil | (apply RV.tmp; rfl) | (apply RV.agg; rfl; (· (repeat (first | apply sel_here | apply sel_there))); infer_instance; (· (repeat (first | apply Cut.here0 | apply Cut.here )))) )); done) (⟨rfl, rfl, rfl⟩) (by (repeat (first | apply sub_nil )); done) (by first | exact fun _ h => h | (intro r hr; cases hr; done) | (simp; done) | exact fun _ h => List.mem_append_left _ h | (intro r hr; simp [hr]; done))
end Go.Proofs.Ytlhlidmhlhodiaa

/-
  Layer 4: a descriptor's bytes; Check, With, Keyframe.
-/
namespace Go.Proofs.Ytlhlidmhlhodiaa
set_option linter.unusedSimpArgs false
set_option linter.unusedVariables false
set_option linter.unusedSimpArgs false
set_option linter.unusedVariables false
open Go.RowKit
attribute [local irreducible] Pv WO WC Fn
attribute [local irreducible] ByteArray.extract
set_option maxRecDepth 100000

theorem or16_hi {p : Int} (h : 0 ≤ p ∧ p ≤ 32767) : bits .or .u16 p 32768 = p + 32768 := by
  obtain ⟨u, rfl⟩ := Int.eq_ofNat_of_zero_le h.1
  show IntKind.u16.wrap ((BitVec.ofInt 16 (u : Int) ||| BitVec.ofInt 16 ((32768 : Nat) : Int)).toNat : Int) = _
  have hz : ∀ c : Nat, c < 2 ^ 16 → (BitVec.ofInt 16 (c : Int)).toNat = c := fun c hc => by
    rw [BitVec.ofInt_natCast, BitVec.toNat_ofNat]; exact Nat.mod_eq_of_lt hc
  rw [BitVec.toNat_or, hz u (by omega), hz 32768 (by omega), Nat.or_comm]
  have e := Nat.two_pow_add_eq_or_of_lt (i := 15) (b := u) (by omega) 1
  rw [show 2 ^ 15 * 1 = 32768 from rfl] at e
  rw [← e, IntKind.wrap_u16]
  omega
abbrev wrR0 (g : Nat) (t : ByteArray) (v : Value) (Ms : List (List It)) : Prop := ∃ (p ao : Option Addr) (c : Nat), v = .pointer (some ⟨g, 0, none⟩) ∧ Ms = [wrH g p ao c t, []] ∧ WOk g p ao c t
/-- quiet calls' values qs, a slice of one byte y at k1, the write at k2 -/
abbrev tblT (g : Nat) (T : ByteArray) (y : Int) (k1 k2 : Nat) (qs : List (Nat × Value)) : Nat → List (List It) → Value → List (List It) → Prop := fun k Ls v Ms =>
  if k = k1 then ∃ b, v = .slice (some ⟨b, 0, none⟩) 1 1 ∧ Ms = [[byO b 1 (b1 y)]]
  else if k = k2 then wrR0 g T v Ms
  else v = (qs.lookup k).getD undef ∧ Ms = [[]]
theorem imp_b1 {y y' : Int} (hy : y' = y) (h : 0 ≤ y ∧ y ≤ 255) {v : Value} {M : List It} (hM : ∃ b, v = .slice (some ⟨b, 0, none⟩) 1 1 ∧ M = [.own 5 1 (some ⟨b, 0, none⟩) 1 1 [[.int .u8 y']]]) : ∃ b, v = .slice (some ⟨b, 0, none⟩) 1 1 ∧ M = [byO b 1 (b1 y)] := by
  obtain ⟨b, h1, h2⟩ := hM
  refine ⟨b, h1, h2.trans ?_⟩
  show _ = [It.own 5 1 (some ⟨b, 0, none⟩) 1 1 (brows (b1 y))]
  rw [← brows_one h, hy]
set_option maxHeartbeats 64000000 in
theorem vText (nr st : Bool) (pt pic : Int) (wd : Bool) (lv ly : Int) (sy : Bool) (ky : Int) (hA : okA ⟨nr, st, pt, pic, wd, lv, ly, sy, ky⟩) (hF : okF ⟨nr, st, pt, pic, wd, lv, ly, sy, ky⟩) :
    Fn Try.prog 14 #[.agg (dL nr st pt pic wd lv ly sy ky).toArray] [] [] (fun v L' R' => v = .string (txt ⟨nr, st, pt, pic, wd, lv, ly, sy, ky⟩) ∧ L' = [] ∧ R' = []) := by
  have hfb := first_b _ hA
  have hfl := fls_b ⟨nr, st, pt, pic, wd, lv, ly, sy, ky⟩
  obtain ⟨a1, a2, a3, a4, a5, a6, a7, a8, a9, a10⟩ := hA
  obtain ⟨f1, f2, f3⟩ := hF
  dsimp only at a1 a2 a3 a4 a5 a6 a7 a8 a9 a10 f1 f2 f3 hfb
  have e7 := and_7 pt
  obtain ⟨mb, hmb⟩ : ∃ mb, moreB ⟨nr, st, pt, pic, wd, lv, ly, sy, ky⟩ = mb := ⟨_, rfl⟩
  obtain ⟨x1, hx1⟩ : ∃ x, bt mb 128 = x := ⟨_, rfl⟩
  obtain ⟨x2, hx2⟩ : ∃ x, bt nr 32 = x := ⟨_, rfl⟩
  obtain ⟨x3, hx3⟩ : ∃ x, bt st 16 = x := ⟨_, rfl⟩
  have o1 := bt_or mb 128
  have o2 := bt_or nr 32
  have o3 := bt_or st 16
  rw [hmb, hx1, hx2, hx3] at hfb
  rw [hx1] at o1
  rw [hx2] at o2
  rw [hx3] at o3
  obtain ⟨y, hy⟩ : ∃ y, x1 + x2 + x3 + pt = y := ⟨_, rfl⟩
  rw [hy] at hfb
  have hy' : x1 + x2 + x3 + bits .and .i64 pt 7 = y := by omega
  have qm := vMore nr st pt pic wd lv ly sy ky mb hmb
  have hW1 := fun g bl => wU8 g 0 bl 1 none none E0 (b1 y) ⟨.inl rfl, .inl ⟨rfl, rfl, rfl⟩⟩ (by rw [b1_size]; omega) (by rw [b1_size]; decide)
  simp only [E0_append] at hW1
  have htx : txt ⟨nr, st, pt, pic, wd, lv, ly, sy, ky⟩ = b1 y ++ (if mb = true then b1 (fls ⟨nr, st, pt, pic, wd, lv, ly, sy, ky⟩) ++ (tPic ⟨nr, st, pt, pic, wd, lv, ly, sy, ky⟩ ++ (tLv ⟨nr, st, pt, pic, wd, lv, ly, sy, ky⟩ ++ tLast ⟨nr, st, pt, pic, wd, lv, ly, sy, ky⟩)) else E0) := by
    unfold txt; simp only; rw [hmb, hx1, hx2, hx3, hy]
  rw [htx]
  clear htx
  refine fn_intro Try.func14 rfl Try.ntmps14 rfl (fun E => ?_)
  (repeat (first | ((first | (apply wo_v; rfl) ); (· first | (apply pv_ev; rfl) )) | apply wo_nil | apply wc_seq | apply wc_region | (apply wo_box1; rfl; rfl; rfl; intro bx) | (apply wo_boxa; rfl; rfl; intro bx) | (apply wo_alloc; rfl; intro bx) ))
  obtain ⟨h, hh⟩ : ∃ h, h = bx := ⟨_, rfl⟩
  subst hh
  obtain ⟨g, hg⟩ : ∃ g, g = h := ⟨_, rfl⟩
  subst hg
  refine wc_own0 5 1 ?_
  refine wc_join0 (fun st' => ∃ (p ao : Option Addr) (c : Nat), st' = ⟨[(1, .pointer (some ⟨bx, 0, none⟩)), (3, .pointer (some ⟨g, 0, none⟩))], wrH g p ao c (b1 y) ++ [dO bx nr st pt pic wd lv ly sy ky], []⟩ ∧ WOk g p ao c (b1 y)) ?_ ?_
  · (refine wc_regM [0, 1, 2, 3, 4, 5] (aslL [(1, [2]), (2, [3]), (5, [4]), (9, [5]), (16, [1]), (17, [0, 1])]) (tblT g (b1 y) y 16 17 [(1, .bool mb), (2, .int .u8 x1), (5, .int .u8 x2), (9, .int .u8 x3)]) ([dO bx nr st pt pic wd lv ly sy ky]) (fm [(0, wrH g none none 0 E0), (1, []), (2, []), (3, []), (4, []), (5, [])]) mixed (by kernel_rfl) (by kernel_rfl) (by decide) (aslL_ok (by decide)) (by (repeat (first | (apply prm_cons; (· (repeat (first | apply sel_here | apply sel_there)))) | apply List.Perm.nil )); done) ?_; (repeat (first | (apply HdM.val; rfl; rfl; (· first | apply gok_none ); (· first | (apply pv_ev; rfl) | (apply g_load; first | (apply pv_lda; rfl; (· (repeat (first | apply sel_here ))); (· (repeat (first | apply Cut.here0 | apply Cut.here )))) ) )) )))
    (refine hm_eff (cs := [2]) rfl (by decide) rfl rfl (by first | exact gok_none | exact gok_run rfl rfl) (fun a ha => outc_mono (outc_call (F1 := _) (T := fun v M => v = .bool mb ∧ M = []) (qm) rfl (by (repeat (first | apply sub_nil )); done) (by first | exact fun _ h => h | (intro r hr; cases hr; done) | (simp; done) | exact fun _ h => List.mem_append_left _ h | (intro r hr; simp [hr]; done)) (by rintro v L' R' ⟨rfl, rfl, _⟩; exact ⟨_, ⟨rfl, rfl⟩, (by (repeat (first | (apply prm_cons; (· (repeat (first | apply sel_here )))) | apply List.Perm.nil )); done)⟩) a ha) (fun v M h => ⟨[[]], And.intro h.1 rfl, rfl, h.2⟩)) ⟨_, _, And.intro rfl rfl, rfl⟩ ?_; rintro v Ms ⟨rfl, rfl⟩ _; simp only [setls, setl, reduceIte, Nat.reduceEqDiff]; (repeat (first | (apply HdM.val; rfl; rfl; (· first | fail ); (· first | fail )) )))
    (refine hm_eff (cs := [3]) rfl (by decide) rfl rfl (by first | exact gok_none | exact gok_run rfl rfl) (fun a ha => outc_mono (outc_call (F1 := _) (T := fun v M => v = .int .u8 x1 ∧ M = []) (vBit mb 128 x1 hx1) rfl (by (repeat (first | apply sub_nil )); done) (by first | exact fun _ h => h | (intro r hr; cases hr; done) | (simp; done) | exact fun _ h => List.mem_append_left _ h | (intro r hr; simp [hr]; done)) (by rintro v L' R' ⟨rfl, rfl, _⟩; exact ⟨_, ⟨rfl, rfl⟩, (by (repeat (first | (apply prm_cons; (· (repeat (first | apply sel_here )))) | apply List.Perm.nil )); done)⟩) a ha) (fun v M h => ⟨[[]], And.intro h.1 rfl, rfl, h.2⟩)) ⟨_, _, And.intro rfl rfl, rfl⟩ ?_; rintro v Ms ⟨rfl, rfl⟩ _; simp only [setls, setl, reduceIte, Nat.reduceEqDiff]; (repeat (first | (apply HdM.val; rfl; rfl; (· first | apply gok_none ); (· first | (apply pv_ev; rfl) | (apply pv_fld; rfl) | (apply g_load; first | (apply pv_ld; rfl; (· (repeat (first | apply sel_here ))); rfl) ) )) )))
    (refine hm_eff (cs := [4]) rfl (by decide) rfl rfl (by first | exact gok_none | exact gok_run rfl rfl) (fun a ha => outc_mono (outc_call (F1 := _) (T := fun v M => v = .int .u8 x2 ∧ M = []) (vBit nr 32 x2 hx2) rfl (by (repeat (first | apply sub_nil )); done) (by first | exact fun _ h => h | (intro r hr; cases hr; done) | (simp; done) | exact fun _ h => List.mem_append_left _ h | (intro r hr; simp [hr]; done)) (by rintro v L' R' ⟨rfl, rfl, _⟩; exact ⟨_, ⟨rfl, rfl⟩, (by (repeat (first | (apply prm_cons; (· (repeat (first | apply sel_here )))) | apply List.Perm.nil )); done)⟩) a ha) (fun v M h => ⟨[[]], And.intro h.1 rfl, rfl, h.2⟩)) ⟨_, _, And.intro rfl rfl, rfl⟩ ?_; rintro v Ms ⟨rfl, rfl⟩ _; simp only [setls, setl, reduceIte, Nat.reduceEqDiff]; (repeat (first | (apply HdM.val; rfl; rfl; (· first | apply gok_none ); (· first | (apply pv_ev; rfl) | (apply pv_fld; rfl) | (apply g_load; first | (apply pv_ld; rfl; (· (repeat (first | apply sel_here ))); rfl) ) | (apply g_bin; first | (apply (a_or 4); rfl; rfl; infer_instance; rfl; omega) | (apply (a_or 5); rfl; rfl; infer_instance; rfl; omega) | (apply (a_or 6); rfl; rfl; infer_instance; rfl; omega) ) )) )))
    (refine hm_eff (cs := [5]) rfl (by decide) rfl rfl (by first | exact gok_none | exact gok_run rfl rfl) (fun a ha => outc_mono (outc_call (F1 := _) (T := fun v M => v = .int .u8 x3 ∧ M = []) (vBit st 16 x3 hx3) rfl (by (repeat (first | apply sub_nil )); done) (by first | exact fun _ h => h | (intro r hr; cases hr; done) | (simp; done) | exact fun _ h => List.mem_append_left _ h | (intro r hr; simp [hr]; done)) (by rintro v L' R' ⟨rfl, rfl, _⟩; exact ⟨_, ⟨rfl, rfl⟩, (by (repeat (first | (apply prm_cons; (· (repeat (first | apply sel_here )))) | apply List.Perm.nil )); done)⟩) a ha) (fun v M h => ⟨[[]], And.intro h.1 rfl, rfl, h.2⟩)) ⟨_, _, And.intro rfl rfl, rfl⟩ ?_; rintro v Ms ⟨rfl, rfl⟩ _; simp only [setls, setl, reduceIte, Nat.reduceEqDiff]; (repeat (first | (apply HdM.val; rfl; rfl; (· first | apply gok_none ); (· first | (apply pv_ev; rfl) | (apply pv_fld; rfl) | (apply g_load; first | (apply pv_ld; rfl; (· (repeat (first | apply sel_here ))); rfl) ) | (apply g_bin; first | (apply pv_and; rfl; rfl) | (apply (a_or 4); rfl; rfl; infer_instance; rfl; omega) | (apply (a_or 5); rfl; rfl; infer_instance; rfl; omega) ) | (apply g_conv; first | (apply a_conv; rfl; infer_instance; infer_instance; infer_instance; omega) ) )) )))
    (refine hm_eff (cs := [1]) rfl (by decide) rfl rfl (by first | exact gok_none | exact gok_run rfl rfl) (fun a ha => outc_mono (outc_bsl (by (repeat (first | apply Rws'.nil | (apply Rws'.one; rfl; rfl; rfl) )); done) rfl rfl rfl a ha) (fun v M h => by obtain ⟨b, h1, h2⟩ := imp_b1 hy' hfb h; exact ⟨[M], Exists.intro b (And.intro h1 (congrArg (fun x => [x]) h2)), rfl, by simp⟩)) (⟨_, _, Exists.intro 0 (And.intro rfl rfl), rfl⟩) ?_; rintro v Ms ⟨b16, rfl, rfl⟩ _; simp only [setls, setl, reduceIte, Nat.reduceEqDiff]; (repeat (first | (apply HdM.val; rfl; rfl; (· first | fail ); (· first | fail )) )))
    (refine hm_eff (cs := [0, 1]) rfl (by decide) rfl rfl (by first | exact gok_none | exact gok_run rfl rfl) (fun a ha => outc_mono (outc_call (F1 := _) (T := fun v M => ∃ (p ao : Option Addr) (c : Nat), v = .pointer (some ⟨g, 0, none⟩) ∧ M = wrH g p ao c (b1 y) ∧ WOk g p ao c (b1 y)) (hW1 g b16) rfl (by (repeat (first | apply sub_nil )); done) (by first | exact fun _ h => h | (intro r hr; cases hr; done) | (simp; done) | exact fun _ h => List.mem_append_left _ h | (intro r hr; simp [hr]; done)) (by rintro v L' R' ⟨p', ao', c', rfl, rfl, _, hw'⟩; exact ⟨_, ⟨p', ao', c', rfl, rfl, hw'⟩, (by (repeat (first | (apply prm_cons; (· (repeat (first | apply sel_here )))) | apply List.Perm.nil )); done)⟩) a ha) (fun v M h => Exists.elim h fun p h => Exists.elim h fun ao h => Exists.elim h fun c h => ⟨[M, []], Exists.intro p (Exists.intro ao (Exists.intro c (And.intro h.1 (And.intro (congrArg (fun x => [x, []]) h.2.1) h.2.2)))), rfl, by simp⟩)) ((by obtain ⟨p, ao, c, h⟩ := WOk.ex g (b1 y); exact ⟨_, _, Exists.intro p (Exists.intro ao (Exists.intro c (And.intro rfl (And.intro rfl h)))), rfl⟩)) ?_; rintro v Ms ⟨p1, ao1, c1, rfl, rfl, hw1⟩ _; simp only [setls, setl, reduceIte, Nat.reduceEqDiff]; (repeat (first | fail )))
    (refine HdM.nil ?_; intro H hH; simp only [Hp, fm, look, setl, List.flatMap_cons, List.flatMap_nil, reduceIte, Nat.reduceEqDiff, Option.getD_some, List.append_nil, List.cons_append, List.nil_append] at hH; subst hH)
    exact cut_end ⟨p1, ao1, c1, rfl, hw1⟩ (wk_mk (by (repeat (first | apply wkf_nil | (apply wkf_cons; rfl))); done) (by (repeat (first | apply sub_nil | (apply sub_cons; (· (repeat (first | apply sel_here | apply sel_there)))))); done) (by first | exact fun _ h => h | (intro r hr; cases hr; done) | (simp; done) | exact fun _ h => List.mem_append_left _ h | (intro r hr; simp [hr]; done)))
  rintro st' ⟨p1, ao1, c1, rfl, hw1⟩
  (repeat (first | ((first | (apply wo_v; rfl) ); (· first | (apply pv_ev; rfl) | (apply g_load; first | (apply pv_lda; rfl; (· (repeat (first | apply sel_here | apply sel_there))); (· (repeat (first | apply Cut.here0 | apply Cut.here )))) ) )) | apply wc_seq | apply wc_region ))
  (refine wo_call (qm) rfl (by (repeat (first | apply sub_nil )); done) (by first | exact fun _ h => h | (intro r hr; cases hr; done) | (simp; done) | exact fun _ h => List.mem_append_left _ h | (intro r hr; simp [hr]; done)) rfl ?_; rintro v L' R' ⟨rfl, rfl, rfl⟩ H' hH RR hR; simp only [List.cons_append, List.nil_append] at hH hR; subst hH; have hR := hR.symm; subst hR)
  cases mb with
  | false =>
    (repeat (first | ((first | (apply wo_v; rfl) ); (· first | (apply pv_ev; rfl) | (apply g_un; first | (apply pv_not_t; rfl) | (apply pv_not_f; rfl) ) )) | apply wo_nil | apply wc_seq | apply wc_region | (apply wc_true; rfl) ))
    (refine wo_call (wText g c1 p1 ao1 (b1 y) hw1) rfl (by (repeat (first | apply sub_nil )); done) (by first | exact fun _ h => h | (intro r hr; cases hr; done) | (simp; done) | exact fun _ h => List.mem_append_left _ h | (intro r hr; simp [hr]; done)) rfl ?_; rintro v L' R' ⟨rfl, rfl, rfl⟩ H' hH RR hR; simp only [List.cons_append, List.nil_append] at hH hR; subst hH; have hR := hR.symm; subst hR)
    (repeat (first | ((first | (apply wo_v; rfl) ); (· first | (apply pv_ev; rfl) )) | apply wo_nil | apply wc_ret ))
    exact ret1 rfl rfl ⟨by rw [if_neg (by simp), append_E0], rfl, rfl⟩ ((by (repeat (first | apply sub_nil )); done) : List.Perm _ ([] ++ _)) (by first | exact fun _ h => h | (intro r hr; cases hr; done) | (simp; done) | exact fun _ h => List.mem_append_left _ h | (intro r hr; simp [hr]; done))
  | true =>
  rw [if_pos rfl]
  obtain ⟨x5, hx5⟩ : ∃ x, bt (decide (0 ≤ pic)) 128 = x := ⟨_, rfl⟩
  obtain ⟨x6, hx6⟩ : ∃ x, bt (decide (0 ≤ lv)) 64 = x := ⟨_, rfl⟩
  obtain ⟨x7, hx7⟩ : ∃ x, bt (decide (0 ≤ ly)) 32 = x := ⟨_, rfl⟩
  obtain ⟨x8, hx8⟩ : ∃ x, bt (decide (0 ≤ ky)) 16 = x := ⟨_, rfl⟩
  have o5 := bt_or (decide (0 ≤ pic)) 128
  have o6 := bt_or (decide (0 ≤ lv)) 64
  have o7 := bt_or (decide (0 ≤ ly)) 32
  have o8 := bt_or (decide (0 ≤ ky)) 16
  rw [hx5] at o5
  rw [hx6] at o6
  rw [hx7] at o7
  rw [hx8] at o8
  have hF0 : x5 + x6 + x7 + x8 = fls ⟨nr, st, pt, pic, wd, lv, ly, sy, ky⟩ := by unfold fls; simp only; rw [hx5, hx6, hx7, hx8]
  generalize fls ⟨nr, st, pt, pic, wd, lv, ly, sy, ky⟩ = F at hF0 hfl ⊢
  have hfl2 : 0 ≤ F ∧ F ≤ 255 := by omega
  have hW2 := fun bl => wU8 g c1 bl 1 p1 ao1 (b1 y) (b1 F) hw1 (by rw [b1_size]; omega) (by rw [b1_size, b1_size]; decide)
  (repeat (first | ((first | (apply wo_v; rfl) ); (· first | (apply pv_ev; rfl) | (apply g_un; first | (apply pv_not_t; rfl) ) )) | apply wo_nil | apply wc_seq | apply wc_skip | (apply wc_true; rfl) | (apply wc_false; rfl) ))
  refine wc_join0 (fun st' => ∃ (p ao : Option Addr) (c : Nat), st' = ⟨[(1, .pointer (some ⟨bx, 0, none⟩)), (3, .pointer (some ⟨g, 0, none⟩))], wrH g p ao c (b1 y ++ b1 F) ++ [dO bx nr st pt pic wd lv ly sy ky], []⟩ ∧ WOk g p ao c (b1 y ++ b1 F)) ?_ ?_
  · (refine wc_regM [0, 1, 2, 3, 4, 5] (aslL [(3, [2]), (7, [3]), (12, [4]), (17, [5]), (19, [1]), (20, [0, 1])]) (tblT g (b1 y ++ b1 F) F 19 20 [(3, .int .u8 x5), (7, .int .u8 x6), (12, .int .u8 x7), (17, .int .u8 x8)]) ([dO bx nr st pt pic wd lv ly sy ky]) (fm [(0, wrH g p1 ao1 c1 (b1 y)), (1, []), (2, []), (3, []), (4, []), (5, [])]) mixed (by kernel_rfl) (by kernel_rfl) (by decide) (aslL_ok (by decide)) (by (repeat (first | (apply prm_cons; (· (repeat (first | apply sel_here | apply sel_there)))) | apply List.Perm.nil )); done) ?_; (repeat (first | (apply HdM.val; rfl; rfl; (· first | apply gok_none ); (· first | (apply pv_ev; rfl) | (apply pv_fld; rfl) | (apply g_load; first | (apply pv_ld; rfl; (· (repeat (first | apply sel_here ))); rfl) ) )) )))
    (refine hm_eff (cs := [2]) rfl (by decide) rfl rfl (by first | exact gok_none | exact gok_run rfl rfl) (fun a ha => outc_mono (outc_call (F1 := _) (T := fun v M => v = .int .u8 x5 ∧ M = []) (vBit (decide (0 ≤ pic)) 128 x5 hx5) rfl (by (repeat (first | apply sub_nil )); done) (by first | exact fun _ h => h | (intro r hr; cases hr; done) | (simp; done) | exact fun _ h => List.mem_append_left _ h | (intro r hr; simp [hr]; done)) (by rintro v L' R' ⟨rfl, rfl, _⟩; exact ⟨_, ⟨rfl, rfl⟩, (by (repeat (first | (apply prm_cons; (· (repeat (first | apply sel_here )))) | apply List.Perm.nil )); done)⟩) a ha) (fun v M h => ⟨[[]], And.intro h.1 rfl, rfl, h.2⟩)) ⟨_, _, And.intro rfl rfl, rfl⟩ ?_; rintro v Ms ⟨rfl, rfl⟩ _; simp only [setls, setl, reduceIte, Nat.reduceEqDiff]; (repeat (first | (apply HdM.val; rfl; rfl; (· first | apply gok_none ); (· first | (apply pv_ev; rfl) | (apply pv_fld; rfl) | (apply g_load; first | (apply pv_ld; rfl; (· (repeat (first | apply sel_here ))); rfl) ) )) )))
    (refine hm_eff (cs := [3]) rfl (by decide) rfl rfl (by first | exact gok_none | exact gok_run rfl rfl) (fun a ha => outc_mono (outc_call (F1 := _) (T := fun v M => v = .int .u8 x6 ∧ M = []) (vBit (decide (0 ≤ lv)) 64 x6 hx6) rfl (by (repeat (first | apply sub_nil )); done) (by first | exact fun _ h => h | (intro r hr; cases hr; done) | (simp; done) | exact fun _ h => List.mem_append_left _ h | (intro r hr; simp [hr]; done)) (by rintro v L' R' ⟨rfl, rfl, _⟩; exact ⟨_, ⟨rfl, rfl⟩, (by (repeat (first | (apply prm_cons; (· (repeat (first | apply sel_here )))) | apply List.Perm.nil )); done)⟩) a ha) (fun v M h => ⟨[[]], And.intro h.1 rfl, rfl, h.2⟩)) ⟨_, _, And.intro rfl rfl, rfl⟩ ?_; rintro v Ms ⟨rfl, rfl⟩ _; simp only [setls, setl, reduceIte, Nat.reduceEqDiff]; (repeat (first | (apply HdM.val; rfl; rfl; (· first | apply gok_none ); (· first | (apply pv_ev; rfl) | (apply pv_fld; rfl) | (apply g_load; first | (apply pv_ld; rfl; (· (repeat (first | apply sel_here ))); rfl) ) | (apply g_bin; first | (apply (a_or 4); rfl; rfl; infer_instance; rfl; omega) | (apply (a_or 5); rfl; rfl; infer_instance; rfl; omega) | (apply (a_or 6); rfl; rfl; infer_instance; rfl; omega) | (apply (a_or 7); rfl; rfl; infer_instance; rfl; omega) ) )) )))
    (refine hm_eff (cs := [4]) rfl (by decide) rfl rfl (by first | exact gok_none | exact gok_run rfl rfl) (fun a ha => outc_mono (outc_call (F1 := _) (T := fun v M => v = .int .u8 x7 ∧ M = []) (vBit (decide (0 ≤ ly)) 32 x7 hx7) rfl (by (repeat (first | apply sub_nil )); done) (by first | exact fun _ h => h | (intro r hr; cases hr; done) | (simp; done) | exact fun _ h => List.mem_append_left _ h | (intro r hr; simp [hr]; done)) (by rintro v L' R' ⟨rfl, rfl, _⟩; exact ⟨_, ⟨rfl, rfl⟩, (by (repeat (first | (apply prm_cons; (· (repeat (first | apply sel_here )))) | apply List.Perm.nil )); done)⟩) a ha) (fun v M h => ⟨[[]], And.intro h.1 rfl, rfl, h.2⟩)) ⟨_, _, And.intro rfl rfl, rfl⟩ ?_; rintro v Ms ⟨rfl, rfl⟩ _; simp only [setls, setl, reduceIte, Nat.reduceEqDiff]; (repeat (first | (apply HdM.val; rfl; rfl; (· first | apply gok_none ); (· first | (apply pv_ev; rfl) | (apply pv_fld; rfl) | (apply g_load; first | (apply pv_ld; rfl; (· (repeat (first | apply sel_here ))); rfl) ) | (apply g_bin; first | (apply (a_or 4); rfl; rfl; infer_instance; rfl; omega) | (apply (a_or 5); rfl; rfl; infer_instance; rfl; omega) | (apply (a_or 6); rfl; rfl; infer_instance; rfl; omega) ) )) )))
    (refine hm_eff (cs := [5]) rfl (by decide) rfl rfl (by first | exact gok_none | exact gok_run rfl rfl) (fun a ha => outc_mono (outc_call (F1 := _) (T := fun v M => v = .int .u8 x8 ∧ M = []) (vBit (decide (0 ≤ ky)) 16 x8 hx8) rfl (by (repeat (first | apply sub_nil )); done) (by first | exact fun _ h => h | (intro r hr; cases hr; done) | (simp; done) | exact fun _ h => List.mem_append_left _ h | (intro r hr; simp [hr]; done)) (by rintro v L' R' ⟨rfl, rfl, _⟩; exact ⟨_, ⟨rfl, rfl⟩, (by (repeat (first | (apply prm_cons; (· (repeat (first | apply sel_here )))) | apply List.Perm.nil )); done)⟩) a ha) (fun v M h => ⟨[[]], And.intro h.1 rfl, rfl, h.2⟩)) ⟨_, _, And.intro rfl rfl, rfl⟩ ?_; rintro v Ms ⟨rfl, rfl⟩ _; simp only [setls, setl, reduceIte, Nat.reduceEqDiff]; (repeat (first | (apply HdM.val; rfl; rfl; (· first | apply gok_none ); (· first | (apply pv_ev; rfl) | (apply g_bin; first | (apply (a_or 4); rfl; rfl; infer_instance; rfl; omega) | (apply (a_or 5); rfl; rfl; infer_instance; rfl; omega) ) )) )))
    (refine hm_eff (cs := [1]) rfl (by decide) rfl rfl (by first | exact gok_none | exact gok_run rfl rfl) (fun a ha => outc_mono (outc_bsl (by (repeat (first | apply Rws'.nil | (apply Rws'.one; rfl; rfl; rfl) )); done) rfl rfl rfl a ha) (fun v M h => by obtain ⟨b, h1, h2⟩ := imp_b1 hF0 hfl2 h; exact ⟨[M], Exists.intro b (And.intro h1 (congrArg (fun x => [x]) h2)), rfl, by simp⟩)) (⟨_, _, Exists.intro 0 (And.intro rfl rfl), rfl⟩) ?_; rintro v Ms ⟨b19, rfl, rfl⟩ _; simp only [setls, setl, reduceIte, Nat.reduceEqDiff]; (repeat (first | (apply HdM.val; rfl; rfl; (· first | fail ); (· first | fail )) )))
    (refine hm_eff (cs := [0, 1]) rfl (by decide) rfl rfl (by first | exact gok_none | exact gok_run rfl rfl) (fun a ha => outc_mono (outc_call (F1 := _) (T := fun v M => ∃ (p ao : Option Addr) (c : Nat), v = .pointer (some ⟨g, 0, none⟩) ∧ M = wrH g p ao c (b1 y ++ b1 F) ∧ WOk g p ao c (b1 y ++ b1 F)) (hW2 b19) rfl (by (repeat (first | apply sub_nil )); done) (by first | exact fun _ h => h | (intro r hr; cases hr; done) | (simp; done) | exact fun _ h => List.mem_append_left _ h | (intro r hr; simp [hr]; done)) (by rintro v L' R' ⟨p', ao', c', rfl, rfl, _, hw'⟩; exact ⟨_, ⟨p', ao', c', rfl, rfl, hw'⟩, (by (repeat (first | (apply prm_cons; (· (repeat (first | apply sel_here )))) | apply List.Perm.nil )); done)⟩) a ha) (fun v M h => Exists.elim h fun p h => Exists.elim h fun ao h => Exists.elim h fun c h => ⟨[M, []], Exists.intro p (Exists.intro ao (Exists.intro c (And.intro h.1 (And.intro (congrArg (fun x => [x, []]) h.2.1) h.2.2)))), rfl, by simp⟩)) ((by obtain ⟨p, ao, c, h⟩ := WOk.ex g (b1 y ++ b1 F); exact ⟨_, _, Exists.intro p (Exists.intro ao (Exists.intro c (And.intro rfl (And.intro rfl h)))), rfl⟩)) ?_; rintro v Ms ⟨p2, ao2, c2, rfl, rfl, hw2⟩ _; simp only [setls, setl, reduceIte, Nat.reduceEqDiff]; (repeat (first | fail )))
    (refine HdM.nil ?_; intro H hH; simp only [Hp, fm, look, setl, List.flatMap_cons, List.flatMap_nil, reduceIte, Nat.reduceEqDiff, Option.getD_some, List.append_nil, List.cons_append, List.nil_append] at hH; subst hH)
    exact cut_end ⟨p2, ao2, c2, rfl, hw2⟩ (wk_mk (by (repeat (first | apply wkf_nil | (apply wkf_cons; rfl))); done) (by (repeat (first | apply sub_nil | (apply sub_cons; (· (repeat (first | apply sel_here | apply sel_there)))))); done) (by first | exact fun _ h => h | (intro r hr; cases hr; done) | (simp; done) | exact fun _ h => List.mem_append_left _ h | (intro r hr; simp [hr]; done)))
  rintro st' ⟨p2, ao2, c2, rfl, hw2⟩
  have z2 : (b1 y ++ b1 F).size = 2 := by rw [ByteArray.size_append, b1_size, b1_size]
  rw [← ByteArray.append_assoc, ← ByteArray.append_assoc, ← ByteArray.append_assoc]
  generalize b1 y ++ b1 F = t2 at hw2 z2 ⊢
  clear hW1 hW2 hw1 hx1 hx2 hx3 hx5 hx6 hx7 hx8 o1 o2 o3 o5 o6 o7 o8 hy hy' hF0 qm
  have e127 := and_127 pic
  have wb := fun c2 bl p2 ao2 hw2 x => wU8 g c2 bl 1 p2 ao2 t2 (b1 x) hw2 (by rw [b1_size]; omega) (by rw [b1_size]; omega)
  simp only [b1_size] at wb
  (repeat (first | apply wc_seq ))
  refine wc_join0 (fun st' => ∃ (p ao : Option Addr) (c : Nat), st' = ⟨[(1, .pointer (some ⟨bx, 0, none⟩)), (3, .pointer (some ⟨g, 0, none⟩))], wrH g p ao c (t2 ++ tPic ⟨nr, st, pt, pic, wd, lv, ly, sy, ky⟩) ++ [dO bx nr st pt pic wd lv ly sy ky], []⟩ ∧ WOk g p ao c (t2 ++ tPic ⟨nr, st, pt, pic, wd, lv, ly, sy, ky⟩)) ?_ ?_
  · unfold tPic
    simp only
    refine wc_block ?_
    by_cases hp : 0 ≤ pic
    · cases wd with
      | true =>
        have w16 := fun c2 bl p2 ao2 hw2 => wU16 g c2 bl 1 p2 ao2 t2 [pic + 32768] (by intro y hy; simp at hy; omega) (by simp) hw2 (by omega)
        rw [numsS_one] at w16
        rw [if_pos hp, if_pos rfl]
        have hor := or16_hi (p := pic) (by omega)
        (repeat (first | ((first | (apply wo_v; rfl) ); (· first | (apply pv_ev; rfl) | (apply pv_fld; rfl) | (apply g_load; first | (apply pv_ld; rfl; (· (repeat (first | apply sel_here | apply sel_there))); rfl) ) | (apply g_pick; first | (apply pv_pick_t; rfl; rfl) ) | (apply g_bin; first | (apply (a_or 4); rfl; rfl; infer_instance; rfl; omega) | (apply (a_or 5); rfl; rfl; infer_instance; rfl; omega) | (apply (a_or 6); rfl; rfl; infer_instance; rfl; omega) | (apply (a_or 7); rfl; rfl; infer_instance; rfl; omega) | (apply (a_or 8); rfl; rfl; infer_instance; rfl; omega) | (apply (a_or 16); rfl; rfl; infer_instance; rfl; omega) | (apply (a_or 24); rfl; rfl; infer_instance; rfl; omega) | (apply (a_or 32); rfl; rfl; infer_instance; rfl; omega) | (apply pv_or; rfl; rfl) ) | (apply g_conv; first | (apply a_conv; rfl; infer_instance; infer_instance; infer_instance; omega) ) )) | apply wo_nil | apply wc_seq | apply wc_region | (apply wc_true; rfl) | (apply wo_run; rfl; rfl) | (apply wo_skip; rfl; rfl; rfl; rfl) | (apply wo_skip_u; rfl; rfl; rfl) | (apply a_gt; rfl; rfl; (· first | assumption | omega)) ))
        rw [hor]
        (repeat (first | ((first | (apply wo_v; rfl) ); (· first | (apply pv_ev; rfl) )) | (apply wo_bsl; (· (repeat (first | apply Rws'.nil | (apply Rws'.one; rfl; rfl; rfl) ))); rfl; rfl; rfl; rfl; intro bx) ))
        (refine wo_call (w16 c2 _ p2 ao2 hw2) rfl (by (repeat (first | apply sub_nil | (apply sub_cons; (· (repeat (first | apply sel_here | apply sel_there)))))); done) (by first | exact fun _ h => h | (intro r hr; cases hr; done) | (simp; done) | exact fun _ h => List.mem_append_left _ h | (intro r hr; simp [hr]; done)) rfl ?_; rintro v L' R' ⟨p3, ao3, c3, rfl, rfl, rfl, hw3⟩ H' hH RR hR; simp only [List.cons_append, List.nil_append] at hH hR; subst hH; have hR := hR.symm; subst hR)
        (repeat (first | apply wo_nil ))
        exact cut_end ⟨p3, ao3, c3, rfl, hw3⟩ (wk_mk (by (repeat (first | apply wkf_nil | (apply wkf_cons; rfl))); done) (by (repeat (first | apply sub_nil )); done) (by first | exact fun _ h => h | (intro r hr; cases hr; done) | (simp; done) | exact fun _ h => List.mem_append_left _ h | (intro r hr; simp [hr]; done)))
      | false =>
        have h127 : pic ≤ 127 := by
          rcases Int.lt_or_le 127 pic with h | h
          · exact absurd ⟨h, rfl⟩ f2
          · exact h
        rw [if_pos hp, if_neg (by simp)]
        (repeat (first | ((first | (apply wo_v; rfl) ); (· first | (apply pv_ev; rfl) | (apply pv_fld; rfl) | (apply g_load; first | (apply pv_ld; rfl; (· (repeat (first | apply sel_here | apply sel_there))); rfl) ) | (apply g_pick; first | (apply pv_pick_t; rfl; rfl) ) | (apply g_bin; first | (apply pv_and; rfl; rfl) ) | (apply g_conv; first | (apply a_conv; rfl; infer_instance; infer_instance; infer_instance; omega) ) )) | apply wo_nil | apply wc_seq | apply wc_region | (apply wc_true; rfl) | (apply wc_false; rfl) | (apply a_dec_t; rfl; (· first | assumption | omega)) | (apply wo_run; rfl; rfl) | (apply wo_skip; rfl; rfl; rfl; rfl) | (apply wo_skip_u; rfl; rfl; rfl) | (apply a_gt; rfl; rfl; (· first | assumption | omega)) ))
        rw [e127]
        (repeat (first | ((first | (apply wo_v; rfl) ); (· first | (apply pv_ev; rfl) )) | (apply wo_bsl; (· (repeat (first | apply Rws'.nil | (apply Rws'.one; rfl; rfl; rfl) ))); rfl; rfl; rfl; rfl; intro bx) ))
        rw [brows_one (by omega)]
        (refine wo_call (wb c2 _ p2 ao2 hw2 (pic % 128)) rfl (by (repeat (first | apply sub_nil | (apply sub_cons; (· (repeat (first | apply sel_here | apply sel_there)))))); done) (by first | exact fun _ h => h | (intro r hr; cases hr; done) | (simp; done) | exact fun _ h => List.mem_append_left _ h | (intro r hr; simp [hr]; done)) rfl ?_; rintro v L' R' ⟨p3, ao3, c3, rfl, rfl, rfl, hw3⟩ H' hH RR hR; simp only [List.cons_append, List.nil_append] at hH hR; subst hH; have hR := hR.symm; subst hR)
        (repeat (first | apply wo_nil ))
        exact cut_end ⟨p3, ao3, c3, rfl, hw3⟩ (wk_mk (by (repeat (first | apply wkf_nil | (apply wkf_cons; rfl))); done) (by (repeat (first | apply sub_nil )); done) (by first | exact fun _ h => h | (intro r hr; cases hr; done) | (simp; done) | exact fun _ h => List.mem_append_left _ h | (intro r hr; simp [hr]; done)))
    · rw [if_neg hp, append_E0]
      (repeat (first | ((first | (apply wo_v; rfl) ); (· first | (apply pv_ev; rfl) | (apply pv_fld; rfl) | (apply g_load; first | (apply pv_ld; rfl; (· (repeat (first | apply sel_here | apply sel_there))); rfl) ) | (apply g_pick; first | (apply pv_pick_t; rfl; rfl) | (apply pv_pick_f; rfl; rfl)) )) | apply wo_nil | apply wc_seq | apply wc_region | apply wc_skip | (apply wc_true; rfl) | (apply wc_false; rfl) | (apply a_dec_t; rfl; (· first | assumption | omega)) | (apply a_dec_f; rfl; (· first | assumption | omega)) | (apply wo_run; rfl; rfl) | (apply wo_skip; rfl; rfl; rfl; rfl) | (apply wo_skip_u; rfl; rfl; rfl) | (apply a_gt; rfl; rfl; (· first | assumption | omega)) | (apply a_gf; rfl; rfl; (· first | assumption | omega)) ))
      exact cut_end ⟨p2, ao2, c2, rfl, hw2⟩ (wk_mk (by (repeat (first | apply wkf_nil | (apply wkf_cons; rfl))); done) (by (repeat (first | apply sub_nil )); done) (by first | exact fun _ h => h | (intro r hr; cases hr; done) | (simp; done) | exact fun _ h => List.mem_append_left _ h | (intro r hr; simp [hr]; done)))
  rintro st' ⟨p3, ao3, c3, rfl, hw3⟩
  have z3 : (t2 ++ tPic ⟨nr, st, pt, pic, wd, lv, ly, sy, ky⟩).size ≤ 4 := by
    rw [ByteArray.size_append, tPic_size, z2]; split
    · split <;> omega
    · omega
  generalize t2 ++ tPic ⟨nr, st, pt, pic, wd, lv, ly, sy, ky⟩ = t3 at hw3 z3 ⊢
  clear wb hw2 e127
  have wb := fun c2 bl p2 ao2 hw2 x => wU8 g c2 bl 1 p2 ao2 t3 (b1 x) hw2 (by rw [b1_size]; omega) (by rw [b1_size]; omega)
  simp only [b1_size] at wb
  (repeat (first | ((first | (apply wo_v; rfl) ); (· first | (apply pv_ev; rfl) | (apply pv_fld; rfl) | (apply g_load; first | (apply pv_ld; rfl; (· (repeat (first | apply sel_here | apply sel_there))); rfl) ) )) | apply wo_nil | apply wc_seq | apply wc_region | (apply wc_true; rfl) | (apply wc_false; rfl) | (apply a_dec_t; rfl; (· first | assumption | omega)) | (apply a_dec_f; rfl; (· first | assumption | omega)) | (apply a_dec_t; rfl; (· first | (simp; done) | (simp; omega))) | (apply a_dec_f; rfl; (· first | (simp; done) | (simp; omega))) ))
  refine wc_join0 (fun st' => ∃ (p ao : Option Addr) (c : Nat), st' = ⟨[(1, .pointer (some ⟨bx, 0, none⟩)), (3, .pointer (some ⟨g, 0, none⟩))], wrH g p ao c (t3 ++ tLv ⟨nr, st, pt, pic, wd, lv, ly, sy, ky⟩) ++ [dO bx nr st pt pic wd lv ly sy ky], []⟩ ∧ WOk g p ao c (t3 ++ tLv ⟨nr, st, pt, pic, wd, lv, ly, sy, ky⟩)) ?_ ?_
  · unfold tLv
    simp only
    by_cases hp : 0 ≤ lv
    · rw [if_pos hp]
      (repeat (first | ((first | (apply wo_v; rfl) ); (· first | (apply pv_ev; rfl) | (apply pv_fld; rfl) | (apply g_load; first | (apply pv_ld; rfl; (· (repeat (first | apply sel_here | apply sel_there))); rfl) ) | (apply g_conv; first | (apply a_conv; rfl; infer_instance; infer_instance; infer_instance; omega) ) )) | apply wc_region | (apply wc_true; rfl) | (apply wc_false; rfl) | (apply a_dec_t; rfl; (· first | assumption | omega)) | (apply wo_bsl; (· (repeat (first | apply Rws'.nil | (apply Rws'.one; rfl; rfl; rfl) ))); rfl; rfl; rfl; rfl; intro bx) ))
      rw [brows_one (by omega)]
      (refine wo_call (wb c3 _ p3 ao3 hw3 lv) rfl (by (repeat (first | apply sub_nil | (apply sub_cons; (· (repeat (first | apply sel_here | apply sel_there)))))); done) (by first | exact fun _ h => h | (intro r hr; cases hr; done) | (simp; done) | exact fun _ h => List.mem_append_left _ h | (intro r hr; simp [hr]; done)) rfl ?_; rintro v L' R' ⟨p4, ao4, c4, rfl, rfl, rfl, hw4⟩ H' hH RR hR; simp only [List.cons_append, List.nil_append] at hH hR; subst hH; have hR := hR.symm; subst hR)
      (repeat (first | apply wo_nil ))
      exact cut_end ⟨p4, ao4, c4, rfl, hw4⟩ (wk_mk (by (repeat (first | apply wkf_nil | (apply wkf_cons; rfl))); done) (by (repeat (first | apply sub_nil )); done) (by first | exact fun _ h => h | (intro r hr; cases hr; done) | (simp; done) | exact fun _ h => List.mem_append_left _ h | (intro r hr; simp [hr]; done)))
    · rw [if_neg hp, append_E0]
      (repeat (first | apply wc_skip | (apply wc_true; rfl) | (apply wc_false; rfl) | (apply a_dec_t; rfl; (· first | assumption | omega)) | (apply a_dec_f; rfl; (· first | assumption | omega)) ))
      exact cut_end ⟨p3, ao3, c3, rfl, hw3⟩ (wk_mk (by (repeat (first | apply wkf_nil | (apply wkf_cons; rfl))); done) (by (repeat (first | apply sub_nil )); done) (by first | exact fun _ h => h | (intro r hr; cases hr; done) | (simp; done) | exact fun _ h => List.mem_append_left _ h | (intro r hr; simp [hr]; done)))
  rintro st' ⟨p4, ao4, c4, rfl, hw4⟩
  have z4 : (t3 ++ tLv ⟨nr, st, pt, pic, wd, lv, ly, sy, ky⟩).size ≤ 5 := by
    have : (tLv ⟨nr, st, pt, pic, wd, lv, ly, sy, ky⟩).size ≤ 1 := by
      unfold tLv; split
      · exact Nat.le_refl _
      · exact Nat.zero_le _
    rw [ByteArray.size_append]; omega
  generalize t3 ++ tLv ⟨nr, st, pt, pic, wd, lv, ly, sy, ky⟩ = t4 at hw4 z4 ⊢
  clear wb hw3
  unfold tLast
  simp only
  obtain ⟨x9, hx9⟩ : ∃ x, bt sy 32 = x := ⟨_, rfl⟩
  have o9 := bt_or sy 32
  rw [hx9] at o9 ⊢
  obtain ⟨y5, hy5⟩ : ∃ y5, max ly 0 * 64 + x9 + max ky 0 = y5 := ⟨_, rfl⟩
  have hyb : 0 ≤ y5 ∧ y5 ≤ 255 := by omega
  have w5 := fun bl => wU8 g c4 bl 1 p4 ao4 t4 (b1 y5) hw4 (by rw [b1_size]; omega) (by rw [b1_size]; omega)
  rw [hy5]
  have hcase : 0 ≤ ly ∨ (¬ 0 ≤ ly ∧ 0 ≤ ky) ∨ (¬ 0 ≤ ly ∧ ¬ 0 ≤ ky) := by omega
  rcases hcase with hp | ⟨hp, hp2⟩ | ⟨hp, hp2⟩
  · rw [if_pos (by omega)]
    (repeat (first | ((first | (apply wo_v; rfl) ); (· first | (apply pv_ev; rfl) | (apply pv_fld; rfl) | (apply g_load; first | (apply pv_ld; rfl; (· (repeat (first | apply sel_here | apply sel_there))); rfl) ) | (apply g_pick; first | (apply pv_pick_t; rfl; rfl) ) )) | apply wo_nil | apply wc_seq | apply wc_region | (apply wc_true; rfl) | (apply wo_run; rfl; rfl) | (apply wo_skip; rfl; rfl; rfl; rfl) | (apply wo_skip_u; rfl; rfl; rfl) | (apply a_gt; rfl; rfl; (· first | assumption | omega)) ))
    (refine wc_regM [0, 1, 2] (aslL [(7, [2]), (14, [1]), (15, [0, 1])]) (tblT g (t4 ++ b1 y5) y5 14 15 [(7, .int .u8 x9)]) ([dO bx nr st pt pic wd lv ly sy ky]) (fm [(0, wrH g p4 ao4 c4 t4), (1, []), (2, [])]) mixed (by kernel_rfl) (by kernel_rfl) (by decide) (aslL_ok (by decide)) (by (repeat (first | (apply prm_cons; (· (repeat (first | apply sel_here | apply sel_there)))) | apply List.Perm.nil )); done) ?_; (repeat (first | (apply HdM.val; rfl; rfl; (· first | apply gok_none ); (· first | (apply pv_ev; rfl) | (apply pv_fld; rfl) | (apply g_load; first | (apply pv_ld; rfl; (· (repeat (first | apply sel_here ))); rfl) ) | (apply g_bin; first | (apply a_shl; rfl; rfl; rfl; omega; rfl; infer_instance; omega) ) | (apply g_bi; first | (apply pv_max; rfl; rfl)) | (apply g_conv; first | (apply a_conv; rfl; infer_instance; infer_instance; infer_instance; omega) ) )) )))
    (refine hm_eff (cs := [2]) rfl (by decide) rfl rfl (by first | exact gok_none | exact gok_run rfl rfl) (fun a ha => outc_mono (outc_call (F1 := _) (T := fun v M => v = .int .u8 x9 ∧ M = []) (vBit sy 32 x9 hx9) rfl (by (repeat (first | apply sub_nil )); done) (by first | exact fun _ h => h | (intro r hr; cases hr; done) | (simp; done) | exact fun _ h => List.mem_append_left _ h | (intro r hr; simp [hr]; done)) (by rintro v L' R' ⟨rfl, rfl, _⟩; exact ⟨_, ⟨rfl, rfl⟩, (by (repeat (first | (apply prm_cons; (· (repeat (first | apply sel_here )))) | apply List.Perm.nil )); done)⟩) a ha) (fun v M h => ⟨[[]], And.intro h.1 rfl, rfl, h.2⟩)) ⟨_, _, And.intro rfl rfl, rfl⟩ ?_; rintro v Ms ⟨rfl, rfl⟩ _; simp only [setls, setl, reduceIte, Nat.reduceEqDiff]; (repeat (first | (apply HdM.val; rfl; rfl; (· first | apply gok_none ); (· first | (apply pv_ev; rfl) | (apply pv_fld; rfl) | (apply g_load; first | (apply pv_ld; rfl; (· (repeat (first | apply sel_here ))); rfl) ) | (apply g_bin; first | (apply (a_or 4); rfl; rfl; infer_instance; rfl; omega) | (apply (a_or 5); rfl; rfl; infer_instance; rfl; omega) | (apply (a_or 6); rfl; rfl; infer_instance; rfl; omega) ) | (apply g_bi; first | (apply pv_max; rfl; rfl)) | (apply g_conv; first | (apply a_conv; rfl; infer_instance; infer_instance; infer_instance; omega) ) )) )))
    (refine hm_eff (cs := [1]) rfl (by decide) rfl rfl (by first | exact gok_none | exact gok_run rfl rfl) (fun a ha => outc_mono (outc_bsl (by (repeat (first | apply Rws'.nil | (apply Rws'.one; rfl; rfl; rfl) )); done) rfl rfl rfl a ha) (fun v M h => by obtain ⟨b, h1, h2⟩ := imp_b1 hy5 hyb h; exact ⟨[M], Exists.intro b (And.intro h1 (congrArg (fun x => [x]) h2)), rfl, by simp⟩)) (⟨_, _, Exists.intro 0 (And.intro rfl rfl), rfl⟩) ?_; rintro v Ms ⟨b14, rfl, rfl⟩ _; simp only [setls, setl, reduceIte, Nat.reduceEqDiff]; (repeat (first | (apply HdM.val; rfl; rfl; (· first | fail ); (· first | fail )) )))
    (refine hm_eff (cs := [0, 1]) rfl (by decide) rfl rfl (by first | exact gok_none | exact gok_run rfl rfl) (fun a ha => outc_mono (outc_call (F1 := _) (T := fun v M => ∃ (p ao : Option Addr) (c : Nat), v = .pointer (some ⟨g, 0, none⟩) ∧ M = wrH g p ao c (t4 ++ b1 y5) ∧ WOk g p ao c (t4 ++ b1 y5)) (w5 b14) rfl (by (repeat (first | apply sub_nil )); done) (by first | exact fun _ h => h | (intro r hr; cases hr; done) | (simp; done) | exact fun _ h => List.mem_append_left _ h | (intro r hr; simp [hr]; done)) (by rintro v L' R' ⟨p', ao', c', rfl, rfl, _, hw'⟩; exact ⟨_, ⟨p', ao', c', rfl, rfl, hw'⟩, (by (repeat (first | (apply prm_cons; (· (repeat (first | apply sel_here )))) | apply List.Perm.nil )); done)⟩) a ha) (fun v M h => Exists.elim h fun p h => Exists.elim h fun ao h => Exists.elim h fun c h => ⟨[M, []], Exists.intro p (Exists.intro ao (Exists.intro c (And.intro h.1 (And.intro (congrArg (fun x => [x, []]) h.2.1) h.2.2)))), rfl, by simp⟩)) ((by obtain ⟨p, ao, c, h⟩ := WOk.ex g (t4 ++ b1 y5); exact ⟨_, _, Exists.intro p (Exists.intro ao (Exists.intro c (And.intro rfl (And.intro rfl h)))), rfl⟩)) ?_; rintro v Ms ⟨p5, ao5, c5, rfl, rfl, hw5⟩ _; simp only [setls, setl, reduceIte, Nat.reduceEqDiff]; (repeat (first | fail )))
    (refine HdM.nil ?_; intro H hH; simp only [Hp, fm, look, setl, List.flatMap_cons, List.flatMap_nil, reduceIte, Nat.reduceEqDiff, Option.getD_some, List.append_nil, List.cons_append, List.nil_append] at hH; subst hH)
    (repeat (first | ((first | (apply wo_v; rfl) ); (· first | (apply pv_ev; rfl) )) | apply wc_seq | apply wc_region ))
    (refine wo_call (wText g c5 p5 ao5 _ hw5) rfl (by (repeat (first | apply sub_nil | (apply sub_cons; (· (repeat (first | apply sel_here | apply sel_there)))))); done) (by first | exact fun _ h => h | (intro r hr; cases hr; done) | (simp; done) | exact fun _ h => List.mem_append_left _ h | (intro r hr; simp [hr]; done)) rfl ?_; rintro v L' R' ⟨rfl, rfl, rfl⟩ H' hH RR hR; simp only [List.cons_append, List.nil_append] at hH hR; subst hH; have hR := hR.symm; subst hR)
    (repeat (first | ((first | (apply wo_v; rfl) ); (· first | (apply pv_ev; rfl) )) | apply wo_nil | apply wc_ret ))
    exact ret1 rfl rfl ⟨rfl, rfl, rfl⟩ ((by (repeat (first | apply sub_nil )); done) : List.Perm _ ([] ++ _)) (by first | exact fun _ h => h | (intro r hr; cases hr; done) | (simp; done) | exact fun _ h => List.mem_append_left _ h | (intro r hr; simp [hr]; done))
  · rw [if_pos (by omega)]
    (repeat (first | ((first | (apply wo_v; rfl) ); (· first | (apply pv_ev; rfl) | (apply pv_fld; rfl) | (apply g_load; first | (apply pv_ld; rfl; (· (repeat (first | apply sel_here | apply sel_there))); rfl) ) | (apply g_pick; first | (apply pv_pick_t; rfl; rfl) | (apply pv_pick_f; rfl; rfl)) )) | apply wo_nil | apply wc_seq | apply wc_region | (apply wc_true; rfl) | (apply wc_false; rfl) | (apply a_dec_t; rfl; (· first | assumption | omega)) | (apply wo_run; rfl; rfl) | (apply wo_skip; rfl; rfl; rfl; rfl) | (apply wo_skip_u; rfl; rfl; rfl) | (apply a_gt; rfl; rfl; (· first | assumption | omega)) | (apply a_gf; rfl; rfl; (· first | assumption | omega)) ))
    (refine wc_regM [0, 1, 2] (aslL [(7, [2]), (14, [1]), (15, [0, 1])]) (tblT g (t4 ++ b1 y5) y5 14 15 [(7, .int .u8 x9)]) ([dO bx nr st pt pic wd lv ly sy ky]) (fm [(0, wrH g p4 ao4 c4 t4), (1, []), (2, [])]) mixed (by kernel_rfl) (by kernel_rfl) (by decide) (aslL_ok (by decide)) (by (repeat (first | (apply prm_cons; (· (repeat (first | apply sel_here | apply sel_there)))) | apply List.Perm.nil )); done) ?_; (repeat (first | (apply HdM.val; rfl; rfl; (· first | apply gok_none ); (· first | (apply pv_ev; rfl) | (apply pv_fld; rfl) | (apply g_load; first | (apply pv_ld; rfl; (· (repeat (first | apply sel_here ))); rfl) ) | (apply g_bin; first | (apply a_shl; rfl; rfl; rfl; omega; rfl; infer_instance; omega) ) | (apply g_bi; first | (apply pv_max; rfl; rfl)) | (apply g_conv; first | (apply a_conv; rfl; infer_instance; infer_instance; infer_instance; omega) ) )) )))
    (refine hm_eff (cs := [2]) rfl (by decide) rfl rfl (by first | exact gok_none | exact gok_run rfl rfl) (fun a ha => outc_mono (outc_call (F1 := _) (T := fun v M => v = .int .u8 x9 ∧ M = []) (vBit sy 32 x9 hx9) rfl (by (repeat (first | apply sub_nil )); done) (by first | exact fun _ h => h | (intro r hr; cases hr; done) | (simp; done) | exact fun _ h => List.mem_append_left _ h | (intro r hr; simp [hr]; done)) (by rintro v L' R' ⟨rfl, rfl, _⟩; exact ⟨_, ⟨rfl, rfl⟩, (by (repeat (first | (apply prm_cons; (· (repeat (first | apply sel_here )))) | apply List.Perm.nil )); done)⟩) a ha) (fun v M h => ⟨[[]], And.intro h.1 rfl, rfl, h.2⟩)) ⟨_, _, And.intro rfl rfl, rfl⟩ ?_; rintro v Ms ⟨rfl, rfl⟩ _; simp only [setls, setl, reduceIte, Nat.reduceEqDiff]; (repeat (first | (apply HdM.val; rfl; rfl; (· first | apply gok_none ); (· first | (apply pv_ev; rfl) | (apply pv_fld; rfl) | (apply g_load; first | (apply pv_ld; rfl; (· (repeat (first | apply sel_here ))); rfl) ) | (apply g_bin; first | (apply (a_or 4); rfl; rfl; infer_instance; rfl; omega) | (apply (a_or 5); rfl; rfl; infer_instance; rfl; omega) | (apply (a_or 6); rfl; rfl; infer_instance; rfl; omega) ) | (apply g_bi; first | (apply pv_max; rfl; rfl)) | (apply g_conv; first | (apply a_conv; rfl; infer_instance; infer_instance; infer_instance; omega) ) )) )))
    (refine hm_eff (cs := [1]) rfl (by decide) rfl rfl (by first | exact gok_none | exact gok_run rfl rfl) (fun a ha => outc_mono (outc_bsl (by (repeat (first | apply Rws'.nil | (apply Rws'.one; rfl; rfl; rfl) )); done) rfl rfl rfl a ha) (fun v M h => by obtain ⟨b, h1, h2⟩ := imp_b1 hy5 hyb h; exact ⟨[M], Exists.intro b (And.intro h1 (congrArg (fun x => [x]) h2)), rfl, by simp⟩)) (⟨_, _, Exists.intro 0 (And.intro rfl rfl), rfl⟩) ?_; rintro v Ms ⟨b14, rfl, rfl⟩ _; simp only [setls, setl, reduceIte, Nat.reduceEqDiff]; (repeat (first | (apply HdM.val; rfl; rfl; (· first | fail ); (· first | fail )) )))
    (refine hm_eff (cs := [0, 1]) rfl (by decide) rfl rfl (by first | exact gok_none | exact gok_run rfl rfl) (fun a ha => outc_mono (outc_call (F1 := _) (T := fun v M => ∃ (p ao : Option Addr) (c : Nat), v = .pointer (some ⟨g, 0, none⟩) ∧ M = wrH g p ao c (t4 ++ b1 y5) ∧ WOk g p ao c (t4 ++ b1 y5)) (w5 b14) rfl (by (repeat (first | apply sub_nil )); done) (by first | exact fun _ h => h | (intro r hr; cases hr; done) | (simp; done) | exact fun _ h => List.mem_append_left _ h | (intro r hr; simp [hr]; done)) (by rintro v L' R' ⟨p', ao', c', rfl, rfl, _, hw'⟩; exact ⟨_, ⟨p', ao', c', rfl, rfl, hw'⟩, (by (repeat (first | (apply prm_cons; (· (repeat (first | apply sel_here )))) | apply List.Perm.nil )); done)⟩) a ha) (fun v M h => Exists.elim h fun p h => Exists.elim h fun ao h => Exists.elim h fun c h => ⟨[M, []], Exists.intro p (Exists.intro ao (Exists.intro c (And.intro h.1 (And.intro (congrArg (fun x => [x, []]) h.2.1) h.2.2)))), rfl, by simp⟩)) ((by obtain ⟨p, ao, c, h⟩ := WOk.ex g (t4 ++ b1 y5); exact ⟨_, _, Exists.intro p (Exists.intro ao (Exists.intro c (And.intro rfl (And.intro rfl h)))), rfl⟩)) ?_; rintro v Ms ⟨p5, ao5, c5, rfl, rfl, hw5⟩ _; simp only [setls, setl, reduceIte, Nat.reduceEqDiff]; (repeat (first | fail )))
    (refine HdM.nil ?_; intro H hH; simp only [Hp, fm, look, setl, List.flatMap_cons, List.flatMap_nil, reduceIte, Nat.reduceEqDiff, Option.getD_some, List.append_nil, List.cons_append, List.nil_append] at hH; subst hH)
    (repeat (first | ((first | (apply wo_v; rfl) ); (· first | (apply pv_ev; rfl) )) | apply wc_seq | apply wc_region ))
    (refine wo_call (wText g c5 p5 ao5 _ hw5) rfl (by (repeat (first | apply sub_nil | (apply sub_cons; (· (repeat (first | apply sel_here | apply sel_there)))))); done) (by first | exact fun _ h => h | (intro r hr; cases hr; done) | (simp; done) | exact fun _ h => List.mem_append_left _ h | (intro r hr; simp [hr]; done)) rfl ?_; rintro v L' R' ⟨rfl, rfl, rfl⟩ H' hH RR hR; simp only [List.cons_append, List.nil_append] at hH hR; subst hH; have hR := hR.symm; subst hR)
    (repeat (first | ((first | (apply wo_v; rfl) ); (· first | (apply pv_ev; rfl) )) | apply wo_nil | apply wc_ret ))
    exact ret1 rfl rfl ⟨rfl, rfl, rfl⟩ ((by (repeat (first | apply sub_nil )); done) : List.Perm _ ([] ++ _)) (by first | exact fun _ h => h | (intro r hr; cases hr; done) | (simp; done) | exact fun _ h => List.mem_append_left _ h | (intro r hr; simp [hr]; done))
  · rw [if_neg (by omega), append_E0]
    (repeat (first | ((first | (apply wo_v; rfl) ); (· first | (apply pv_ev; rfl) | (apply pv_fld; rfl) | (apply g_load; first | (apply pv_ld; rfl; (· (repeat (first | apply sel_here | apply sel_there))); rfl) ) | (apply g_pick; first | (apply pv_pick_t; rfl; rfl) | (apply pv_pick_f; rfl; rfl)) )) | apply wo_nil | apply wc_seq | apply wc_region | apply wc_skip | (apply wc_true; rfl) | (apply wc_false; rfl) | (apply a_dec_t; rfl; (· first | assumption | omega)) | (apply a_dec_f; rfl; (· first | assumption | omega)) | (apply wo_run; rfl; rfl) | (apply wo_skip; rfl; rfl; rfl; rfl) | (apply wo_skip_u; rfl; rfl; rfl) | (apply a_gt; rfl; rfl; (· first | assumption | omega)) | (apply a_gf; rfl; rfl; (· first | assumption | omega)) ))
    (refine wo_call (wText g c4 p4 ao4 _ hw4) rfl (by (repeat (first | apply sub_nil )); done) (by first | exact fun _ h => h | (intro r hr; cases hr; done) | (simp; done) | exact fun _ h => List.mem_append_left _ h | (intro r hr; simp [hr]; done)) rfl ?_; rintro v L' R' ⟨rfl, rfl, rfl⟩ H' hH RR hR; simp only [List.cons_append, List.nil_append] at hH hR; subst hH; have hR := hR.symm; subst hR)
    (repeat (first | ((first | (apply wo_v; rfl) ); (· first | (apply pv_ev; rfl) )) | apply wo_nil | apply wc_ret ))
    exact ret1 rfl rfl ⟨rfl, rfl, rfl⟩ ((by (repeat (first | apply sub_nil )); done) : List.Perm _ ([] ++ _)) (by first | exact fun _ h => h | (intro r hr; cases hr; done) | (simp; done) | exact fun _ h => List.mem_append_left _ h | (intro r hr; simp [hr]; done))
end Go.Proofs.Ytlhlidmhlhodiaa

/-
  Layer 4: Check, With, Keyframe; awake.
-/
namespace Go.Proofs.Ytlhlidmhlhodiaa
set_option linter.unusedSimpArgs false
set_option linter.unusedVariables false
set_option linter.unusedSimpArgs false
set_option linter.unusedVariables false
open Go.RowKit
attribute [local irreducible] Pv WO WC Fn
set_option maxRecDepth 100000

def keyB (st : Bool) (pt : Int) (s : ByteArray) : Bool := st && decide (pt = 0) && decide (s ≠ E0) && decide (bits .and .u8 (sb s 0) 1 = 0)
theorem aw_prs : prs ⟨#[144, 128, 5, 114, 101, 115, 116]⟩ = (⟨false, true, 0, 5, false, -1, -1, false, -1⟩, ⟨#[114, 101, 115, 116]⟩, 0) := by decide
theorem aw_txt : txt ⟨false, true, 0, 5, false, -1, -1, false, -1⟩ = ⟨#[144, 128, 5]⟩ := by decide
theorem aw_k1 : keyB true 0 ⟨#[16]⟩ = true := by decide
theorem aw_k2 : keyB true 0 ⟨#[17]⟩ = false := by decide
attribute [local irreducible] ByteArray.extract
set_option maxHeartbeats 16000000 in
theorem vKey (nr st : Bool) (pt pic : Int) (wd : Bool) (lv ly : Int) (sy : Bool) (ky : Int) (s : ByteArray) (b : Bool) (hb : keyB st pt s = b) :
    Fn Try.prog 158 #[.agg (dL nr st pt pic wd lv ly sy ky).toArray, .string s] [] [] (fun v L' R' => v = .bool b ∧ L' = [] ∧ R' = []) := by
  subst hb
  unfold keyB
  cases st with
  | false =>
    refine fn_intro Try.func158 rfl Try.ntmps158 rfl (fun E => ?_)
    (repeat (first | ((first | (apply wo_v; rfl) ); (· first | (apply pv_ev; rfl) | (apply pv_fld; rfl) | (apply g_load; first | (apply pv_ld; rfl; (· (repeat (first | apply sel_here ))); rfl) ) | (apply g_pick; first | (apply pv_pick_t; rfl; rfl) | (apply pv_pick_f; rfl; rfl)) )) | apply wo_nil | apply wc_seq | apply wc_region | apply wc_ret | (apply wo_run; rfl; rfl) | (apply wo_skip; rfl; rfl; rfl; rfl) | (apply wo_box1; rfl; rfl; rfl; intro bx) | (apply wo_boxa; rfl; rfl; intro bx) ))
    exact ret1 rfl rfl ⟨rfl, rfl, rfl⟩ ((by (repeat (first | apply sub_nil )); done) : List.Perm _ ([] ++ _)) (by first | exact fun _ h => h | (intro r hr; cases hr; done) | (simp; done) | exact fun _ h => List.mem_append_left _ h | (intro r hr; simp [hr]; done))
  | true =>
    by_cases hp : pt = 0
    · by_cases he : s = E0
      · refine fn_intro Try.func158 rfl Try.ntmps158 rfl (fun E => ?_)
        (repeat (first | ((first | (apply wo_v; rfl) ); (· first | (apply pv_ev; rfl) | (apply pv_fld; rfl) | (apply g_load; first | (apply pv_ld; rfl; (· (repeat (first | apply sel_here ))); rfl) ) | (apply g_pick; first | (apply pv_pick_t; rfl; rfl) | (apply pv_pick_f; rfl; rfl)) | (apply g_bin; first | (apply pv_neq_s; rfl; rfl) ) )) | apply wo_nil | apply wc_seq | apply wc_region | apply wc_ret | (apply wo_run; rfl; rfl) | (apply wo_skip; rfl; rfl; rfl; rfl) | (apply wo_skip_u; rfl; rfl; rfl) | (apply a_gt; rfl; rfl; (· first | assumption | omega)) | (apply a_gf; rfl; rfl; (· first | assumption | omega)) | (apply a_gt; rfl; rfl; (· first | (simp; done) | (simp; omega))) | (apply a_gf; rfl; rfl; (· first | (simp; done) | (simp; omega))) | (apply wo_box1; rfl; rfl; rfl; intro bx) | (apply wo_boxa; rfl; rfl; intro bx) ))
        exact ret1 rfl rfl ⟨by simp [he], rfl, rfl⟩ ((by (repeat (first | apply sub_nil )); done) : List.Perm _ ([] ++ _)) (by first | exact fun _ h => h | (intro r hr; cases hr; done) | (simp; done) | exact fun _ h => List.mem_append_left _ h | (intro r hr; simp [hr]; done))
      · have hsz : 0 < s.size := by
          rcases Nat.eq_zero_or_pos s.size with h | h
          · exact absurd (size_zero h) he
          · exact h
        refine fn_intro Try.func158 rfl Try.ntmps158 rfl (fun E => ?_)
        (repeat (first | ((first | (apply wo_v; rfl) ); (· first | (apply pv_ev; rfl) | (apply pv_fld; rfl) | (apply g_load; first | (apply pv_ld; rfl; (· (repeat (first | apply sel_here ))); rfl) ) | (apply g_pick; first | (apply pv_pick_t; rfl; rfl) ) | (apply g_bin; first | (apply pv_and; rfl; rfl) | (apply pv_neq_s; rfl; rfl) ) | (apply pv_index_sn; rfl; rfl; omega) )) | apply wo_nil | apply wc_seq | apply wc_region | apply wc_ret | (apply wo_run; rfl; rfl) | (apply wo_skip; rfl; rfl; rfl; rfl) | (apply wo_skip_u; rfl; rfl; rfl) | (apply a_gt; rfl; rfl; (· first | assumption | omega)) | (apply wo_box1; rfl; rfl; rfl; intro bx) | (apply wo_boxa; rfl; rfl; intro bx) ))
        exact ret1 rfl rfl ⟨by simp [hp, he], rfl, rfl⟩ ((by (repeat (first | apply sub_nil )); done) : List.Perm _ ([] ++ _)) (by first | exact fun _ h => h | (intro r hr; cases hr; done) | (simp; done) | exact fun _ h => List.mem_append_left _ h | (intro r hr; simp [hr]; done))
    · refine fn_intro Try.func158 rfl Try.ntmps158 rfl (fun E => ?_)
      (repeat (first | ((first | (apply wo_v; rfl) ); (· first | (apply pv_ev; rfl) | (apply pv_fld; rfl) | (apply g_load; first | (apply pv_ld; rfl; (· (repeat (first | apply sel_here ))); rfl) ) | (apply g_pick; first | (apply pv_pick_t; rfl; rfl) | (apply pv_pick_f; rfl; rfl)) )) | apply wo_nil | apply wc_seq | apply wc_region | apply wc_ret | (apply wo_run; rfl; rfl) | (apply wo_skip; rfl; rfl; rfl; rfl) | (apply wo_skip_u; rfl; rfl; rfl) | (apply a_gt; rfl; rfl; (· first | assumption | omega)) | (apply a_gf; rfl; rfl; (· first | assumption | omega)) | (apply wo_box1; rfl; rfl; rfl; intro bx) | (apply wo_boxa; rfl; rfl; intro bx) ))
      exact ret1 rfl rfl ⟨by simp [hp], rfl, rfl⟩ ((by (repeat (first | apply sub_nil )); done) : List.Perm _ ([] ++ _)) (by first | exact fun _ h => h | (intro r hr; cases hr; done) | (simp; done) | exact fun _ h => List.mem_append_left _ h | (intro r hr; simp [hr]; done))
theorem and_32767 (x : Int) : bits .and .i64 x 32767 = x % 32768 := and_ones x 15 (by omega)
theorem and_255v (x : Int) : bits .and .i64 x 255 = x % 256 := and_ones x 8 (by omega)
theorem vWith (nr st : Bool) (pt pic : Int) (wd : Bool) (lv ly : Int) (sy : Bool) (ky : Int) (p l : Int) :
    Fn Try.prog 18 #[.agg (dL nr st pt pic wd lv ly sy ky).toArray, .int .i64 p, .int .i64 l] [] []
      (fun v L' R' => v = .agg (dL nr st pt (if 0 ≤ pic then p % 32768 else pic) (if 0 ≤ pic then true else wd) (if 0 ≤ lv then l % 256 else lv) ly sy ky).toArray ∧ L' = [] ∧ R' = []) := by
  have e1 := and_32767 p
  have e2 := and_255v l
  by_cases h1 : 0 ≤ pic <;> by_cases h2 : 0 ≤ lv
  · rw [if_pos h1, if_pos h1, if_pos h2, ← e1, ← e2]
    refine fn_intro Try.func18 rfl Try.ntmps18 rfl (fun E => ?_)
    (repeat (first | ((first | (apply wo_v; rfl) ); (· first | (apply pv_ev; rfl) | (apply pv_fld; rfl) | (apply g_load; first | (apply pv_ld; rfl; (· (repeat (first | apply sel_here | apply sel_there))); rfl) | (apply pv_lda; rfl; (· (repeat (first | apply sel_here ))); (· (repeat (first | apply Cut.here0 | apply Cut.here )))) ) | (apply g_bin; first | (apply pv_and; rfl; rfl) ) )) | apply wo_nil | apply wc_seq | apply wc_region | apply wc_ret | (apply wc_true; rfl) | (apply wc_false; rfl) | (apply a_dec_t; rfl; (· first | assumption | omega)) | (apply wo_st; rfl; rfl; rfl; (· (repeat (first | apply sel_here | apply sel_there))); (· (repeat (first | apply SetAt.here | apply SetAt.there))); rfl) | (apply wo_box1; rfl; rfl; rfl; intro bx) | (apply wo_boxa; rfl; rfl; intro bx) | (apply wo_alloc; rfl; intro bx) | (apply wo_sta; rfl; rfl; rfl; rfl; (· (repeat (first | apply sel_here | apply sel_there))); (· (repeat (first | apply LayAt.nil | apply LayAt.here ))); rfl) ))
    exact retv rfl (by (repeat (first | apply RV.nil | (apply RV.agg; rfl; (· (repeat (first | apply sel_here ))); infer_instance; (· (repeat (first | apply Cut.here0 | apply Cut.here )))) )); done) (⟨rfl, rfl, rfl⟩) (by (repeat (first | apply sub_nil )); done) (by first | exact fun _ h => h | (intro r hr; cases hr; done) | (simp; done) | exact fun _ h => List.mem_append_left _ h | (intro r hr; simp [hr]; done))
  · rw [if_pos h1, if_pos h1, if_neg h2, ← e1]
    refine fn_intro Try.func18 rfl Try.ntmps18 rfl (fun E => ?_)
    (repeat (first | ((first | (apply wo_v; rfl) ); (· first | (apply pv_ev; rfl) | (apply pv_fld; rfl) | (apply g_load; first | (apply pv_ld; rfl; (· (repeat (first | apply sel_here | apply sel_there))); rfl) | (apply pv_lda; rfl; (· (repeat (first | apply sel_here ))); (· (repeat (first | apply Cut.here0 | apply Cut.here )))) ) | (apply g_bin; first | (apply pv_and; rfl; rfl) ) )) | apply wo_nil | apply wc_seq | apply wc_region | apply wc_skip | apply wc_ret | (apply wc_true; rfl) | (apply wc_false; rfl) | (apply a_dec_t; rfl; (· first | assumption | omega)) | (apply a_dec_f; rfl; (· first | assumption | omega)) | (apply wo_st; rfl; rfl; rfl; (· (repeat (first | apply sel_here | apply sel_there))); (· (repeat (first | apply SetAt.here | apply SetAt.there))); rfl) | (apply wo_box1; rfl; rfl; rfl; intro bx) | (apply wo_boxa; rfl; rfl; intro bx) | (apply wo_alloc; rfl; intro bx) | (apply wo_sta; rfl; rfl; rfl; rfl; (· (repeat (first | apply sel_here | apply sel_there))); (· (repeat (first | apply LayAt.nil | apply LayAt.here ))); rfl) ))
    exact retv rfl (by (repeat (first | apply RV.nil | (apply RV.agg; rfl; (· (repeat (first | apply sel_here ))); infer_instance; (· (repeat (first | apply Cut.here0 | apply Cut.here )))) )); done) (⟨rfl, rfl, rfl⟩) (by (repeat (first | apply sub_nil )); done) (by first | exact fun _ h => h | (intro r hr; cases hr; done) | (simp; done) | exact fun _ h => List.mem_append_left _ h | (intro r hr; simp [hr]; done))
  · rw [if_neg h1, if_neg h1, if_pos h2, ← e2]
    refine fn_intro Try.func18 rfl Try.ntmps18 rfl (fun E => ?_)
    (repeat (first | ((first | (apply wo_v; rfl) ); (· first | (apply pv_ev; rfl) | (apply pv_fld; rfl) | (apply g_load; first | (apply pv_ld; rfl; (· (repeat (first | apply sel_here | apply sel_there))); rfl) | (apply pv_lda; rfl; (· (repeat (first | apply sel_here ))); (· (repeat (first | apply Cut.here0 | apply Cut.here )))) ) | (apply g_bin; first | (apply pv_and; rfl; rfl) ) )) | apply wo_nil | apply wc_seq | apply wc_region | apply wc_skip | apply wc_ret | (apply wc_true; rfl) | (apply wc_false; rfl) | (apply a_dec_t; rfl; (· first | assumption | omega)) | (apply a_dec_f; rfl; (· first | assumption | omega)) | (apply wo_st; rfl; rfl; rfl; (· (repeat (first | apply sel_here | apply sel_there))); (· (repeat (first | apply SetAt.here | apply SetAt.there))); rfl) | (apply wo_box1; rfl; rfl; rfl; intro bx) | (apply wo_boxa; rfl; rfl; intro bx) | (apply wo_alloc; rfl; intro bx) | (apply wo_sta; rfl; rfl; rfl; rfl; (· (repeat (first | apply sel_here | apply sel_there))); (· (repeat (first | apply LayAt.nil | apply LayAt.here ))); rfl) ))
    exact retv rfl (by (repeat (first | apply RV.nil | (apply RV.agg; rfl; (· (repeat (first | apply sel_here ))); infer_instance; (· (repeat (first | apply Cut.here0 | apply Cut.here )))) )); done) (⟨rfl, rfl, rfl⟩) (by (repeat (first | apply sub_nil )); done) (by first | exact fun _ h => h | (intro r hr; cases hr; done) | (simp; done) | exact fun _ h => List.mem_append_left _ h | (intro r hr; simp [hr]; done))
  · rw [if_neg h1, if_neg h1, if_neg h2]
    refine fn_intro Try.func18 rfl Try.ntmps18 rfl (fun E => ?_)
    (repeat (first | ((first | (apply wo_v; rfl) ); (· first | (apply pv_ev; rfl) | (apply pv_fld; rfl) | (apply g_load; first | (apply pv_ld; rfl; (· (repeat (first | apply sel_here | apply sel_there))); rfl) | (apply pv_lda; rfl; (· (repeat (first | apply sel_here | apply sel_there))); (· (repeat (first | apply Cut.here0 | apply Cut.here )))) ) )) | apply wo_nil | apply wc_seq | apply wc_region | apply wc_skip | apply wc_ret | (apply wc_true; rfl) | (apply wc_false; rfl) | (apply a_dec_t; rfl; (· first | assumption | omega)) | (apply a_dec_f; rfl; (· first | assumption | omega)) | (apply wo_box1; rfl; rfl; rfl; intro bx) | (apply wo_boxa; rfl; rfl; intro bx) | (apply wo_alloc; rfl; intro bx) | (apply wo_sta; rfl; rfl; rfl; rfl; (· (repeat (first | apply sel_here ))); (· (repeat (first | apply LayAt.nil | apply LayAt.here ))); rfl) ))
    exact retv rfl (by (repeat (first | apply RV.nil | (apply RV.agg; rfl; (· (repeat (first | apply sel_here ))); infer_instance; (· (repeat (first | apply Cut.here0 | apply Cut.here )))) )); done) (⟨rfl, rfl, rfl⟩) (by (repeat (first | apply sub_nil )); done) (by first | exact fun _ h => h | (intro r hr; cases hr; done) | (simp; done) | exact fun _ h => List.mem_append_left _ h | (intro r hr; simp [hr]; done))
set_option maxHeartbeats 64000000 in
theorem vCheck (nr st : Bool) (pt pic : Int) (wd : Bool) (lv ly : Int) (sy : Bool) (ky : Int) (r : Int) (hr : chk ⟨nr, st, pt, pic, wd, lv, ly, sy, ky⟩ = r) :
    Fn Try.prog 13 #[.agg (dL nr st pt pic wd lv ly sy ky).toArray] [] [] (fun v L' R' => v = .int .i64 r ∧ L' = [] ∧ R' = []) := by
  have i3 := vIn pic 32767
  have i4 := vIn lv 255
  have i5 := vIn ly 3
  have i6 := vIn ky 31
  by_cases b1 : pt < 0
  · obtain rfl : 5 = r := by rw [← hr]; unfold chk okA; rw [if_pos (by simp only; omega)]
    refine fn_intro Try.func13 rfl Try.ntmps13 rfl (fun E => ?_)
    (repeat (first | ((first | (apply wo_v; rfl) ); (· first | (apply pv_ev; rfl) | (apply pv_fld; rfl) | (apply g_load; first | (apply pv_ld; rfl; (· (repeat (first | apply sel_here ))); rfl) ) | (apply g_pick; first | (apply pv_pick_t; rfl; rfl) ) )) | apply wo_nil | apply wc_seq | apply wc_region | apply wc_block | apply wc_ret | (apply wc_true; rfl) | (apply wo_run; rfl; rfl) | (apply wo_skip; rfl; rfl; rfl; rfl) | (apply wo_skip_u; rfl; rfl; rfl) | (apply a_gt; rfl; rfl; (· first | assumption | omega)) | (apply wo_box1; rfl; rfl; rfl; intro bx) | (apply wo_boxa; rfl; rfl; intro bx) ))
    exact ret1 rfl rfl ⟨rfl, rfl, rfl⟩ ((by (repeat (first | apply sub_nil )); done) : List.Perm _ ([] ++ _)) (by first | exact fun _ h => h | (intro r hr; cases hr; done) | (simp; done) | exact fun _ h => List.mem_append_left _ h | (intro r hr; simp [hr]; done))
  by_cases b2 : 7 < pt
  · obtain rfl : 5 = r := by rw [← hr]; unfold chk okA; rw [if_pos (by simp only; omega)]
    refine fn_intro Try.func13 rfl Try.ntmps13 rfl (fun E => ?_)
    (repeat (first | ((first | (apply wo_v; rfl) ); (· first | (apply pv_ev; rfl) | (apply pv_fld; rfl) | (apply g_load; first | (apply pv_ld; rfl; (· (repeat (first | apply sel_here ))); rfl) ) | (apply g_pick; first | (apply pv_pick_t; rfl; rfl) | (apply pv_pick_f; rfl; rfl)) )) | apply wo_nil | apply wc_seq | apply wc_region | apply wc_block | apply wc_ret | (apply wc_true; rfl) | (apply wo_run; rfl; rfl) | (apply wo_skip; rfl; rfl; rfl; rfl) | (apply wo_skip_u; rfl; rfl; rfl) | (apply a_gt; rfl; rfl; (· first | assumption | omega)) | (apply a_gf; rfl; rfl; (· first | assumption | omega)) | (apply wo_box1; rfl; rfl; rfl; intro bx) | (apply wo_boxa; rfl; rfl; intro bx) ))
    exact ret1 rfl rfl ⟨rfl, rfl, rfl⟩ ((by (repeat (first | apply sub_nil )); done) : List.Perm _ ([] ++ _)) (by first | exact fun _ h => h | (intro r hr; cases hr; done) | (simp; done) | exact fun _ h => List.mem_append_left _ h | (intro r hr; simp [hr]; done))
  by_cases b3 : -1 ≤ pic ∧ pic ≤ 32767
  case neg =>
    obtain rfl : 5 = r := by rw [← hr]; unfold chk okA; rw [if_pos (by simp only; omega)]
    rw [decide_eq_false b3] at i3
    refine fn_intro Try.func13 rfl Try.ntmps13 rfl (fun E => ?_)
    (repeat (first | ((first | (apply wo_v; rfl) ); (· first | (apply pv_ev; rfl) | (apply pv_fld; rfl) | (apply g_load; first | (apply pv_ld; rfl; (· (repeat (first | apply sel_here ))); rfl) ) | (apply g_pick; first | (apply pv_pick_t; rfl; rfl) | (apply pv_pick_f; rfl; rfl)) )) | apply wo_nil | apply wc_seq | apply wc_region | apply wc_block | (apply wo_run; rfl; rfl) | (apply wo_skip; rfl; rfl; rfl; rfl) | (apply wo_skip_u; rfl; rfl; rfl) | (apply a_gt; rfl; rfl; (· first | assumption | omega)) | (apply a_gf; rfl; rfl; (· first | assumption | omega)) | (apply wo_box1; rfl; rfl; rfl; intro bx) | (apply wo_boxa; rfl; rfl; intro bx) ))
    (refine wo_call (i3) rfl (by (repeat (first | apply sub_nil )); done) (by first | exact fun _ h => h | (intro r hr; cases hr; done) | (simp; done) | exact fun _ h => List.mem_append_left _ h | (intro r hr; simp [hr]; done)) rfl ?_; rintro v L' R' ⟨rfl, rfl, rfl⟩ H' hH RR hR; simp only [List.cons_append, List.nil_append] at hH hR; subst hH; have hR := hR.symm; subst hR)
    (repeat (first | ((first | (apply wo_v; rfl) ); (· first | (apply pv_ev; rfl) | (apply g_pick; first | (apply pv_pick_t; rfl; rfl) | (apply pv_pick_f; rfl; rfl)) | (apply g_un; first | (apply pv_not_t; rfl) | (apply pv_not_f; rfl) ) )) | apply wo_nil | apply wc_seq | apply wc_region | apply wc_ret | (apply wc_true; rfl) | (apply wo_run; rfl; rfl) | (apply wo_skip; rfl; rfl; rfl; rfl) ))
    exact ret1 rfl rfl ⟨rfl, rfl, rfl⟩ ((by (repeat (first | apply sub_nil )); done) : List.Perm _ ([] ++ _)) (by first | exact fun _ h => h | (intro r hr; cases hr; done) | (simp; done) | exact fun _ h => List.mem_append_left _ h | (intro r hr; simp [hr]; done))
  rw [decide_eq_true b3] at i3
  by_cases b4 : -1 ≤ lv ∧ lv ≤ 255
  case neg =>
    obtain rfl : 5 = r := by rw [← hr]; unfold chk okA; rw [if_pos (by simp only; omega)]
    rw [decide_eq_false b4] at i4
    refine fn_intro Try.func13 rfl Try.ntmps13 rfl (fun E => ?_)
    (repeat (first | ((first | (apply wo_v; rfl) ); (· first | (apply pv_ev; rfl) | (apply pv_fld; rfl) | (apply g_load; first | (apply pv_ld; rfl; (· (repeat (first | apply sel_here ))); rfl) ) | (apply g_pick; first | (apply pv_pick_t; rfl; rfl) | (apply pv_pick_f; rfl; rfl)) )) | apply wo_nil | apply wc_seq | apply wc_region | apply wc_block | (apply wo_run; rfl; rfl) | (apply wo_skip; rfl; rfl; rfl; rfl) | (apply wo_skip_u; rfl; rfl; rfl) | (apply a_gt; rfl; rfl; (· first | assumption | omega)) | (apply a_gf; rfl; rfl; (· first | assumption | omega)) | (apply wo_box1; rfl; rfl; rfl; intro bx) | (apply wo_boxa; rfl; rfl; intro bx) ))
    (refine wo_call (i3) rfl (by (repeat (first | apply sub_nil )); done) (by first | exact fun _ h => h | (intro r hr; cases hr; done) | (simp; done) | exact fun _ h => List.mem_append_left _ h | (intro r hr; simp [hr]; done)) rfl ?_; rintro v L' R' ⟨rfl, rfl, rfl⟩ H' hH RR hR; simp only [List.cons_append, List.nil_append] at hH hR; subst hH; have hR := hR.symm; subst hR)
    (repeat (first | ((first | (apply wo_v; rfl) ); (· first | (apply pv_ev; rfl) | (apply pv_fld; rfl) | (apply g_load; first | (apply pv_ld; rfl; (· (repeat (first | apply sel_here ))); rfl) ) | (apply g_pick; first | (apply pv_pick_t; rfl; rfl) | (apply pv_pick_f; rfl; rfl)) | (apply g_un; first | (apply pv_not_t; rfl) ) )) | (apply wo_run; rfl; rfl) ))
    (refine wo_call (i4) rfl (by (repeat (first | apply sub_nil )); done) (by first | exact fun _ h => h | (intro r hr; cases hr; done) | (simp; done) | exact fun _ h => List.mem_append_left _ h | (intro r hr; simp [hr]; done)) rfl ?_; rintro v L' R' ⟨rfl, rfl, rfl⟩ H' hH RR hR; simp only [List.cons_append, List.nil_append] at hH hR; subst hH; have hR := hR.symm; subst hR)
    (repeat (first | ((first | (apply wo_v; rfl) ); (· first | (apply pv_ev; rfl) | (apply g_pick; first | (apply pv_pick_t; rfl; rfl) | (apply pv_pick_f; rfl; rfl)) | (apply g_un; first | (apply pv_not_t; rfl) | (apply pv_not_f; rfl) ) )) | apply wo_nil | apply wc_seq | apply wc_region | apply wc_ret | (apply wc_true; rfl) | (apply wo_run; rfl; rfl) | (apply wo_skip; rfl; rfl; rfl; rfl) ))
    exact ret1 rfl rfl ⟨rfl, rfl, rfl⟩ ((by (repeat (first | apply sub_nil )); done) : List.Perm _ ([] ++ _)) (by first | exact fun _ h => h | (intro r hr; cases hr; done) | (simp; done) | exact fun _ h => List.mem_append_left _ h | (intro r hr; simp [hr]; done))
  rw [decide_eq_true b4] at i4
  by_cases b5 : -1 ≤ ly ∧ ly ≤ 3
  case neg =>
    obtain rfl : 5 = r := by rw [← hr]; unfold chk okA; rw [if_pos (by simp only; omega)]
    rw [decide_eq_false b5] at i5
    refine fn_intro Try.func13 rfl Try.ntmps13 rfl (fun E => ?_)
    (repeat (first | ((first | (apply wo_v; rfl) ); (· first | (apply pv_ev; rfl) | (apply pv_fld; rfl) | (apply g_load; first | (apply pv_ld; rfl; (· (repeat (first | apply sel_here ))); rfl) ) | (apply g_pick; first | (apply pv_pick_t; rfl; rfl) | (apply pv_pick_f; rfl; rfl)) )) | apply wo_nil | apply wc_seq | apply wc_region | apply wc_block | (apply wo_run; rfl; rfl) | (apply wo_skip; rfl; rfl; rfl; rfl) | (apply wo_skip_u; rfl; rfl; rfl) | (apply a_gt; rfl; rfl; (· first | assumption | omega)) | (apply a_gf; rfl; rfl; (· first | assumption | omega)) | (apply wo_box1; rfl; rfl; rfl; intro bx) | (apply wo_boxa; rfl; rfl; intro bx) ))
    (refine wo_call (i3) rfl (by (repeat (first | apply sub_nil )); done) (by first | exact fun _ h => h | (intro r hr; cases hr; done) | (simp; done) | exact fun _ h => List.mem_append_left _ h | (intro r hr; simp [hr]; done)) rfl ?_; rintro v L' R' ⟨rfl, rfl, rfl⟩ H' hH RR hR; simp only [List.cons_append, List.nil_append] at hH hR; subst hH; have hR := hR.symm; subst hR)
    (repeat (first | ((first | (apply wo_v; rfl) ); (· first | (apply pv_ev; rfl) | (apply pv_fld; rfl) | (apply g_load; first | (apply pv_ld; rfl; (· (repeat (first | apply sel_here ))); rfl) ) | (apply g_pick; first | (apply pv_pick_t; rfl; rfl) | (apply pv_pick_f; rfl; rfl)) | (apply g_un; first | (apply pv_not_t; rfl) ) )) | (apply wo_run; rfl; rfl) ))
    (refine wo_call (i4) rfl (by (repeat (first | apply sub_nil )); done) (by first | exact fun _ h => h | (intro r hr; cases hr; done) | (simp; done) | exact fun _ h => List.mem_append_left _ h | (intro r hr; simp [hr]; done)) rfl ?_; rintro v L' R' ⟨rfl, rfl, rfl⟩ H' hH RR hR; simp only [List.cons_append, List.nil_append] at hH hR; subst hH; have hR := hR.symm; subst hR)
    (repeat (first | ((first | (apply wo_v; rfl) ); (· first | (apply pv_ev; rfl) | (apply pv_fld; rfl) | (apply g_load; first | (apply pv_ld; rfl; (· (repeat (first | apply sel_here ))); rfl) ) | (apply g_pick; first | (apply pv_pick_t; rfl; rfl) | (apply pv_pick_f; rfl; rfl)) | (apply g_un; first | (apply pv_not_t; rfl) ) )) | (apply wo_run; rfl; rfl) ))
    (refine wo_call (i5) rfl (by (repeat (first | apply sub_nil )); done) (by first | exact fun _ h => h | (intro r hr; cases hr; done) | (simp; done) | exact fun _ h => List.mem_append_left _ h | (intro r hr; simp [hr]; done)) rfl ?_; rintro v L' R' ⟨rfl, rfl, rfl⟩ H' hH RR hR; simp only [List.cons_append, List.nil_append] at hH hR; subst hH; have hR := hR.symm; subst hR)
    (repeat (first | ((first | (apply wo_v; rfl) ); (· first | (apply pv_ev; rfl) | (apply g_pick; first | (apply pv_pick_t; rfl; rfl) | (apply pv_pick_f; rfl; rfl)) | (apply g_un; first | (apply pv_not_t; rfl) | (apply pv_not_f; rfl) ) )) | apply wo_nil | apply wc_seq | apply wc_region | apply wc_ret | (apply wc_true; rfl) | (apply wo_run; rfl; rfl) | (apply wo_skip; rfl; rfl; rfl; rfl) ))
    exact ret1 rfl rfl ⟨rfl, rfl, rfl⟩ ((by (repeat (first | apply sub_nil )); done) : List.Perm _ ([] ++ _)) (by first | exact fun _ h => h | (intro r hr; cases hr; done) | (simp; done) | exact fun _ h => List.mem_append_left _ h | (intro r hr; simp [hr]; done))
  rw [decide_eq_true b5] at i5
  by_cases b6 : -1 ≤ ky ∧ ky ≤ 31
  case neg =>
    obtain rfl : 5 = r := by rw [← hr]; unfold chk okA; rw [if_pos (by simp only; omega)]
    rw [decide_eq_false b6] at i6
    refine fn_intro Try.func13 rfl Try.ntmps13 rfl (fun E => ?_)
    (repeat (first | ((first | (apply wo_v; rfl) ); (· first | (apply pv_ev; rfl) | (apply pv_fld; rfl) | (apply g_load; first | (apply pv_ld; rfl; (· (repeat (first | apply sel_here ))); rfl) ) | (apply g_pick; first | (apply pv_pick_t; rfl; rfl) | (apply pv_pick_f; rfl; rfl)) )) | apply wo_nil | apply wc_seq | apply wc_region | apply wc_block | (apply wo_run; rfl; rfl) | (apply wo_skip; rfl; rfl; rfl; rfl) | (apply wo_skip_u; rfl; rfl; rfl) | (apply a_gt; rfl; rfl; (· first | assumption | omega)) | (apply a_gf; rfl; rfl; (· first | assumption | omega)) | (apply wo_box1; rfl; rfl; rfl; intro bx) | (apply wo_boxa; rfl; rfl; intro bx) ))
    (refine wo_call (i3) rfl (by (repeat (first | apply sub_nil )); done) (by first | exact fun _ h => h | (intro r hr; cases hr; done) | (simp; done) | exact fun _ h => List.mem_append_left _ h | (intro r hr; simp [hr]; done)) rfl ?_; rintro v L' R' ⟨rfl, rfl, rfl⟩ H' hH RR hR; simp only [List.cons_append, List.nil_append] at hH hR; subst hH; have hR := hR.symm; subst hR)
    (repeat (first | ((first | (apply wo_v; rfl) ); (· first | (apply pv_ev; rfl) | (apply pv_fld; rfl) | (apply g_load; first | (apply pv_ld; rfl; (· (repeat (first | apply sel_here ))); rfl) ) | (apply g_pick; first | (apply pv_pick_t; rfl; rfl) | (apply pv_pick_f; rfl; rfl)) | (apply g_un; first | (apply pv_not_t; rfl) ) )) | (apply wo_run; rfl; rfl) ))
    (refine wo_call (i4) rfl (by (repeat (first | apply sub_nil )); done) (by first | exact fun _ h => h | (intro r hr; cases hr; done) | (simp; done) | exact fun _ h => List.mem_append_left _ h | (intro r hr; simp [hr]; done)) rfl ?_; rintro v L' R' ⟨rfl, rfl, rfl⟩ H' hH RR hR; simp only [List.cons_append, List.nil_append] at hH hR; subst hH; have hR := hR.symm; subst hR)
    (repeat (first | ((first | (apply wo_v; rfl) ); (· first | (apply pv_ev; rfl) | (apply pv_fld; rfl) | (apply g_load; first | (apply pv_ld; rfl; (· (repeat (first | apply sel_here ))); rfl) ) | (apply g_pick; first | (apply pv_pick_t; rfl; rfl) | (apply pv_pick_f; rfl; rfl)) | (apply g_un; first | (apply pv_not_t; rfl) ) )) | (apply wo_run; rfl; rfl) ))
    (refine wo_call (i5) rfl (by (repeat (first | apply sub_nil )); done) (by first | exact fun _ h => h | (intro r hr; cases hr; done) | (simp; done) | exact fun _ h => List.mem_append_left _ h | (intro r hr; simp [hr]; done)) rfl ?_; rintro v L' R' ⟨rfl, rfl, rfl⟩ H' hH RR hR; simp only [List.cons_append, List.nil_append] at hH hR; subst hH; have hR := hR.symm; subst hR)
    (repeat (first | ((first | (apply wo_v; rfl) ); (· first | (apply pv_ev; rfl) | (apply pv_fld; rfl) | (apply g_load; first | (apply pv_ld; rfl; (· (repeat (first | apply sel_here ))); rfl) ) | (apply g_pick; first | (apply pv_pick_t; rfl; rfl) | (apply pv_pick_f; rfl; rfl)) | (apply g_un; first | (apply pv_not_t; rfl) ) )) | (apply wo_run; rfl; rfl) ))
    (refine wo_call (i6) rfl (by (repeat (first | apply sub_nil )); done) (by first | exact fun _ h => h | (intro r hr; cases hr; done) | (simp; done) | exact fun _ h => List.mem_append_left _ h | (intro r hr; simp [hr]; done)) rfl ?_; rintro v L' R' ⟨rfl, rfl, rfl⟩ H' hH RR hR; simp only [List.cons_append, List.nil_append] at hH hR; subst hH; have hR := hR.symm; subst hR)
    (repeat (first | ((first | (apply wo_v; rfl) ); (· first | (apply pv_ev; rfl) | (apply g_pick; first | (apply pv_pick_t; rfl; rfl) | (apply pv_pick_f; rfl; rfl)) | (apply g_un; first | (apply pv_not_t; rfl) | (apply pv_not_f; rfl) ) )) | apply wo_nil | apply wc_seq | apply wc_region | apply wc_ret | (apply wc_true; rfl) | (apply wo_run; rfl; rfl) ))
    exact ret1 rfl rfl ⟨rfl, rfl, rfl⟩ ((by (repeat (first | apply sub_nil )); done) : List.Perm _ ([] ++ _)) (by first | exact fun _ h => h | (intro r hr; cases hr; done) | (simp; done) | exact fun _ h => List.mem_append_left _ h | (intro r hr; simp [hr]; done))
  rw [decide_eq_true b6] at i6
  by_cases c1 : pic < 0 <;> by_cases c2 : 127 < pic <;> by_cases c3 : ly < 0 <;> cases wd <;> cases sy
  all_goals first | (exfalso; omega) | skip
  all_goals
    unfold chk at hr
    rw [if_neg (by unfold okA; simp only; omega)] at hr
    simp [okF, c1, c2, c3] at hr
    subst hr
    refine fn_intro Try.func13 rfl Try.ntmps13 rfl (fun E => ?_)
    (repeat (first | ((first | (apply wo_v; rfl) ); (· first | (apply pv_ev; rfl) | (apply pv_fld; rfl) | (apply g_load; first | (apply pv_ld; rfl; (· (repeat (first | apply sel_here ))); rfl) ) | (apply g_pick; first | (apply pv_pick_t; rfl; rfl) | (apply pv_pick_f; rfl; rfl)) )) | apply wo_nil | apply wc_seq | apply wc_region | apply wc_block | (apply wo_run; rfl; rfl) | (apply wo_skip; rfl; rfl; rfl; rfl) | (apply wo_skip_u; rfl; rfl; rfl) | (apply a_gt; rfl; rfl; (· first | assumption | omega)) | (apply a_gf; rfl; rfl; (· first | assumption | omega)) | (apply wo_box1; rfl; rfl; rfl; intro bx) | (apply wo_boxa; rfl; rfl; intro bx) ))
    (refine wo_call (i3) rfl (by (repeat (first | apply sub_nil )); done) (by first | exact fun _ h => h | (intro r hr; cases hr; done) | (simp; done) | exact fun _ h => List.mem_append_left _ h | (intro r hr; simp [hr]; done)) rfl ?_; rintro v L' R' ⟨rfl, rfl, rfl⟩ H' hH RR hR; simp only [List.cons_append, List.nil_append] at hH hR; subst hH; have hR := hR.symm; subst hR)
    (repeat (first | ((first | (apply wo_v; rfl) ); (· first | (apply pv_ev; rfl) | (apply pv_fld; rfl) | (apply g_load; first | (apply pv_ld; rfl; (· (repeat (first | apply sel_here ))); rfl) ) | (apply g_pick; first | (apply pv_pick_t; rfl; rfl) | (apply pv_pick_f; rfl; rfl)) | (apply g_un; first | (apply pv_not_t; rfl) ) )) | (apply wo_run; rfl; rfl) ))
    (refine wo_call (i4) rfl (by (repeat (first | apply sub_nil )); done) (by first | exact fun _ h => h | (intro r hr; cases hr; done) | (simp; done) | exact fun _ h => List.mem_append_left _ h | (intro r hr; simp [hr]; done)) rfl ?_; rintro v L' R' ⟨rfl, rfl, rfl⟩ H' hH RR hR; simp only [List.cons_append, List.nil_append] at hH hR; subst hH; have hR := hR.symm; subst hR)
    (repeat (first | ((first | (apply wo_v; rfl) ); (· first | (apply pv_ev; rfl) | (apply pv_fld; rfl) | (apply g_load; first | (apply pv_ld; rfl; (· (repeat (first | apply sel_here ))); rfl) ) | (apply g_pick; first | (apply pv_pick_t; rfl; rfl) | (apply pv_pick_f; rfl; rfl)) | (apply g_un; first | (apply pv_not_t; rfl) ) )) | (apply wo_run; rfl; rfl) ))
    (refine wo_call (i5) rfl (by (repeat (first | apply sub_nil )); done) (by first | exact fun _ h => h | (intro r hr; cases hr; done) | (simp; done) | exact fun _ h => List.mem_append_left _ h | (intro r hr; simp [hr]; done)) rfl ?_; rintro v L' R' ⟨rfl, rfl, rfl⟩ H' hH RR hR; simp only [List.cons_append, List.nil_append] at hH hR; subst hH; have hR := hR.symm; subst hR)
    (repeat (first | ((first | (apply wo_v; rfl) ); (· first | (apply pv_ev; rfl) | (apply pv_fld; rfl) | (apply g_load; first | (apply pv_ld; rfl; (· (repeat (first | apply sel_here ))); rfl) ) | (apply g_pick; first | (apply pv_pick_t; rfl; rfl) | (apply pv_pick_f; rfl; rfl)) | (apply g_un; first | (apply pv_not_t; rfl) ) )) | (apply wo_run; rfl; rfl) ))
    (refine wo_call (i6) rfl (by (repeat (first | apply sub_nil )); done) (by first | exact fun _ h => h | (intro r hr; cases hr; done) | (simp; done) | exact fun _ h => List.mem_append_left _ h | (intro r hr; simp [hr]; done)) rfl ?_; rintro v L' R' ⟨rfl, rfl, rfl⟩ H' hH RR hR; simp only [List.cons_append, List.nil_append] at hH hR; subst hH; have hR := hR.symm; subst hR)
    (repeat (first | ((first | (apply wo_v; rfl) ); (· first | (apply pv_ev; rfl) | (apply pv_fld; rfl) | (apply g_load; first | (apply pv_ld; rfl; (· (repeat (first | apply sel_here ))); rfl) ) | (apply g_pick; first | (apply pv_pick_t; rfl; rfl) | (apply pv_pick_f; rfl; rfl)) | (apply g_un; first | (apply pv_not_t; rfl) | (apply pv_not_f; rfl) ) )) | apply wo_nil | apply wc_seq | apply wc_region | apply wc_skip | apply wc_ret | (apply wc_true; rfl) | (apply wc_false; rfl) | (apply wo_run; rfl; rfl) | (apply wo_skip; rfl; rfl; rfl; rfl) | (apply wo_skip_u; rfl; rfl; rfl) | (apply a_gt; rfl; rfl; (· first | assumption | omega)) | (apply a_gf; rfl; rfl; (· first | assumption | omega)) ))
    exact ret1 rfl rfl ⟨rfl, rfl, rfl⟩ ((by (repeat (first | apply sub_nil )); done) : List.Perm _ ([] ++ _)) (by first | exact fun _ h => h | (intro r hr; cases hr; done) | (simp; done) | exact fun _ h => List.mem_append_left _ h | (intro r hr; simp [hr]; done))
theorem eqD (d : Dc) : EqRow (dv d) (dv d) := eqRow_refl [.b, .b, .i .i64, .i .i64, .b, .i .i64, .i .i64, .b, .i .i64] _ rfl
end Go.Proofs.Ytlhlidmhlhodiaa

/-
  The laws through the layers: live.
-/
namespace Go.Proofs.Ytlhlidmhlhodiaa
set_option linter.unusedSimpArgs false
set_option linter.unusedVariables false
open Go.RowKit
attribute [local irreducible] Pv WO WC Fn
set_option maxRecDepth 100000
attribute [local irreducible] ByteArray.extract

theorem live1 : txt ⟨false, false, 0, -1, false, -1, -1, false, -1⟩ = ⟨#[0]⟩ := by decide
theorem live2 : all4 [(206, 1, numsS 4 [1, 2])] = ⟨#[129, 206, 0, 2, 0, 0, 0, 1, 0, 0, 0, 2]⟩ := by decide
theorem alive : Fn Try.prog 12 #[] [] [] (fun v L' R' => v = .bool true ∧ L' = [] ∧ R' = []) := by
  have hck : Ck ⟨false, 96, 1, 0, 0, [], false, 0, E0, ⟨#[120]⟩, 0⟩ := ⟨by decide, by decide, by decide, by decide, (fun _ => ⟨rfl, rfl⟩), by decide⟩
  have hokr : okR ⟨false, 96, 1, 0, 0, [], false, 0, E0, ⟨#[120]⟩, 0⟩ := ⟨by decide, by decide, by decide, by decide, by decide, (fun z hz => by cases hz)⟩
  have hx := prR_txP hokr hck
  have hz := txP_size hck
  have wT := gText false 96 1 0 0 [] false 0 E0 ⟨#[120]⟩ 0 none 0 0 [] (SQ.nil _ _ _ _) (by decide) (by decide) (by decide) (by decide) (by decide) (by decide) (by decide) (by decide) (by decide) (fun z hz => by cases hz)
  unfold txP at hx hz
  dsimp only at hx hz
  rw [show lenM ([] : List Int).length false E0 ⟨#[120]⟩ 0 = 13 by decide] at hz
  generalize txR false 96 1 0 0 [] false 0 E0 ⟨#[120]⟩ 0 = x at hx hz wT
  have wP := pParse x (by omega)
  rw [hx] at wP
  dsimp only [List.length_nil] at wP
  have wV := vText false false 0 (-1) false (-1) (-1) false (-1) (by decide) (by decide)
  rw [live1] at wV
  have wR := fun A c R hS => tText [(206, 1, numsS 4 [1, 2])] [.iface 77 (.agg #[.int .u32 1, .int .u32 2])] A 1 c R hS rfl (by decide) (by decide) (by intro x hx; rcases List.mem_singleton.1 hx with rfl; exact ⟨by unfold in8; dsimp only; omega, by unfold in8; dsimp only; omega⟩)
    (fun i x v h1 h2 => by
      match i, h1, h2 with
      | 0, h1, h2 =>
        simp only [List.getElem?_cons_zero, Option.some.injEq] at h1 h2
        subst h1 h2
        exact ⟨dPli 1 2, tPli R 1 2 (by unfold in32; omega) (by unfold in32; omega)⟩)
  rw [live2] at wR
  refine fn_intro Try.func12 rfl Try.ntmps12 rfl (fun E => ?_)
  (repeat (first | ((first | (apply wo_v; rfl) ); (· first | (apply pv_ev; rfl) | (apply g_load; first | (apply pv_lda; rfl; (· (repeat (first | apply sel_here ))); (· (repeat (first | apply Cut.here0 | apply Cut.here )))) ) | (apply g_build; apply pv_build; (· (repeat (first | apply Bld.nil | (apply Bld.one; rfl; rfl; (· (repeat (first | apply SetAt.here | apply SetAt.there)))) )))) )) | apply wo_nil | apply wc_seq | apply wc_region | (apply wo_alloc; rfl; intro bx) | (apply wo_sta; rfl; rfl; rfl; rfl; (· (repeat (first | apply sel_here ))); (· (repeat (first | apply LayAt.nil | apply LayAt.here ))); rfl) ))
  (refine wo_call (wT) rfl (by (repeat (first | apply sub_nil )); done) (by first | exact fun _ h => h | (intro r hr; cases hr; done) | (simp; done) | exact fun _ h => List.mem_append_left _ h | (intro r hr; simp [hr]; done)) rfl ?_; rintro v L' R' ⟨rfl, rfl, rfl⟩ H' hH RR hR; simp only [List.cons_append, List.nil_append] at hH hR; subst hH; have hR := hR.symm; subst hR)
  (repeat (first | ((first | (apply wo_v; rfl) ); (· first | (apply pv_ev; rfl) )) ))
  (refine wo_call (wP) rfl (by (repeat (first | apply sub_nil )); done) (by first | exact fun _ h => h | (intro r hr; cases hr; done) | (simp; done) | exact fun _ h => List.mem_append_left _ h | (intro r hr; simp [hr]; done)) rfl ?_; rintro v L' R' ⟨ao, c, rfl, rfl, rfl⟩ H' hH RR hR; simp only [List.cons_append, List.nil_append] at hH hR; subst hH; have hR := hR.symm; subst hR)
  (repeat (first | ((first | (apply wo_v; rfl) ); (· first | (apply pv_ev; rfl) )) | apply wo_nil | apply wc_seq | apply wc_region | (apply wo_alloc; rfl; intro bx) | (apply wo_sta; rfl; rfl; rfl; rfl; (· (repeat (first | apply sel_here ))); (· (repeat (first | apply LayAt.nil | apply LayAt.here ))); rfl) ))
  (refine wo_call (vPlain) rfl (by (repeat (first | apply sub_nil )); done) (by first | exact fun _ h => h | (intro r hr; cases hr; done) | (simp; done) | exact fun _ h => List.mem_append_left _ h | (intro r hr; simp [hr]; done)) rfl ?_; rintro v L' R' ⟨rfl, rfl, rfl⟩ H' hH RR hR; simp only [List.cons_append, List.nil_append] at hH hR; subst hH; have hR := hR.symm; subst hR)
  (repeat (first | ((first | (apply wo_v; rfl) ); (· first | (apply pv_ev; rfl) | (apply pv_fld; rfl) | (apply g_load; first | (apply pv_ld; rfl; (· (repeat (first | apply sel_here | apply sel_there))); rfl) | (apply pv_lda; rfl; (· (repeat (first | apply sel_here ))); (· (repeat (first | apply Cut.here0 | apply Cut.here )))) ) | (apply g_pick; first | (apply pv_pick_t; rfl; rfl) ) | (apply g_bin; first | (apply pv_eql_s; rfl; rfl) ) )) | apply wo_nil | apply wc_seq | apply wc_region | (apply wo_run; rfl; rfl) | (apply wo_alloc; rfl; intro bx) | (apply wo_sta; rfl; rfl; rfl; rfl; (· (repeat (first | apply sel_here ))); (· (repeat (first | apply LayAt.nil | apply LayAt.here ))); rfl) ))
  (refine wo_call (wV) rfl (by (repeat (first | apply sub_nil )); done) (by first | exact fun _ h => h | (intro r hr; cases hr; done) | (simp; done) | exact fun _ h => List.mem_append_left _ h | (intro r hr; simp [hr]; done)) rfl ?_; rintro v L' R' ⟨rfl, rfl, rfl⟩ H' hH RR hR; simp only [List.cons_append, List.nil_append] at hH hR; subst hH; have hR := hR.symm; subst hR)
  (repeat (first | ((first | (apply wo_v; rfl) ); (· first | (apply pv_ev; rfl) | (apply g_pick; first | (apply pv_pick_t; rfl; rfl) ) | (apply g_bi; first | (apply pv_len_str; rfl) ) | (apply g_build; apply pv_build; (· (repeat (first | apply Bld.nil | (apply Bld.one; rfl; rfl; (· (repeat (first | apply SetAt.here | apply SetAt.there)))) )))) | (apply pv_mki; rfl; infer_instance) )) | (apply wo_run; rfl; rfl) | (apply wo_bsl; (· (repeat (first | apply Rws'.nil | (apply Rws'.one; rfl; rfl; rfl) ))); rfl; rfl; rfl; rfl; intro bx) ))
  refine wo_still (ao := some ⟨bx, 0, none⟩) (n := 1) (c := 1) (by (repeat (first | apply sel_here )); done) (fun R1 hS1 => ?_)
  have wR2 := wR _ _ _ hS1.sq
  have hy1 : sb ⟨#[129, 206, 0, 2, 0, 0, 0, 1, 0, 0, 0, 2]⟩ (Int.toNat 1) = 206 := by decide
  have hy2 : (⟨#[129, 206, 0, 2, 0, 0, 0, 1, 0, 0, 0, 2]⟩ : ByteArray).size = 12 := rfl
  generalize (⟨#[129, 206, 0, 2, 0, 0, 0, 1, 0, 0, 0, 2]⟩ : ByteArray) = y at wR2 hy1 hy2
  (refine wo_call (wR2) rfl (by (repeat (first | apply sub_nil )); done) (by first | exact fun _ h => h | (intro r hr; cases hr; done) | (simp; done) | exact fun _ h => List.mem_append_left _ h | (intro r hr; simp [hr]; done)) rfl ?_; rintro v L' R' ⟨rfl, rfl, rfl⟩ H' hH RR hR; simp only [List.cons_append, List.nil_append] at hH hR; subst hH; have hR := hR.symm; subst hR)
  (repeat (first | ((first | (apply wo_v; rfl) ); (· first | (apply pv_ev; rfl) | (apply g_pick; first | (apply pv_pick_t; rfl; rfl) ) | (apply pv_index_sn; rfl; rfl; omega) | (apply pv_index_s; rfl; rfl; omega) )) | apply wo_nil | apply wc_ret | (apply wo_run; rfl; rfl) ))
  exact ret1 rfl rfl ⟨by rw [hy1]; simp, rfl, rfl⟩ ((by (repeat (first | apply sub_nil )); done) : List.Perm _ ([] ++ _)) (by first | exact fun _ h => h | (intro r hr; cases hr; done) | (simp; done) | exact fun _ h => List.mem_append_left _ h | (intro r hr; simp [hr]; done))
end Go.Proofs.Ytlhlidmhlhodiaa

/-
  Package rtcp: Nack.Seqs.
-/
namespace Go.Proofs.Ytlhlidmhlhodiaa
set_option linter.unusedSimpArgs false
set_option linter.unusedVariables false
open Go.RowKit
attribute [local irreducible] Pv WO WC Fn
set_option maxRecDepth 100000

theorem and16_1 {a : Int} (h : 0 ≤ a ∧ a ≤ 65535) : bits .and .u16 a 1 = a % 2 := by
  obtain ⟨u, rfl⟩ := Int.eq_ofNat_of_zero_le h.1
  show IntKind.u16.wrap ((BitVec.ofInt 16 (u : Int) &&& BitVec.ofInt 16 ((1 : Nat) : Int)).toNat : Int) = _
  have hz : ∀ c : Nat, c < 2 ^ 16 → (BitVec.ofInt 16 (c : Int)).toNat = c := fun c hc => by
    rw [BitVec.ofInt_natCast, BitVec.toNat_ofNat]; exact Nat.mod_eq_of_lt hc
  rw [BitVec.toNat_and, hz u (by omega), hz 1 (by omega), Nat.and_one_is_mod, IntKind.wrap_u16]
  omega
theorem bit16 {x : Int} (h : 0 ≤ x ∧ x ≤ 65535) {i : Nat} (hi : i < 16) : bits .and .u16 (x.fdiv (2 ^ (min ((i : Int).toNat) IntKind.u16.bits))) 1 = x / 2 ^ i % 2 := by
  have e : min ((i : Int).toNat) IntKind.u16.bits = i := by
    show min i 16 = i
    omega
  have hp : (0 : Int) < 2 ^ i := Int.pow_pos (by omega)
  rw [e, Int.fdiv_eq_ediv_of_nonneg _ (Int.le_of_lt hp)]
  refine and16_1 ⟨Int.ediv_nonneg h.1 (Int.le_of_lt hp), ?_⟩
  have := Int.ediv_le_self (2 ^ i) h.1
  omega
/-- the numbers of a pair, by its first i bits -/
def seqB (p b : Int) : Nat → List Int
  | 0 => [p]
  | i + 1 => if b / 2 ^ i % 2 = 1 then seqB p b i ++ [((p + i) % 65536 + 1) % 65536] else seqB p b i
theorem seqB_len (p b : Int) : ∀ i, (seqB p b i).length ≤ i + 1
  | 0 => Nat.le_refl _
  | i + 1 => by
    have := seqB_len p b i
    rw [seqB]
    split
    · rw [List.length_append, List.length_singleton]; omega
    · omega
def seqL : List (Int × Int) → List Int
  | [] => []
  | x :: l => seqB x.1 x.2 16 ++ seqL l
theorem seqL_app : ∀ a b : List (Int × Int), seqL (a ++ b) = seqL a ++ seqL b
  | [], b => rfl
  | x :: a, b => by
    show seqB _ _ _ ++ seqL (a ++ b) = (seqB _ _ _ ++ seqL a) ++ seqL b
    rw [seqL_app a b, List.append_assoc]
theorem seqL_take {l : List (Int × Int)} {j : Nat} {x : Int × Int} (h : l[j]? = some x) : seqL (l.take (j + 1)) = seqL (l.take j) ++ seqB x.1 x.2 16 := by
  rw [List.take_add_one, h, seqL_app]
  show seqL (l.take j) ++ (seqB x.1 x.2 16 ++ []) = _
  rw [List.append_nil]
theorem seqL_len : ∀ l : List (Int × Int), (seqL l).length ≤ 17 * l.length
  | [] => Nat.le_refl _
  | x :: l => by
    have h1 := seqL_len l
    have h2 := seqB_len x.1 x.2 16
    show (seqB _ _ _ ++ seqL l).length ≤ _
    rw [List.length_append, List.length_cons]; omega
abbrev sO (ao : Option Addr) (n c : Nat) (l : List Int) : It := .own 24 1 ao n c (c16 l)
abbrev prO (b : Nat) (p q : Int) : It := .ob b (.cells #[.int .u16 p, .int .u16 q] 186 (0, 0))
abbrev nkO (b : Nat) (fm to : Int) (v : Value) : It := .ob b (.cells #[.int .u32 fm, .int .u32 to, v] 75 (0, 0))
theorem c16_snoc (ao : Option Addr) (n c : Nat) (l : List Int) (x : Int) : sO ao n c (l ++ [x]) = It.own 24 1 ao n c (c16 l ++ c16 [x]) := by rw [sO, c16_app]
set_option maxHeartbeats 8000000 in
theorem nSeqs (fm to : Int) (l : List (Int × Int)) (A : Option Addr) (n c : Nat) (R : List Ro) (hS : SQ R 2 A n c (pairV l)) (hl : l.length ≤ 100000) (hb : ∀ x ∈ l, in16 x.1 ∧ in16 x.2) :
    Fn Try.prog 91 #[.agg #[.int .u32 fm, .int .u32 to, .slice A n c]] [] R (fun v L' R' => ∃ ao c', v = .slice ao (seqL l).length c' ∧ L' = [sO ao (seqL l).length c' (seqL l)] ∧ R' = []) := by
  have hn : n = l.length := by rw [← hS.len, pairV_len]
  subst hn
  refine fn_intro Try.func91 rfl Try.ntmps91 rfl (fun E => ?_)
  (repeat (first | ((first | (apply wo_v; rfl) ); (· first | (apply pv_ev; rfl) | (apply pv_fld; rfl) | (apply g_load; first | (apply pv_ld; rfl; (· (repeat (first | apply sel_here ))); rfl) ) | (apply g_bi; first | (apply pv_len_sl; rfl) ) )) | apply wo_nil | apply wc_seq | apply wc_region | (apply wo_box1; rfl; rfl; rfl; intro bx) | (apply wo_boxa; rfl; rfl; intro bx) ))
  refine wc_own0 24 1 ?_
  refine wc_join0 (fun st => ∃ ao c', st = ⟨[(3, .slice ao (seqL l).length c')], [sO ao (seqL l).length c' (seqL l)], R⟩) ?_ ?_
  · refine wc_block ?_
    refine wc_loop' (fun q st => ∃ (i : Nat) (ao : Option Addr) (c' : Nat) (s : List Int), q = l.length - i ∧ i ≤ l.length ∧ s = seqL (l.take i) ∧ st = ⟨[(3, .slice ao s.length c'), (8, .slice A l.length c), (9, .int .i64 l.length), (10, .int .i64 i)], [sO ao s.length c' s], R⟩) ⟨0, none, 0, [], rfl, Nat.zero_le _, rfl, rfl⟩ (wk_mk (by (repeat (first | apply wkf_nil | (apply wkf_cons; rfl))); done) (by (repeat (first | apply sub_nil )); done) (by first | exact fun _ h => h | (intro r hr; cases hr; done) | (simp; done) | exact fun _ h => List.mem_append_left _ h | (intro r hr; simp [hr]; done))) ?_
    rintro q st ⟨i, ao, c', s, rfl, hi, hs, rfl⟩
    by_cases hlt : i < l.length
    · obtain ⟨⟨p, b⟩, hx⟩ : ∃ x, l[i]? = some x := ⟨_, List.getElem?_eq_getElem hlt⟩
      have hr := pairV_at hx
      obtain ⟨⟨p1, p2⟩, b1, b2⟩ := hb _ (List.mem_of_getElem? hx)
      have hnx := seqL_take hx
      have hlen : s.length ≤ 17 * i := by
        have := seqL_len (l.take i)
        rw [← hs, List.length_take] at this; omega
      rw [← hs] at hnx
      dsimp only at hr p1 p2 b1 b2 hnx
      obtain ⟨a0, o0, rfl, hmem⟩ := hS.pos (by omega)
      (repeat (first | ((first | (apply wo_v; rfl) ); (· first | (apply pv_ev; rfl) )) | apply wo_nil | apply wc_seq | apply wc_region | apply wc_skip | (apply wc_true; rfl) | (apply wc_false; rfl) | (apply a_dec_t; rfl; (· first | assumption | omega)) ))
      refine wc_block ?_
      (repeat (first | ((first | (apply wo_v; rfl) ); (· first | (apply pv_ev; rfl) | (apply pv_fld; rfl) | (apply g_load; first | (apply pv_ld; rfl; (· (repeat (first | apply sel_here ))); rfl) | (apply pv_lda; rfl; (· (repeat (first | apply sel_there))); (· (repeat (first | fail )))) | (apply pv_ld_owna; rfl; (· (repeat (first | apply sel_there))); (· assumption)) | (apply pv_ld_roa; rfl; (· (first | assumption )); (· assumption))) | (apply g_bi; first | fail ) | (apply g_idx; first | (apply pv_idx; rfl; rfl; omega) ) )) | apply wo_nil | apply wc_seq | apply wc_region | (apply wo_alloc; rfl; intro bx) | (apply wo_bsl; (· (repeat (first | apply Rws'.nil | (apply Rws'.one; rfl; rfl; rfl) ))); rfl; rfl; rfl; rfl; intro bx) | (apply wo_sta; rfl; rfl; rfl; rfl; (· (repeat (first | apply sel_here ))); (· (repeat (first | apply LayAt.nil | apply LayAt.here ))); rfl) ))
      rename_i bp
      refine wo_app rfl rfl (by (repeat (first | apply sel_here | apply sel_there)); done) (by (repeat (first | apply sel_here )); done) (by unfold maxLen; omega) (by omega) rfl (fun ao2 c2 => ?_)
      (repeat (first | ((first | (apply wo_v; rfl) ); (· first | (apply pv_ev; rfl) )) | apply wo_nil | apply wc_seq | apply wc_region ))
      refine wc_join0 (fun st => ∃ ao c', st = ⟨[(3, .slice ao (seqL (l.take (i + 1))).length c'), (8, .slice (some ⟨a0, o0, none⟩) l.length c), (9, .int .i64 l.length), (10, .int .i64 i)], [sO ao (seqL (l.take (i + 1))).length c' (seqL (l.take (i + 1)))], R⟩) ?_ ?_
      · refine wc_block ?_
        refine wc_loop' (fun q st => ∃ (j : Nat) (ao : Option Addr) (c' : Nat) (u : List Int), q = 16 - j ∧ j ≤ 16 ∧ u = s ++ seqB p b j ∧ st = ⟨[(3, .slice ao u.length c'), (5, .pointer (some ⟨bp, 0, none⟩)), (8, .slice (some ⟨a0, o0, none⟩) l.length c), (9, .int .i64 l.length), (10, .int .i64 i), (19, .int .i64 j)], [sO ao u.length c' u, prO bp p b], R⟩) ⟨0, ao2, c2, s ++ [p], rfl, Nat.zero_le _, rfl, by rw [List.length_append, List.length_singleton, c16_snoc]⟩ (wk_mk (by (repeat (first | apply wkf_nil | (apply wkf_cons; rfl))); done) (by (repeat (first | apply sub_nil | (apply sub_cons; (· (repeat (first | apply sel_here | apply sel_there)))))); done) (by first | exact fun _ h => h | (intro r hr; cases hr; done) | (simp; done) | exact fun _ h => List.mem_append_left _ h | (intro r hr; simp [hr]; done))) ?_
        clear ao2 c2 ao c'
        rintro q st ⟨j, ao, c', u, rfl, hj, hu, rfl⟩
        have hul : u.length ≤ 17 * i + 17 := by
          have := seqB_len p b j
          rw [hu, List.length_append]; omega
        by_cases hlj : j < 16
        · have hbit := bit16 ⟨b1, b2⟩ hlj
          have hs1 : seqB p b (j + 1) = if b / 2 ^ j % 2 = 1 then seqB p b j ++ [((p + j) % 65536 + 1) % 65536] else seqB p b j := rfl
          by_cases hbt : b / 2 ^ j % 2 = 1
          · rw [if_pos hbt] at hs1
            have hbt2 := hbit.trans hbt
            (repeat (first | ((first | (apply wo_v; rfl) ); (· first | (apply pv_ev; rfl) )) | apply wo_nil | apply wc_seq | apply wc_region | apply wc_skip | (apply wc_true; rfl) | (apply wc_false; rfl) | (apply a_dec_t; rfl; (· first | assumption | omega)) ))
            refine wc_block ?_
            (repeat (first | ((first | (apply wo_v; rfl) ); (· first | (apply pv_ev; rfl) | (apply pv_fld; rfl) | (apply g_load; first | (apply pv_ld; rfl; (· (repeat (first | apply sel_here | apply sel_there))); rfl) ) | (apply g_bin; first | (apply a_add; rfl; rfl; infer_instance; omega) | (apply pv_and; rfl; rfl) | (apply pv_add_s; rfl; rfl; omega) | (apply a_add_u; rfl; rfl; infer_instance) | (apply a_shr; rfl; rfl; rfl; omega; rfl) | (apply pv_shr; rfl; rfl; omega) ) | (apply g_bi; first | fail ) | (apply g_conv; first | (apply a_conv; rfl; infer_instance; infer_instance; infer_instance; omega) ) )) | apply wo_nil | apply wc_seq | apply wc_region | (apply wc_true; rfl) | (apply wc_false; rfl) | (apply a_dec_t; rfl; (· first | assumption | omega)) | (apply wo_bsl; (· (repeat (first | apply Rws'.nil | (apply Rws'.one; rfl; rfl; rfl) ))); rfl; rfl; rfl; rfl; intro bx) ))
            refine wo_app rfl rfl (by (repeat (first | apply sel_here | apply sel_there)); done) (by (repeat (first | apply sel_here )); done) (by unfold maxLen; omega) (by omega) rfl (fun ao3 c3 => ?_)
            (repeat (first | ((first | (apply wo_v; rfl) ); (· first | (apply pv_ev; rfl) | (apply g_bin; first | (apply a_add; rfl; rfl; infer_instance; omega) ) )) | apply wo_nil | apply wc_region ))
            exact loop_end ⟨j + 1, ao3, c3, u ++ [_], rfl, by omega, by rw [hs1, hu, List.append_assoc], by rw [List.length_append, List.length_singleton, c16_snoc]⟩ (by omega) (wk_mk (by (repeat (first | apply wkf_nil | (apply wkf_cons; rfl))); done) (by (repeat (first | apply sub_nil | (apply sub_cons; (· (repeat (first | apply sel_here | apply sel_there)))))); done) (by first | exact fun _ h => h | (intro r hr; cases hr; done) | (simp; done) | exact fun _ h => List.mem_append_left _ h | (intro r hr; simp [hr]; done)))
          · rw [if_neg hbt] at hs1
            have hbt2 : ¬ bits .and .u16 (b.fdiv (2 ^ (min ((j : Int).toNat) IntKind.u16.bits))) 1 = 1 := by rw [hbit]; exact hbt
            (repeat (first | ((first | (apply wo_v; rfl) ); (· first | (apply pv_ev; rfl) )) | apply wo_nil | apply wc_seq | apply wc_region | apply wc_skip | (apply wc_true; rfl) | (apply wc_false; rfl) | (apply a_dec_t; rfl; (· first | assumption | omega)) ))
            refine wc_block ?_
            (repeat (first | ((first | (apply wo_v; rfl) ); (· first | (apply pv_ev; rfl) | (apply pv_fld; rfl) | (apply g_load; first | (apply pv_ld; rfl; (· (repeat (first | apply sel_here | apply sel_there))); rfl) ) | (apply g_bin; first | (apply a_add; rfl; rfl; infer_instance; omega) | (apply pv_and; rfl; rfl) | (apply a_shr; rfl; rfl; rfl; omega; rfl) | (apply pv_shr; rfl; rfl; omega) ) )) | apply wo_nil | apply wc_seq | apply wc_region | apply wc_skip | (apply wc_true; rfl) | (apply wc_false; rfl) | (apply a_dec_t; rfl; (· first | assumption | omega)) | (apply a_dec_f; rfl; (· first | assumption | omega)) ))
            exact loop_end ⟨j + 1, ao, c', u, rfl, by omega, by rw [hs1, hu], rfl⟩ (by omega) (wk_mk (by (repeat (first | apply wkf_nil | (apply wkf_cons; rfl))); done) (by (repeat (first | apply sub_nil )); done) (by first | exact fun _ h => h | (intro r hr; cases hr; done) | (simp; done) | exact fun _ h => List.mem_append_left _ h | (intro r hr; simp [hr]; done)))
        · have e : j = 16 := by omega
          subst e
          rw [← hnx] at hu
          subst hu
          (repeat (first | ((first | (apply wo_v; rfl) ); (· first | (apply pv_ev; rfl) )) | apply wo_nil | apply wc_seq | apply wc_region | (apply wc_exit; rfl) | (apply wc_true; rfl) | (apply wc_false; rfl) ))
          exact cut_end ⟨ao, c', rfl⟩ (wk_mk (by (repeat (first | apply wkf_nil | (apply wkf_cons; rfl))); done) (by (repeat (first | apply sub_nil )); done) (by first | exact fun _ h => h | (intro r hr; cases hr; done) | (simp; done) | exact fun _ h => List.mem_append_left _ h | (intro r hr; simp [hr]; done)))
      rintro st ⟨ao, c', rfl⟩
      (repeat (first | ((first | (apply wo_v; rfl) ); (· first | (apply pv_ev; rfl) | (apply g_bin; first | (apply a_add; rfl; rfl; infer_instance; omega) ) )) | apply wo_nil | apply wc_region ))
      exact loop_end ⟨i + 1, ao, c', _, rfl, by omega, rfl, rfl⟩ (by omega) (wk_mk (by (repeat (first | apply wkf_nil | (apply wkf_cons; rfl))); done) (by (repeat (first | apply sub_nil )); done) (by first | exact fun _ h => h | (intro r hr; cases hr; done) | (simp; done) | exact fun _ h => List.mem_append_left _ h | (intro r hr; simp [hr]; done)))
    · have e : i = l.length := by omega
      subst e
      rw [List.take_length] at hs
      subst hs
      (repeat (first | ((first | (apply wo_v; rfl) ); (· first | (apply pv_ev; rfl) )) | apply wo_nil | apply wc_seq | apply wc_region | (apply wc_exit; rfl) | (apply wc_true; rfl) | (apply wc_false; rfl) | (apply a_dec_t; rfl; (· first | assumption | omega)) | (apply a_dec_f; rfl; (· first | assumption | omega)) ))
      exact cut_end ⟨ao, c', rfl⟩ (wk_mk (by (repeat (first | apply wkf_nil | (apply wkf_cons; rfl))); done) (by (repeat (first | apply sub_nil )); done) (by first | exact fun _ h => h | (intro r hr; cases hr; done) | (simp; done) | exact fun _ h => List.mem_append_left _ h | (intro r hr; simp [hr]; done)))
  rintro st ⟨ao, c', rfl⟩
  (repeat (first | ((first | (apply wo_v; rfl) ); (· first | (apply pv_ev; rfl) )) | apply wo_nil | apply wc_seq | apply wc_region | apply wc_ret ))
  exact ret1 rfl rfl ⟨ao, c', rfl, rfl, rfl⟩ ((by (repeat (first | apply sub_nil )); done) : List.Perm _ ([_] ++ _)) (by first | exact fun _ h => h | (intro r hr; cases hr; done) | (simp; done) | exact fun _ h => List.mem_append_left _ h | (intro r hr; simp [hr]; done))
end Go.Proofs.Ytlhlidmhlhodiaa

/-
  Package rtcp: Pairs.
-/
namespace Go.Proofs.Ytlhlidmhlhodiaa
set_option linter.unusedSimpArgs false
set_option linter.unusedVariables false
open Go.RowKit
attribute [local irreducible] Pv WO WC Fn
set_option maxRecDepth 100000

def orB (b d : Int) : Int := bits .or .u16 b (IntKind.u16.wrap (1 * 2 ^ (min ((d - 1).toNat) IntKind.u16.bits)))
theorem orB_in (b d : Int) : in16 (orB b d) := by
  unfold orB in16
  have h : ∀ n : Int, 0 ≤ IntKind.u16.wrap n ∧ IntKind.u16.wrap n ≤ 65535 := fun n => by rw [IntKind.wrap_u16]; omega
  exact h _
/-- one number more -/
def pStep (out : List (Int × Int)) (n : Int) : List (Int × Int) :=
  match out[out.length - 1]? with
  | none => out ++ [(n, 0)]
  | some x => if (n - x.1) % 65536 = 0 then out else if (n - x.1) % 65536 ≤ 16 then out.set (out.length - 1) (x.1, orB x.2 ((n - x.1) % 65536)) else out ++ [(n, 0)]
def pairM (l : List Int) : List (Int × Int) := l.foldl pStep []
theorem pairM_take {l : List Int} {j : Nat} {x : Int} (h : l[j]? = some x) : pairM (l.take (j + 1)) = pStep (pairM (l.take j)) x := by
  unfold pairM
  rw [List.take_add_one, h, List.foldl_append]; rfl
theorem pStep_len (out : List (Int × Int)) (n : Int) : (pStep out n).length ≤ out.length + 1 := by
  unfold pStep
  split
  · simp
  · split
    · omega
    · split
      · simp
      · simp
theorem pStep_in {out : List (Int × Int)} {n : Int} (h : ∀ x ∈ out, in16 x.1 ∧ in16 x.2) (hn : in16 n) : ∀ x ∈ pStep out n, in16 x.1 ∧ in16 x.2 := by
  have hz : in16 0 := by unfold in16; omega
  unfold pStep
  split
  · intro x hx
    rcases List.mem_append.1 hx with hx | hx
    · exact h x hx
    · rcases List.mem_singleton.1 hx with rfl; exact ⟨hn, hz⟩
  · rename_i y hy
    split
    · exact h
    · split
      · intro x hx
        rcases List.mem_or_eq_of_mem_set hx with hx | hx
        · exact h x hx
        · subst hx; exact ⟨(h y (List.mem_of_getElem? hy)).1, orB_in _ _⟩
      · intro x hx
        rcases List.mem_append.1 hx with hx | hx
        · exact h x hx
        · rcases List.mem_singleton.1 hx with rfl; exact ⟨hn, hz⟩
theorem pairM_in {l : List Int} (h : ∀ x ∈ l, in16 x) : ∀ j, j ≤ l.length → (∀ x ∈ pairM (l.take j), in16 x.1 ∧ in16 x.2) ∧ (pairM (l.take j)).length ≤ j
  | 0, _ => ⟨(fun x hx => by cases hx), Nat.le_refl _⟩
  | j + 1, hj => by
    have he := List.getElem?_eq_getElem (show j < l.length by omega)
    obtain ⟨h1, h2⟩ := pairM_in h j (by omega)
    rw [pairM_take he]
    exact ⟨pStep_in h1 (h _ (List.getElem_mem _)), Nat.le_trans (pStep_len _ _) (by omega)⟩
theorem pairM_ok {l : List Int} (h : ∀ x ∈ l, in16 x) : (∀ x ∈ pairM l, in16 x.1 ∧ in16 x.2) ∧ (pairM l).length ≤ l.length := by
  have := pairM_in h l.length (Nat.le_refl _)
  rwa [List.take_length] at this
abbrev pO (ao : Option Addr) (n c : Nat) (l : List (Int × Int)) : It := .own 186 2 ao n c (pairV l)
theorem pO_snoc (ao : Option Addr) (n c : Nat) (l : List (Int × Int)) (x y : Int) : pO ao n c (l ++ [(x, y)]) = It.own 186 2 ao n c (pairV l ++ [[.int .u16 x, .int .u16 y]]) := by simp [pO, pairV]
theorem pO_set (ao : Option Addr) (n c : Nat) (l : List (Int × Int)) (k : Nat) (x y : Int) : pO ao n c (l.set k (x, y)) = It.own 186 2 ao n c ((pairV l).set k [.int .u16 x, .int .u16 y]) := by
  rw [pO, pairV, pairV, List.map_set]
set_option maxHeartbeats 8000000 in
theorem nPairs (l : List Int) (A : Option Addr) (n c : Nat) (R : List Ro) (hS : SQ R 1 A n c (c16 l)) (hl : l.length ≤ 100000) (hb : ∀ x ∈ l, in16 x) :
    Fn Try.prog 37 #[.slice A n c] [] R (fun v L' R' => ∃ ao c', v = .slice ao (pairM l).length c' ∧ L' = [pO ao (pairM l).length c' (pairM l)] ∧ R' = []) := by
  have hn : n = l.length := by rw [← hS.len, c16_len]
  subst hn
  refine fn_intro Try.func37 rfl Try.ntmps37 rfl (fun E => ?_)
  (repeat (first | ((first | (apply wo_v; rfl) ); (· first | (apply pv_ev; rfl) | (apply g_bi; first | (apply pv_len_sl; rfl) ) )) | apply wo_nil | apply wc_seq | apply wc_region ))
  refine wc_own0 186 2 ?_
  refine wc_join0 (fun st => ∃ ao c', st = ⟨[(3, .slice ao (pairM l).length c')], [pO ao (pairM l).length c' (pairM l)], R⟩) ?_ ?_
  · refine wc_block ?_
    refine wc_loop' (fun q st => ∃ (i : Nat) (ao : Option Addr) (c' : Nat) (s : List (Int × Int)), q = l.length - i ∧ i ≤ l.length ∧ s = pairM (l.take i) ∧ st = ⟨[(3, .slice ao s.length c'), (8, .slice A l.length c), (9, .int .i64 l.length), (10, .int .i64 i)], [pO ao s.length c' s], R⟩) ⟨0, none, 0, [], rfl, Nat.zero_le _, rfl, rfl⟩ (wk_mk (by (repeat (first | apply wkf_nil | (apply wkf_cons; rfl))); done) (by (repeat (first | apply sub_nil )); done) (by first | exact fun _ h => h | (intro r hr; cases hr; done) | (simp; done) | exact fun _ h => List.mem_append_left _ h | (intro r hr; simp [hr]; done))) ?_
    rintro q st ⟨i, ao, c', s, rfl, hi, hs, rfl⟩
    by_cases hlt : i < l.length
    · obtain ⟨x, hx⟩ : ∃ x, l[i]? = some x := ⟨_, List.getElem?_eq_getElem hlt⟩
      have hr := c16_at hx
      obtain ⟨x1, x2⟩ := hb _ (List.mem_of_getElem? hx)
      have hnx := pairM_take hx
      obtain ⟨hin, hlen⟩ := pairM_in hb i hi
      rw [← hs] at hnx hin hlen
      obtain ⟨a0, o0, rfl, hmem⟩ := hS.pos (by omega)
      by_cases h0 : s.length = 0
      · obtain rfl := List.eq_nil_of_length_eq_zero h0
        have e : pStep [] x = [] ++ [(x, 0)] := rfl
        rw [e] at hnx
        (repeat (first | ((first | (apply wo_v; rfl) ); (· first | (apply pv_ev; rfl) | (apply g_load; first | (apply pv_ld; rfl; (· (repeat (first | apply sel_there))); rfl) | (apply pv_ld_ownf; rfl; (· (repeat (first | fail ))); (· assumption); rfl) | (apply pv_ld_own1; rfl; (· (repeat (first | apply sel_there))); (· assumption)) | (apply pv_ld_rof; rfl; (· (first | assumption )); (· assumption); rfl) | (apply pv_ld_ro1; rfl; (· (first | assumption )); (· assumption)) ) | (apply g_bin; first | (apply a_sub; rfl; rfl; infer_instance; omega) ) | (apply g_bi; first | (apply pv_len_sl; rfl) ) | (apply g_idx; first | (apply pv_idx; rfl; rfl; omega) ) | (apply g_build; apply pv_build; (· (repeat (first | apply Bld.nil | (apply Bld.one; rfl; rfl; (· (repeat (first | apply SetAt.here )))) )))) )) | apply wo_nil | apply wc_seq | apply wc_region | apply wc_block | apply wc_skip | (apply wc_true; rfl) | (apply wc_false; rfl) | (apply a_dec_t; rfl; (· first | assumption | omega)) | (apply wo_bsl; (· (repeat (first | apply Rws'.nil | (apply Rws'.one; rfl; rfl; rfl) | (apply Rws'.agg; rfl; rfl; rfl)))); rfl; rfl; rfl; rfl; intro bx) ))
        refine wo_app rfl rfl (by (repeat (first | apply sel_here | apply sel_there)); done) (by (repeat (first | apply sel_here )); done) (by unfold maxLen; omega) (by omega) rfl (fun ao2 c2 => ?_)
        (repeat (first | ((first | (apply wo_v; rfl) ); (· first | (apply pv_ev; rfl) | (apply g_bin; first | (apply a_add; rfl; rfl; infer_instance; omega) ) )) | apply wo_nil | apply wc_region ))
        exact loop_end ⟨i + 1, ao2, c2, [] ++ [(x, 0)], rfl, by omega, hnx.symm, by rw [List.length_append, List.length_singleton, pO_snoc]⟩ (by omega) (wk_mk (by (repeat (first | apply wkf_nil | (apply wkf_cons; rfl))); done) (by (repeat (first | apply sub_nil )); done) (by first | exact fun _ h => h | (intro r hr; cases hr; done) | (simp; done) | exact fun _ h => List.mem_append_left _ h | (intro r hr; simp [hr]; done)))
      · obtain ⟨y, hy⟩ : ∃ y, s[s.length - 1]? = some y := ⟨_, List.getElem?_eq_getElem (by omega)⟩
        have hr2 := pairV_at hy
        obtain ⟨y1, y2⟩ := hin y (List.mem_of_getElem? hy)
        obtain ⟨p, b⟩ := y
        dsimp only at hr2 y1 y2
        unfold pStep at hnx
        rw [hy] at hnx
        dsimp only at hnx
        have es : (s.length : Int) - 1 = ((s.length - 1 : Nat) : Int) := by omega
        refine wc_some (ao := ao) (by (repeat (first | apply sel_here )); done) (by omega) (fun b4 o4 hao => ?_)
        subst hao
        have hd : 0 ≤ (x - p) % 65536 ∧ (x - p) % 65536 < 65536 := by omega
        by_cases c1 : (x - p) % 65536 = 0
        · rw [if_pos c1] at hnx
          (repeat (first | ((first | (apply wo_v; rfl) ); (· first | (apply pv_ev; rfl) | (apply pv_fld; rfl) | (apply g_load; first | (apply pv_ld; rfl; (· (repeat (first | apply sel_there))); rfl) | (apply pv_ld_ownf; rfl; (· (repeat (first | apply sel_here ))); (· assumption); rfl) | (apply pv_ld_own1; rfl; (· (repeat (first | apply sel_there))); (· assumption)) | (apply pv_ld_rof; rfl; (· (first | assumption )); (· assumption); rfl) | (apply pv_ld_ro1; rfl; (· (first | assumption )); (· assumption)) ) | (apply g_bin; first | (apply a_sub; rfl; rfl; infer_instance; omega) ) | (apply g_bi; first | (apply pv_len_sl; rfl) ) | (apply g_idx; first | (apply pv_idx; rfl; rfl; omega) | (apply (pv_idx_e 0); rfl; rfl; rfl; omega) | (apply pv_idx_n; rfl; rfl; omega) ) )) | apply wo_nil | apply wc_seq | apply wc_region | apply wc_block | apply wc_skip | (apply wc_true; rfl) | (apply wc_false; rfl) | (apply a_dec_t; rfl; (· first | assumption | omega)) ))
          rw [es]
          (repeat (first | ((first | (apply wo_v; rfl) ); (· first | (apply pv_ev; rfl) | (apply g_load; first | (apply pv_ld; rfl; (· (repeat (first | apply sel_there))); rfl) | (apply pv_ld_ownf; rfl; (· (repeat (first | apply sel_here ))); (· assumption); rfl) ) | (apply g_bin; first | (apply a_add; rfl; rfl; infer_instance; omega) | (apply a_sub; rfl; rfl; infer_instance; omega) | (apply a_sub_u; rfl; rfl; infer_instance) ) )) | apply wo_nil | apply wc_seq | apply wc_region | (apply wc_exit; rfl) | (apply wc_true; rfl) | (apply wc_false; rfl) | (apply a_dec_t; rfl; (· first | assumption | omega)) ))
          exact loop_end ⟨i + 1, _, c', s, rfl, by omega, hnx.symm, rfl⟩ (by omega) (wk_mk (by (repeat (first | apply wkf_nil | (apply wkf_cons; rfl))); done) (by (repeat (first | apply sub_nil )); done) (by first | exact fun _ h => h | (intro r hr; cases hr; done) | (simp; done) | exact fun _ h => List.mem_append_left _ h | (intro r hr; simp [hr]; done)))
        rw [if_neg c1] at hnx
        by_cases c2 : (x - p) % 65536 ≤ 16
        · rw [if_pos c2] at hnx
          (repeat (first | ((first | (apply wo_v; rfl) ); (· first | (apply pv_ev; rfl) | (apply pv_fld; rfl) | (apply g_load; first | (apply pv_ld; rfl; (· (repeat (first | apply sel_there))); rfl) | (apply pv_ld_ownf; rfl; (· (repeat (first | apply sel_here ))); (· assumption); rfl) | (apply pv_ld_own1; rfl; (· (repeat (first | apply sel_there))); (· assumption)) | (apply pv_ld_rof; rfl; (· (first | assumption )); (· assumption); rfl) | (apply pv_ld_ro1; rfl; (· (first | assumption )); (· assumption)) ) | (apply g_bin; first | (apply a_sub; rfl; rfl; infer_instance; omega) ) | (apply g_bi; first | (apply pv_len_sl; rfl) ) | (apply g_idx; first | (apply pv_idx; rfl; rfl; omega) | (apply (pv_idx_e 0); rfl; rfl; rfl; omega) | (apply pv_idx_n; rfl; rfl; omega) ) )) | apply wo_nil | apply wc_seq | apply wc_region | apply wc_block | apply wc_skip | (apply wc_true; rfl) | (apply wc_false; rfl) | (apply a_dec_t; rfl; (· first | assumption | omega)) ))
          rw [es]
          (repeat (first | ((first | (apply wo_v; rfl) ); (· first | (apply pv_ev; rfl) | (apply pv_fld; rfl) | (apply g_load; first | (apply pv_ld; rfl; (· (repeat (first | apply sel_there))); rfl) | (apply pv_ld_ownf; rfl; (· (repeat (first | apply sel_here ))); (· assumption); rfl) ) | (apply g_bin; first | (apply a_add; rfl; rfl; infer_instance; omega) | (apply a_sub; rfl; rfl; infer_instance; omega) | (apply (a_or 4); rfl; rfl; infer_instance; rfl; omega) | (apply (a_or 5); rfl; rfl; infer_instance; rfl; omega) | (apply (a_or 6); rfl; rfl; infer_instance; rfl; omega) | (apply (a_or 7); rfl; rfl; infer_instance; rfl; omega) | (apply (a_or 8); rfl; rfl; infer_instance; rfl; omega) | (apply (a_or 16); rfl; rfl; infer_instance; rfl; omega) | (apply (a_or 24); rfl; rfl; infer_instance; rfl; omega) | (apply (a_or 32); rfl; rfl; infer_instance; rfl; omega) | (apply pv_or; rfl; rfl) | (apply a_sub_u; rfl; rfl; infer_instance) | (apply a_shl; rfl; rfl; rfl; omega; rfl; infer_instance; omega) | (apply a_shl_u; rfl; rfl; rfl; omega; rfl; infer_instance) | (apply pv_shl; rfl; rfl; omega) ) | (apply g_idx; first | (apply pv_idx; rfl; rfl; omega) ) )) | apply wo_nil | apply wc_seq | apply wc_region | apply wc_skip | (apply wc_exit; rfl) | (apply wc_true; rfl) | (apply wc_false; rfl) | (apply a_dec_t; rfl; (· first | assumption | omega)) | (apply a_dec_f; rfl; (· first | assumption | omega)) | (apply wo_st; rfl; rfl; rfl; (· (repeat (first | apply sel_there))); (· (repeat (first | fail ))); rfl) | (apply wo_st_ownf; rfl; rfl; rfl; (· (repeat (first | apply sel_here ))); (· assumption); (· (repeat (first | apply SetAt.here | apply SetAt.there))); rfl) ))
          exact loop_end ⟨i + 1, some ⟨b4, o4, none⟩, c', s.set (s.length - 1) (p, orB b ((x - p) % 65536)), rfl, by omega, hnx.symm, by rw [List.length_set, pO_set]⟩ (by omega) (wk_mk (by (repeat (first | apply wkf_nil | (apply wkf_cons; rfl))); done) (by (repeat (first | apply sub_nil )); done) (by first | exact fun _ h => h | (intro r hr; cases hr; done) | (simp; done) | exact fun _ h => List.mem_append_left _ h | (intro r hr; simp [hr]; done)))
        · rw [if_neg c2] at hnx
          (repeat (first | ((first | (apply wo_v; rfl) ); (· first | (apply pv_ev; rfl) | (apply pv_fld; rfl) | (apply g_load; first | (apply pv_ld; rfl; (· (repeat (first | apply sel_there))); rfl) | (apply pv_ld_ownf; rfl; (· (repeat (first | apply sel_here ))); (· assumption); rfl) | (apply pv_ld_own1; rfl; (· (repeat (first | apply sel_there))); (· assumption)) | (apply pv_ld_rof; rfl; (· (first | assumption )); (· assumption); rfl) | (apply pv_ld_ro1; rfl; (· (first | assumption )); (· assumption)) ) | (apply g_bin; first | (apply a_sub; rfl; rfl; infer_instance; omega) ) | (apply g_bi; first | (apply pv_len_sl; rfl) ) | (apply g_idx; first | (apply pv_idx; rfl; rfl; omega) | (apply (pv_idx_e 0); rfl; rfl; rfl; omega) | (apply pv_idx_n; rfl; rfl; omega) ) )) | apply wo_nil | apply wc_seq | apply wc_region | apply wc_block | apply wc_skip | (apply wc_true; rfl) | (apply wc_false; rfl) | (apply a_dec_t; rfl; (· first | assumption | omega)) ))
          rw [es]
          (repeat (first | ((first | (apply wo_v; rfl) ); (· first | (apply pv_ev; rfl) | (apply g_load; first | (apply pv_ld; rfl; (· (repeat (first | apply sel_there))); rfl) | (apply pv_ld_ownf; rfl; (· (repeat (first | apply sel_here ))); (· assumption); rfl) ) | (apply g_bin; first | (apply a_sub; rfl; rfl; infer_instance; omega) | (apply a_sub_u; rfl; rfl; infer_instance) ) | (apply g_bi; first | fail ) | (apply g_build; apply pv_build; (· (repeat (first | apply Bld.nil | (apply Bld.one; rfl; rfl; (· (repeat (first | apply SetAt.here )))) )))) )) | apply wo_nil | apply wc_seq | apply wc_region | apply wc_skip | (apply wc_true; rfl) | (apply wc_false; rfl) | (apply a_dec_t; rfl; (· first | assumption | omega)) | (apply a_dec_f; rfl; (· first | assumption | omega)) | (apply wo_bsl; (· (repeat (first | apply Rws'.nil | (apply Rws'.one; rfl; rfl; rfl) | (apply Rws'.agg; rfl; rfl; rfl)))); rfl; rfl; rfl; rfl; intro bx) ))
          refine wo_app rfl rfl (by (repeat (first | apply sel_here | apply sel_there)); done) (by (repeat (first | apply sel_here )); done) (by unfold maxLen; omega) (by omega) rfl (fun ao2 c2 => ?_)
          (repeat (first | ((first | (apply wo_v; rfl) ); (· first | (apply pv_ev; rfl) | (apply g_bin; first | (apply a_add; rfl; rfl; infer_instance; omega) ) )) | apply wo_nil | apply wc_region ))
          exact loop_end ⟨i + 1, ao2, c2, s ++ [(x, 0)], rfl, by omega, hnx.symm, by rw [List.length_append, List.length_singleton, pO_snoc]⟩ (by omega) (wk_mk (by (repeat (first | apply wkf_nil | (apply wkf_cons; rfl))); done) (by (repeat (first | apply sub_nil )); done) (by first | exact fun _ h => h | (intro r hr; cases hr; done) | (simp; done) | exact fun _ h => List.mem_append_left _ h | (intro r hr; simp [hr]; done)))
    · have e : i = l.length := by omega
      subst e
      rw [List.take_length] at hs
      subst hs
      (repeat (first | ((first | (apply wo_v; rfl) ); (· first | (apply pv_ev; rfl) )) | apply wo_nil | apply wc_seq | apply wc_region | (apply wc_exit; rfl) | (apply wc_true; rfl) | (apply wc_false; rfl) | (apply a_dec_t; rfl; (· first | assumption | omega)) | (apply a_dec_f; rfl; (· first | assumption | omega)) ))
      exact cut_end ⟨ao, c', rfl⟩ (wk_mk (by (repeat (first | apply wkf_nil | (apply wkf_cons; rfl))); done) (by (repeat (first | apply sub_nil )); done) (by first | exact fun _ h => h | (intro r hr; cases hr; done) | (simp; done) | exact fun _ h => List.mem_append_left _ h | (intro r hr; simp [hr]; done)))
  rintro st ⟨ao, c', rfl⟩
  (repeat (first | ((first | (apply wo_v; rfl) ); (· first | (apply pv_ev; rfl) )) | apply wo_nil | apply wc_seq | apply wc_region | apply wc_ret ))
  exact ret1 rfl rfl ⟨ao, c', rfl, rfl, rfl⟩ ((by (repeat (first | apply sub_nil )); done) : List.Perm _ ([_] ++ _)) (by first | exact fun _ h => h | (intro r hr; cases hr; done) | (simp; done) | exact fun _ h => List.mem_append_left _ h | (intro r hr; simp [hr]; done))
end Go.Proofs.Ytlhlidmhlhodiaa

/-
  Package rtcp, plain: the pairs ask for all numbers of which they are made.
-/
namespace Go.Proofs.Ytlhlidmhlhodiaa
set_option linter.unusedSimpArgs false
set_option linter.unusedVariables false
open Go.RowKit

theorem bit_nat {b : Int} (hb : 0 ≤ b) (i : Nat) : (b / 2 ^ i % 2 = 1) ↔ b.toNat.testBit i = true := by
  obtain ⟨u, rfl⟩ := Int.eq_ofNat_of_zero_le hb
  rw [Nat.testBit_eq_decide_div_mod_eq, decide_eq_true_iff]
  show ((u : Int) / 2 ^ i % 2 = 1) ↔ u / 2 ^ i % 2 = 1
  have : ((u / 2 ^ i % 2 : Nat) : Int) = (u : Int) / 2 ^ i % 2 := by push_cast; rfl
  omega
theorem orB_nat {b d : Int} (hb : in16 b) (hd : 1 ≤ d ∧ d ≤ 16) : (orB b d).toNat = b.toNat ||| 2 ^ (d - 1).toNat := by
  obtain ⟨h0, h1⟩ := hb
  obtain ⟨u, rfl⟩ := Int.eq_ofNat_of_zero_le h0
  obtain ⟨e, he, h16⟩ : ∃ e : Nat, (d - 1).toNat = e ∧ e < 16 := ⟨(d - 1).toNat, rfl, by omega⟩
  unfold orB
  rw [he]
  have hm : min e IntKind.u16.bits = e := by show min e 16 = e; omega
  rw [hm]
  have hp : (2 : Nat) ^ e < 65536 := by
    have : (2 : Nat) ^ e ≤ 2 ^ 15 := Nat.pow_le_pow_right (by omega) (by omega)
    omega
  have hw : IntKind.u16.wrap (1 * 2 ^ e) = ((2 ^ e : Nat) : Int) := by
    rw [IntKind.wrap_u16, Int.one_mul]
    have h5 : ((2 ^ e : Nat) : Int) = (2 : Int) ^ e := by push_cast; rfl
    rw [← h5]
    generalize (2 : Nat) ^ e = z at *
    omega
  rw [hw]
  show (IntKind.u16.wrap ((BitVec.ofInt 16 (u : Int) ||| BitVec.ofInt 16 ((2 ^ e : Nat) : Int)).toNat : Int)).toNat = u ||| 2 ^ e
  have hz : ∀ c : Nat, c < 2 ^ 16 → (BitVec.ofInt 16 (c : Int)).toNat = c := fun c hc => by
    rw [BitVec.ofInt_natCast, BitVec.toNat_ofNat]; exact Nat.mod_eq_of_lt hc
  have ho : u ||| 2 ^ e < 2 ^ 16 := Nat.or_lt_two_pow (by omega) (by omega)
  rw [BitVec.toNat_or, hz u (by omega), hz (2 ^ e) (by omega), IntKind.wrap_u16]
  omega
theorem orB_bit {b d : Int} (hb : in16 b) (hd : 1 ≤ d ∧ d ≤ 16) (i : Nat) : (orB b d / 2 ^ i % 2 = 1) ↔ (b / 2 ^ i % 2 = 1 ∨ i = (d - 1).toNat) := by
  rw [bit_nat (orB_in b d).1, bit_nat hb.1, orB_nat hb hd, Nat.testBit_or, Nat.testBit_two_pow]
  simp only [Bool.or_eq_true, decide_eq_true_iff]
  constructor
  · rintro (h | h)
    · exact .inl h
    · exact .inr h.symm
  · rintro (h | h)
    · exact .inl h
    · exact .inr h.symm
theorem mem_seqB {p b y : Int} : ∀ {k : Nat}, y ∈ seqB p b k ↔ y = p ∨ ∃ i, i < k ∧ b / 2 ^ i % 2 = 1 ∧ y = ((p + i) % 65536 + 1) % 65536
  | 0 => by
    show y ∈ [p] ↔ _
    simp
  | k + 1 => by
    rw [seqB]
    constructor
    · intro h
      split at h
      · rename_i hb
        rcases List.mem_append.1 h with h | h
        · rcases mem_seqB.1 h with h | ⟨i, h1, h2, h3⟩
          · exact .inl h
          · exact .inr ⟨i, by omega, h2, h3⟩
        · exact .inr ⟨k, by omega, hb, List.mem_singleton.1 h⟩
      · rcases mem_seqB.1 h with h | ⟨i, h1, h2, h3⟩
        · exact .inl h
        · exact .inr ⟨i, by omega, h2, h3⟩
    · intro h
      have hin : (y = p ∨ ∃ i, i < k ∧ b / 2 ^ i % 2 = 1 ∧ y = ((p + i) % 65536 + 1) % 65536) → y ∈ seqB p b k := mem_seqB.2
      split
      · rcases h with h | ⟨i, h1, h2, h3⟩
        · exact List.mem_append_left _ (hin (.inl h))
        · by_cases hi : i = k
          · subst hi; exact List.mem_append_right _ (List.mem_singleton.2 h3)
          · exact List.mem_append_left _ (hin (.inr ⟨i, by omega, h2, h3⟩))
      · rename_i hb
        rcases h with h | ⟨i, h1, h2, h3⟩
        · exact hin (.inl h)
        · refine hin (.inr ⟨i, ?_, h2, h3⟩)
          by_cases hi : i = k
          · subst hi; exact absurd h2 hb
          · omega
theorem mem_seqL {y : Int} : ∀ {l : List (Int × Int)}, y ∈ seqL l ↔ ∃ x ∈ l, y ∈ seqB x.1 x.2 16
  | [] => by simp [seqL]
  | x :: l => by
    show y ∈ seqB x.1 x.2 16 ++ seqL l ↔ _
    rw [List.mem_append, mem_seqL]
    simp
theorem pStep_keeps {out : List (Int × Int)} {n y : Int} (ho : ∀ x ∈ out, in16 x.1 ∧ in16 x.2) (h : y ∈ seqL out) : y ∈ seqL (pStep out n) := by
  obtain ⟨x, hx, hy⟩ := mem_seqL.1 h
  unfold pStep
  split
  · exact mem_seqL.2 ⟨x, List.mem_append_left _ hx, hy⟩
  · rename_i z hz
    split
    · exact h
    · split
      · rename_i hd0 hd
        obtain ⟨i, hi⟩ := List.mem_iff_getElem?.1 hx
        by_cases he : i = out.length - 1
        · subst he
          obtain rfl : z = x := Option.some.inj (hz.symm.trans hi)
          have hl : out.length - 1 < out.length := by
            rcases Nat.lt_or_ge (out.length - 1) out.length with h | h
            · exact h
            · rw [List.getElem?_eq_none h] at hi; cases hi
          refine mem_seqL.2 ⟨(z.1, orB z.2 ((n - z.1) % 65536)), List.mem_iff_getElem?.2 ⟨out.length - 1, by rw [List.getElem?_set_self hl]⟩, ?_⟩
          rcases mem_seqB.1 hy with h1 | ⟨j, h1, h2, h3⟩
          · exact mem_seqB.2 (.inl h1)
          · exact mem_seqB.2 (.inr ⟨j, h1, (orB_bit (ho z hx).2 ⟨by omega, hd⟩ j).2 (.inl h2), h3⟩)
        · exact mem_seqL.2 ⟨x, List.mem_iff_getElem?.2 ⟨i, by rw [List.getElem?_set_ne (by omega)]; exact hi⟩, hy⟩
      · exact mem_seqL.2 ⟨x, List.mem_append_left _ hx, hy⟩
theorem pStep_has {out : List (Int × Int)} {n : Int} (ho : ∀ x ∈ out, in16 x.1 ∧ in16 x.2) (hn : in16 n) : n ∈ seqL (pStep out n) := by
  have hs : n ∈ seqL (out ++ [(n, 0)]) := mem_seqL.2 ⟨(n, 0), by simp, mem_seqB.2 (.inl rfl)⟩
  unfold pStep
  split
  · exact hs
  · rename_i z hz
    have hzm := List.mem_of_getElem? hz
    obtain ⟨⟨z1, z2⟩, z3⟩ := ho z hzm
    obtain ⟨n1, n2⟩ := hn
    split
    · rename_i hd
      exact mem_seqL.2 ⟨z, hzm, mem_seqB.2 (.inl (by omega))⟩
    · split
      · rename_i hd0 hd
        have hl : out.length - 1 < out.length := by
          rcases Nat.lt_or_ge (out.length - 1) out.length with h | h
          · exact h
          · rw [List.getElem?_eq_none h] at hz; cases hz
        refine mem_seqL.2 ⟨(z.1, orB z.2 ((n - z.1) % 65536)), List.mem_iff_getElem?.2 ⟨out.length - 1, by rw [List.getElem?_set_self hl]⟩, ?_⟩
        exact mem_seqB.2 (.inr ⟨((n - z.1) % 65536 - 1).toNat, by omega, (orB_bit z3 ⟨by omega, hd⟩ _).2 (.inr rfl), by omega⟩)
      · exact hs
theorem pairM_has {l : List Int} (h : ∀ x ∈ l, in16 x) : ∀ j, j ≤ l.length → ∀ n ∈ l.take j, n ∈ seqL (pairM (l.take j))
  | 0, _, n, hn => by simp at hn
  | j + 1, hj, n, hn => by
    have he := List.getElem?_eq_getElem (show j < l.length by omega)
    obtain ⟨h1, h2⟩ := pairM_in h j (by omega)
    rw [pairM_take he]
    rw [List.take_add_one, he] at hn
    rcases List.mem_append.1 hn with hn | hn
    · exact pStep_keeps h1 (pairM_has h j (by omega) n hn)
    · have : n = l[j] := by simpa using hn
      subst this
      exact pStep_has h1 (h _ (List.getElem_mem _))
theorem pairM_all {l : List Int} (h : ∀ x ∈ l, in16 x) {n : Int} (hn : n ∈ l) : n ∈ seqL (pairM l) := by
  have := pairM_has h l.length (Nat.le_refl _) n
  rw [List.take_length] at this
  exact this hn
theorem seqL_in {l : List (Int × Int)} (h : ∀ x ∈ l, in16 x.1 ∧ in16 x.2) : ∀ y ∈ seqL l, in16 y := fun y hy => by
  obtain ⟨x, hx, h1⟩ := mem_seqL.1 hy
  rcases mem_seqB.1 h1 with rfl | ⟨i, _, _, rfl⟩
  · exact (h x hx).1
  · unfold in16; omega
end Go.Proofs.Ytlhlidmhlhodiaa
