/-
  Texts of this proof, laid together (part 5 of 7).
-/
import Derived.Test.YteaccbbmphcmnaaB4
/-
  Package rtcp: Sdes, read.
-/
namespace Go.Proofs.Yteaccbbmphcmnaa
set_option linter.unusedSimpArgs false
set_option linter.unusedVariables false
open Go.RowKit
attribute [local irreducible] Pv WO WC Fn
set_option maxRecDepth 100000
attribute [local irreducible] ByteArray.extract

abbrev itO (ao : Option Addr) (n c : Nat) (l : List (Int × ByteArray)) : It := .own 158 2 ao n c (itmV l)
abbrev itO' (ao : Option Addr) (n c : Nat) (xs : List (List Value)) : It := .own 158 2 ao n c xs
theorem itO_snoc (ao : Option Addr) (n c : Nat) (l : List (Int × ByteArray)) (x : Int × ByteArray) : itO ao n c (l ++ [x]) = itO' ao n c (itmV l ++ itmV [x]) := by rw [itO, itmV_snoc]; rfl
abbrev chI (b : Nat) (ss : Int) (v : Value) : It := .ob b (.cells #[.int .u32 ss, v] 152 (0, 0))
def tblCh5 (g : Nat) (y : Int) (tx : ByteArray) (r2 r3 : Rs) (bp : Nat) (ss k : Int) (ao : Option Addr) (c : Nat) (l : List (Int × ByteArray)) : Nat → List (List It) → Value → List (List It) → Prop := fun i Ls v Ms => match i, Ls with
  | 1, [z] => v = .slice ao l.length c ∧ Ms = [z]
  | 5, _ => v = .int .u8 y ∧ Ms = [[rdO g r2.1 r2.2]]
  | 7, _ => v = .string tx ∧ Ms = [[rdO g r3.1 r3.2]]
  | 9, _ => ∃ b, v = .slice (some ⟨b, 0, none⟩) 1 1 ∧ Ms = [[itO (some ⟨b, 0, none⟩) 1 1 [(k, tx)]]]
  | 10, [_, z] => ∃ ao2 c2, v = .slice ao2 (l.length + 1) c2 ∧ Ms = [[itO' ao2 (l.length + 1) c2 (itmV l ++ itmV [(k, tx)])], z]
  | 12, [[.own T2 sz ao2 n2 c2 xs], _] => v = undef ∧ Ms = [[.own T2 sz ao2 n2 c2 xs], [chI bp ss (.slice ao2 n2 c2)]]
  | _, _ => False
def itmA (r : Rs) : List (Int × ByteArray) × Rs := itmM (r.1.size + 1) r
theorem itmM_more : ∀ (n m : Nat) (r : Rs), Ri r → r.1.size < n → r.1.size < m → itmM n r = itmM m r
  | 0, m, r, hr, h1, h2 => by omega
  | n + 1, 0, r, hr, h1, h2 => by omega
  | n + 1, m + 1, r, hr, h1, h2 => by
    by_cases he : r.2 = 0
    · by_cases hk : (uK 1 r).1 = 0
      · rw [itmM, itmM, if_neg (by simp [he]), if_pos hk, if_neg (by simp [he]), if_pos hk]
      · have := itmS_less hr hk
        rw [itmM_step he hk, itmM_step he hk, itmM_more n m (itmS r) (itmS_ri hr) (by omega) (by omega)]
    · rw [itmM, itmM, if_pos he, if_pos he]
theorem itmA_err {r : Rs} (h : r.2 ≠ 0) : itmA r = ([], r) := by unfold itmA; rw [itmM, if_pos h]
theorem itmA_end {r : Rs} (h : r.2 = 0) (h1 : (uK 1 r).1 = 0) : itmA r = ([], (uK 1 r).2) := by unfold itmA; rw [itmM, if_neg (by simp [h]), if_pos h1]
theorem itmA_go {r : Rs} (hr : Ri r) (h : r.2 = 0) (h1 : (uK 1 r).1 ≠ 0) : itmA r = (((uK 1 r).1, (rdB (uK 1 (uK 1 r).2).2.1 (uK 1 (uK 1 r).2).2.2 (uK 1 (uK 1 r).2).1).1) :: (itmA (itmS r)).1, (itmA (itmS r)).2) := by
  have := itmS_less hr h1
  unfold itmA
  rw [itmM_step h h1, itmM_more r.1.size ((itmS r).1.size + 1) (itmS r) (itmS_ri hr) (by omega) (by omega)]
theorem tCh_eq (r : Rs) : tCh r = (((uK 4 r).1, (itmA (uK 4 r).2).1), chE r.1.size (itmA (uK 4 r).2).2) := rfl
set_option maxHeartbeats 8000000 in
theorem kChunk (g : Nat) (r0 : Rs) (hi : Ri r0) (hs : r0.1.size ≤ 1000000) : Fn Try.prog 76 #[.pointer (some ⟨g, 0, none⟩)] [rdO g r0.1 r0.2] [] (fun v L' R' => ∃ ao c, v = .agg #[.int .u32 (tCh r0).1.1, .slice ao (tCh r0).1.2.length c] ∧ L' = [rdO g (tCh r0).2.1 (tCh r0).2.2, itO ao (tCh r0).1.2.length c (tCh r0).1.2] ∧ R' = []) := by
  rw [tCh_eq]
  dsimp only
  have s1 := uK_size 4 r0
  have i1 := hi.uK 4
  have c1 := rU32 g r0 (by omega)
  generalize uK 4 r0 = y at *
  obtain ⟨ss, r1⟩ := y
  dsimp only at *
  refine fn_intro Try.func76 rfl Try.ntmps76 rfl (fun E => ?_)
  (repeat (first | ((first | (apply wo_v; rfl) ); (· first | (apply pv_ev; rfl) )) | apply wo_nil | apply wc_seq | apply wc_region | (apply wo_alloc; rfl; intro bx) ))
  obtain ⟨bq, hbq⟩ : ∃ g, g = bx := ⟨_, rfl⟩
  subst hbq
  (refine wo_call (octLen g r0.1 r0.2) rfl (by (repeat (first | apply sub_nil | (apply sub_cons; (· (repeat (first | apply sel_here | apply sel_there)))))); done) (by first | exact fun _ h => h | (intro r hr; cases hr; done) | (simp; done) | exact fun _ h => List.mem_append_left _ h | (intro r hr; simp [hr]; done)) rfl ?_; rintro v L' R' ⟨rfl, rfl, rfl⟩ H' hH RR hR; simp only [List.cons_append, List.nil_append] at hH hR; subst hH; have hR := hR.symm; subst hR)
  (repeat (first | ((first | (apply wo_v; rfl) ); (· first | (apply pv_ev; rfl) )) | apply wo_nil | apply wc_seq | apply wc_region ))
  (refine wo_call (c1) rfl (by (repeat (first | apply sub_nil )); done) (by first | exact fun _ h => h | (intro r hr; cases hr; done) | (simp; done) | exact fun _ h => List.mem_append_left _ h | (intro r hr; simp [hr]; done)) rfl ?_; rintro v L' R' ⟨rfl, rfl, rfl⟩ H' hH RR hR; simp only [List.cons_append, List.nil_append] at hH hR; subst hH; have hR := hR.symm; subst hR)
  (repeat (first | ((first | (apply wo_v; rfl) ); (· first | (apply pv_ev; rfl) | (apply g_build; apply pv_build; (· (repeat (first | apply Bld.nil | (apply Bld.one; rfl; rfl; (· (repeat (first | apply SetAt.here )))) )))) )) | apply wo_nil | apply wc_seq | (apply wo_alloc; rfl; intro bx) | (apply wo_sta; rfl; rfl; rfl; rfl; (· (repeat (first | apply sel_here ))); (· (repeat (first | apply LayAt.nil | apply LayAt.here ))); rfl) ))
  obtain ⟨bp, hbp⟩ : ∃ g, g = bx := ⟨_, rfl⟩
  subst hbp
  refine wc_own0 158 2 ?_
  refine wc_join0 (fun st => ∃ ao c, st = ⟨[(0, .pointer (some ⟨g, 0, none⟩)), (2, .pointer (some ⟨bq, 0, none⟩)), (3, .int .i64 r0.1.size), (4, .pointer (some ⟨bp, 0, none⟩))], [rdO g (itmA r1).2.1 (itmA r1).2.2, chI bp ss (.slice ao (itmA r1).1.length c), chI bq 0 (.slice none 0 0), itO ao (itmA r1).1.length c (itmA r1).1], []⟩) ?_ ?_
  · refine wc_block ?_
    refine wc_loop' (fun q st => ∃ (l : List (Int × ByteArray)) (ao : Option Addr) (c : Nat) (r : Rs), q = r.1.size ∧ Ri r ∧ l.length + r.1.size ≤ 1000000 ∧ l ++ (itmA r).1 = (itmA r1).1 ∧ (itmA r).2 = (itmA r1).2 ∧ st = ⟨[(0, .pointer (some ⟨g, 0, none⟩)), (2, .pointer (some ⟨bq, 0, none⟩)), (3, .int .i64 r0.1.size), (4, .pointer (some ⟨bp, 0, none⟩))], [rdO g r.1 r.2, chI bp ss (.slice ao l.length c), chI bq 0 (.slice none 0 0), itO ao l.length c l], []⟩) ⟨[], none, 0, r1, rfl, i1, by simpa using (by omega : r1.1.size ≤ 1000000), rfl, rfl, rfl⟩ (wk_mk (by (repeat (first | apply wkf_nil | (apply wkf_cons; rfl))); done) (by (repeat (first | apply sub_nil | (apply sub_cons; (· (repeat (first | apply sel_here | apply sel_there)))))); done) (by first | exact fun _ h => h | (intro r hr; cases hr; done) | (simp; done) | exact fun _ h => List.mem_append_left _ h | (intro r hr; simp [hr]; done))) ?_
    clear c1
    rintro q st ⟨l, ao, c, r, rfl, hr, hl, h1, h2, rfl⟩
    (repeat (first | ((first | (apply wo_v; rfl) ); (· first | (apply pv_ev; rfl) )) | apply wc_seq | apply wc_region ))
    (refine wo_call (octErr g r.1 r.2) rfl (by (repeat (first | apply sub_nil )); done) (by first | exact fun _ h => h | (intro r hr; cases hr; done) | (simp; done) | exact fun _ h => List.mem_append_left _ h | (intro r hr; simp [hr]; done)) rfl ?_; rintro v L' R' ⟨rfl, rfl, rfl⟩ H' hH RR hR; simp only [List.cons_append, List.nil_append] at hH hR; subst hH; have hR := hR.symm; subst hR)
    by_cases he : r.2 = 0
    · have c2 := rU8 g r (by omega)
      have s2 := uK_size 1 r
      by_cases hk : (uK 1 r).1 = 0
      · rw [itmA_end he hk] at h1 h2
        dsimp only at h1 h2
        rw [List.append_nil] at h1
        subst h1
        rw [← h2]
        generalize uK 1 r = y at *
        obtain ⟨k, r2⟩ := y
        dsimp only at *
        subst hk
        (repeat (first | ((first | (apply wo_v; rfl) ); (· first | (apply pv_ev; rfl) )) | apply wo_nil | apply wc_skip | (apply wc_true; rfl) | (apply wc_false; rfl) | (apply a_dec_t; rfl; (· first | assumption | omega)) ))
        refine wc_block ?_
        (repeat (first | ((first | (apply wo_v; rfl) ); (· first | (apply pv_ev; rfl) )) | apply wc_seq | apply wc_region ))
        (refine wo_call (c2) rfl (by (repeat (first | apply sub_nil )); done) (by first | exact fun _ h => h | (intro r hr; cases hr; done) | (simp; done) | exact fun _ h => List.mem_append_left _ h | (intro r hr; simp [hr]; done)) rfl ?_; rintro v L' R' ⟨rfl, rfl, rfl⟩ H' hH RR hR; simp only [List.cons_append, List.nil_append] at hH hR; subst hH; have hR := hR.symm; subst hR)
        (repeat (first | ((first | (apply wo_v; rfl) ); (· first | (apply pv_ev; rfl) )) | apply wo_nil | apply wc_seq | apply wc_region | (apply wc_exit; rfl) | (apply wc_true; rfl) ))
        exact cut_end ⟨ao, c, rfl⟩ (wk_mk (by (repeat (first | apply wkf_nil | (apply wkf_cons; rfl))); done) (by (repeat (first | apply sub_nil )); done) (by first | exact fun _ h => h | (intro r hr; cases hr; done) | (simp; done) | exact fun _ h => List.mem_append_left _ h | (intro r hr; simp [hr]; done)))
      · have hless := itmS_less hr hk
        have hri := itmS_ri hr
        rw [itmA_go hr he hk] at h1 h2
        dsimp only at h1 h2
        unfold itmS at h1 h2 hless hri
        generalize uK 1 r = y at *
        obtain ⟨k, r2⟩ := y
        dsimp only at *
        have c3 := rU8 g r2 (by omega)
        have b3 := uK1_b r2
        have s3 := uK_size 1 r2
        generalize uK 1 r2 = y at *
        obtain ⟨n, r3⟩ := y
        dsimp only at *
        have c4 := octBytes g r3.1 r3.2 n (by omega)
        generalize rdB r3.1 r3.2 n = y at *
        obtain ⟨tx, r4⟩ := y
        dsimp only at *
        (repeat (first | ((first | (apply wo_v; rfl) ); (· first | (apply pv_ev; rfl) )) | apply wo_nil | apply wc_skip | (apply wc_true; rfl) | (apply wc_false; rfl) | (apply a_dec_t; rfl; (· first | assumption | omega)) ))
        refine wc_block ?_
        (repeat (first | ((first | (apply wo_v; rfl) ); (· first | (apply pv_ev; rfl) )) | apply wc_seq | apply wc_region ))
        (refine wo_call (c2) rfl (by (repeat (first | apply sub_nil )); done) (by first | exact fun _ h => h | (intro r hr; cases hr; done) | (simp; done) | exact fun _ h => List.mem_append_left _ h | (intro r hr; simp [hr]; done)) rfl ?_; rintro v L' R' ⟨rfl, rfl, rfl⟩ H' hH RR hR; simp only [List.cons_append, List.nil_append] at hH hR; subst hH; have hR := hR.symm; subst hR)
        (repeat (first | ((first | (apply wo_v; rfl) ); (· first | (apply pv_ev; rfl) )) | apply wo_nil | apply wc_seq | apply wc_region | apply wc_skip | (apply wc_true; rfl) | (apply wc_false; rfl) | (apply a_dec_t; rfl; (· first | assumption | omega)) | (apply a_dec_f; rfl; (· first | assumption | omega)) ))
        (refine wc_regM [0, 1, 2, 3] (aslL [(1, [3]), (5, [0]), (7, [0]), (9, [1]), (10, [2, 1]), (12, [2, 3])]) (tblCh5 g n tx r3 r4 bp ss k ao c l) ([chI bq 0 (.slice none 0 0)]) (fm [(0, [rdO g r2.1 r2.2]), (1, []), (2, [itO ao l.length c l]), (3, [chI bp ss (.slice ao l.length c)])]) mixed (by kernel_rfl) (by kernel_rfl) (by decide) (aslL_ok (by decide)) (by (repeat (first | (apply prm_cons; (· (repeat (first | apply sel_here | apply sel_there)))) | apply List.Perm.nil )); done) ?_; (repeat (first | (apply HdM.val; rfl; rfl; (· first | apply gok_none ); (· first | (apply pv_ev; rfl) | (apply pv_fld; rfl) )) )))
        (refine hm_eff (cs := [3]) rfl (by decide) rfl rfl (by first | exact gok_none | exact gok_run rfl rfl) (fun a ha => outc_mono (outc_ld (L := [chI bp ss (.slice ao l.length c)]) (pv_ld rfl (by (repeat (first | apply sel_here )); done) rfl) a ha) (fun v M h => ⟨[M], And.intro h.1 (congrArg (fun x => [x]) h.2), rfl, by simp⟩)) (⟨_, _, And.intro rfl rfl, rfl⟩) ?_; rintro v Ms ⟨rfl, rfl⟩ _; simp only [setls, setl, reduceIte, Nat.reduceEqDiff]; (repeat (first | (apply HdM.val; rfl; rfl; (· first | apply gok_none ); (· first | (apply pv_ev; rfl) )) )))
        (refine hm_eff (cs := [0]) rfl (by decide) rfl rfl (by first | exact gok_none | exact gok_run rfl rfl) (fun a ha => outc_mono (outc_call (F1 := _) (T := fun v M => v = .int .u8 n ∧ M = [rdO g r3.1 r3.2]) c3 rfl (by (repeat (first | apply sub_nil )); done) (by first | exact fun _ h => h | (intro r hr; cases hr; done) | (simp; done) | exact fun _ h => List.mem_append_left _ h | (intro r hr; simp [hr]; done)) (by rintro v L' R' ⟨rfl, rfl, _⟩; exact ⟨_, ⟨rfl, rfl⟩, (by (repeat (first | (apply prm_cons; (· (repeat (first | apply sel_here )))) | apply List.Perm.nil )); done)⟩) a ha) (fun v M h => ⟨[M], And.intro h.1 (congrArg (fun x => [x]) h.2), rfl, by simp⟩)) (⟨_, _, And.intro rfl rfl, rfl⟩) ?_; rintro v Ms ⟨rfl, rfl⟩ _; simp only [setls, setl, reduceIte, Nat.reduceEqDiff]; (repeat (first | (apply HdM.val; rfl; rfl; (· first | apply gok_none ); (· first | (apply pv_ev; rfl) | (apply g_conv; first | (apply a_conv; rfl; infer_instance; infer_instance; infer_instance; omega) ) )) )))
        (refine hm_eff (cs := [0]) rfl (by decide) rfl rfl (by first | exact gok_none | exact gok_run rfl rfl) (fun a ha => outc_mono (outc_call (F1 := _) (T := fun v M => v = .string tx ∧ M = [rdO g r4.1 r4.2]) c4 rfl (by (repeat (first | apply sub_nil )); done) (by first | exact fun _ h => h | (intro r hr; cases hr; done) | (simp; done) | exact fun _ h => List.mem_append_left _ h | (intro r hr; simp [hr]; done)) (by rintro v L' R' ⟨rfl, rfl, _⟩; exact ⟨_, ⟨rfl, rfl⟩, (by (repeat (first | (apply prm_cons; (· (repeat (first | apply sel_here )))) | apply List.Perm.nil )); done)⟩) a ha) (fun v M h => ⟨[M], And.intro h.1 (congrArg (fun x => [x]) h.2), rfl, by simp⟩)) (⟨_, _, And.intro rfl rfl, rfl⟩) ?_; rintro v Ms ⟨rfl, rfl⟩ _; simp only [setls, setl, reduceIte, Nat.reduceEqDiff]; (repeat (first | (apply HdM.val; rfl; rfl; (· first | apply gok_none ); (· first | (apply pv_ev; rfl) | (apply g_build; apply pv_build; (· (repeat (first | apply Bld.nil | (apply Bld.one; rfl; rfl; (· (repeat (first | apply SetAt.here | apply SetAt.there)))) )))) )) )))
        (refine hm_eff (cs := [1]) rfl (by decide) rfl rfl (by first | exact gok_none | exact gok_run rfl rfl) (fun a ha => outc_mono (outc_bsl (by (repeat (first | apply Rws'.nil | (apply Rws'.agg; rfl; rfl; rfl))); done) rfl rfl rfl a ha) (fun v M h => Exists.elim h fun b h => ⟨[M], Exists.intro b (And.intro h.1 (congrArg (fun x => [x]) h.2)), rfl, by simp⟩)) (⟨_, _, Exists.intro 0 (And.intro rfl rfl), rfl⟩) ?_; rintro v Ms ⟨b9, rfl, rfl⟩ _; simp only [setls, setl, reduceIte, Nat.reduceEqDiff]; (repeat (first | (apply HdM.val; rfl; rfl; (· first | fail ); (· first | fail )) )))
        (refine hm_eff (cs := [2, 1]) rfl (by decide) rfl rfl (by first | exact gok_none | exact gok_run rfl rfl) (fun a ha => outc_mono (outc_app rfl rfl (by unfold maxLen; omega) (by omega) a ha) (fun v M h => by obtain ⟨b, c, h1, h2⟩ := h; exact ⟨[[_], [_]], ⟨b, c, h1, rfl⟩, rfl, h2⟩)) (⟨_, _, ⟨none, 0, rfl, rfl⟩, rfl⟩) ?_; rintro v Ms ⟨ao2, c2, rfl, rfl⟩ _; simp only [setls, setl, reduceIte, Nat.reduceEqDiff]; (repeat (first | (apply HdM.val; rfl; rfl; (· first | apply gok_none ); (· first | (apply pv_ev; rfl) | (apply pv_fld; rfl) )) )))
        (refine hm_eff (cs := [2, 3]) rfl (by decide) rfl rfl (by first | exact gok_none | exact gok_run rfl rfl) (fun a ha => outc_mono (outc_frA (X := [itO' ao2 (l.length + 1) c2 (itmV l ++ itmV [(k, tx)])]) (L := [chI bp ss (.slice ao l.length c)]) (outc_st rfl rfl rfl (by (repeat (first | apply SetAt.here | apply SetAt.there)); done)) a ha) (fun v M h => by obtain ⟨M0, ⟨h1, h2⟩, h3⟩ := h; exact ⟨[[_], [_]], ⟨h1, rfl⟩, rfl, by rw [h3, h2]; rfl⟩)) (⟨_, _, ⟨rfl, rfl⟩, rfl⟩) ?_; rintro v Ms ⟨rfl, rfl⟩ _; simp only [setls, setl, reduceIte, Nat.reduceEqDiff]; (repeat (first | fail )))
        (refine HdM.nil ?_; intro H hH; simp only [Hp, fm, look, setl, List.flatMap_cons, List.flatMap_nil, reduceIte, Nat.reduceEqDiff, Option.getD_some, List.append_nil, List.cons_append, List.nil_append] at hH; subst hH)
        (repeat (first | fail ))
        exact loop_end ⟨l ++ [(k, tx)], ao2, c2, r4, rfl, hri, by rw [List.length_append, List.length_singleton]; omega, by rw [List.append_assoc]; exact h1, h2, by rw [List.length_append, List.length_singleton, itO_snoc]⟩ (by omega) (wk_mk (by (repeat (first | apply wkf_nil | (apply wkf_cons; rfl))); done) (by (repeat (first | apply sub_nil | (apply sub_cons; (· (repeat (first | apply sel_here | apply sel_there)))))); done) (by first | exact fun _ h => h | (intro r hr; cases hr; done) | (simp; done) | exact fun _ h => List.mem_append_left _ h | (intro r hr; simp [hr]; done)))
    · rw [itmA_err he] at h1 h2
      dsimp only at h1 h2
      rw [List.append_nil] at h1
      subst h1
      rw [← h2]
      (repeat (first | ((first | (apply wo_v; rfl) ); (· first | (apply pv_ev; rfl) )) | apply wo_nil | (apply wc_exit; rfl) | (apply wc_true; rfl) | (apply wc_false; rfl) | (apply a_dec_t; rfl; (· first | assumption | omega)) | (apply a_dec_f; rfl; (· first | assumption | omega)) ))
      exact cut_end ⟨ao, c, rfl⟩ (wk_mk (by (repeat (first | apply wkf_nil | (apply wkf_cons; rfl))); done) (by (repeat (first | apply sub_nil )); done) (by first | exact fun _ h => h | (intro r hr; cases hr; done) | (simp; done) | exact fun _ h => List.mem_append_left _ h | (intro r hr; simp [hr]; done)))
  rintro st ⟨ao, c, rfl⟩
  have s9 : (itmA r1).2.1.size ≤ r1.1.size := itmM_size _ _
  generalize itmA r1 = y at *
  obtain ⟨l, r2⟩ := y
  dsimp only at *
  unfold chE
  have e4 : ((r0.1.size : Int) - r2.1.size).tmod 4 = ((r0.1.size : Int) - r2.1.size) % 4 := Int.tmod_eq_emod_of_nonneg (by omega)
  have e5 : (4 - ((r0.1.size : Int) - r2.1.size) % 4).tmod 4 = (4 - ((r0.1.size : Int) - r2.1.size) % 4) % 4 := Int.tmod_eq_emod_of_nonneg (by omega)
  have c5 := octBytes g r2.1 r2.2 ((4 - ((r0.1.size : Int) - r2.1.size) % 4) % 4) (by omega)
  (repeat (first | ((first | (apply wo_v; rfl) ); (· first | (apply pv_ev; rfl) )) | apply wc_seq | apply wc_region ))
  (refine wo_call (octLen g r2.1 r2.2) rfl (by (repeat (first | apply sub_nil )); done) (by first | exact fun _ h => h | (intro r hr; cases hr; done) | (simp; done) | exact fun _ h => List.mem_append_left _ h | (intro r hr; simp [hr]; done)) rfl ?_; rintro v L' R' ⟨rfl, rfl, rfl⟩ H' hH RR hR; simp only [List.cons_append, List.nil_append] at hH hR; subst hH; have hR := hR.symm; subst hR)
  (repeat (first | ((first | (apply wo_v; rfl) ); (· first | (apply pv_ev; rfl) | (apply g_bin; first | (apply a_sub; rfl; rfl; infer_instance; omega) | (apply pv_rem; rfl; rfl; omega) ) )) ))
  (refine wo_call (c5) rfl (by (repeat (first | apply sub_nil )); done) (by first | exact fun _ h => h | (intro r hr; cases hr; done) | (simp; done) | exact fun _ h => List.mem_append_left _ h | (intro r hr; simp [hr]; done)) rfl ?_; rintro v L' R' ⟨rfl, rfl, rfl⟩ H' hH RR hR; simp only [List.cons_append, List.nil_append] at hH hR; subst hH; have hR := hR.symm; subst hR)
  (repeat (first | ((first | (apply wo_v; rfl) ); (· first | (apply pv_ev; rfl) | (apply g_load; first | (apply pv_lda; rfl; (· (repeat (first | apply sel_here | apply sel_there))); (· (repeat (first | apply Cut.here0 | apply Cut.here )))) ) )) | apply wo_nil | apply wc_seq | apply wc_region | apply wc_ret | (apply wo_sta; rfl; rfl; rfl; rfl; (· (repeat (first | apply sel_here | apply sel_there))); (· (repeat (first | apply LayAt.nil | apply LayAt.here ))); rfl) ))
  exact retv rfl (by (repeat (first | apply RV.nil | (apply RV.agg; rfl; (· (repeat (first | apply sel_here ))); infer_instance; (· (repeat (first | apply Cut.here0 | apply Cut.here )))) )); done) (⟨ao, c, rfl, rfl, rfl⟩) (by (repeat (first | apply sub_nil | (apply sub_cons; (· (repeat (first | apply sel_here | apply sel_there)))))); done) (by first | exact fun _ h => h | (intro r hr; cases hr; done) | (simp; done) | exact fun _ h => List.mem_append_left _ h | (intro r hr; simp [hr]; done))
theorem tCh_size (r : Rs) : (tCh r).2.1.size ≤ r.1.size := by
  rw [tCh_eq]
  exact Nat.le_trans (rdB_size2 _ _ _) (Nat.le_trans (itmM_size _ _) (uK_size 4 r))
theorem tCh_ri (r : Rs) (h : Ri r) : Ri (tCh r).2 := by
  rw [tCh_eq]
  exact (itmM_ri _ _ (h.uK 4)).rdB _
abbrev chO (ao : Option Addr) (n c : Nat) (rows : List (List Value)) : It := .own 152 2 ao n c rows
abbrev sdI (b : Nat) (v : Value) : It := .ob b (.cells #[v] 157 (0, 0))
theorem ChsV.nil (R : List Ro) : ChsV R [] [] := ⟨rfl, fun i c h => by simp at h⟩
theorem ChsV.snoc {R : List Ro} {l : List (Int × List (Int × ByteArray))} {rows : List (List Value)} {x : Int × List (Int × ByteArray)} {row : List Value} (h : ChsV R l rows) (hx : ChV R x row) : ChsV R (l ++ [x]) (rows ++ [row]) := by
  refine ⟨by simp [h.1], fun i q hq => ?_⟩
  by_cases hi : i < l.length
  · rw [List.getElem?_append_left hi] at hq
    obtain ⟨u, h1, h2⟩ := h.2 i q hq
    exact ⟨u, by rw [List.getElem?_append_left (by rw [h.1]; exact hi)]; exact h1, h2⟩
  · rw [List.getElem?_append_right (by omega)] at hq
    have : i - l.length = 0 := by
      rcases Nat.eq_zero_or_pos (i - l.length) with h0 | h0
      · exact h0
      · rw [List.getElem?_eq_none (by simp; omega)] at hq; cases hq
    rw [this] at hq
    simp only [List.getElem?_cons_zero, Option.some.injEq] at hq
    subst hq
    exact ⟨row, by rw [List.getElem?_append_right (by rw [h.1]; omega), h.1, this]; rfl, hx⟩
def tblD5 (g : Nat) (x : Int) (its : List (Int × ByteArray)) (r2 : Rs) (bp : Nat) (ao : Option Addr) (c i : Nat) (rows : List (List Value)) : Nat → List (List It) → Value → List (List It) → Prop := fun k Ls v Ms => match k, Ls with
  | 1, [y] => v = .slice ao i c ∧ Ms = [y]
  | 3, _ => ∃ ai ci, v = .agg #[.int .u32 x, .slice ai its.length ci] ∧ Ms = [[rdO g r2.1 r2.2, itO ai its.length ci its]]
  | 4, [[rd, .own T2 sz ai n2 ci xs], _] => ∃ b, v = .slice (some ⟨b, 0, none⟩) 1 1 ∧ Ms = [[rd, .own T2 sz ai n2 ci xs], [chO (some ⟨b, 0, none⟩) 1 1 [[.int .u32 x, .slice ai n2 ci]]]]
  | 5, [_, [.own T2 sz a2 n2 c2 ys]] => ∃ ao2 c3, v = .slice ao2 (i + 1) c3 ∧ Ms = [[chO ao2 (i + 1) c3 (rows ++ ys)], [.own T2 sz a2 n2 c2 ys]]
  | 7, [[.own T2 sz ao2 n2 c2 xs], _] => v = undef ∧ Ms = [[.own T2 sz ao2 n2 c2 xs], [sdI bp (.slice ao2 n2 c2)]]
  | _, _ => False
set_option maxHeartbeats 8000000 in
theorem kSdes (g : Nat) (r0 : Rs) (hi : Ri r0) (hs : r0.1.size ≤ 1000000) (N : Nat) (hN : N ≤ 255) : Fn Try.prog 49 #[.pointer (some ⟨g, 0, none⟩), .int .u8 N] [rdO g r0.1 r0.2] [] (fun v L' R' => PkV R' (.sdes (repM tCh N r0).1) v ∧ L' = [rdO g (repM tCh N r0).2.1 (repM tCh N r0).2.2]) := by
  refine fn_intro Try.func49 rfl Try.ntmps49 rfl (fun E => ?_)
  (repeat (first | ((first | (apply wo_v; rfl) ); (· first | (apply pv_ev; rfl) )) | apply wo_nil | apply wc_seq | apply wc_region | (apply wo_alloc; rfl; intro bx) ))
  obtain ⟨bp, hbp⟩ : ∃ g, g = bx := ⟨_, rfl⟩
  subst hbp
  refine wc_own0 152 2 ?_
  refine wc_block ?_
  refine wc_loop' (fun q st => ∃ (i : Nat) (l : List (Int × List (Int × ByteArray))) (rows : List (List Value)) (ao : Option Addr) (c : Nat) (r : Rs) (R : List Ro), q = N - i ∧ i ≤ N ∧ r.1.size ≤ 1000000 ∧ Ri r ∧ l.length = i ∧ rows.length = i ∧ ChsV R l rows ∧ l ++ (repM tCh (N - i) r).1 = (repM tCh N r0).1 ∧ (repM tCh (N - i) r).2 = (repM tCh N r0).2 ∧ st = ⟨[(0, .pointer (some ⟨g, 0, none⟩)), (5, .pointer (some ⟨bp, 0, none⟩)), (6, .int .u8 N), (7, .int .u8 i)], [rdO g r.1 r.2, sdI bp (.slice ao i c), chO ao i c rows], R⟩) ⟨0, [], [], none, 0, r0, [], rfl, Nat.zero_le _, hs, hi, rfl, rfl, ChsV.nil _, rfl, rfl, rfl⟩ (wk_mk (by (repeat (first | apply wkf_nil | (apply wkf_cons; rfl))); done) (by (repeat (first | apply sub_nil | (apply sub_cons; (· (repeat (first | apply sel_here | apply sel_there)))))); done) (by first | exact fun _ h => h | (intro r hr; cases hr; done) | (simp; done) | exact fun _ h => List.mem_append_left _ h | (intro r hr; simp [hr]; done))) ?_
  rintro q st ⟨i, l, rows, ao, c, r, R, rfl, hi, hr, hri, hl, hrl, hch, h1, h2, rfl⟩
  by_cases h0 : i < N
  · obtain ⟨m, hm⟩ : ∃ m, N - i = m + 1 := ⟨N - i - 1, by omega⟩
    have hm2 : N - (i + 1) = m := by omega
    have e1 : l ++ ((tCh r).1 :: (repM tCh (N - (i + 1)) (tCh r).2).1) = (repM tCh N r0).1 := by rw [hm2, ← h1, hm]; rfl
    have e2 : (repM tCh (N - (i + 1)) (tCh r).2).2 = (repM tCh N r0).2 := by rw [hm2, ← h2, hm]; rfl
    clear h1 h2
    have s1 := tCh_size r
    have i1 := tCh_ri r hri
    have c1 := kChunk g r hri (by omega)
    generalize tCh r = y at *
    obtain ⟨⟨x, its⟩, r1⟩ := y
    dsimp only at *
    (repeat (first | ((first | (apply wo_v; rfl) ); (· first | (apply pv_ev; rfl) )) | apply wo_nil | apply wc_seq | apply wc_region | apply wc_skip | (apply wc_true; rfl) | (apply wc_false; rfl) | (apply a_dec_t; rfl; (· first | assumption | omega)) ))
    refine wc_block ?_
    (repeat (first | fail ))
    (refine wc_regM [0, 1, 2, 3] (aslL [(1, [3]), (3, [0]), (4, [0, 1]), (5, [2, 1]), (7, [2, 3])]) (tblD5 g x its r1 bp ao c i rows) ([]) (fm [(0, [rdO g r.1 r.2]), (1, []), (2, [chO ao i c rows]), (3, [sdI bp (.slice ao i c)])]) mixed (by kernel_rfl) (by kernel_rfl) (by decide) (aslL_ok (by decide)) (by (repeat (first | (apply prm_cons; (· (repeat (first | apply sel_here | apply sel_there)))) | apply List.Perm.nil )); done) ?_; (repeat (first | (apply HdM.val; rfl; rfl; (· first | apply gok_none ); (· first | (apply pv_ev; rfl) | (apply pv_fld; rfl) )) )))
    (refine hm_eff (cs := [3]) rfl (by decide) rfl rfl (by first | exact gok_none | exact gok_run rfl rfl) (fun a ha => outc_mono (outc_ld (L := [sdI bp (.slice ao i c)]) (pv_ld rfl (by (repeat (first | apply sel_here )); done) rfl) a ha) (fun v M h => ⟨[M], And.intro h.1 (congrArg (fun x => [x]) h.2), rfl, by simp⟩)) (⟨_, _, And.intro rfl rfl, rfl⟩) ?_; rintro v Ms ⟨rfl, rfl⟩ _; simp only [setls, setl, reduceIte, Nat.reduceEqDiff]; (repeat (first | (apply HdM.val; rfl; rfl; (· first | apply gok_none ); (· first | (apply pv_ev; rfl) )) )))
    (refine hm_eff (cs := [0]) rfl (by decide) rfl rfl (by first | exact gok_none | exact gok_run rfl rfl) (fun a ha => outc_mono (outc_call (F1 := _) (T := fun v M => ∃ ai ci, v = .agg #[.int .u32 x, .slice ai its.length ci] ∧ M = [rdO g r1.1 r1.2, itO ai its.length ci its]) c1 rfl (by (repeat (first | apply sub_nil )); done) (by first | exact fun _ h => h | (intro r hr; cases hr; done) | (simp; done) | exact fun _ h => List.mem_append_left _ h | (intro r hr; simp [hr]; done)) (by rintro v L' R' ⟨ai, ci, rfl, rfl, _⟩; exact ⟨_, ⟨ai, ci, rfl, rfl⟩, (by (repeat (first | (apply prm_cons; (· (repeat (first | apply sel_here )))) | apply List.Perm.nil )); done)⟩) a ha) (fun v M h => ⟨[M], by obtain ⟨ai, ci, h1, h2⟩ := h; exact ⟨ai, ci, h1, by rw [h2]⟩, rfl, by simp⟩)) (⟨_, _, ⟨none, 0, rfl, rfl⟩, rfl⟩) ?_; rintro v Ms ⟨ai, ci, rfl, rfl⟩ _; simp only [setls, setl, reduceIte, Nat.reduceEqDiff]; (repeat (first | (apply HdM.val; rfl; rfl; (· first | fail ); (· first | fail )) )))
    (refine hm_eff (cs := [0, 1]) rfl (by decide) rfl rfl (by first | exact gok_none | exact gok_run rfl rfl) (fun a ha => outc_mono (outc_frA (X := [rdO g r1.1 r1.2, itO ai its.length ci its]) (L := []) (outc_bsl (by (repeat (first | apply Rws'.nil | (apply Rws'.one; rfl; rfl; rfl) | (apply Rws'.agg; rfl; rfl; rfl))); done) rfl rfl rfl) a ha) (fun v M h => by obtain ⟨M0, ⟨b, h1, h2⟩, h3⟩ := h; exact ⟨[[_, _], [_]], ⟨b, h1, rfl⟩, rfl, by rw [h3, h2]; rfl⟩)) (⟨_, _, ⟨0, rfl, rfl⟩, rfl⟩) ?_; rintro v Ms ⟨b9, rfl, rfl⟩ _; simp only [setls, setl, reduceIte, Nat.reduceEqDiff]; (repeat (first | (apply HdM.val; rfl; rfl; (· first | fail ); (· first | fail )) )))
    (refine hm_eff (cs := [2, 1]) rfl (by decide) rfl rfl (by first | exact gok_none | exact gok_run rfl rfl) (fun a ha => outc_mono (outc_app rfl rfl (by unfold maxLen; omega) (by omega) a ha) (fun v M h => by obtain ⟨b, c, h1, h2⟩ := h; exact ⟨[[_], [_]], ⟨b, c, h1, rfl⟩, rfl, h2⟩)) (⟨_, _, ⟨none, 0, rfl, rfl⟩, rfl⟩) ?_; rintro v Ms ⟨ao2, c2, rfl, rfl⟩ _; simp only [setls, setl, reduceIte, Nat.reduceEqDiff]; (repeat (first | (apply HdM.val; rfl; rfl; (· first | apply gok_none ); (· first | (apply pv_ev; rfl) | (apply pv_fld; rfl) )) )))
    (refine hm_eff (cs := [2, 3]) rfl (by decide) rfl rfl (by first | exact gok_none | exact gok_run rfl rfl) (fun a ha => outc_mono (outc_frA (X := [chO ao2 (i + 1) c2 (rows ++ [[.int .u32 x, .slice ai its.length ci]])]) (L := [sdI bp (.slice ao i c)]) (outc_st rfl rfl rfl (by (repeat (first | apply SetAt.here )); done)) a ha) (fun v M h => by obtain ⟨M0, ⟨h1, h2⟩, h3⟩ := h; exact ⟨[[_], [_]], ⟨h1, rfl⟩, rfl, by rw [h3, h2]; rfl⟩)) (⟨_, _, ⟨rfl, rfl⟩, rfl⟩) ?_; rintro v Ms ⟨rfl, rfl⟩ _; simp only [setls, setl, reduceIte, Nat.reduceEqDiff]; (repeat (first | fail )))
    (refine HdM.nil ?_; intro H hH; simp only [Hp, fm, look, setl, List.flatMap_cons, List.flatMap_nil, reduceIte, Nat.reduceEqDiff, Option.getD_some, List.append_nil, List.cons_append, List.nil_append] at hH; subst hH)
    refine wc_still (ao := ai) (n := its.length) (c := ci) (by (repeat (first | apply sel_here | apply sel_there)); done) (fun R1 hS1 => ?_)
    (repeat (first | ((first | (apply wo_v; rfl) ); (· first | (apply pv_ev; rfl) | (apply g_bin; first | (apply a_add; rfl; rfl; infer_instance; omega) ) )) | apply wo_nil | apply wc_region ))
    exact loop_end ⟨i + 1, l ++ [(x, its)], _, ao2, c2, r1, R1 ++ R, rfl, by omega, by omega, i1, by rw [List.length_append, List.length_singleton, hl], by rw [List.length_append, List.length_singleton, hrl], (hch.mono (fun r hr => List.mem_append_right _ hr)).snoc ⟨ai, _, ci, rfl, hS1.sq⟩, by rw [List.append_assoc]; exact e1, e2, rfl⟩ (by omega) (wk_mk (by (repeat (first | apply wkf_nil | (apply wkf_cons; rfl))); done) (by (repeat (first | apply sub_nil | (apply sub_cons; (· (repeat (first | apply sel_here | apply sel_there)))))); done) (by first | exact fun _ h => h | (intro r hr; cases hr; done) | (simp; done) | exact fun _ h => List.mem_append_left _ h | (intro r hr; simp [hr]; done)))
  · have e : i = N := by omega
    subst e
    rw [Nat.sub_self] at h1 h2
    have h1 : l ++ [] = (repM tCh i r0).1 := h1
    have h2 : r = (repM tCh i r0).2 := h2
    rw [List.append_nil] at h1
    subst h1
    subst h2
    refine wc_still (ao := ao) (n := i) (c := c) (by (repeat (first | apply sel_here | apply sel_there)); done) (fun R1 hS1 => ?_)
    (repeat (first | ((first | (apply wo_v; rfl) ); (· first | (apply pv_ev; rfl) | (apply g_load; first | (apply pv_lda; rfl; (· (repeat (first | apply sel_here | apply sel_there))); (· (repeat (first | apply Cut.here0 | apply Cut.here )))) ) | (apply pv_mki; rfl; infer_instance) )) | apply wo_nil | apply wc_seq | apply wc_region | (apply wc_exit; rfl) | apply wc_ret | (apply wc_true; rfl) | (apply wc_false; rfl) | (apply a_dec_t; rfl; (· first | assumption | omega)) | (apply a_dec_f; rfl; (· first | assumption | omega)) ))
    exact ret1 rfl rfl ⟨⟨ao, _, c, rows, rfl, hS1.sq, hch.mono (fun r hr => List.mem_append_right _ hr)⟩, rfl⟩ (by (repeat (first | apply sub_nil )); done) (by first | exact fun _ h => h | (intro r hr; cases hr; done) | (simp; done) | exact fun _ h => List.mem_append_left _ h | (intro r hr; simp [hr]; done))
end Go.Proofs.Yteaccbbmphcmnaa

/-
  Package rtcp: take, body.
-/
namespace Go.Proofs.Yteaccbbmphcmnaa
set_option linter.unusedSimpArgs false
set_option linter.unusedVariables false
open Go.RowKit
attribute [local irreducible] Pv WO WC Fn
set_option maxRecDepth 100000
attribute [local irreducible] ByteArray.extract

abbrev TakeC (g : Nat) (r : Rs) (kd ct : Int) (q : Pkt × Rs) : Prop := Fn Try.prog 26 #[.pointer (some ⟨g, 0, none⟩), .int .u8 kd, .int .u8 ct] [rdO g r.1 r.2] [] (fun v L' R' => PkV R' q.1 v ∧ L' = [rdO g q.2.1 q.2.2])
set_option maxHeartbeats 4000000 in
theorem kT200 (g : Nat) (r0 : Rs) (hs : r0.1.size ≤ 1000000) (N : Nat) (hN : N ≤ 255) : TakeC g r0 200 N (tSn N r0) := by
  unfold tSn
  dsimp only
  have s1 := uK_size 4 r0
  have c1 := rU32 g r0 (by omega)
  generalize uK 4 r0 = y at *
  obtain ⟨v1, r1⟩ := y
  dsimp only at *
  have s2 := uK_size 8 r1
  have c2 := rNum8 g r1 (by omega)
  generalize uK 8 r1 = y at *
  obtain ⟨v2, r2⟩ := y
  dsimp only at *
  have s3 := uK_size 4 r2
  have c3 := rU32 g r2 (by omega)
  generalize uK 4 r2 = y at *
  obtain ⟨v3, r3⟩ := y
  dsimp only at *
  have s4 := uK_size 4 r3
  have c4 := rU32 g r3 (by omega)
  generalize uK 4 r3 = y at *
  obtain ⟨v4, r4⟩ := y
  dsimp only at *
  have s5 := uK_size 4 r4
  have c5 := rU32 g r4 (by omega)
  generalize uK 4 r4 = y at *
  obtain ⟨v5, r5⟩ := y
  dsimp only at *
  have c6 := kBlocks g r5 (by omega) N hN
  have hl := repM_len (f := tBk) N r5
  rw [show ((N : Int)).toNat = N from rfl]
  generalize repM tBk N r5 = y at *
  obtain ⟨l, r6⟩ := y
  dsimp only at *
  refine fn_intro Try.func26 rfl Try.ntmps26 rfl (fun E => ?_)
  (repeat (first | ((first | (apply wo_v; rfl) ); (· first | (apply pv_ev; rfl) )) | apply wo_nil | apply wc_seq | apply wc_region | apply wc_block | (apply wc_true; rfl) ))
  (refine wo_call (c1) rfl (by (repeat (first | apply sub_nil )); done) (by first | exact fun _ h => h | (intro r hr; cases hr; done) | (simp; done) | exact fun _ h => List.mem_append_left _ h | (intro r hr; simp [hr]; done)) rfl ?_; rintro v L' R' ⟨rfl, rfl, rfl⟩ H' hH RR hR; simp only [List.cons_append, List.nil_append] at hH hR; subst hH; have hR := hR.symm; subst hR)
  (repeat (first | ((first | (apply wo_v; rfl) ); (· first | (apply pv_ev; rfl) )) ))
  (refine wo_call (c2) rfl (by (repeat (first | apply sub_nil )); done) (by first | exact fun _ h => h | (intro r hr; cases hr; done) | (simp; done) | exact fun _ h => List.mem_append_left _ h | (intro r hr; simp [hr]; done)) rfl ?_; rintro v L' R' ⟨rfl, rfl, rfl⟩ H' hH RR hR; simp only [List.cons_append, List.nil_append] at hH hR; subst hH; have hR := hR.symm; subst hR)
  (repeat (first | ((first | (apply wo_v; rfl) ); (· first | (apply pv_ev; rfl) )) ))
  (refine wo_call (c3) rfl (by (repeat (first | apply sub_nil )); done) (by first | exact fun _ h => h | (intro r hr; cases hr; done) | (simp; done) | exact fun _ h => List.mem_append_left _ h | (intro r hr; simp [hr]; done)) rfl ?_; rintro v L' R' ⟨rfl, rfl, rfl⟩ H' hH RR hR; simp only [List.cons_append, List.nil_append] at hH hR; subst hH; have hR := hR.symm; subst hR)
  (repeat (first | ((first | (apply wo_v; rfl) ); (· first | (apply pv_ev; rfl) )) ))
  (refine wo_call (c4) rfl (by (repeat (first | apply sub_nil )); done) (by first | exact fun _ h => h | (intro r hr; cases hr; done) | (simp; done) | exact fun _ h => List.mem_append_left _ h | (intro r hr; simp [hr]; done)) rfl ?_; rintro v L' R' ⟨rfl, rfl, rfl⟩ H' hH RR hR; simp only [List.cons_append, List.nil_append] at hH hR; subst hH; have hR := hR.symm; subst hR)
  (repeat (first | ((first | (apply wo_v; rfl) ); (· first | (apply pv_ev; rfl) )) ))
  (refine wo_call (c5) rfl (by (repeat (first | apply sub_nil )); done) (by first | exact fun _ h => h | (intro r hr; cases hr; done) | (simp; done) | exact fun _ h => List.mem_append_left _ h | (intro r hr; simp [hr]; done)) rfl ?_; rintro v L' R' ⟨rfl, rfl, rfl⟩ H' hH RR hR; simp only [List.cons_append, List.nil_append] at hH hR; subst hH; have hR := hR.symm; subst hR)
  (repeat (first | ((first | (apply wo_v; rfl) ); (· first | (apply pv_ev; rfl) )) ))
  (refine wo_call (c6) rfl (by (repeat (first | apply sub_nil )); done) (by first | exact fun _ h => h | (intro r hr; cases hr; done) | (simp; done) | exact fun _ h => List.mem_append_left _ h | (intro r hr; simp [hr]; done)) rfl ?_; rintro v L' R' ⟨ao, c, rfl, rfl, rfl⟩ H' hH RR hR; simp only [List.cons_append, List.nil_append] at hH hR; subst hH; have hR := hR.symm; subst hR)
  refine wo_still (ao := ao) (n := N) (c := c) (by (repeat (first | apply sel_here | apply sel_there)); done) (fun R1 hS1 => ?_)
  (repeat (first | ((first | (apply wo_v; rfl) ); (· first | (apply pv_ev; rfl) | (apply g_build; apply pv_build; (· (repeat (first | apply Bld.nil | (apply Bld.one; rfl; rfl; (· (repeat (first | apply SetAt.here | apply SetAt.there)))) )))) | (apply pv_mki; rfl; infer_instance) )) | apply wo_nil | apply wc_ret ))
  exact ret1 rfl rfl ⟨⟨ao, _, c, rfl, hS1.sq⟩, rfl⟩ (by (repeat (first | apply sub_nil )); done) (by first | exact fun _ h => h | (intro r hr; cases hr; done) | (simp; done) | exact fun _ h => List.mem_append_left _ h | (intro r hr; simp [hr]; done))
theorem kT201 (g : Nat) (r0 : Rs) (hs : r0.1.size ≤ 1000000) (N : Nat) (hN : N ≤ 255) : TakeC g r0 201 N (tRv N r0) := by
  unfold tRv
  dsimp only
  have s1 := uK_size 4 r0
  have c1 := rU32 g r0 (by omega)
  generalize uK 4 r0 = y at *
  obtain ⟨v1, r1⟩ := y
  dsimp only at *
  have c6 := kBlocks g r1 (by omega) N hN
  have hl := repM_len (f := tBk) N r1
  rw [show ((N : Int)).toNat = N from rfl]
  generalize repM tBk N r1 = y at *
  obtain ⟨l, r6⟩ := y
  dsimp only at *
  refine fn_intro Try.func26 rfl Try.ntmps26 rfl (fun E => ?_)
  (repeat (first | ((first | (apply wo_v; rfl) ); (· first | (apply pv_ev; rfl) )) | apply wo_nil | apply wc_seq | apply wc_region | apply wc_block | (apply wc_true; rfl) | (apply wc_false; rfl) ))
  (refine wo_call (c1) rfl (by (repeat (first | apply sub_nil )); done) (by first | exact fun _ h => h | (intro r hr; cases hr; done) | (simp; done) | exact fun _ h => List.mem_append_left _ h | (intro r hr; simp [hr]; done)) rfl ?_; rintro v L' R' ⟨rfl, rfl, rfl⟩ H' hH RR hR; simp only [List.cons_append, List.nil_append] at hH hR; subst hH; have hR := hR.symm; subst hR)
  (repeat (first | ((first | (apply wo_v; rfl) ); (· first | (apply pv_ev; rfl) )) ))
  (refine wo_call (c6) rfl (by (repeat (first | apply sub_nil )); done) (by first | exact fun _ h => h | (intro r hr; cases hr; done) | (simp; done) | exact fun _ h => List.mem_append_left _ h | (intro r hr; simp [hr]; done)) rfl ?_; rintro v L' R' ⟨ao, c, rfl, rfl, rfl⟩ H' hH RR hR; simp only [List.cons_append, List.nil_append] at hH hR; subst hH; have hR := hR.symm; subst hR)
  refine wo_still (ao := ao) (n := N) (c := c) (by (repeat (first | apply sel_here | apply sel_there)); done) (fun R1 hS1 => ?_)
  (repeat (first | ((first | (apply wo_v; rfl) ); (· first | (apply pv_ev; rfl) | (apply g_build; apply pv_build; (· (repeat (first | apply Bld.nil | (apply Bld.one; rfl; rfl; (· (repeat (first | apply SetAt.here | apply SetAt.there)))) )))) | (apply pv_mki; rfl; infer_instance) )) | apply wo_nil | apply wc_ret ))
  exact ret1 rfl rfl ⟨⟨ao, _, c, rfl, hS1.sq⟩, rfl⟩ (by (repeat (first | apply sub_nil )); done) (by first | exact fun _ h => h | (intro r hr; cases hr; done) | (simp; done) | exact fun _ h => List.mem_append_left _ h | (intro r hr; simp [hr]; done))
theorem kT202 (g : Nat) (r0 : Rs) (hi : Ri r0) (hs : r0.1.size ≤ 1000000) (N : Nat) (hN : N ≤ 255) : TakeC g r0 202 N (.sdes (repM tCh N r0).1, (repM tCh N r0).2) := by
  have c1 := kSdes g r0 hi hs N hN
  generalize repM tCh N r0 = y at *
  obtain ⟨l, r6⟩ := y
  dsimp only at *
  refine fn_intro Try.func26 rfl Try.ntmps26 rfl (fun E => ?_)
  (repeat (first | ((first | (apply wo_v; rfl) ); (· first | (apply pv_ev; rfl) )) | apply wo_nil | apply wc_seq | apply wc_region | apply wc_block | (apply wc_true; rfl) | (apply wc_false; rfl) ))
  (refine wo_call (c1) rfl (by (repeat (first | apply sub_nil )); done) (by first | exact fun _ h => h | (intro r hr; cases hr; done) | (simp; done) | exact fun _ h => List.mem_append_left _ h | (intro r hr; simp [hr]; done)) rfl ?_; rintro v L' R' ⟨hp, rfl⟩ H' hH RR hR; simp only [List.cons_append, List.nil_append] at hH hR; subst hH; have hR := hR.symm; subst hR)
  (repeat (first | ((first | (apply wo_v; rfl) ); (· first | (apply pv_ev; rfl) )) | apply wo_nil | apply wc_ret ))
  exact ret1 rfl rfl ⟨hp, rfl⟩ (by (repeat (first | apply sub_nil )); done) (by first | exact fun _ h => h | (intro r hr; cases hr; done) | (simp; done) | exact fun _ h => List.mem_append_left _ h | (intro r hr; simp [hr]; done))
theorem kT203 (g : Nat) (r0 : Rs) (hs : r0.1.size ≤ 1000000) (N : Nat) (hN : N ≤ 255) : TakeC g r0 203 N (byE (repM (uK 4) N r0)) := by
  have c1 := kBye g r0 hs N hN
  generalize byE (repM (uK 4) N r0) = y at *
  obtain ⟨p, r6⟩ := y
  dsimp only at *
  refine fn_intro Try.func26 rfl Try.ntmps26 rfl (fun E => ?_)
  (repeat (first | ((first | (apply wo_v; rfl) ); (· first | (apply pv_ev; rfl) )) | apply wo_nil | apply wc_seq | apply wc_region | apply wc_block | (apply wc_true; rfl) | (apply wc_false; rfl) ))
  (refine wo_call (c1) rfl (by (repeat (first | apply sub_nil )); done) (by first | exact fun _ h => h | (intro r hr; cases hr; done) | (simp; done) | exact fun _ h => List.mem_append_left _ h | (intro r hr; simp [hr]; done)) rfl ?_; rintro v L' R' ⟨hp, rfl⟩ H' hH RR hR; simp only [List.cons_append, List.nil_append] at hH hR; subst hH; have hR := hR.symm; subst hR)
  (repeat (first | ((first | (apply wo_v; rfl) ); (· first | (apply pv_ev; rfl) )) | apply wo_nil | apply wc_ret ))
  exact ret1 rfl rfl ⟨hp, rfl⟩ (by (repeat (first | apply sub_nil )); done) (by first | exact fun _ h => h | (intro r hr; cases hr; done) | (simp; done) | exact fun _ h => List.mem_append_left _ h | (intro r hr; simp [hr]; done))
theorem kT205 (g : Nat) (r0 : Rs) (hi : Ri r0) (hs : r0.1.size ≤ 1000000) : TakeC g r0 205 1 (tNk r0) := by
  have c1 := kNack g r0 hi hs
  generalize tNk r0 = y at *
  obtain ⟨p, r6⟩ := y
  dsimp only at *
  refine fn_intro Try.func26 rfl Try.ntmps26 rfl (fun E => ?_)
  (repeat (first | ((first | (apply wo_v; rfl) ); (· first | (apply pv_ev; rfl) | (apply g_pick; first | (apply pv_pick_t; rfl; rfl) ) )) | apply wo_nil | apply wc_seq | apply wc_region | apply wc_block | (apply wc_true; rfl) | (apply wc_false; rfl) | (apply wo_run; rfl; rfl) ))
  (refine wo_call (c1) rfl (by (repeat (first | apply sub_nil )); done) (by first | exact fun _ h => h | (intro r hr; cases hr; done) | (simp; done) | exact fun _ h => List.mem_append_left _ h | (intro r hr; simp [hr]; done)) rfl ?_; rintro v L' R' ⟨hp, rfl⟩ H' hH RR hR; simp only [List.cons_append, List.nil_append] at hH hR; subst hH; have hR := hR.symm; subst hR)
  (repeat (first | ((first | (apply wo_v; rfl) ); (· first | (apply pv_ev; rfl) )) | apply wo_nil | apply wc_ret ))
  exact ret1 rfl rfl ⟨hp, rfl⟩ (by (repeat (first | apply sub_nil )); done) (by first | exact fun _ h => h | (intro r hr; cases hr; done) | (simp; done) | exact fun _ h => List.mem_append_left _ h | (intro r hr; simp [hr]; done))
theorem kT206a (g : Nat) (r0 : Rs) (hs : r0.1.size ≤ 1000000) : TakeC g r0 206 1 (.pli (uK 4 r0).1 (uK 4 (uK 4 r0).2).1, (uK 4 (uK 4 r0).2).2) := by
  have s1 := uK_size 4 r0
  have c1 := rU32 g r0 (by omega)
  generalize uK 4 r0 = y at *
  obtain ⟨v1, r1⟩ := y
  dsimp only at *
  have c2 := rU32 g r1 (by omega)
  generalize uK 4 r1 = y at *
  obtain ⟨v2, r2⟩ := y
  dsimp only at *
  refine fn_intro Try.func26 rfl Try.ntmps26 rfl (fun E => ?_)
  (repeat (first | ((first | (apply wo_v; rfl) ); (· first | (apply pv_ev; rfl) | (apply g_pick; first | (apply pv_pick_t; rfl; rfl) | (apply pv_pick_f; rfl; rfl)) )) | apply wo_nil | apply wc_seq | apply wc_region | apply wc_block | (apply wc_true; rfl) | (apply wc_false; rfl) | (apply wo_run; rfl; rfl) | (apply wo_skip; rfl; rfl; rfl; rfl) ))
  (refine wo_call (c1) rfl (by (repeat (first | apply sub_nil )); done) (by first | exact fun _ h => h | (intro r hr; cases hr; done) | (simp; done) | exact fun _ h => List.mem_append_left _ h | (intro r hr; simp [hr]; done)) rfl ?_; rintro v L' R' ⟨rfl, rfl, rfl⟩ H' hH RR hR; simp only [List.cons_append, List.nil_append] at hH hR; subst hH; have hR := hR.symm; subst hR)
  (repeat (first | ((first | (apply wo_v; rfl) ); (· first | (apply pv_ev; rfl) )) ))
  (refine wo_call (c2) rfl (by (repeat (first | apply sub_nil )); done) (by first | exact fun _ h => h | (intro r hr; cases hr; done) | (simp; done) | exact fun _ h => List.mem_append_left _ h | (intro r hr; simp [hr]; done)) rfl ?_; rintro v L' R' ⟨rfl, rfl, rfl⟩ H' hH RR hR; simp only [List.cons_append, List.nil_append] at hH hR; subst hH; have hR := hR.symm; subst hR)
  (repeat (first | ((first | (apply wo_v; rfl) ); (· first | (apply pv_ev; rfl) | (apply g_build; apply pv_build; (· (repeat (first | apply Bld.nil | (apply Bld.one; rfl; rfl; (· (repeat (first | apply SetAt.here | apply SetAt.there)))) )))) | (apply pv_mki; rfl; infer_instance) )) | apply wo_nil | apply wc_ret ))
  exact ret1 rfl rfl ⟨rfl, rfl⟩ (by (repeat (first | apply sub_nil )); done) (by first | exact fun _ h => h | (intro r hr; cases hr; done) | (simp; done) | exact fun _ h => List.mem_append_left _ h | (intro r hr; simp [hr]; done))
theorem kT206b (g : Nat) (r0 : Rs) (hi : Ri r0) (hs : r0.1.size ≤ 1000000) : TakeC g r0 206 4 (tFi r0) := by
  have c1 := kFir g r0 hi hs
  generalize tFi r0 = y at *
  obtain ⟨p, r6⟩ := y
  dsimp only at *
  refine fn_intro Try.func26 rfl Try.ntmps26 rfl (fun E => ?_)
  (repeat (first | ((first | (apply wo_v; rfl) ); (· first | (apply pv_ev; rfl) | (apply g_pick; first | (apply pv_pick_t; rfl; rfl) | (apply pv_pick_f; rfl; rfl)) )) | apply wo_nil | apply wc_seq | apply wc_region | apply wc_block | (apply wc_true; rfl) | (apply wc_false; rfl) | (apply wo_run; rfl; rfl) | (apply wo_skip; rfl; rfl; rfl; rfl) ))
  (refine wo_call (c1) rfl (by (repeat (first | apply sub_nil )); done) (by first | exact fun _ h => h | (intro r hr; cases hr; done) | (simp; done) | exact fun _ h => List.mem_append_left _ h | (intro r hr; simp [hr]; done)) rfl ?_; rintro v L' R' ⟨hp, rfl⟩ H' hH RR hR; simp only [List.cons_append, List.nil_append] at hH hR; subst hH; have hR := hR.symm; subst hR)
  (repeat (first | ((first | (apply wo_v; rfl) ); (· first | (apply pv_ev; rfl) )) | apply wo_nil | apply wc_ret ))
  exact ret1 rfl rfl ⟨hp, rfl⟩ (by (repeat (first | apply sub_nil )); done) (by first | exact fun _ h => h | (intro r hr; cases hr; done) | (simp; done) | exact fun _ h => List.mem_append_left _ h | (intro r hr; simp [hr]; done))
theorem kT206c (g : Nat) (r0 : Rs) (hi : Ri r0) (hs : r0.1.size ≤ 1000000) : TakeC g r0 206 15 (tRe r0) := by
  have c1 := kRemb g r0 hi hs
  generalize tRe r0 = y at *
  obtain ⟨p, r6⟩ := y
  dsimp only at *
  refine fn_intro Try.func26 rfl Try.ntmps26 rfl (fun E => ?_)
  (repeat (first | ((first | (apply wo_v; rfl) ); (· first | (apply pv_ev; rfl) | (apply g_pick; first | (apply pv_pick_t; rfl; rfl) | (apply pv_pick_f; rfl; rfl)) )) | apply wo_nil | apply wc_seq | apply wc_region | apply wc_block | (apply wc_true; rfl) | (apply wc_false; rfl) | (apply wo_run; rfl; rfl) | (apply wo_skip; rfl; rfl; rfl; rfl) ))
  (refine wo_call (c1) rfl (by (repeat (first | apply sub_nil )); done) (by first | exact fun _ h => h | (intro r hr; cases hr; done) | (simp; done) | exact fun _ h => List.mem_append_left _ h | (intro r hr; simp [hr]; done)) rfl ?_; rintro v L' R' ⟨hp, rfl⟩ H' hH RR hR; simp only [List.cons_append, List.nil_append] at hH hR; subst hH; have hR := hR.symm; subst hR)
  (repeat (first | ((first | (apply wo_v; rfl) ); (· first | (apply pv_ev; rfl) )) | apply wo_nil | apply wc_ret ))
  exact ret1 rfl rfl ⟨hp, rfl⟩ (by (repeat (first | apply sub_nil )); done) (by first | exact fun _ h => h | (intro r hr; cases hr; done) | (simp; done) | exact fun _ h => List.mem_append_left _ h | (intro r hr; simp [hr]; done))
set_option maxHeartbeats 4000000 in
theorem kTX (g : Nat) (r0 : Rs) (hs : r0.1.size ≤ 1000000) (kd ct : Int) (h0 : kd ≠ 200) (h1 : kd ≠ 201) (h2 : kd ≠ 202) (h3 : kd ≠ 203) (h5 : ¬ (kd = 205 ∧ ct = 1)) (h6 : ¬ (kd = 206 ∧ (ct = 1 ∨ ct = 4 ∨ ct = 15))) : TakeC g r0 kd ct (.other kd ct (rdB r0.1 r0.2 r0.1.size).1, (rdB r0.1 r0.2 r0.1.size).2) := by
  have c1 := octRest g r0.1 r0.2 (by omega)
  generalize rdB r0.1 r0.2 r0.1.size = y at *
  obtain ⟨p, r6⟩ := y
  dsimp only at *
  have hc : (kd = 205 ∧ ct ≠ 1) ∨ (kd = 206 ∧ ct ≠ 1 ∧ ct ≠ 4 ∧ ct ≠ 15) ∨ (kd ≠ 205 ∧ kd ≠ 206) := by omega
  clear h5 h6
  rcases hc with ⟨h5, h6⟩ | ⟨h5, h6, h7, h8⟩ | ⟨h5, h6⟩
  all_goals
    refine fn_intro Try.func26 rfl Try.ntmps26 rfl (fun E => ?_)
    (repeat (first | ((first | (apply wo_v; rfl) ); (· first | (apply pv_ev; rfl) | (apply g_pick; first | (apply pv_pick_t; rfl; rfl) | (apply pv_pick_f; rfl; rfl)) )) | apply wo_nil | apply wc_seq | apply wc_region | apply wc_block | apply wc_skip | (apply wc_true; rfl) | (apply wc_false; rfl) | (apply a_dec_t; rfl; (· first | assumption | omega)) | (apply a_dec_f; rfl; (· first | assumption | omega)) | (apply wo_run; rfl; rfl) | (apply wo_skip; rfl; rfl; rfl; rfl) | (apply wo_skip_u; rfl; rfl; rfl) | (apply a_gt; rfl; rfl; (· first | assumption | omega)) | (apply a_gf; rfl; rfl; (· first | assumption | omega)) ))
    (refine wo_call (c1) rfl (by (repeat (first | apply sub_nil )); done) (by first | exact fun _ h => h | (intro r hr; cases hr; done) | (simp; done) | exact fun _ h => List.mem_append_left _ h | (intro r hr; simp [hr]; done)) rfl ?_; rintro v L' R' ⟨rfl, rfl, rfl⟩ H' hH RR hR; simp only [List.cons_append, List.nil_append] at hH hR; subst hH; have hR := hR.symm; subst hR)
    (repeat (first | ((first | (apply wo_v; rfl) ); (· first | (apply pv_ev; rfl) | (apply g_build; apply pv_build; (· (repeat (first | apply Bld.nil | (apply Bld.one; rfl; rfl; (· (repeat (first | apply SetAt.here | apply SetAt.there)))) )))) | (apply pv_mki; rfl; infer_instance) )) | apply wo_nil | apply wc_ret ))
    exact ret1 rfl rfl ⟨rfl, rfl⟩ (by (repeat (first | apply sub_nil )); done) (by first | exact fun _ h => h | (intro r hr; cases hr; done) | (simp; done) | exact fun _ h => List.mem_append_left _ h | (intro r hr; simp [hr]; done))
theorem kTake (g : Nat) (r0 : Rs) (hi : Ri r0) (hs : r0.1.size ≤ 1000000) (kd ct : Int) (hct : 0 ≤ ct ∧ ct ≤ 31) : TakeC g r0 kd ct (tkM r0 kd ct) := by
  unfold tkM
  obtain ⟨N, rfl⟩ := Int.eq_ofNat_of_zero_le hct.1
  rw [show ((N : Int)).toNat = N from rfl]
  split
  · rename_i h; subst h; exact kT200 g r0 hs N (by omega)
  split
  · rename_i h; subst h; exact kT201 g r0 hs N (by omega)
  split
  · rename_i h; subst h; exact kT202 g r0 hi hs N (by omega)
  split
  · rename_i h; subst h; exact kT203 g r0 hs N (by omega)
  split
  · rename_i h; rw [h.1, h.2]; exact kT205 g r0 hi hs
  split
  · rename_i h; rw [h.1, h.2]; exact kT206a g r0 hs
  split
  · rename_i h; rw [h.1, h.2]; exact kT206b g r0 hi hs
  split
  · rename_i h; rw [h.1, h.2]; exact kT206c g r0 hi hs
  · rename_i a1 a2 a3 a4 a5 a6 a7 a8
    exact kTX g r0 hs kd N a1 a2 a3 a4 a5 (by omega)
end Go.Proofs.Yteaccbbmphcmnaa

/-
  Package rtcp: body, Parse.
-/
namespace Go.Proofs.Yteaccbbmphcmnaa
set_option linter.unusedSimpArgs false
set_option linter.unusedVariables false
open Go.RowKit
attribute [local irreducible] Pv WO WC Fn
set_option maxRecDepth 100000
attribute [local irreducible] ByteArray.extract

theorem rdE_z {r : Rs} (h : Ri r) : r.2 ≠ 0 → r.1 = E0 := h
set_option maxHeartbeats 4000000 in
theorem kBody (g : Nat) (r0 : Rs) (hs : r0.1.size ≤ 1000000) (pa : Bool) : Fn Try.prog 25 #[.pointer (some ⟨g, 0, none⟩), .bool pa] [rdO g r0.1 r0.2] [] (fun v L' R' => v = .string (bdM r0 pa).1 ∧ L' = [rdO g (bdM r0 pa).2.1 (bdM r0 pa).2.2] ∧ R' = []) := by
  unfold bdM
  have s1 := uK_size 2 r0
  have b1 := uK2_b r0
  have c1 := rU16 g r0 (by omega)
  generalize uK 2 r0 = y at *
  obtain ⟨n, r1⟩ := y
  dsimp only at *
  have c2 := octBytes g r1.1 r1.2 (4 * n) (by omega)
  have hz := rdB_size r1.1 r1.2 (4 * n) (by omega)
  generalize rdB r1.1 r1.2 (4 * n) = y at *
  obtain ⟨s, r2⟩ := y
  dsimp only at *
  unfold bdE
  by_cases hp : pa = false
  · subst hp
    rw [if_pos (.inl rfl)]
    refine fn_intro Try.func25 rfl Try.ntmps25 rfl (fun E => ?_)
    (repeat (first | ((first | (apply wo_v; rfl) ); (· first | (apply pv_ev; rfl) )) | apply wo_nil | apply wc_seq | apply wc_region ))
    (refine wo_call (c1) rfl (by (repeat (first | apply sub_nil )); done) (by first | exact fun _ h => h | (intro r hr; cases hr; done) | (simp; done) | exact fun _ h => List.mem_append_left _ h | (intro r hr; simp [hr]; done)) rfl ?_; rintro v L' R' ⟨rfl, rfl, rfl⟩ H' hH RR hR; simp only [List.cons_append, List.nil_append] at hH hR; subst hH; have hR := hR.symm; subst hR)
    (repeat (first | ((first | (apply wo_v; rfl) ); (· first | (apply pv_ev; rfl) | (apply g_bin; first | (apply a_mul; rfl; rfl; infer_instance; omega) ) | (apply g_conv; first | (apply a_conv; rfl; infer_instance; infer_instance; infer_instance; omega) ) )) ))
    (refine wo_call (c2) rfl (by (repeat (first | apply sub_nil )); done) (by first | exact fun _ h => h | (intro r hr; cases hr; done) | (simp; done) | exact fun _ h => List.mem_append_left _ h | (intro r hr; simp [hr]; done)) rfl ?_; rintro v L' R' ⟨rfl, rfl, rfl⟩ H' hH RR hR; simp only [List.cons_append, List.nil_append] at hH hR; subst hH; have hR := hR.symm; subst hR)
    (repeat (first | ((first | (apply wo_v; rfl) ); (· first | (apply pv_ev; rfl) | (apply g_pick; first | (apply pv_pick_t; rfl; rfl) ) | (apply g_un; first | (apply pv_not_t; rfl) | (apply pv_not_f; rfl) ) )) | apply wo_nil | apply wc_seq | apply wc_region | apply wc_ret | (apply wc_true; rfl) | (apply wo_run; rfl; rfl) | (apply wo_skip; rfl; rfl; rfl; rfl) ))
    exact ret1 rfl rfl ⟨rfl, rfl, rfl⟩ ((by (repeat (first | apply sub_nil )); done) : List.Perm _ ([_] ++ _)) (by first | exact fun _ h => h | (intro r hr; cases hr; done) | (simp; done) | exact fun _ h => List.mem_append_left _ h | (intro r hr; simp [hr]; done))
  have hp : pa = true := by simpa using hp
  subst hp
  by_cases he : r2.2 = 0
  · rw [if_neg (by simp [he])]
    have c3 := octFail g r2.1 r2.2 2
    have b2 := sb_b s (s.size - 1)
    have e1 : ((s.size : Int) - 1).toNat = s.size - 1 := by omega
    unfold padN
    by_cases h0 : s.size = 0
    · have hE : s = E0 := size_zero h0
      subst hE
      rw [if_pos h0, if_pos (.inr (.inl rfl))]
      by_cases hl : 0 < r2.1.size
      all_goals
        refine fn_intro Try.func25 rfl Try.ntmps25 rfl (fun E => ?_)
        (repeat (first | ((first | (apply wo_v; rfl) ); (· first | (apply pv_ev; rfl) )) | apply wo_nil | apply wc_seq | apply wc_region ))
        (refine wo_call (c1) rfl (by (repeat (first | apply sub_nil )); done) (by first | exact fun _ h => h | (intro r hr; cases hr; done) | (simp; done) | exact fun _ h => List.mem_append_left _ h | (intro r hr; simp [hr]; done)) rfl ?_; rintro v L' R' ⟨rfl, rfl, rfl⟩ H' hH RR hR; simp only [List.cons_append, List.nil_append] at hH hR; subst hH; have hR := hR.symm; subst hR)
        (repeat (first | ((first | (apply wo_v; rfl) ); (· first | (apply pv_ev; rfl) | (apply g_bin; first | (apply a_mul; rfl; rfl; infer_instance; omega) ) | (apply g_conv; first | (apply a_conv; rfl; infer_instance; infer_instance; infer_instance; omega) ) )) ))
        (refine wo_call (c2) rfl (by (repeat (first | apply sub_nil )); done) (by first | exact fun _ h => h | (intro r hr; cases hr; done) | (simp; done) | exact fun _ h => List.mem_append_left _ h | (intro r hr; simp [hr]; done)) rfl ?_; rintro v L' R' ⟨rfl, rfl, rfl⟩ H' hH RR hR; simp only [List.cons_append, List.nil_append] at hH hR; subst hH; have hR := hR.symm; subst hR)
        (repeat (first | ((first | (apply wo_v; rfl) ); (· first | (apply pv_ev; rfl) | (apply g_un; first | (apply pv_not_t; rfl) ) )) | apply wo_nil | apply wc_seq | apply wc_region | (apply wo_run; rfl; rfl) ))
        (refine wo_call (octErr g r2.1 r2.2) rfl (by (repeat (first | apply sub_nil )); done) (by first | exact fun _ h => h | (intro r hr; cases hr; done) | (simp; done) | exact fun _ h => List.mem_append_left _ h | (intro r hr; simp [hr]; done)) rfl ?_; rintro v L' R' ⟨rfl, rfl, rfl⟩ H' hH RR hR; simp only [List.cons_append, List.nil_append] at hH hR; subst hH; have hR := hR.symm; subst hR)
        (repeat (first | ((first | (apply wo_v; rfl) ); (· first | (apply pv_ev; rfl) | (apply g_pick; first | (apply pv_pick_t; rfl; rfl) | (apply pv_pick_f; rfl; rfl)) | (apply g_bin; first | (apply pv_neq_s; rfl; rfl) ) )) | apply wo_nil | apply wc_seq | apply wc_region | apply wc_skip | (apply wc_true; rfl) | (apply wc_false; rfl) | (apply a_dec_t; rfl; (· first | assumption | omega)) | (apply a_dec_f; rfl; (· first | assumption | omega)) | (apply wo_run; rfl; rfl) ))
        (refine wo_call (octLen g r2.1 r2.2) rfl (by (repeat (first | apply sub_nil )); done) (by first | exact fun _ h => h | (intro r hr; cases hr; done) | (simp; done) | exact fun _ h => List.mem_append_left _ h | (intro r hr; simp [hr]; done)) rfl ?_; rintro v L' R' ⟨rfl, rfl, rfl⟩ H' hH RR hR; simp only [List.cons_append, List.nil_append] at hH hR; subst hH; have hR := hR.symm; subst hR)
        (repeat (first | ((first | (apply wo_v; rfl) ); (· first | (apply pv_ev; rfl) | (apply g_pick; first | (apply pv_pick_t; rfl; rfl) | (apply pv_pick_f; rfl; rfl)) )) | apply wo_nil | apply wc_seq | apply wc_region | (apply wc_true; rfl) | (apply wo_run; rfl; rfl) | (apply wo_skip; rfl; rfl; rfl; rfl) | (apply wo_skip_u; rfl; rfl; rfl) | (apply a_gt; rfl; rfl; (· first | assumption | omega)) | (apply a_gf; rfl; rfl; (· first | assumption | omega)) ))
        (refine wo_call (c3) rfl (by (repeat (first | apply sub_nil )); done) (by first | exact fun _ h => h | (intro r hr; cases hr; done) | (simp; done) | exact fun _ h => List.mem_append_left _ h | (intro r hr; simp [hr]; done)) rfl ?_; rintro v L' R' ⟨rfl, rfl, rfl⟩ H' hH RR hR; simp only [List.cons_append, List.nil_append] at hH hR; subst hH; have hR := hR.symm; subst hR)
        (repeat (first | ((first | (apply wo_v; rfl) ); (· first | (apply pv_ev; rfl) )) | apply wo_nil | apply wc_seq | apply wc_region | apply wc_ret ))
        exact ret1 rfl rfl ⟨rfl, rfl, rfl⟩ ((by (repeat (first | apply sub_nil )); done) : List.Perm _ ([_] ++ _)) (by first | exact fun _ h => h | (intro r hr; cases hr; done) | (simp; done) | exact fun _ h => List.mem_append_left _ h | (intro r hr; simp [hr]; done))
    · rw [if_neg h0]
      have hE : s ≠ E0 := fun h => h0 (by rw [h]; rfl)
      have hE2 : s ≠ ⟨#[]⟩ := hE
      have hb' := sb_b s ((s.size : Int) - 1).toNat
      rw [← e1] at b2 ⊢
      generalize hm : sb s ((s.size : Int) - 1).toNat = m at *
      have et : m.tmod 4 = m % 4 := Int.tmod_eq_emod_of_nonneg (by omega)
      have e6 : ∀ k : Nat, s.extract 0 k = s.extract 0 k := fun _ => rfl
      have hc : (0 < r2.1.size ∧ True) ∨ (r2.1.size = 0 ∧ m = 0 ∧ True) ∨ (r2.1.size = 0 ∧ m ≠ 0 ∧ m % 4 ≠ 0 ∧ True) ∨ (r2.1.size = 0 ∧ m ≠ 0 ∧ m % 4 = 0 ∧ (s.size : Int) < m ∧ True) ∨ (r2.1.size = 0 ∧ m ≠ 0 ∧ m % 4 = 0 ∧ ¬ (s.size : Int) < m) := by
        by_cases q1 : 0 < r2.1.size
        · exact .inl ⟨q1, trivial⟩
        by_cases q2 : m = 0
        · exact .inr (.inl ⟨by omega, q2, trivial⟩)
        by_cases q3 : m % 4 = 0
        · by_cases q4 : (s.size : Int) < m
          · exact .inr (.inr (.inr (.inl ⟨by omega, q2, q3, q4, trivial⟩)))
          · exact .inr (.inr (.inr (.inr ⟨by omega, q2, q3, q4⟩)))
        · exact .inr (.inr (.inl ⟨by omega, q2, q3, trivial⟩))
      rcases hc with ⟨q1, _⟩ | ⟨q1, q2, _⟩ | ⟨q1, q2, q3, _⟩ | ⟨q1, q2, q3, q4, _⟩ | ⟨q1, q2, q3, q4⟩
      · rw [if_pos (by omega)]
        refine fn_intro Try.func25 rfl Try.ntmps25 rfl (fun E => ?_)
        (repeat (first | ((first | (apply wo_v; rfl) ); (· first | (apply pv_ev; rfl) )) | apply wo_nil | apply wc_seq | apply wc_region ))
        (refine wo_call (c1) rfl (by (repeat (first | apply sub_nil )); done) (by first | exact fun _ h => h | (intro r hr; cases hr; done) | (simp; done) | exact fun _ h => List.mem_append_left _ h | (intro r hr; simp [hr]; done)) rfl ?_; rintro v L' R' ⟨rfl, rfl, rfl⟩ H' hH RR hR; simp only [List.cons_append, List.nil_append] at hH hR; subst hH; have hR := hR.symm; subst hR)
        (repeat (first | ((first | (apply wo_v; rfl) ); (· first | (apply pv_ev; rfl) | (apply g_bin; first | (apply a_mul; rfl; rfl; infer_instance; omega) ) | (apply g_conv; first | (apply a_conv; rfl; infer_instance; infer_instance; infer_instance; omega) ) )) ))
        (refine wo_call (c2) rfl (by (repeat (first | apply sub_nil )); done) (by first | exact fun _ h => h | (intro r hr; cases hr; done) | (simp; done) | exact fun _ h => List.mem_append_left _ h | (intro r hr; simp [hr]; done)) rfl ?_; rintro v L' R' ⟨rfl, rfl, rfl⟩ H' hH RR hR; simp only [List.cons_append, List.nil_append] at hH hR; subst hH; have hR := hR.symm; subst hR)
        (repeat (first | ((first | (apply wo_v; rfl) ); (· first | (apply pv_ev; rfl) | (apply g_un; first | (apply pv_not_t; rfl) ) )) | apply wo_nil | apply wc_seq | apply wc_region | (apply wo_run; rfl; rfl) ))
        (refine wo_call (octErr g r2.1 r2.2) rfl (by (repeat (first | apply sub_nil )); done) (by first | exact fun _ h => h | (intro r hr; cases hr; done) | (simp; done) | exact fun _ h => List.mem_append_left _ h | (intro r hr; simp [hr]; done)) rfl ?_; rintro v L' R' ⟨rfl, rfl, rfl⟩ H' hH RR hR; simp only [List.cons_append, List.nil_append] at hH hR; subst hH; have hR := hR.symm; subst hR)
        (repeat (first | ((first | (apply wo_v; rfl) ); (· first | (apply pv_ev; rfl) | (apply g_pick; first | (apply pv_pick_t; rfl; rfl) | (apply pv_pick_f; rfl; rfl)) | (apply g_bin; first | (apply a_sub; rfl; rfl; infer_instance; omega) | (apply pv_neq_s; rfl; rfl) ) | (apply g_bi; first | (apply pv_len_str; rfl) ) | (apply g_conv; first | (apply a_conv; rfl; infer_instance; infer_instance; infer_instance; omega) ) | (apply pv_index_sn; rfl; rfl; omega) | (apply pv_index_s; rfl; rfl; omega) )) | apply wo_nil | apply wc_seq | apply wc_region | apply wc_skip | (apply wc_true; rfl) | (apply wc_false; rfl) | (apply a_dec_t; rfl; (· first | assumption | omega)) | (apply a_dec_f; rfl; (· first | assumption | omega)) | (apply wo_run; rfl; rfl) ))
        rw [hm]
        (refine wo_call (octLen g r2.1 r2.2) rfl (by (repeat (first | apply sub_nil )); done) (by first | exact fun _ h => h | (intro r hr; cases hr; done) | (simp; done) | exact fun _ h => List.mem_append_left _ h | (intro r hr; simp [hr]; done)) rfl ?_; rintro v L' R' ⟨rfl, rfl, rfl⟩ H' hH RR hR; simp only [List.cons_append, List.nil_append] at hH hR; subst hH; have hR := hR.symm; subst hR)
        (repeat (first | ((first | (apply wo_v; rfl) ); (· first | (apply pv_ev; rfl) | (apply g_pick; first | (apply pv_pick_t; rfl; rfl) ) )) | apply wo_nil | apply wc_seq | apply wc_region | (apply wc_true; rfl) | (apply wo_run; rfl; rfl) | (apply wo_skip; rfl; rfl; rfl; rfl) | (apply wo_skip_u; rfl; rfl; rfl) | (apply a_gt; rfl; rfl; (· first | assumption | omega)) ))
        (refine wo_call (c3) rfl (by (repeat (first | apply sub_nil )); done) (by first | exact fun _ h => h | (intro r hr; cases hr; done) | (simp; done) | exact fun _ h => List.mem_append_left _ h | (intro r hr; simp [hr]; done)) rfl ?_; rintro v L' R' ⟨rfl, rfl, rfl⟩ H' hH RR hR; simp only [List.cons_append, List.nil_append] at hH hR; subst hH; have hR := hR.symm; subst hR)
        (repeat (first | ((first | (apply wo_v; rfl) ); (· first | (apply pv_ev; rfl) )) | apply wo_nil | apply wc_seq | apply wc_region | apply wc_ret ))
        exact ret1 rfl rfl ⟨rfl, rfl, rfl⟩ ((by (repeat (first | apply sub_nil )); done) : List.Perm _ ([_] ++ _)) (by first | exact fun _ h => h | (intro r hr; cases hr; done) | (simp; done) | exact fun _ h => List.mem_append_left _ h | (intro r hr; simp [hr]; done))
      · rw [if_pos (by omega)]
        refine fn_intro Try.func25 rfl Try.ntmps25 rfl (fun E => ?_)
        (repeat (first | ((first | (apply wo_v; rfl) ); (· first | (apply pv_ev; rfl) )) | apply wo_nil | apply wc_seq | apply wc_region ))
        (refine wo_call (c1) rfl (by (repeat (first | apply sub_nil )); done) (by first | exact fun _ h => h | (intro r hr; cases hr; done) | (simp; done) | exact fun _ h => List.mem_append_left _ h | (intro r hr; simp [hr]; done)) rfl ?_; rintro v L' R' ⟨rfl, rfl, rfl⟩ H' hH RR hR; simp only [List.cons_append, List.nil_append] at hH hR; subst hH; have hR := hR.symm; subst hR)
        (repeat (first | ((first | (apply wo_v; rfl) ); (· first | (apply pv_ev; rfl) | (apply g_bin; first | (apply a_mul; rfl; rfl; infer_instance; omega) ) | (apply g_conv; first | (apply a_conv; rfl; infer_instance; infer_instance; infer_instance; omega) ) )) ))
        (refine wo_call (c2) rfl (by (repeat (first | apply sub_nil )); done) (by first | exact fun _ h => h | (intro r hr; cases hr; done) | (simp; done) | exact fun _ h => List.mem_append_left _ h | (intro r hr; simp [hr]; done)) rfl ?_; rintro v L' R' ⟨rfl, rfl, rfl⟩ H' hH RR hR; simp only [List.cons_append, List.nil_append] at hH hR; subst hH; have hR := hR.symm; subst hR)
        (repeat (first | ((first | (apply wo_v; rfl) ); (· first | (apply pv_ev; rfl) | (apply g_un; first | (apply pv_not_t; rfl) ) )) | apply wo_nil | apply wc_seq | apply wc_region | (apply wo_run; rfl; rfl) ))
        (refine wo_call (octErr g r2.1 r2.2) rfl (by (repeat (first | apply sub_nil )); done) (by first | exact fun _ h => h | (intro r hr; cases hr; done) | (simp; done) | exact fun _ h => List.mem_append_left _ h | (intro r hr; simp [hr]; done)) rfl ?_; rintro v L' R' ⟨rfl, rfl, rfl⟩ H' hH RR hR; simp only [List.cons_append, List.nil_append] at hH hR; subst hH; have hR := hR.symm; subst hR)
        (repeat (first | ((first | (apply wo_v; rfl) ); (· first | (apply pv_ev; rfl) | (apply g_pick; first | (apply pv_pick_t; rfl; rfl) | (apply pv_pick_f; rfl; rfl)) | (apply g_bin; first | (apply a_sub; rfl; rfl; infer_instance; omega) | (apply pv_neq_s; rfl; rfl) ) | (apply g_bi; first | (apply pv_len_str; rfl) ) | (apply g_conv; first | (apply a_conv; rfl; infer_instance; infer_instance; infer_instance; omega) ) | (apply pv_index_sn; rfl; rfl; omega) | (apply pv_index_s; rfl; rfl; omega) )) | apply wo_nil | apply wc_seq | apply wc_region | apply wc_skip | (apply wc_true; rfl) | (apply wc_false; rfl) | (apply a_dec_t; rfl; (· first | assumption | omega)) | (apply a_dec_f; rfl; (· first | assumption | omega)) | (apply wo_run; rfl; rfl) ))
        rw [hm]
        (refine wo_call (octLen g r2.1 r2.2) rfl (by (repeat (first | apply sub_nil )); done) (by first | exact fun _ h => h | (intro r hr; cases hr; done) | (simp; done) | exact fun _ h => List.mem_append_left _ h | (intro r hr; simp [hr]; done)) rfl ?_; rintro v L' R' ⟨rfl, rfl, rfl⟩ H' hH RR hR; simp only [List.cons_append, List.nil_append] at hH hR; subst hH; have hR := hR.symm; subst hR)
        (repeat (first | ((first | (apply wo_v; rfl) ); (· first | (apply pv_ev; rfl) | (apply g_pick; first | (apply pv_pick_t; rfl; rfl) | (apply pv_pick_f; rfl; rfl)) )) | apply wo_nil | apply wc_seq | apply wc_region | (apply wc_true; rfl) | (apply wo_run; rfl; rfl) | (apply wo_skip; rfl; rfl; rfl; rfl) | (apply wo_skip_u; rfl; rfl; rfl) | (apply a_gt; rfl; rfl; (· first | assumption | omega)) | (apply a_gf; rfl; rfl; (· first | assumption | omega)) ))
        (refine wo_call (c3) rfl (by (repeat (first | apply sub_nil )); done) (by first | exact fun _ h => h | (intro r hr; cases hr; done) | (simp; done) | exact fun _ h => List.mem_append_left _ h | (intro r hr; simp [hr]; done)) rfl ?_; rintro v L' R' ⟨rfl, rfl, rfl⟩ H' hH RR hR; simp only [List.cons_append, List.nil_append] at hH hR; subst hH; have hR := hR.symm; subst hR)
        (repeat (first | ((first | (apply wo_v; rfl) ); (· first | (apply pv_ev; rfl) )) | apply wo_nil | apply wc_seq | apply wc_region | apply wc_ret ))
        exact ret1 rfl rfl ⟨rfl, rfl, rfl⟩ ((by (repeat (first | apply sub_nil )); done) : List.Perm _ ([_] ++ _)) (by first | exact fun _ h => h | (intro r hr; cases hr; done) | (simp; done) | exact fun _ h => List.mem_append_left _ h | (intro r hr; simp [hr]; done))
      · rw [if_pos (by omega)]
        refine fn_intro Try.func25 rfl Try.ntmps25 rfl (fun E => ?_)
        (repeat (first | ((first | (apply wo_v; rfl) ); (· first | (apply pv_ev; rfl) )) | apply wo_nil | apply wc_seq | apply wc_region ))
        (refine wo_call (c1) rfl (by (repeat (first | apply sub_nil )); done) (by first | exact fun _ h => h | (intro r hr; cases hr; done) | (simp; done) | exact fun _ h => List.mem_append_left _ h | (intro r hr; simp [hr]; done)) rfl ?_; rintro v L' R' ⟨rfl, rfl, rfl⟩ H' hH RR hR; simp only [List.cons_append, List.nil_append] at hH hR; subst hH; have hR := hR.symm; subst hR)
        (repeat (first | ((first | (apply wo_v; rfl) ); (· first | (apply pv_ev; rfl) | (apply g_bin; first | (apply a_mul; rfl; rfl; infer_instance; omega) ) | (apply g_conv; first | (apply a_conv; rfl; infer_instance; infer_instance; infer_instance; omega) ) )) ))
        (refine wo_call (c2) rfl (by (repeat (first | apply sub_nil )); done) (by first | exact fun _ h => h | (intro r hr; cases hr; done) | (simp; done) | exact fun _ h => List.mem_append_left _ h | (intro r hr; simp [hr]; done)) rfl ?_; rintro v L' R' ⟨rfl, rfl, rfl⟩ H' hH RR hR; simp only [List.cons_append, List.nil_append] at hH hR; subst hH; have hR := hR.symm; subst hR)
        (repeat (first | ((first | (apply wo_v; rfl) ); (· first | (apply pv_ev; rfl) | (apply g_un; first | (apply pv_not_t; rfl) ) )) | apply wo_nil | apply wc_seq | apply wc_region | (apply wo_run; rfl; rfl) ))
        (refine wo_call (octErr g r2.1 r2.2) rfl (by (repeat (first | apply sub_nil )); done) (by first | exact fun _ h => h | (intro r hr; cases hr; done) | (simp; done) | exact fun _ h => List.mem_append_left _ h | (intro r hr; simp [hr]; done)) rfl ?_; rintro v L' R' ⟨rfl, rfl, rfl⟩ H' hH RR hR; simp only [List.cons_append, List.nil_append] at hH hR; subst hH; have hR := hR.symm; subst hR)
        (repeat (first | ((first | (apply wo_v; rfl) ); (· first | (apply pv_ev; rfl) | (apply g_pick; first | (apply pv_pick_t; rfl; rfl) | (apply pv_pick_f; rfl; rfl)) | (apply g_bin; first | (apply a_sub; rfl; rfl; infer_instance; omega) | (apply pv_neq_s; rfl; rfl) ) | (apply g_bi; first | (apply pv_len_str; rfl) ) | (apply g_conv; first | (apply a_conv; rfl; infer_instance; infer_instance; infer_instance; omega) ) | (apply pv_index_sn; rfl; rfl; omega) | (apply pv_index_s; rfl; rfl; omega) )) | apply wo_nil | apply wc_seq | apply wc_region | apply wc_skip | (apply wc_true; rfl) | (apply wc_false; rfl) | (apply a_dec_t; rfl; (· first | assumption | omega)) | (apply a_dec_f; rfl; (· first | assumption | omega)) | (apply wo_run; rfl; rfl) ))
        rw [hm]
        (refine wo_call (octLen g r2.1 r2.2) rfl (by (repeat (first | apply sub_nil )); done) (by first | exact fun _ h => h | (intro r hr; cases hr; done) | (simp; done) | exact fun _ h => List.mem_append_left _ h | (intro r hr; simp [hr]; done)) rfl ?_; rintro v L' R' ⟨rfl, rfl, rfl⟩ H' hH RR hR; simp only [List.cons_append, List.nil_append] at hH hR; subst hH; have hR := hR.symm; subst hR)
        (repeat (first | ((first | (apply wo_v; rfl) ); (· first | (apply pv_ev; rfl) | (apply g_pick; first | (apply pv_pick_t; rfl; rfl) | (apply pv_pick_f; rfl; rfl)) | (apply g_bin; first | (apply pv_rem; rfl; rfl; omega) ) )) | apply wo_nil | apply wc_seq | apply wc_region | (apply wc_true; rfl) | (apply wo_run; rfl; rfl) | (apply wo_skip; rfl; rfl; rfl; rfl) | (apply wo_skip_u; rfl; rfl; rfl) | (apply a_gt; rfl; rfl; (· first | assumption | omega)) | (apply a_gf; rfl; rfl; (· first | assumption | omega)) ))
        (refine wo_call (c3) rfl (by (repeat (first | apply sub_nil )); done) (by first | exact fun _ h => h | (intro r hr; cases hr; done) | (simp; done) | exact fun _ h => List.mem_append_left _ h | (intro r hr; simp [hr]; done)) rfl ?_; rintro v L' R' ⟨rfl, rfl, rfl⟩ H' hH RR hR; simp only [List.cons_append, List.nil_append] at hH hR; subst hH; have hR := hR.symm; subst hR)
        (repeat (first | ((first | (apply wo_v; rfl) ); (· first | (apply pv_ev; rfl) )) | apply wo_nil | apply wc_seq | apply wc_region | apply wc_ret ))
        exact ret1 rfl rfl ⟨rfl, rfl, rfl⟩ ((by (repeat (first | apply sub_nil )); done) : List.Perm _ ([_] ++ _)) (by first | exact fun _ h => h | (intro r hr; cases hr; done) | (simp; done) | exact fun _ h => List.mem_append_left _ h | (intro r hr; simp [hr]; done))
      · rw [if_pos (by omega)]
        refine fn_intro Try.func25 rfl Try.ntmps25 rfl (fun E => ?_)
        (repeat (first | ((first | (apply wo_v; rfl) ); (· first | (apply pv_ev; rfl) )) | apply wo_nil | apply wc_seq | apply wc_region ))
        (refine wo_call (c1) rfl (by (repeat (first | apply sub_nil )); done) (by first | exact fun _ h => h | (intro r hr; cases hr; done) | (simp; done) | exact fun _ h => List.mem_append_left _ h | (intro r hr; simp [hr]; done)) rfl ?_; rintro v L' R' ⟨rfl, rfl, rfl⟩ H' hH RR hR; simp only [List.cons_append, List.nil_append] at hH hR; subst hH; have hR := hR.symm; subst hR)
        (repeat (first | ((first | (apply wo_v; rfl) ); (· first | (apply pv_ev; rfl) | (apply g_bin; first | (apply a_mul; rfl; rfl; infer_instance; omega) ) | (apply g_conv; first | (apply a_conv; rfl; infer_instance; infer_instance; infer_instance; omega) ) )) ))
        (refine wo_call (c2) rfl (by (repeat (first | apply sub_nil )); done) (by first | exact fun _ h => h | (intro r hr; cases hr; done) | (simp; done) | exact fun _ h => List.mem_append_left _ h | (intro r hr; simp [hr]; done)) rfl ?_; rintro v L' R' ⟨rfl, rfl, rfl⟩ H' hH RR hR; simp only [List.cons_append, List.nil_append] at hH hR; subst hH; have hR := hR.symm; subst hR)
        (repeat (first | ((first | (apply wo_v; rfl) ); (· first | (apply pv_ev; rfl) | (apply g_un; first | (apply pv_not_t; rfl) ) )) | apply wo_nil | apply wc_seq | apply wc_region | (apply wo_run; rfl; rfl) ))
        (refine wo_call (octErr g r2.1 r2.2) rfl (by (repeat (first | apply sub_nil )); done) (by first | exact fun _ h => h | (intro r hr; cases hr; done) | (simp; done) | exact fun _ h => List.mem_append_left _ h | (intro r hr; simp [hr]; done)) rfl ?_; rintro v L' R' ⟨rfl, rfl, rfl⟩ H' hH RR hR; simp only [List.cons_append, List.nil_append] at hH hR; subst hH; have hR := hR.symm; subst hR)
        (repeat (first | ((first | (apply wo_v; rfl) ); (· first | (apply pv_ev; rfl) | (apply g_pick; first | (apply pv_pick_t; rfl; rfl) | (apply pv_pick_f; rfl; rfl)) | (apply g_bin; first | (apply a_sub; rfl; rfl; infer_instance; omega) | (apply pv_neq_s; rfl; rfl) ) | (apply g_bi; first | (apply pv_len_str; rfl) ) | (apply g_conv; first | (apply a_conv; rfl; infer_instance; infer_instance; infer_instance; omega) ) | (apply pv_index_sn; rfl; rfl; omega) | (apply pv_index_s; rfl; rfl; omega) )) | apply wo_nil | apply wc_seq | apply wc_region | apply wc_skip | (apply wc_true; rfl) | (apply wc_false; rfl) | (apply a_dec_t; rfl; (· first | assumption | omega)) | (apply a_dec_f; rfl; (· first | assumption | omega)) | (apply wo_run; rfl; rfl) ))
        rw [hm]
        (refine wo_call (octLen g r2.1 r2.2) rfl (by (repeat (first | apply sub_nil )); done) (by first | exact fun _ h => h | (intro r hr; cases hr; done) | (simp; done) | exact fun _ h => List.mem_append_left _ h | (intro r hr; simp [hr]; done)) rfl ?_; rintro v L' R' ⟨rfl, rfl, rfl⟩ H' hH RR hR; simp only [List.cons_append, List.nil_append] at hH hR; subst hH; have hR := hR.symm; subst hR)
        (repeat (first | ((first | (apply wo_v; rfl) ); (· first | (apply pv_ev; rfl) | (apply g_pick; first | (apply pv_pick_t; rfl; rfl) | (apply pv_pick_f; rfl; rfl)) | (apply g_bin; first | (apply pv_rem; rfl; rfl; omega) ) | (apply g_bi; first | (apply pv_len_str; rfl) ) )) | apply wo_nil | apply wc_seq | apply wc_region | (apply wc_true; rfl) | (apply wc_false; rfl) | (apply a_dec_t; rfl; (· first | assumption | omega)) | (apply wo_run; rfl; rfl) | (apply wo_skip; rfl; rfl; rfl; rfl) | (apply wo_skip_u; rfl; rfl; rfl) | (apply a_gt; rfl; rfl; (· first | assumption | omega)) | (apply a_gf; rfl; rfl; (· first | assumption | omega)) ))
        (refine wo_call (c3) rfl (by (repeat (first | apply sub_nil )); done) (by first | exact fun _ h => h | (intro r hr; cases hr; done) | (simp; done) | exact fun _ h => List.mem_append_left _ h | (intro r hr; simp [hr]; done)) rfl ?_; rintro v L' R' ⟨rfl, rfl, rfl⟩ H' hH RR hR; simp only [List.cons_append, List.nil_append] at hH hR; subst hH; have hR := hR.symm; subst hR)
        (repeat (first | ((first | (apply wo_v; rfl) ); (· first | (apply pv_ev; rfl) )) | apply wo_nil | apply wc_seq | apply wc_region | apply wc_ret ))
        exact ret1 rfl rfl ⟨rfl, rfl, rfl⟩ ((by (repeat (first | apply sub_nil )); done) : List.Perm _ ([_] ++ _)) (by first | exact fun _ h => h | (intro r hr; cases hr; done) | (simp; done) | exact fun _ h => List.mem_append_left _ h | (intro r hr; simp [hr]; done))
      · rw [if_neg (by omega)]
        refine fn_intro Try.func25 rfl Try.ntmps25 rfl (fun E => ?_)
        (repeat (first | ((first | (apply wo_v; rfl) ); (· first | (apply pv_ev; rfl) )) | apply wo_nil | apply wc_seq | apply wc_region ))
        (refine wo_call (c1) rfl (by (repeat (first | apply sub_nil )); done) (by first | exact fun _ h => h | (intro r hr; cases hr; done) | (simp; done) | exact fun _ h => List.mem_append_left _ h | (intro r hr; simp [hr]; done)) rfl ?_; rintro v L' R' ⟨rfl, rfl, rfl⟩ H' hH RR hR; simp only [List.cons_append, List.nil_append] at hH hR; subst hH; have hR := hR.symm; subst hR)
        (repeat (first | ((first | (apply wo_v; rfl) ); (· first | (apply pv_ev; rfl) | (apply g_bin; first | (apply a_mul; rfl; rfl; infer_instance; omega) ) | (apply g_conv; first | (apply a_conv; rfl; infer_instance; infer_instance; infer_instance; omega) ) )) ))
        (refine wo_call (c2) rfl (by (repeat (first | apply sub_nil )); done) (by first | exact fun _ h => h | (intro r hr; cases hr; done) | (simp; done) | exact fun _ h => List.mem_append_left _ h | (intro r hr; simp [hr]; done)) rfl ?_; rintro v L' R' ⟨rfl, rfl, rfl⟩ H' hH RR hR; simp only [List.cons_append, List.nil_append] at hH hR; subst hH; have hR := hR.symm; subst hR)
        (repeat (first | ((first | (apply wo_v; rfl) ); (· first | (apply pv_ev; rfl) | (apply g_un; first | (apply pv_not_t; rfl) ) )) | apply wo_nil | apply wc_seq | apply wc_region | (apply wo_run; rfl; rfl) ))
        (refine wo_call (octErr g r2.1 r2.2) rfl (by (repeat (first | apply sub_nil )); done) (by first | exact fun _ h => h | (intro r hr; cases hr; done) | (simp; done) | exact fun _ h => List.mem_append_left _ h | (intro r hr; simp [hr]; done)) rfl ?_; rintro v L' R' ⟨rfl, rfl, rfl⟩ H' hH RR hR; simp only [List.cons_append, List.nil_append] at hH hR; subst hH; have hR := hR.symm; subst hR)
        (repeat (first | ((first | (apply wo_v; rfl) ); (· first | (apply pv_ev; rfl) | (apply g_pick; first | (apply pv_pick_t; rfl; rfl) | (apply pv_pick_f; rfl; rfl)) | (apply g_bin; first | (apply a_sub; rfl; rfl; infer_instance; omega) | (apply pv_neq_s; rfl; rfl) ) | (apply g_bi; first | (apply pv_len_str; rfl) ) | (apply g_conv; first | (apply a_conv; rfl; infer_instance; infer_instance; infer_instance; omega) ) | (apply pv_index_sn; rfl; rfl; omega) | (apply pv_index_s; rfl; rfl; omega) )) | apply wo_nil | apply wc_seq | apply wc_region | apply wc_skip | (apply wc_true; rfl) | (apply wc_false; rfl) | (apply a_dec_t; rfl; (· first | assumption | omega)) | (apply a_dec_f; rfl; (· first | assumption | omega)) | (apply wo_run; rfl; rfl) ))
        rw [hm]
        (refine wo_call (octLen g r2.1 r2.2) rfl (by (repeat (first | apply sub_nil )); done) (by first | exact fun _ h => h | (intro r hr; cases hr; done) | (simp; done) | exact fun _ h => List.mem_append_left _ h | (intro r hr; simp [hr]; done)) rfl ?_; rintro v L' R' ⟨rfl, rfl, rfl⟩ H' hH RR hR; simp only [List.cons_append, List.nil_append] at hH hR; subst hH; have hR := hR.symm; subst hR)
        (repeat (first | ((first | (apply wo_v; rfl) ); (· first | (apply pv_ev; rfl) | (apply g_pick; first | (apply pv_pick_t; rfl; rfl) | (apply pv_pick_f; rfl; rfl)) | (apply g_bin; first | (apply a_sub; rfl; rfl; infer_instance; omega) | (apply pv_rem; rfl; rfl; omega) ) | (apply g_bi; first | (apply pv_len_str; rfl) ) | (apply pv_cs_hi; rfl; rfl; omega) )) | apply wo_nil | apply wc_seq | apply wc_region | apply wc_skip | apply wc_ret | (apply wc_true; rfl) | (apply wc_false; rfl) | (apply a_dec_t; rfl; (· first | assumption | omega)) | (apply a_dec_f; rfl; (· first | assumption | omega)) | (apply wo_run; rfl; rfl) | (apply wo_skip; rfl; rfl; rfl; rfl) | (apply wo_skip_u; rfl; rfl; rfl) | (apply a_gt; rfl; rfl; (· first | assumption | omega)) | (apply a_gf; rfl; rfl; (· first | assumption | omega)) ))
        exact ret1 rfl rfl ⟨rfl, rfl, rfl⟩ ((by (repeat (first | apply sub_nil )); done) : List.Perm _ ([_] ++ _)) (by first | exact fun _ h => h | (intro r hr; cases hr; done) | (simp; done) | exact fun _ h => List.mem_append_left _ h | (intro r hr; simp [hr]; done))
  · rw [if_pos (.inr he)]
    refine fn_intro Try.func25 rfl Try.ntmps25 rfl (fun E => ?_)
    (repeat (first | ((first | (apply wo_v; rfl) ); (· first | (apply pv_ev; rfl) )) | apply wo_nil | apply wc_seq | apply wc_region ))
    (refine wo_call (c1) rfl (by (repeat (first | apply sub_nil )); done) (by first | exact fun _ h => h | (intro r hr; cases hr; done) | (simp; done) | exact fun _ h => List.mem_append_left _ h | (intro r hr; simp [hr]; done)) rfl ?_; rintro v L' R' ⟨rfl, rfl, rfl⟩ H' hH RR hR; simp only [List.cons_append, List.nil_append] at hH hR; subst hH; have hR := hR.symm; subst hR)
    (repeat (first | ((first | (apply wo_v; rfl) ); (· first | (apply pv_ev; rfl) | (apply g_bin; first | (apply a_mul; rfl; rfl; infer_instance; omega) ) | (apply g_conv; first | (apply a_conv; rfl; infer_instance; infer_instance; infer_instance; omega) ) )) ))
    (refine wo_call (c2) rfl (by (repeat (first | apply sub_nil )); done) (by first | exact fun _ h => h | (intro r hr; cases hr; done) | (simp; done) | exact fun _ h => List.mem_append_left _ h | (intro r hr; simp [hr]; done)) rfl ?_; rintro v L' R' ⟨rfl, rfl, rfl⟩ H' hH RR hR; simp only [List.cons_append, List.nil_append] at hH hR; subst hH; have hR := hR.symm; subst hR)
    (repeat (first | ((first | (apply wo_v; rfl) ); (· first | (apply pv_ev; rfl) | (apply g_un; first | (apply pv_not_t; rfl) ) )) | apply wo_nil | apply wc_seq | apply wc_region | (apply wo_run; rfl; rfl) ))
    (refine wo_call (octErr g r2.1 r2.2) rfl (by (repeat (first | apply sub_nil )); done) (by first | exact fun _ h => h | (intro r hr; cases hr; done) | (simp; done) | exact fun _ h => List.mem_append_left _ h | (intro r hr; simp [hr]; done)) rfl ?_; rintro v L' R' ⟨rfl, rfl, rfl⟩ H' hH RR hR; simp only [List.cons_append, List.nil_append] at hH hR; subst hH; have hR := hR.symm; subst hR)
    (repeat (first | ((first | (apply wo_v; rfl) ); (· first | (apply pv_ev; rfl) | (apply g_pick; first | (apply pv_pick_t; rfl; rfl) | (apply pv_pick_f; rfl; rfl)) )) | apply wo_nil | apply wc_seq | apply wc_region | apply wc_ret | (apply wc_true; rfl) | (apply wc_false; rfl) | (apply a_dec_t; rfl; (· first | assumption | omega)) | (apply wo_run; rfl; rfl) ))
    exact ret1 rfl rfl ⟨rfl, rfl, rfl⟩ ((by (repeat (first | apply sub_nil )); done) : List.Perm _ ([_] ++ _)) (by first | exact fun _ h => h | (intro r hr; cases hr; done) | (simp; done) | exact fun _ h => List.mem_append_left _ h | (intro r hr; simp [hr]; done))
end Go.Proofs.Yteaccbbmphcmnaa

/-
  Package rtcp: Parse.
-/
namespace Go.Proofs.Yteaccbbmphcmnaa
set_option linter.unusedSimpArgs false
set_option linter.unusedVariables false
open Go.RowKit
attribute [local irreducible] Pv WO WC Fn
set_option maxRecDepth 100000
attribute [local irreducible] ByteArray.extract

def paA (f : Bool) (r : Rs) : List Pkt × Int := paM (r.1.size + 1) f r
def bo (f : Bool) : Nat := if f = true then 1 else 0
theorem bo_le (f : Bool) : bo f ≤ 1 := by cases f <;> simp [bo]
theorem stM_le {r : Rs} : (stM r).2.1.size ≤ r.1.size := Nat.le_trans (stM_size r) (uK_size 1 r)
theorem paM_more : ∀ (n m : Nat) (f : Bool) (r : Rs), Ri r → r.1.size + bo f ≤ n → r.1.size + bo f ≤ m → paM n f r = paM m f r
  | 0, 0, _, _, _, _, _ => rfl
  | 0, m + 1, f, r, hr, h1, h2 => by
    have hf : f = false := by cases f with | false => rfl | true => simp [bo] at h1
    subst hf
    rw [paM, paM, if_pos ⟨by omega, by simp⟩]
  | n + 1, 0, f, r, hr, h1, h2 => by
    have hf : f = false := by cases f with | false => rfl | true => simp [bo] at h2
    subst hf
    rw [paM, paM, if_pos ⟨by omega, by simp⟩]
  | n + 1, m + 1, f, r, hr, h1, h2 => by
    rw [paM, paM]
    split
    · rfl
    · rename_i hc
      split
      · rfl
      · have hz : (stM r).2.1.size + bo false ≤ n ∧ (stM r).2.1.size + bo false ≤ m := by
          have e : bo false = 0 := rfl
          rw [e]
          by_cases h0 : 0 < r.1.size
          · have := stM_less hr h0; omega
          · have hf : f = true := by
              cases f with
              | true => rfl
              | false => exact absurd ⟨by omega, by simp⟩ hc
            subst hf
            have e2 : bo true = 1 := rfl
            have := stM_le (r := r)
            omega
        rw [paM_more n m false (stM r).2 (stM_ri hr) hz.1 hz.2]
theorem paA_end {f : Bool} {r : Rs} (h : r.1.size = 0 ∧ ¬ (f = true ∧ r.2 = 0)) : paA f r = ([], r.2) := by unfold paA; rw [paM, if_pos h]
theorem paA_err {f : Bool} {r : Rs} (h : ¬ (r.1.size = 0 ∧ ¬ (f = true ∧ r.2 = 0))) (he : (stM r).2.2 ≠ 0) : paA f r = ([], (stM r).2.2) := by unfold paA; rw [paM, if_neg h, if_pos he]
theorem paA_go {f : Bool} {r : Rs} (hr : Ri r) (h : ¬ (r.1.size = 0 ∧ ¬ (f = true ∧ r.2 = 0))) (he : (stM r).2.2 = 0) : paA f r = ((stM r).1 :: (paA false (stM r).2).1, (paA false (stM r).2).2) := by
  have := stM_le (r := r)
  unfold paA
  rw [paM, if_neg h, if_neg (by simp [he]), paM_more r.1.size ((stM r).2.1.size + 1) false (stM r).2 (stM_ri hr) (by show _ + 0 ≤ _; omega) (by show _ + 0 ≤ _; omega)]
abbrev pksO (ao : Option Addr) (n c : Nat) (vs : List Value) : It := .own 51 1 ao n c (one1 vs)
abbrev pksO' (ao : Option Addr) (n c : Nat) (xs : List (List Value)) : It := .own 51 1 ao n c xs
theorem pksO_snoc (ao : Option Addr) (n c : Nat) (vs : List Value) (v : Value) : pksO ao n c (vs ++ [v]) = pksO' ao n c (one1 vs ++ [[v]]) := by rw [pksO, one1_app]; rfl
theorem x6 {a : Int} (h : 0 ≤ a ∧ a ≤ 255) : a.fdiv (2 ^ (min (6 : Int).toNat IntKind.u8.bits)) = a / 64 := by
  show a.fdiv 64 = _
  exact Int.fdiv_eq_ediv_of_nonneg _ (by omega)
theorem repM_uK4 (n : Nat) {r : Rs} (h : Ri r) : Ri (repM (uK 4) n r).2 := repM_ri (fun r h => h.uK 4) n r h
theorem tBk_ri (r : Rs) (h : Ri r) : Ri (tBk r).2 := ((((((h.uK 4).uK 1).uK 3).uK 4).uK 4).uK 4).uK 4
theorem byE_ri {q : List Int × Rs} (h : Ri q.2) : Ri (byE q).2 := by
  unfold byE
  split
  · exact h
  · exact ((h.uK 1).rdB _).rdB _
theorem reC_ri (n m : Int) {r : Rs} (h : Ri r) : Ri (reC n m r) := by
  unfold reC
  split
  · exact h
  · exact h.rdF 2
theorem tkM_ri {r : Rs} (h : Ri r) (kd ct : Int) : Ri (tkM r kd ct).2 := by
  unfold tkM
  split
  · exact repM_ri tBk_ri _ _ (((((h.uK 4).uK 8).uK 4).uK 4).uK 4)
  split
  · exact repM_ri tBk_ri _ _ (h.uK 4)
  split
  · exact repM_ri tCh_ri _ _ h
  split
  · exact byE_ri (repM_uK4 _ h)
  split
  · exact tilM_ri tPr_ri _ _ ((h.uK 4).uK 4)
  split
  · exact (h.uK 4).uK 4
  split
  · exact tilM_ri tOr_ri _ _ ((h.uK 4).uK 4)
  split
  · exact reC_ri _ _ (tilM_ri (fun r h => h.uK 4) _ _ (reB_ri _ (((reA_ri ((h.uK 4).uK 4)).uK 1).uK 3)))
  · exact h.rdB _
set_option maxHeartbeats 16000000 in
theorem kParse (s : ByteArray) (hs : s.size ≤ 100000) : Fn Try.prog 9 #[.string s] [] []
    (fun v L' R' => ∃ ao c vs, v = .tuple #[.slice ao (pkM s).1.length c, .int .i64 (pkM s).2] ∧ SQ R' 1 ao (pkM s).1.length c (one1 vs) ∧ PksV R' (pkM s).1 vs ∧ ((pkM s).2 ≠ 0 → ao = none ∧ c = 0) ∧ L' = []) := by
  unfold pkM
  by_cases h0 : 1500 < s.size
  · rw [if_pos h0]
    refine fn_intro Try.func9 rfl Try.ntmps9 rfl (fun E => ?_)
    (repeat (first | ((first | (apply wo_v; rfl) ); (· first | (apply pv_ev; rfl) | (apply g_bi; first | (apply pv_len_str; rfl) ) )) | apply wo_nil | apply wc_seq | apply wc_region | apply wc_ret | (apply wc_true; rfl) | (apply wc_false; rfl) | (apply a_dec_t; rfl; (· first | assumption | omega)) ))
    exact ret2 rfl rfl rfl ⟨none, 0, [], rfl, SQ.nil _ _ _ _, PksV.nil _, fun _ => ⟨rfl, rfl⟩, rfl⟩ (by (repeat (first | apply sub_nil )); done) (by first | exact fun _ h => h | (intro r hr; cases hr; done) | (simp; done) | exact fun _ h => List.mem_append_left _ h | (intro r hr; simp [hr]; done))
  rw [if_neg h0, show paM (s.size + 1) true (s, 0) = paA true (s, 0) from rfl]
  generalize hQ : paA true (s, 0) = Q
  refine fn_intro Try.func9 rfl Try.ntmps9 rfl (fun E => ?_)
  (repeat (first | ((first | (apply wo_v; rfl) ); (· first | (apply pv_ev; rfl) | (apply g_bi; first | (apply pv_len_str; rfl) ) )) | apply wo_nil | apply wc_seq | apply wc_region | apply wc_skip | (apply wc_true; rfl) | (apply wc_false; rfl) | (apply a_dec_t; rfl; (· first | assumption | omega)) | (apply a_dec_f; rfl; (· first | assumption | omega)) ))
  (refine wo_call (octRead s) rfl (by (repeat (first | apply sub_nil )); done) (by first | exact fun _ h => h | (intro r hr; cases hr; done) | (simp; done) | exact fun _ h => List.mem_append_left _ h | (intro r hr; simp [hr]; done)) rfl ?_; rintro v L' R' ⟨g, rfl, rfl, rfl⟩ H' hH RR hR; simp only [List.cons_append, List.nil_append] at hH hR; subst hH; have hR := hR.symm; subst hR)
  (repeat (first | ((first | (apply wo_v; rfl) ); (· first | (apply pv_ev; rfl) )) | apply wo_nil | apply wc_seq | apply wc_region ))
  refine wc_own0 51 1 ?_
  refine wc_join0 (fun st => ∃ (l : List Pkt) (vs : List Value) (ao : Option Addr) (c : Nat) (r : Rs) (R : List Ro), r.2 = Q.2 ∧ (Q.2 = 0 → l = Q.1) ∧ PksV R l vs ∧ st = ⟨[(4, .pointer (some ⟨g, 0, none⟩)), (5, .slice ao l.length c)], [rdO g r.1 r.2, pksO ao l.length c vs], R⟩) ?_ ?_
  · refine wc_block ?_
    refine wc_loop' (fun q st => ∃ (f : Bool) (l : List Pkt) (vs : List Value) (ao : Option Addr) (c : Nat) (r : Rs) (R : List Ro), q = r.1.size + bo f ∧ (f = true ↔ l.length = 0) ∧ Ri r ∧ l.length + r.1.size ≤ 2000 - bo f ∧ l ++ (paA f r).1 = Q.1 ∧ (paA f r).2 = Q.2 ∧ PksV R l vs ∧ st = ⟨[(4, .pointer (some ⟨g, 0, none⟩)), (5, .slice ao l.length c)], [rdO g r.1 r.2, pksO ao l.length c vs], R⟩) ⟨true, [], [], none, 0, (s, 0), [], rfl, by simp, Ri.start s, by show 0 + s.size ≤ 2000 - 1; omega, by rw [hQ]; rfl, by rw [hQ], PksV.nil _, rfl⟩ (wk_mk (by (repeat (first | apply wkf_nil | (apply wkf_cons; rfl))); done) (by (repeat (first | apply sub_nil | (apply sub_cons; (· (repeat (first | apply sel_here | apply sel_there)))))); done) (by first | exact fun _ h => h | (intro r hr; cases hr; done) | (simp; done) | exact fun _ h => List.mem_append_left _ h | (intro r hr; simp [hr]; done))) ?_
    clear hQ
    rintro q st ⟨f, l, vs, ao, c, r, R, rfl, hf, hr, hlen, h1, h2, hV, rfl⟩
    have hvl := hV.1
    apply wc_seq
    refine wc_join (fun st => ¬ (r.1.size = 0 ∧ ¬ (f = true ∧ r.2 = 0)) ∧ st = ⟨[(4, .pointer (some ⟨g, 0, none⟩)), (5, .slice ao l.length c)], [rdO g r.1 r.2, pksO ao l.length c vs], R⟩) ?_ ?_
    · by_cases hc : r.1.size = 0 ∧ ¬ (f = true ∧ r.2 = 0)
      · obtain ⟨hz, hc⟩ := hc
        rw [paA_end ⟨hz, hc⟩] at h1 h2
        dsimp only at h1 h2
        rw [List.append_nil] at h1
        by_cases hl : l.length = 0
        · have he : r.2 ≠ 0 := fun h => hc ⟨hf.2 hl, h⟩
          (repeat (first | ((first | (apply wo_v; rfl) ); (· first | (apply pv_ev; rfl) )) | apply wc_seq | apply wc_region ))
          (refine wo_call (octLen g r.1 r.2) rfl (by (repeat (first | apply sub_nil )); done) (by first | exact fun _ h => h | (intro r hr; cases hr; done) | (simp; done) | exact fun _ h => List.mem_append_left _ h | (intro r hr; simp [hr]; done)) rfl ?_; rintro v L' R' ⟨rfl, rfl, rfl⟩ H' hH RR hR; simp only [List.cons_append, List.nil_append] at hH hR; subst hH; have hR := hR.symm; subst hR)
          (repeat (first | ((first | (apply wo_v; rfl) ); (· first | (apply pv_ev; rfl) | (apply g_bi; first | (apply pv_len_sl; rfl) ) )) | (apply wo_run; rfl; rfl) | (apply wo_skip; rfl; rfl; rfl; rfl) | (apply wo_skip_u; rfl; rfl; rfl) | (apply a_gt; rfl; rfl; (· first | assumption | omega)) | (apply a_gf; rfl; rfl; (· first | assumption | omega)) ))
          (refine wo_call (octErr g r.1 r.2) rfl (by (repeat (first | apply sub_nil )); done) (by first | exact fun _ h => h | (intro r hr; cases hr; done) | (simp; done) | exact fun _ h => List.mem_append_left _ h | (intro r hr; simp [hr]; done)) rfl ?_; rintro v L' R' ⟨rfl, rfl, rfl⟩ H' hH RR hR; simp only [List.cons_append, List.nil_append] at hH hR; subst hH; have hR := hR.symm; subst hR)
          (repeat (first | ((first | (apply wo_v; rfl) ); (· first | (apply pv_ev; rfl) | (apply g_pick; first | (apply pv_pick_t; rfl; rfl) | (apply pv_pick_f; rfl; rfl)) )) | apply wo_nil | (apply wc_exit; rfl) | (apply wc_true; rfl) | (apply wc_false; rfl) | (apply a_dec_t; rfl; (· first | assumption | omega)) | (apply a_dec_f; rfl; (· first | assumption | omega)) | (apply wo_run; rfl; rfl) ))
          exact cut_end ⟨l, vs, ao, c, r, R, h2, fun _ => h1, hV, rfl⟩ (wk_mk (by (repeat (first | apply wkf_nil | (apply wkf_cons; rfl))); done) (by (repeat (first | apply sub_nil )); done) (by first | exact fun _ h => h | (intro r hr; cases hr; done) | (simp; done) | exact fun _ h => List.mem_append_left _ h | (intro r hr; simp [hr]; done)))
        · (repeat (first | ((first | (apply wo_v; rfl) ); (· first | (apply pv_ev; rfl) )) | apply wc_seq | apply wc_region ))
          (refine wo_call (octLen g r.1 r.2) rfl (by (repeat (first | apply sub_nil )); done) (by first | exact fun _ h => h | (intro r hr; cases hr; done) | (simp; done) | exact fun _ h => List.mem_append_left _ h | (intro r hr; simp [hr]; done)) rfl ?_; rintro v L' R' ⟨rfl, rfl, rfl⟩ H' hH RR hR; simp only [List.cons_append, List.nil_append] at hH hR; subst hH; have hR := hR.symm; subst hR)
          (repeat (first | ((first | (apply wo_v; rfl) ); (· first | (apply pv_ev; rfl) | (apply g_pick; first | (apply pv_pick_t; rfl; rfl) | (apply pv_pick_f; rfl; rfl)) | (apply g_bi; first | (apply pv_len_sl; rfl) ) )) | apply wo_nil | (apply wc_exit; rfl) | (apply wc_true; rfl) | (apply wc_false; rfl) | (apply wo_run; rfl; rfl) | (apply wo_skip; rfl; rfl; rfl; rfl) | (apply wo_skip_u; rfl; rfl; rfl) | (apply a_gt; rfl; rfl; (· first | assumption | omega)) | (apply a_gf; rfl; rfl; (· first | assumption | omega)) ))
          exact cut_end ⟨l, vs, ao, c, r, R, h2, fun _ => h1, hV, rfl⟩ (wk_mk (by (repeat (first | apply wkf_nil | (apply wkf_cons; rfl))); done) (by (repeat (first | apply sub_nil )); done) (by first | exact fun _ h => h | (intro r hr; cases hr; done) | (simp; done) | exact fun _ h => List.mem_append_left _ h | (intro r hr; simp [hr]; done)))
      · have hgo : (0 < r.1.size ∧ True) ∨ (r.1.size = 0 ∧ l.length = 0 ∧ r.2 = 0) := by
          by_cases hz : 0 < r.1.size
          · exact .inl ⟨hz, trivial⟩
          · refine .inr ⟨by omega, ?_⟩
            cases f with
            | false => exact absurd ⟨by omega, by simp⟩ hc
            | true =>
              by_cases he : r.2 = 0
              · exact ⟨hf.1 rfl, he⟩
              · exact absurd ⟨by omega, fun h => he h.2⟩ hc
        rcases hgo with ⟨q1, _⟩ | ⟨q1, q2, q3⟩
        · (repeat (first | ((first | (apply wo_v; rfl) ); (· first | (apply pv_ev; rfl) )) | apply wc_seq | apply wc_region ))
          (refine wo_call (octLen g r.1 r.2) rfl (by (repeat (first | apply sub_nil )); done) (by first | exact fun _ h => h | (intro r hr; cases hr; done) | (simp; done) | exact fun _ h => List.mem_append_left _ h | (intro r hr; simp [hr]; done)) rfl ?_; rintro v L' R' ⟨rfl, rfl, rfl⟩ H' hH RR hR; simp only [List.cons_append, List.nil_append] at hH hR; subst hH; have hR := hR.symm; subst hR)
          (repeat (first | ((first | (apply wo_v; rfl) ); (· first | (apply pv_ev; rfl) | (apply g_pick; first | (apply pv_pick_t; rfl; rfl) ) )) | apply wo_nil | apply wc_skip | (apply wc_true; rfl) | (apply wo_run; rfl; rfl) | (apply wo_skip; rfl; rfl; rfl; rfl) | (apply wo_skip_u; rfl; rfl; rfl) | (apply a_gt; rfl; rfl; (· first | assumption | omega)) ))
          exact cut_end ⟨hc, rfl⟩ (wk_mk (by (repeat (first | apply wkf_nil | (apply wkf_cons; rfl))); done) (by (repeat (first | apply sub_nil )); done) (by first | exact fun _ h => h | (intro r hr; cases hr; done) | (simp; done) | exact fun _ h => List.mem_append_left _ h | (intro r hr; simp [hr]; done)))
        · (repeat (first | ((first | (apply wo_v; rfl) ); (· first | (apply pv_ev; rfl) )) | apply wc_seq | apply wc_region ))
          (refine wo_call (octLen g r.1 r.2) rfl (by (repeat (first | apply sub_nil )); done) (by first | exact fun _ h => h | (intro r hr; cases hr; done) | (simp; done) | exact fun _ h => List.mem_append_left _ h | (intro r hr; simp [hr]; done)) rfl ?_; rintro v L' R' ⟨rfl, rfl, rfl⟩ H' hH RR hR; simp only [List.cons_append, List.nil_append] at hH hR; subst hH; have hR := hR.symm; subst hR)
          (repeat (first | ((first | (apply wo_v; rfl) ); (· first | (apply pv_ev; rfl) | (apply g_bi; first | (apply pv_len_sl; rfl) ) )) | (apply wo_run; rfl; rfl) | (apply wo_skip; rfl; rfl; rfl; rfl) | (apply wo_skip_u; rfl; rfl; rfl) | (apply a_gt; rfl; rfl; (· first | assumption | omega)) | (apply a_gf; rfl; rfl; (· first | assumption | omega)) ))
          (refine wo_call (octErr g r.1 r.2) rfl (by (repeat (first | apply sub_nil )); done) (by first | exact fun _ h => h | (intro r hr; cases hr; done) | (simp; done) | exact fun _ h => List.mem_append_left _ h | (intro r hr; simp [hr]; done)) rfl ?_; rintro v L' R' ⟨rfl, rfl, rfl⟩ H' hH RR hR; simp only [List.cons_append, List.nil_append] at hH hR; subst hH; have hR := hR.symm; subst hR)
          (repeat (first | ((first | (apply wo_v; rfl) ); (· first | (apply pv_ev; rfl) | (apply g_pick; first | (apply pv_pick_t; rfl; rfl) | (apply pv_pick_f; rfl; rfl)) )) | apply wo_nil | apply wc_skip | (apply wc_true; rfl) | (apply wc_false; rfl) | (apply a_dec_t; rfl; (· first | assumption | omega)) | (apply wo_run; rfl; rfl) ))
          exact cut_end ⟨hc, rfl⟩ (wk_mk (by (repeat (first | apply wkf_nil | (apply wkf_cons; rfl))); done) (by (repeat (first | apply sub_nil )); done) (by first | exact fun _ h => h | (intro r hr; cases hr; done) | (simp; done) | exact fun _ h => List.mem_append_left _ h | (intro r hr; simp [hr]; done)))
    rintro st ⟨hc, rfl⟩
    have hless : (stM r).2.1.size + bo false < r.1.size + bo f := by
      have e : bo false = 0 := rfl
      rw [e]
      by_cases h0 : 0 < r.1.size
      · have := stM_less hr h0; omega
      · have hf : f = true := by
          cases f with
          | true => rfl
          | false => exact absurd ⟨by omega, by simp⟩ hc
        subst hf
        have e2 : bo true = 1 := rfl
        have := stM_le (r := r)
        omega
    have hri := stM_ri hr
    have hgoS : ((stM r).2.2 ≠ 0 ∧ l = Q.1 ∧ (stM r).2.2 = Q.2) ∨ ((stM r).2.2 = 0 ∧ l ++ ((stM r).1 :: (paA false (stM r).2).1) = Q.1 ∧ (paA false (stM r).2).2 = Q.2) := by
      by_cases he : (stM r).2.2 = 0
      · rw [paA_go hr hc he] at h1 h2
        exact .inr ⟨he, h1, h2⟩
      · rw [paA_err hc he] at h1 h2
        exact .inl ⟨he, by simpa using h1, h2⟩
    clear h1 h2 hc
    unfold stM at hgoS hless hri
    dsimp only at hgoS hless hri
    have s1 := uK_size 1 r
    have b1 := uK1_b r
    have c1 := rU8 g r (by omega)
    have i1 := hr.uK 1
    generalize uK 1 r = y at *
    obtain ⟨a, r1⟩ := y
    dsimp only at *
    have s2 := uK_size 1 r1
    have b2 := uK1_b r1
    have c2 := rU8 g r1 (by omega)
    have i2 := i1.uK 1
    generalize uK 1 r1 = y at *
    obtain ⟨k, r2⟩ := y
    dsimp only at *
    have s3 := hdM_size a k r2
    have i3 := hdM_ri a k i2
    apply wc_block
    apply wc_seq
    apply wc_region
    (repeat (first | ((first | (apply wo_v; rfl) ); (· first | (apply pv_ev; rfl) )) ))
    (refine wo_call (c1) rfl (by (repeat (first | apply sub_nil )); done) (by first | exact fun _ h => h | (intro r hr; cases hr; done) | (simp; done) | exact fun _ h => List.mem_append_left _ h | (intro r hr; simp [hr]; done)) rfl ?_; rintro v L' R' ⟨rfl, rfl, rfl⟩ H' hH RR hR; simp only [List.cons_append, List.nil_append] at hH hR; subst hH; have hR := hR.symm; subst hR)
    (repeat (first | ((first | (apply wo_v; rfl) ); (· first | (apply pv_ev; rfl) )) ))
    (refine wo_call (c2) rfl (by (repeat (first | apply sub_nil )); done) (by first | exact fun _ h => h | (intro r hr; cases hr; done) | (simp; done) | exact fun _ h => List.mem_append_left _ h | (intro r hr; simp [hr]; done)) rfl ?_; rintro v L' R' ⟨rfl, rfl, rfl⟩ H' hH RR hR; simp only [List.cons_append, List.nil_append] at hH hR; subst hH; have hR := hR.symm; subst hR)
    (repeat (first | ((first | (apply wo_v; rfl) ); (· first | (apply pv_ev; rfl) )) | apply wo_nil))
    apply wc_seq
    refine wc_join0 (fun st => st = ⟨[(4, .pointer (some ⟨g, 0, none⟩)), (5, .slice ao l.length c), (6, .int .u8 a), (7, .int .u8 k)], [rdO g (hdM a k r2).1 (hdM a k r2).2, pksO ao l.length c vs], R⟩) ?_ ?_
    · have e6 := x6 b1
      unfold hdM
      have hd : (r2.2 ≠ 0 ∧ True) ∨ (r2.2 = 0 ∧ a / 64 ≠ 2 ∧ True) ∨ (r2.2 = 0 ∧ a / 64 = 2 ∧ k < 192 ∧ True) ∨ (r2.2 = 0 ∧ a / 64 = 2 ∧ ¬ k < 192 ∧ 223 < k ∧ True) ∨ (r2.2 = 0 ∧ a / 64 = 2 ∧ ¬ k < 192 ∧ ¬ 223 < k) := by
        by_cases q1 : r2.2 = 0
        · by_cases q2 : a / 64 = 2
          · by_cases q3 : k < 192
            · exact .inr (.inr (.inl ⟨q1, q2, q3, trivial⟩))
            · by_cases q4 : 223 < k
              · exact .inr (.inr (.inr (.inl ⟨q1, q2, q3, q4, trivial⟩)))
              · exact .inr (.inr (.inr (.inr ⟨q1, q2, q3, q4⟩)))
          · exact .inr (.inl ⟨q1, q2, trivial⟩)
        · exact .inl ⟨q1, trivial⟩
      rcases hd with ⟨q1, _⟩ | ⟨q1, q2, _⟩ | ⟨q1, q2, q3, _⟩ | ⟨q1, q2, q3, q4, _⟩ | ⟨q1, q2, q3, q4⟩
      · rw [if_neg (by omega)]
        (repeat (first | ((first | (apply wo_v; rfl) ); (· first | (apply pv_ev; rfl) )) | apply wc_seq | apply wc_region ))
        (refine wo_call (octErr g r2.1 r2.2) rfl (by (repeat (first | apply sub_nil )); done) (by first | exact fun _ h => h | (intro r hr; cases hr; done) | (simp; done) | exact fun _ h => List.mem_append_left _ h | (intro r hr; simp [hr]; done)) rfl ?_; rintro v L' R' ⟨rfl, rfl, rfl⟩ H' hH RR hR; simp only [List.cons_append, List.nil_append] at hH hR; subst hH; have hR := hR.symm; subst hR)
        (repeat (first | ((first | (apply wo_v; rfl) ); (· first | (apply pv_ev; rfl) | (apply g_pick; first | (apply pv_pick_t; rfl; rfl) | (apply pv_pick_f; rfl; rfl)) )) | apply wo_nil | apply wc_skip | (apply wc_true; rfl) | (apply wc_false; rfl) | (apply wo_run; rfl; rfl) | (apply wo_skip; rfl; rfl; rfl; rfl) | (apply wo_skip_u; rfl; rfl; rfl) | (apply a_gt; rfl; rfl; (· first | assumption | omega)) | (apply a_gf; rfl; rfl; (· first | assumption | omega)) ))
        exact cut_end rfl (wk_mk (by (repeat (first | apply wkf_nil | (apply wkf_cons; rfl))); done) (by (repeat (first | apply sub_nil )); done) (by first | exact fun _ h => h | (intro r hr; cases hr; done) | (simp; done) | exact fun _ h => List.mem_append_left _ h | (intro r hr; simp [hr]; done)))
      · rw [if_pos (by omega)]
        (repeat (first | ((first | (apply wo_v; rfl) ); (· first | (apply pv_ev; rfl) )) | apply wc_seq | apply wc_region ))
        (refine wo_call (octErr g r2.1 r2.2) rfl (by (repeat (first | apply sub_nil )); done) (by first | exact fun _ h => h | (intro r hr; cases hr; done) | (simp; done) | exact fun _ h => List.mem_append_left _ h | (intro r hr; simp [hr]; done)) rfl ?_; rintro v L' R' ⟨rfl, rfl, rfl⟩ H' hH RR hR; simp only [List.cons_append, List.nil_append] at hH hR; subst hH; have hR := hR.symm; subst hR)
        (repeat (first | ((first | (apply wo_v; rfl) ); (· first | (apply pv_ev; rfl) | (apply g_pick; first | (apply pv_pick_t; rfl; rfl) ) | (apply g_bin; first | (apply a_shr; rfl; rfl; rfl; omega; rfl) ) )) | apply wo_nil | apply wc_region | (apply wc_true; rfl) | (apply wo_run; rfl; rfl) | (apply wo_skip; rfl; rfl; rfl; rfl) | (apply wo_skip_u; rfl; rfl; rfl) | (apply a_gt; rfl; rfl; (· first | assumption | omega)) ))
        (refine wo_call (octFail g r2.1 r2.2 2) rfl (by (repeat (first | apply sub_nil )); done) (by first | exact fun _ h => h | (intro r hr; cases hr; done) | (simp; done) | exact fun _ h => List.mem_append_left _ h | (intro r hr; simp [hr]; done)) rfl ?_; rintro v L' R' ⟨rfl, rfl, rfl⟩ H' hH RR hR; simp only [List.cons_append, List.nil_append] at hH hR; subst hH; have hR := hR.symm; subst hR)
        (repeat (first | apply wo_nil ))
        exact cut_end rfl (wk_mk (by (repeat (first | apply wkf_nil | (apply wkf_cons; rfl))); done) (by (repeat (first | apply sub_nil )); done) (by first | exact fun _ h => h | (intro r hr; cases hr; done) | (simp; done) | exact fun _ h => List.mem_append_left _ h | (intro r hr; simp [hr]; done)))
      · rw [if_pos (by omega)]
        (repeat (first | ((first | (apply wo_v; rfl) ); (· first | (apply pv_ev; rfl) )) | apply wc_seq | apply wc_region ))
        (refine wo_call (octErr g r2.1 r2.2) rfl (by (repeat (first | apply sub_nil )); done) (by first | exact fun _ h => h | (intro r hr; cases hr; done) | (simp; done) | exact fun _ h => List.mem_append_left _ h | (intro r hr; simp [hr]; done)) rfl ?_; rintro v L' R' ⟨rfl, rfl, rfl⟩ H' hH RR hR; simp only [List.cons_append, List.nil_append] at hH hR; subst hH; have hR := hR.symm; subst hR)
        (repeat (first | ((first | (apply wo_v; rfl) ); (· first | (apply pv_ev; rfl) | (apply g_pick; first | (apply pv_pick_t; rfl; rfl) | (apply pv_pick_f; rfl; rfl)) | (apply g_bin; first | (apply a_shr; rfl; rfl; rfl; omega; rfl) ) )) | apply wo_nil | apply wc_region | (apply wc_true; rfl) | (apply wo_run; rfl; rfl) | (apply wo_skip; rfl; rfl; rfl; rfl) | (apply wo_skip_u; rfl; rfl; rfl) | (apply a_gt; rfl; rfl; (· first | assumption | omega)) | (apply a_gf; rfl; rfl; (· first | assumption | omega)) ))
        (refine wo_call (octFail g r2.1 r2.2 2) rfl (by (repeat (first | apply sub_nil )); done) (by first | exact fun _ h => h | (intro r hr; cases hr; done) | (simp; done) | exact fun _ h => List.mem_append_left _ h | (intro r hr; simp [hr]; done)) rfl ?_; rintro v L' R' ⟨rfl, rfl, rfl⟩ H' hH RR hR; simp only [List.cons_append, List.nil_append] at hH hR; subst hH; have hR := hR.symm; subst hR)
        (repeat (first | apply wo_nil ))
        exact cut_end rfl (wk_mk (by (repeat (first | apply wkf_nil | (apply wkf_cons; rfl))); done) (by (repeat (first | apply sub_nil )); done) (by first | exact fun _ h => h | (intro r hr; cases hr; done) | (simp; done) | exact fun _ h => List.mem_append_left _ h | (intro r hr; simp [hr]; done)))
      · rw [if_pos (by omega)]
        (repeat (first | ((first | (apply wo_v; rfl) ); (· first | (apply pv_ev; rfl) )) | apply wc_seq | apply wc_region ))
        (refine wo_call (octErr g r2.1 r2.2) rfl (by (repeat (first | apply sub_nil )); done) (by first | exact fun _ h => h | (intro r hr; cases hr; done) | (simp; done) | exact fun _ h => List.mem_append_left _ h | (intro r hr; simp [hr]; done)) rfl ?_; rintro v L' R' ⟨rfl, rfl, rfl⟩ H' hH RR hR; simp only [List.cons_append, List.nil_append] at hH hR; subst hH; have hR := hR.symm; subst hR)
        (repeat (first | ((first | (apply wo_v; rfl) ); (· first | (apply pv_ev; rfl) | (apply g_pick; first | (apply pv_pick_t; rfl; rfl) | (apply pv_pick_f; rfl; rfl)) | (apply g_bin; first | (apply a_shr; rfl; rfl; rfl; omega; rfl) ) )) | apply wo_nil | apply wc_region | (apply wc_true; rfl) | (apply wc_false; rfl) | (apply a_dec_t; rfl; (· first | assumption | omega)) | (apply wo_run; rfl; rfl) | (apply wo_skip; rfl; rfl; rfl; rfl) | (apply wo_skip_u; rfl; rfl; rfl) | (apply a_gt; rfl; rfl; (· first | assumption | omega)) | (apply a_gf; rfl; rfl; (· first | assumption | omega)) ))
        (refine wo_call (octFail g r2.1 r2.2 2) rfl (by (repeat (first | apply sub_nil )); done) (by first | exact fun _ h => h | (intro r hr; cases hr; done) | (simp; done) | exact fun _ h => List.mem_append_left _ h | (intro r hr; simp [hr]; done)) rfl ?_; rintro v L' R' ⟨rfl, rfl, rfl⟩ H' hH RR hR; simp only [List.cons_append, List.nil_append] at hH hR; subst hH; have hR := hR.symm; subst hR)
        (repeat (first | apply wo_nil ))
        exact cut_end rfl (wk_mk (by (repeat (first | apply wkf_nil | (apply wkf_cons; rfl))); done) (by (repeat (first | apply sub_nil )); done) (by first | exact fun _ h => h | (intro r hr; cases hr; done) | (simp; done) | exact fun _ h => List.mem_append_left _ h | (intro r hr; simp [hr]; done)))
      · rw [if_neg (by omega)]
        (repeat (first | ((first | (apply wo_v; rfl) ); (· first | (apply pv_ev; rfl) )) | apply wc_seq | apply wc_region ))
        (refine wo_call (octErr g r2.1 r2.2) rfl (by (repeat (first | apply sub_nil )); done) (by first | exact fun _ h => h | (intro r hr; cases hr; done) | (simp; done) | exact fun _ h => List.mem_append_left _ h | (intro r hr; simp [hr]; done)) rfl ?_; rintro v L' R' ⟨rfl, rfl, rfl⟩ H' hH RR hR; simp only [List.cons_append, List.nil_append] at hH hR; subst hH; have hR := hR.symm; subst hR)
        (repeat (first | ((first | (apply wo_v; rfl) ); (· first | (apply pv_ev; rfl) | (apply g_pick; first | (apply pv_pick_t; rfl; rfl) | (apply pv_pick_f; rfl; rfl)) | (apply g_bin; first | (apply a_shr; rfl; rfl; rfl; omega; rfl) ) )) | apply wo_nil | apply wc_skip | (apply wc_true; rfl) | (apply wc_false; rfl) | (apply a_dec_t; rfl; (· first | assumption | omega)) | (apply a_dec_f; rfl; (· first | assumption | omega)) | (apply wo_run; rfl; rfl) | (apply wo_skip; rfl; rfl; rfl; rfl) | (apply wo_skip_u; rfl; rfl; rfl) | (apply a_gt; rfl; rfl; (· first | assumption | omega)) | (apply a_gf; rfl; rfl; (· first | assumption | omega)) ))
        exact cut_end rfl (wk_mk (by (repeat (first | apply wkf_nil | (apply wkf_cons; rfl))); done) (by (repeat (first | apply sub_nil )); done) (by first | exact fun _ h => h | (intro r hr; cases hr; done) | (simp; done) | exact fun _ h => List.mem_append_left _ h | (intro r hr; simp [hr]; done)))
    rintro st rfl
    generalize hdM a k r2 = r3 at *
    clear c1 c2
    have x2 : decide (0 < bits .and .u8 a 32) = decide (a / 32 % 2 = 1) := by rw [and8_32 b1]; exact decide_eq_decide.2 (by omega)
    have x3 := and8_31 b1
    have c3 := kBody g r3 (by omega) (decide (a / 32 % 2 = 1))
    have hb : (bdM r3 (decide (a / 32 % 2 = 1))).1.size ≤ 1000000 ∧ (bdM r3 (decide (a / 32 % 2 = 1))).2.1.size ≤ r3.1.size := by
      unfold bdM
      have h1 := bdE_size (decide (a / 32 % 2 = 1)) (rdB (uK 2 r3).2.1 (uK 2 r3).2.2 (4 * (uK 2 r3).1)).1 (rdB (uK 2 r3).2.1 (uK 2 r3).2.2 (4 * (uK 2 r3).1)).2
      have h2 := uK2_b r3
      have h3 := rdB_size (uK 2 r3).2.1 (uK 2 r3).2.2 (4 * (uK 2 r3).1) (by omega)
      have h4 := rdB_size2 (uK 2 r3).2.1 (uK 2 r3).2.2 (4 * (uK 2 r3).1)
      have h5 := uK_size 2 r3
      omega
    generalize bdM r3 (decide (a / 32 % 2 = 1)) = y at *
    obtain ⟨b, r4⟩ := y
    dsimp only at *
    (repeat (first | ((first | (apply wo_v; rfl) ); (· first | (apply pv_ev; rfl) | (apply g_bin; first | (apply pv_and; rfl; rfl) ) )) | apply wc_seq | apply wc_region ))
    rw [x2]
    (refine wo_call (c3) rfl (by (repeat (first | apply sub_nil )); done) (by first | exact fun _ h => h | (intro r hr; cases hr; done) | (simp; done) | exact fun _ h => List.mem_append_left _ h | (intro r hr; simp [hr]; done)) rfl ?_; rintro v L' R' ⟨rfl, rfl, rfl⟩ H' hH RR hR; simp only [List.cons_append, List.nil_append] at hH hR; subst hH; have hR := hR.symm; subst hR)
    (repeat (first | ((first | (apply wo_v; rfl) ); (· first | (apply pv_ev; rfl) )) ))
    (refine wo_call (octRead b) rfl (by (repeat (first | apply sub_nil )); done) (by first | exact fun _ h => h | (intro r hr; cases hr; done) | (simp; done) | exact fun _ h => List.mem_append_left _ h | (intro r hr; simp [hr]; done)) rfl ?_; rintro v L' R' ⟨gb, rfl, rfl, rfl⟩ H' hH RR hR; simp only [List.cons_append, List.nil_append] at hH hR; subst hH; have hR := hR.symm; subst hR)
    (repeat (first | ((first | (apply wo_v; rfl) ); (· first | (apply pv_ev; rfl) )) | apply wo_nil | apply wc_seq | apply wc_region ))
    (refine wo_call (octErr g r4.1 r4.2) rfl (by (repeat (first | apply sub_nil | (apply sub_cons; (· (repeat (first | apply sel_here | apply sel_there)))))); done) (by first | exact fun _ h => h | (intro r hr; cases hr; done) | (simp; done) | exact fun _ h => List.mem_append_left _ h | (intro r hr; simp [hr]; done)) rfl ?_; rintro v L' R' ⟨rfl, rfl, rfl⟩ H' hH RR hR; simp only [List.cons_append, List.nil_append] at hH hR; subst hH; have hR := hR.symm; subst hR)
    unfold stB at hgoS hless hri
    by_cases he4 : r4.2 = 0
    · rw [if_neg (by simp [he4])] at hgoS hless hri
      dsimp only at hgoS hless hri
      have c4 := kTake gb (b, 0) (Ri.start b) hb.1 k (a % 32) (by omega)
      have hri5 : Ri (tkM (b, 0) k (a % 32)).2 := tkM_ri (Ri.start b) k _
      generalize tkM (b, 0) k (a % 32) = y at *
      obtain ⟨p, r5⟩ := y
      dsimp only at *
      have c5 := octEnd gb r5.1 r5.2 hri5
      have c6 := octFail g r4.1 r4.2 (rdE r5.1 r5.2)
      (repeat (first | ((first | (apply wo_v; rfl) ); (· first | (apply pv_ev; rfl) | (apply g_bin; first | (apply pv_and; rfl; rfl) ) )) | apply wo_nil | apply wc_seq | apply wc_region | apply wc_skip | (apply wc_true; rfl) | (apply wc_false; rfl) | (apply a_dec_t; rfl; (· first | assumption | omega)) | (apply a_dec_f; rfl; (· first | assumption | omega)) ))
      rw [x3]
      (refine wo_call (c4) rfl (by (repeat (first | apply sub_nil | (apply sub_cons; (· (repeat (first | apply sel_here | apply sel_there)))))); done) (by first | exact fun _ h => h | (intro r hr; cases hr; done) | (simp; done) | exact fun _ h => List.mem_append_left _ h | (intro r hr; simp [hr]; done)) rfl ?_; rintro v L' R' ⟨hp, rfl⟩ H' hH RR hR; simp only [List.cons_append, List.nil_append] at hH hR; subst hH; have hR := hR.symm; subst hR)
      (repeat (first | ((first | (apply wo_v; rfl) ); (· first | (apply pv_ev; rfl) )) | apply wo_nil | apply wc_seq | apply wc_region ))
      (refine wo_call (c5) rfl (by (repeat (first | apply sub_nil )); done) (by first | exact fun _ h => h | (intro r hr; cases hr; done) | (simp; done) | exact fun _ h => List.mem_append_left _ h | (intro r hr; simp [hr]; done)) rfl ?_; rintro v L' R' ⟨rfl, rfl, rfl⟩ H' hH RR hR; simp only [List.cons_append, List.nil_append] at hH hR; subst hH; have hR := hR.symm; subst hR)
      have ef : (rdF r4.1 r4.2 (rdE r5.1 r5.2)).2 = rdE r5.1 r5.2 := by
        unfold rdF
        split
        · rfl
        · rename_i hh; show r4.2 = _; rw [he4]
          by_cases h9 : rdE r5.1 r5.2 = 0
          · exact h9.symm
          · exact absurd ⟨he4, h9⟩ hh
      rw [ef] at hgoS
      by_cases he5 : rdE r5.1 r5.2 = 0
      · have ef2 : rdF r4.1 r4.2 (rdE r5.1 r5.2) = r4 := by unfold rdF; rw [if_neg (fun h => h.2 he5)]
        rw [ef2] at hgoS hless hri
        obtain ⟨_, h1, h2⟩ := hgoS.resolve_left (fun h => h.1 he5)
        have h1v := hp.one
        (repeat (first | ((first | (apply wo_v; rfl) ); (· first | (apply pv_ev; rfl) )) | apply wo_nil | apply wc_seq | apply wc_region | apply wc_skip | (apply wc_true; rfl) | (apply wc_false; rfl) | (apply a_dec_t; rfl; (· first | assumption | omega)) | (apply a_dec_f; rfl; (· first | assumption | omega)) | (apply wo_bsl; (· (repeat (first | (apply Rws'.one; rfl; rfl; rfl) | (apply Rws'.agg; rfl; rfl; rfl)))); rfl; rfl; rfl; rfl; intro bx) ))
        refine wo_bsl (xs := [[v]]) (Rws'.one rfl h1v rfl .nil) rfl rfl rfl rfl (fun bx => ?_)
        refine wo_app rfl rfl (by (repeat (first | apply sel_here | apply sel_there)); done) (by (repeat (first | apply sel_here )); done) (by unfold maxLen; omega) (by omega) rfl (fun ao2 c2 => ?_)
        (repeat (first | ((first | (apply wo_v; rfl) ); (· first | (apply pv_ev; rfl) )) | apply wo_nil ))
        exact loop_end ⟨false, l ++ [p], vs ++ [v], ao2, c2, r4, R' ++ R, rfl, by simp, hri, by have e : bo false = 0 := rfl; rw [List.length_append, List.length_singleton, e]; have := bo_le f; omega, by rw [List.append_assoc]; exact h1, h2, (hV.mono (fun r hr => List.mem_append_right _ hr)).snoc (hp.mono (fun r hr => List.mem_append_left _ hr)), by rw [List.length_append, List.length_singleton, pksO_snoc]⟩ hless (wk_mk (by (repeat (first | apply wkf_nil | (apply wkf_cons; rfl))); done) (by (repeat (first | apply sub_nil | (apply sub_cons; (· (repeat (first | apply sel_here | apply sel_there)))))); done) (by first | exact fun _ h => h | (intro r hr; cases hr; done) | (simp; done) | exact fun _ h => List.mem_append_left _ h | (intro r hr; simp [hr]; done)))
      · obtain ⟨_, h1, h2⟩ := hgoS.resolve_right (fun h => he5 h.1)
        (repeat (first | ((first | (apply wo_v; rfl) ); (· first | (apply pv_ev; rfl) )) | apply wo_nil | apply wc_seq | apply wc_region | (apply wc_true; rfl) | (apply wc_false; rfl) | (apply a_dec_t; rfl; (· first | assumption | omega)) ))
        (refine wo_call (c6) rfl (by (repeat (first | apply sub_nil | (apply sub_cons; (· (repeat (first | apply sel_here | apply sel_there)))))); done) (by first | exact fun _ h => h | (intro r hr; cases hr; done) | (simp; done) | exact fun _ h => List.mem_append_left _ h | (intro r hr; simp [hr]; done)) rfl ?_; rintro v L' R' ⟨rfl, rfl, rfl⟩ H' hH RR hR; simp only [List.cons_append, List.nil_append] at hH hR; subst hH; have hR := hR.symm; subst hR)
        (repeat (first | apply wo_nil | (apply wc_exit; rfl) ))
        exact cut_end ⟨l, vs, ao, c, _, R' ++ R, ef.trans h2, fun _ => h1, hV.mono (fun r hr => List.mem_append_right _ hr), rfl⟩ (wk_mk (by (repeat (first | apply wkf_nil | (apply wkf_cons; rfl))); done) (by (repeat (first | apply sub_nil | (apply sub_cons; (· (repeat (first | apply sel_here | apply sel_there)))))); done) (by first | exact fun _ h => h | (intro r hr; cases hr; done) | (simp; done) | exact fun _ h => List.mem_append_left _ h | (intro r hr; simp [hr]; done)))
    · rw [if_pos he4] at hgoS hless hri
      obtain ⟨_, h1, h2⟩ := hgoS.resolve_right (fun h => he4 h.1)
      (repeat (first | ((first | (apply wo_v; rfl) ); (· first | (apply pv_ev; rfl) )) | apply wo_nil | (apply wc_exit; rfl) | (apply wc_true; rfl) | (apply wc_false; rfl) | (apply a_dec_t; rfl; (· first | assumption | omega)) ))
      exact cut_end ⟨l, vs, ao, c, r4, R, h2, fun _ => h1, hV, rfl⟩ (wk_mk (by (repeat (first | apply wkf_nil | (apply wkf_cons; rfl))); done) (by (repeat (first | apply sub_nil | (apply sub_cons; (· (repeat (first | apply sel_here | apply sel_there)))))); done) (by first | exact fun _ h => h | (intro r hr; cases hr; done) | (simp; done) | exact fun _ h => List.mem_append_left _ h | (intro r hr; simp [hr]; done)))
  rintro st ⟨l, vs, ao, c, r, R, h1, h2, hV, rfl⟩
  (repeat (first | ((first | (apply wo_v; rfl) ); (· first | (apply pv_ev; rfl) )) | apply wc_seq | apply wc_region ))
  (refine wo_call (octErr g r.1 r.2) rfl (by (repeat (first | apply sub_nil )); done) (by first | exact fun _ h => h | (intro r hr; cases hr; done) | (simp; done) | exact fun _ h => List.mem_append_left _ h | (intro r hr; simp [hr]; done)) rfl ?_; rintro v L' R' ⟨rfl, rfl, rfl⟩ H' hH RR hR; simp only [List.cons_append, List.nil_append] at hH hR; subst hH; have hR := hR.symm; subst hR)
  rw [h1]
  by_cases he : Q.2 = 0
  · rw [if_neg (by simp [he])]
    have h2 := h2 he
    subst h2
    refine wo_still (ao := ao) (n := Q.1.length) (c := c) (by (repeat (first | apply sel_here | apply sel_there)); done) (fun R1 hS1 => ?_)
    (repeat (first | ((first | (apply wo_v; rfl) ); (· first | (apply pv_ev; rfl) )) | apply wo_nil | apply wc_seq | apply wc_region | apply wc_skip | apply wc_ret | (apply wc_true; rfl) | (apply wc_false; rfl) | (apply a_dec_t; rfl; (· first | assumption | omega)) | (apply a_dec_f; rfl; (· first | assumption | omega)) ))
    exact ret2 rfl rfl rfl ⟨ao, c, vs, rfl, hS1.sq, hV.mono (fun r hr => List.mem_append_right _ hr), fun h => absurd rfl h, rfl⟩ (by (repeat (first | apply sub_nil )); done) (by first | exact fun _ h => h | (intro r hr; cases hr; done) | (simp; done) | exact fun _ h => List.mem_append_left _ h | (intro r hr; simp [hr]; done))
  · rw [if_pos he]
    (repeat (first | ((first | (apply wo_v; rfl) ); (· first | (apply pv_ev; rfl) )) | apply wo_nil | apply wc_seq | apply wc_region | apply wc_ret | (apply wc_true; rfl) | (apply wc_false; rfl) | (apply a_dec_t; rfl; (· first | assumption | omega)) ))
    exact ret2 rfl rfl rfl ⟨none, 0, [], rfl, SQ.nil _ _ _ _, PksV.nil _, fun _ => ⟨rfl, rfl⟩, rfl⟩ (by (repeat (first | apply sub_nil )); done) (by first | exact fun _ h => h | (intro r hr; cases hr; done) | (simp; done) | exact fun _ h => List.mem_append_left _ h | (intro r hr; simp [hr]; done))
end Go.Proofs.Yteaccbbmphcmnaa

/-
  Layer 5, plain: what is read may be, and is written by no more bytes.
-/
namespace Go.Proofs.Yteaccbbmphcmnaa
set_option linter.unusedSimpArgs false
set_option linter.unusedVariables false
open Go.RowKit
set_option maxRecDepth 100000
attribute [local irreducible] ByteArray.extract

theorem rdB_ok {s : ByteArray} {e n : Int} (h : (rdB s e n).2.2 = 0) : e = 0 ∧ 0 ≤ n ∧ n ≤ s.size ∧ ((rdB s e n).1.size : Int) = n ∧ (s.size : Int) = n + (rdB s e n).2.1.size := by
  unfold rdB at h ⊢
  by_cases h0 : e ≠ 0
  · rw [if_pos h0] at h; exact absurd h h0
  · rw [if_neg h0] at h ⊢
    by_cases h1 : n < 0
    · rw [if_pos h1] at h; cases h
    · rw [if_neg h1] at h ⊢
      by_cases h2 : (s.size : Int) < n
      · rw [if_pos h2] at h; cases h
      · rw [if_neg h2]
        refine ⟨by simpa using h0, by omega, by omega, ?_, ?_⟩
        · simp only [ByteArray.size_extract]; omega
        · simp only [ByteArray.size_extract]; omega
/-- a part that takes m bytes -/
def Eat {α : Type} (f : Rs → α × Rs) (m : Nat) (P : α → Prop) : Prop := ∀ r, (f r).2.2 = 0 → r.2 = 0 ∧ r.1.size = m + (f r).2.1.size ∧ P (f r).1
theorem eat_uK (k : Nat) : Eat (uK k) k (fun x => 0 ≤ x ∧ x < 256 ^ k) := fun r h => by
  obtain ⟨h1, h2, h3, h4, h5⟩ := rdB_ok (s := r.1) (e := r.2) (n := k) h
  refine ⟨h1, ?_, uK_b k r⟩
  show r.1.size = k + (rdB r.1 r.2 k).2.1.size
  omega
theorem eat1 : Eat (uK 1) 1 in8 := fun r h => by
  obtain ⟨h1, h2, h3⟩ := eat_uK 1 r h
  exact ⟨h1, h2, uK1_b r⟩
theorem eat2 : Eat (uK 2) 2 in16 := fun r h => by
  obtain ⟨h1, h2, h3⟩ := eat_uK 2 r h
  exact ⟨h1, h2, uK2_b r⟩
theorem eat3 : Eat (uK 3) 3 (fun x => 0 ≤ x ∧ x ≤ 16777215) := fun r h => by
  obtain ⟨h1, h2, h3⟩ := eat_uK 3 r h
  exact ⟨h1, h2, uK3_b r⟩
theorem eat4 : Eat (uK 4) 4 in32 := fun r h => by
  obtain ⟨h1, h2, h3⟩ := eat_uK 4 r h
  exact ⟨h1, h2, uK4_b r⟩
theorem eat8 : Eat (uK 8) 8 in64 := fun r h => by
  obtain ⟨h1, h2, h3⟩ := eat_uK 8 r h
  exact ⟨h1, h2, uK8_b r⟩
theorem repM_eat {α : Type} {f : Rs → α × Rs} {m : Nat} {P : α → Prop} (hf : Eat f m P) : ∀ (n : Nat) (r : Rs), (repM f n r).2.2 = 0 → r.2 = 0 ∧ r.1.size = m * n + (repM f n r).2.1.size ∧ ∀ x ∈ (repM f n r).1, P x
  | 0, r, h => ⟨h, by show r.1.size = m * 0 + r.1.size; omega, fun x hx => by cases hx⟩
  | n + 1, r, h => by
    obtain ⟨h1, h2, h3⟩ := repM_eat hf n (f r).2 h
    obtain ⟨h4, h5, h6⟩ := hf r h1
    refine ⟨h4, ?_, fun x hx => ?_⟩
    · show r.1.size = m * (n + 1) + (repM f n (f r).2).2.1.size
      rw [Nat.mul_add]; omega
    · rcases List.mem_cons.1 hx with rfl | hx
      · exact h6
      · exact h3 x hx
theorem tilM_eat {α : Type} {f : Rs → α × Rs} {m : Nat} {P : α → Prop} (hf : Eat f m P) : ∀ (n : Nat) (r : Rs), (tilM f n r).2.2 = 0 → r.2 = 0 ∧ r.1.size = m * (tilM f n r).1.length + (tilM f n r).2.1.size ∧ ∀ x ∈ (tilM f n r).1, P x
  | 0, r, h => ⟨h, by show r.1.size = m * 0 + r.1.size; omega, fun x hx => by cases hx⟩
  | n + 1, r, h => by
    by_cases h0 : r.1.size = 0
    · rw [tilM, if_pos h0] at h ⊢
      exact ⟨h, by show r.1.size = m * 0 + r.1.size; omega, fun x hx => by cases hx⟩
    · rw [tilM, if_neg h0] at h ⊢
      obtain ⟨h1, h2, h3⟩ := tilM_eat hf n (f r).2 h
      obtain ⟨h4, h5, h6⟩ := hf r h1
      refine ⟨h4, ?_, fun x hx => ?_⟩
      · show r.1.size = m * ((tilM f n (f r).2).1.length + 1) + (tilM f n (f r).2).2.1.size
        rw [Nat.mul_add]; omega
      · rcases List.mem_cons.1 hx with rfl | hx
        · exact h6
        · exact h3 x hx
theorem eatBk : Eat tBk 24 (fun b => b.ok ∧ b.tt ≤ 16777215) := fun r h => by
  unfold tBk at h ⊢
  dsimp only at h ⊢
  obtain ⟨g7, s7, p7⟩ := eat4 _ h
  obtain ⟨g6, s6, p6⟩ := eat4 _ g7
  obtain ⟨g5, s5, p5⟩ := eat4 _ g6
  obtain ⟨g4, s4, p4⟩ := eat4 _ g5
  obtain ⟨g3, s3, p3⟩ := eat3 _ g4
  obtain ⟨g2, s2, p2⟩ := eat1 _ g3
  obtain ⟨g1, s1, p1⟩ := eat4 _ g2
  refine ⟨g1, by omega, ⟨p1, p2, ⟨p3.1, Int.le_trans p3.2 (by decide)⟩, p4, p5, p6, p7⟩, p3.2⟩
theorem eatPr : Eat tPr 4 (fun x => in16 x.1 ∧ in16 x.2) := fun r h => by
  unfold tPr at h ⊢
  dsimp only at h ⊢
  obtain ⟨g2, s2, p2⟩ := eat2 _ h
  obtain ⟨g1, s1, p1⟩ := eat2 _ g2
  exact ⟨g1, by omega, p1, p2⟩
theorem eatOr : Eat tOr 8 (fun x => in32 x.1 ∧ in8 x.2) := fun r h => by
  unfold tOr at h ⊢
  dsimp only at h ⊢
  obtain ⟨g3, _, _, _, s3⟩ := rdB_ok h
  obtain ⟨g2, s2, p2⟩ := eat1 _ g3
  obtain ⟨g1, s1, p1⟩ := eat4 _ g2
  exact ⟨g1, by omega, p1, p2⟩
theorem itmM_ok : ∀ (n : Nat) (r : Rs), r.1.size < n → (itmM n r).2.2 = 0 → r.2 = 0 ∧ r.1.size = (itsT (itmM n r).1).size + 1 + (itmM n r).2.1.size ∧ ∀ x ∈ (itmM n r).1, in8 x.1 ∧ x.1 ≠ 0 ∧ x.2.size ≤ 255
  | 0, r, hn, h => by omega
  | n + 1, r, hn, h => by
    by_cases h0 : r.2 = 0
    · by_cases h1 : (uK 1 r).1 = 0
      · have e : itmM (n + 1) r = ([], (uK 1 r).2) := by rw [itmM, if_neg (by simp [h0]), if_pos h1]
        rw [e] at h ⊢
        obtain ⟨g1, s1, p1⟩ := eat1 _ h
        refine ⟨h0, ?_, fun x hx => by cases hx⟩
        show r.1.size = 0 + 1 + (uK 1 r).2.1.size
        omega
      · rw [itmM_step h0 h1] at h ⊢
        have h2 : (itmM n (itmS r)).2.2 = 0 := h
        have hS : (itmS r).2 = 0 := by
          by_cases hz : (itmS r).2 = 0
          · exact hz
          · cases n with
            | zero => exact h2
            | succ n => rw [itmM, if_pos hz] at h2; exact h2
        have hk : itmS r = (rdB (uK 1 (uK 1 r).2).2.1 (uK 1 (uK 1 r).2).2.2 (uK 1 (uK 1 r).2).1).2 := rfl
        rw [hk] at hS
        obtain ⟨g3, _, _, z3, s3⟩ := rdB_ok hS
        obtain ⟨g2, s2, p2⟩ := eat1 _ g3
        obtain ⟨g1, s1, p1⟩ := eat1 _ g2
        rw [← hk] at s3
        obtain ⟨f1, f2, f3⟩ := itmM_ok n (itmS r) (by omega) h2
        refine ⟨h0, ?_, fun x hx => ?_⟩
        · show r.1.size = (itT _ ++ itsT (itmM n (itmS r)).1).size + 1 + (itmM n (itmS r)).2.1.size
          unfold itT
          simp only [ByteArray.size_append, numsS_size, List.length_cons, List.length_nil]
          omega
        · rcases List.mem_cons.1 hx with rfl | hx
          · refine ⟨p1, h1, ?_⟩
            have h5 := p2.2
            dsimp only
            omega
          · exact f3 x hx
    · exfalso
      rw [itmM, if_pos h0] at h
      exact h0 h
theorem tCh_ok {r : Rs} (h : (tCh r).2.2 = 0) : r.2 = 0 ∧ r.1.size = (chT (tCh r).1).size + (tCh r).2.1.size ∧ in32 (tCh r).1.1 ∧ 2 * (tCh r).1.2.length ≤ r.1.size ∧ ∀ x ∈ (tCh r).1.2, in8 x.1 ∧ x.1 ≠ 0 ∧ x.2.size ≤ 255 := by
  unfold tCh chE at h ⊢
  dsimp only at h ⊢
  obtain ⟨g3, z0, z1, z3, s3⟩ := rdB_ok h
  obtain ⟨g2, s2, p2⟩ := itmM_ok ((uK 4 r).2.1.size + 1) _ (by omega) g3
  obtain ⟨g1, s1, p1⟩ := eat4 _ g2
  have hl := itsT_long (itmM ((uK 4 r).2.1.size + 1) (uK 4 r).2).1
  refine ⟨g1, ?_, p1, by omega, p2⟩
  unfold chT
  rw [pad4_zb, ByteArray.size_append, zb_size]
  simp only [ByteArray.size_append, numsS_size, List.length_cons, List.length_nil]
  unfold padJ
  generalize (itsT (itmM ((uK 4 r).2.1.size + 1) (uK 4 r).2).1).size = a at *
  generalize (itmM ((uK 4 r).2.1.size + 1) (uK 4 r).2).2.1.size = b at *
  omega
theorem repCh_ok : ∀ (n : Nat) (r : Rs), (repM tCh n r).2.2 = 0 → r.2 = 0 ∧ r.1.size = (chsT (repM tCh n r).1).size + (repM tCh n r).2.1.size ∧ ∀ c ∈ (repM tCh n r).1, in32 c.1 ∧ 2 * c.2.length ≤ r.1.size ∧ ∀ x ∈ c.2, in8 x.1 ∧ x.1 ≠ 0 ∧ x.2.size ≤ 255
  | 0, r, h => ⟨h, by show r.1.size = 0 + r.1.size; omega, fun x hx => by cases hx⟩
  | n + 1, r, h => by
    obtain ⟨h1, h2, h3⟩ := repCh_ok n (tCh r).2 h
    obtain ⟨h4, h5, h6, h7, h8⟩ := tCh_ok h1
    refine ⟨h4, ?_, fun c hc => ?_⟩
    · show r.1.size = (chT (tCh r).1 ++ chsT (repM tCh n (tCh r).2).1).size + (repM tCh n (tCh r).2).2.1.size
      rw [ByteArray.size_append]; omega
    · rcases List.mem_cons.1 hc with rfl | hc
      · exact ⟨h6, h7, h8⟩
      · obtain ⟨a1, a2, a3⟩ := h3 c hc
        exact ⟨a1, by omega, a3⟩
theorem rdF_ok {s : ByteArray} {e x : Int} (h : (rdF s e x).2 = 0) : e = 0 ∧ x = 0 ∧ rdF s e x = (s, e) := by
  unfold rdF at h ⊢
  by_cases h0 : e = 0 ∧ x ≠ 0
  · rw [if_pos h0] at h; exact absurd h h0.2
  · rw [if_neg h0] at h ⊢
    have h : e = 0 := h
    refine ⟨h, ?_, rfl⟩
    by_cases hx : x = 0
    · exact hx
    · exact absurd ⟨h, hx⟩ h0
theorem shl_ok : ∀ (n : Nat) (x : Int), 0 ≤ x → (shlM n x).2 = false → (shlM n x).1 = x * 2 ^ n
  | 0, x, _, _ => by rw [shlM]; simp
  | n + 1, x, h0, h => by
    by_cases hb : 9223372036854775808 ≤ x
    · rw [shlM, if_pos hb] at h; cases h
    · rw [shlM, if_neg hb] at h ⊢
      rw [shl_ok n (2 * x) (by omega) h, Int.pow_succ, Int.mul_comm (2 ^ n) 2, ← Int.mul_assoc, Int.mul_comm x 2]
theorem shl_b : ∀ (n : Nat) (x : Int), 0 ≤ x ∧ x ≤ 18446744073709551615 → in64 (shlM n x).1
  | 0, x, h => h
  | n + 1, x, h => by
    rw [shlM]
    split
    · exact h
    · exact shl_b n (2 * x) (by omega)
theorem rate_ok {m : Int} {k : Nat} (hm : 0 ≤ m ∧ m ≤ 262143) (h : in64 (m * 2 ^ k)) : m * 2 ^ k / 2 ^ exM (m * 2 ^ k) * 2 ^ exM (m * 2 ^ k) = m * 2 ^ k := by
  have he := exM_of h
  generalize exM (m * 2 ^ k) = e at *
  have hp : (0 : Int) < 2 ^ e := Int.pow_pos (by omega)
  have hk : e ≤ k := by
    rcases Nat.lt_or_ge k e with hlt | hge
    · exfalso
      rcases he.2 with h2 | h2
      · omega
      · have h3 : (2 : Int) ^ (k + 18) ≤ 2 ^ (e + 17) := two_le (by omega)
        have hk0 : (0 : Int) < 2 ^ k := Int.pow_pos (by omega)
        have h4 : m * 2 ^ k < 262144 * 2 ^ k := Int.mul_lt_mul_of_pos_right (by omega) hk0
        have h5 : (2 : Int) ^ (k + 18) = 262144 * 2 ^ k := by rw [Int.pow_add, Int.mul_comm]; rfl
        omega
    · exact hge
  obtain ⟨d, rfl⟩ : ∃ d, k = e + d := ⟨k - e, by omega⟩
  rw [Int.pow_add, Int.mul_comm (2 ^ e) (2 ^ d), ← Int.mul_assoc, Int.mul_ediv_cancel _ (by omega)]
theorem tRe_ok {b : ByteArray} (hb : b.size ≤ 1500) (h : (tRe (b, 0)).2.2 = 0) (h0 : (tRe (b, 0)).2.1.size = 0) : okK (tRe (b, 0)).1 ∧ (txK (tRe (b, 0)).1).size ≤ b.size := by
  unfold tRe at h h0 ⊢
  dsimp only at h h0 ⊢
  generalize e1 : uK 4 (b, 0) = q1 at *
  generalize e2 : uK 4 q1.2 = q2 at *
  generalize e3 : reA q2.2 = q3 at *
  generalize e4 : uK 1 q3 = q4 at *
  generalize e5 : uK 3 q4.2 = q5 at *
  generalize e6 : shlM (q5.1 / 262144).toNat (q5.1 % 262144) = q6 at *
  generalize e7 : tilM (uK 4) (reB q6.2 q5.2).1.size (reB q6.2 q5.2) = q7 at *
  unfold reC at h h0
  have hn : (q7.1.length : Int) = q4.1 := by
    by_cases hn : (q7.1.length : Int) = q4.1
    · exact hn
    · rw [if_neg hn] at h; exact absurd (rdF_ok h).2.1 (by decide)
  rw [if_pos hn] at h h0
  have t7 := tilM_eat eat4 (reB q6.2 q5.2).1.size (reB q6.2 q5.2) (by rw [e7]; exact h)
  rw [e7] at t7
  obtain ⟨g7, s7, p7⟩ := t7
  have hbig : q6.2 = false := by
    cases hq : q6.2 with
    | false => rfl
    | true =>
      rw [hq] at g7
      unfold reB at g7
      rw [if_pos rfl] at g7
      exact absurd (rdF_ok g7).2.1 (by decide)
  rw [hbig] at g7 s7
  have g7 : q5.2.2 = 0 := g7
  have s7 : q5.2.1.size = 4 * q7.1.length + q7.2.1.size := s7
  have t5 := eat3 q4.2 (by rw [e5]; exact g7)
  rw [e5] at t5
  obtain ⟨g5, s5, p5⟩ := t5
  have t4 := eat1 q3 (by rw [e4]; exact g5)
  rw [e4] at t4
  obtain ⟨g4, s4, p4⟩ := t4
  have t3 : q2.2.2 = 0 ∧ q2.2.1.size = 4 + q3.1.size := by
    rw [← e3] at g4 ⊢
    unfold reA at g4 ⊢
    by_cases hm : (rdB q2.2.1 q2.2.2 4).1 = rembS
    · rw [if_pos hm] at g4 ⊢
      obtain ⟨a1, a2, a3, a4, a5⟩ := rdB_ok g4
      exact ⟨a1, by omega⟩
    · rw [if_neg hm] at g4
      exact absurd (rdF_ok g4).2.1 (by decide)
  have t2 := eat4 q1.2 (by rw [e2]; exact t3.1)
  rw [e2] at t2
  obtain ⟨g2, s2, p2⟩ := t2
  have t1 := eat4 (b, 0) (by rw [e1]; exact g2)
  rw [e1] at t1
  obtain ⟨g1, s1, p1⟩ := t1
  have hm : 0 ≤ q5.1 % 262144 ∧ q5.1 % 262144 ≤ 262143 := by omega
  have hv := shl_ok (q5.1 / 262144).toNat (q5.1 % 262144) hm.1 (by rw [e6]; exact hbig)
  have hi := shl_b (q5.1 / 262144).toNat (q5.1 % 262144) (by omega)
  rw [e6] at hv hi
  have hr : in64 q6.1 := hi
  have hx : q6.1 / 2 ^ exM q6.1 * 2 ^ exM q6.1 = q6.1 := by
    rw [hv] at hr ⊢
    exact rate_ok hm hr
  have s1 : b.size = 4 + q1.2.1.size := s1
  have p42 : q4.1 ≤ 255 := p4.2
  refine ⟨⟨p1, hr, hx, by omega, p7⟩, ?_⟩
  have : rembS.size = 4 := rfl
  simp only [txK, remT, ByteArray.size_append, numsS_size, List.length_cons, List.length_nil]
  omega
theorem byE_ok {b : ByteArray} {N : Nat} (hN : N ≤ 31) (hb : b.size % 4 = 0) (h : (byE (repM (uK 4) N (b, 0))).2.2 = 0) : okK (byE (repM (uK 4) N (b, 0))).1 ∧ (txK (byE (repM (uK 4) N (b, 0))).1).size ≤ b.size := by
  have hl := repM_len (f := uK 4) N (b, 0)
  have key := repM_eat eat4 N (b, 0)
  generalize repM (uK 4) N (b, 0) = q at *
  unfold byE at h ⊢
  by_cases h0 : q.2.1.size = 0
  · rw [if_pos h0] at h ⊢
    obtain ⟨g1, s1, p1⟩ := key h
    refine ⟨⟨by omega, p1, by decide⟩, ?_⟩
    have e : txK (.bye q.1 E0) = numsS 4 q.1 := by
      show byT q.1 E0 = _
      unfold byT
      exact if_pos rfl
    have s1 : b.size = 4 * N + q.2.1.size := s1
    rw [e, numsS_size]; omega
  · rw [if_neg h0] at h ⊢
    dsimp only at h ⊢
    obtain ⟨g3, _, _, _, s3⟩ := rdB_ok h
    obtain ⟨g2, _, _, z2, s2⟩ := rdB_ok g3
    obtain ⟨ga, sa, pa⟩ := eat1 _ g2
    obtain ⟨g1, s1, p1⟩ := key ga
    have pa2 := pa.2
    have s1 : b.size = 4 * N + q.2.1.size := s1
    generalize rdB (uK 1 q.2).2.1 (uK 1 q.2).2.2 (uK 1 q.2).1 = y at *
    refine ⟨⟨by omega, p1, by omega⟩, ?_⟩
    show (byT q.1 y.1).size ≤ b.size
    unfold byT
    by_cases h1 : y.1 = E0
    · rw [if_pos h1, numsS_size]; omega
    · rw [if_neg h1, pad4_zb, ByteArray.size_append, zb_size]
      simp only [ByteArray.size_append, numsS_size, List.length_cons, List.length_nil]
      unfold padJ
      omega
theorem tkM_ok {b : ByteArray} {kd ct : Int} (hb : b.size ≤ 1500) (h4 : b.size % 4 = 0) (hk : 192 ≤ kd ∧ kd ≤ 223) (hc : 0 ≤ ct ∧ ct ≤ 31) (h : (tkM (b, 0) kd ct).2.2 = 0) (h0 : (tkM (b, 0) kd ct).2.1.size = 0) :
    okK (tkM (b, 0) kd ct).1 ∧ (txK (tkM (b, 0) kd ct).1).size ≤ b.size := by
  unfold tkM at h h0 ⊢
  by_cases k0 : kd = 200
  · rw [if_pos k0] at h h0 ⊢
    unfold tSn at h h0 ⊢
    dsimp only at h h0 ⊢
    obtain ⟨g6, s6, p6⟩ := repM_eat eatBk _ _ h
    have hl := repM_len (f := tBk) ct.toNat (uK 4 (uK 4 (uK 4 (uK 8 (uK 4 (b, 0)).2).2).2).2).2
    obtain ⟨g5, s5, p5⟩ := eat4 _ g6
    obtain ⟨g4, s4, p4⟩ := eat4 _ g5
    obtain ⟨g3, s3, p3⟩ := eat4 _ g4
    obtain ⟨g2, s2, p2⟩ := eat8 _ g3
    obtain ⟨g1, s1, p1⟩ := eat4 _ g2
    refine ⟨⟨p1, p2, p3, p4, p5, by rw [hl]; omega, p6⟩, ?_⟩
    simp only [txK, ByteArray.size_append, numsS_size, bksT_size, List.length_cons, List.length_nil, hl]
    have s1 : b.size = 4 + (uK 4 (b, 0)).2.1.size := s1
    omega
  rw [if_neg k0] at h h0 ⊢
  by_cases k1 : kd = 201
  · rw [if_pos k1] at h h0 ⊢
    unfold tRv at h h0 ⊢
    dsimp only at h h0 ⊢
    obtain ⟨g6, s6, p6⟩ := repM_eat eatBk _ _ h
    have hl := repM_len (f := tBk) ct.toNat (uK 4 (b, 0)).2
    obtain ⟨g1, s1, p1⟩ := eat4 _ g6
    refine ⟨⟨p1, by rw [hl]; omega, p6⟩, ?_⟩
    simp only [txK, ByteArray.size_append, numsS_size, bksT_size, List.length_cons, List.length_nil, hl]
    have s1 : b.size = 4 + (uK 4 (b, 0)).2.1.size := s1
    omega
  rw [if_neg k1] at h h0 ⊢
  by_cases k2 : kd = 202
  · rw [if_pos k2] at h h0 ⊢
    dsimp only at h h0 ⊢
    obtain ⟨g1, s1, p1⟩ := repCh_ok _ _ h
    have hl := repM_len (f := tCh) ct.toNat (b, 0)
    have s1 : b.size = (chsT (repM tCh ct.toNat (b, 0)).1).size + (repM tCh ct.toNat (b, 0)).2.1.size := s1
    refine ⟨⟨by rw [hl]; omega, fun c hc => ?_⟩, ?_⟩
    · obtain ⟨a1, a2, a3⟩ := p1 c hc
      have a2 : 2 * c.2.length ≤ b.size := a2
      exact ⟨a1, by omega, a3⟩
    · show (chsT _).size ≤ b.size
      omega
  rw [if_neg k2] at h h0 ⊢
  by_cases k3 : kd = 203
  · rw [if_pos k3] at h h0 ⊢
    exact byE_ok (by omega) h4 h
  rw [if_neg k3] at h h0 ⊢
  by_cases k5 : kd = 205 ∧ ct = 1
  · rw [if_pos k5] at h h0 ⊢
    unfold tNk at h h0 ⊢
    dsimp only at h h0 ⊢
    obtain ⟨g3, s3, p3⟩ := tilM_eat eatPr _ _ h
    obtain ⟨g2, s2, p2⟩ := eat4 _ g3
    obtain ⟨g1, s1, p1⟩ := eat4 _ g2
    have s1 : b.size = 4 + (uK 4 (b, 0)).2.1.size := s1
    refine ⟨⟨p1, p2, by omega, p3⟩, ?_⟩
    simp only [txK, ByteArray.size_append, numsS_size, prsT_size, List.length_cons, List.length_nil]
    omega
  rw [if_neg k5] at h h0 ⊢
  by_cases k6 : kd = 206 ∧ ct = 1
  · rw [if_pos k6] at h h0 ⊢
    dsimp only at h h0 ⊢
    obtain ⟨g2, s2, p2⟩ := eat4 _ h
    obtain ⟨g1, s1, p1⟩ := eat4 _ g2
    have s1 : b.size = 4 + (uK 4 (b, 0)).2.1.size := s1
    refine ⟨⟨p1, p2⟩, ?_⟩
    simp only [txK, numsS_size, List.length_cons, List.length_nil]
    omega
  rw [if_neg k6] at h h0 ⊢
  by_cases k7 : kd = 206 ∧ ct = 4
  · rw [if_pos k7] at h h0 ⊢
    unfold tFi at h h0 ⊢
    dsimp only at h h0 ⊢
    obtain ⟨g3, s3, p3⟩ := tilM_eat eatOr _ _ h
    obtain ⟨g2, s2, p2⟩ := eat4 _ g3
    obtain ⟨g1, s1, p1⟩ := eat4 _ g2
    have s1 : b.size = 4 + (uK 4 (b, 0)).2.1.size := s1
    refine ⟨⟨p1, by omega, p3⟩, ?_⟩
    simp only [txK, ByteArray.size_append, numsS_size, orsT_size, List.length_cons, List.length_nil]
    omega
  rw [if_neg k7] at h h0 ⊢
  by_cases k8 : kd = 206 ∧ ct = 15
  · rw [if_pos k8] at h h0 ⊢
    exact tRe_ok hb h h0
  rw [if_neg k8] at h h0 ⊢
  dsimp only at h h0 ⊢
  rw [rdB_all] at h h0 ⊢
  refine ⟨⟨hk.1, hk.2, hc.1, hc.2, h4, (by show b.size ≤ 100000; omega), ?_⟩, Nat.le_refl _⟩
  unfold knK
  omega
theorem rdE_ok {s : ByteArray} {e : Int} (h : rdE s e = 0) : e = 0 ∧ s.size = 0 := by
  unfold rdE at h
  by_cases h0 : e = 0 ∧ s ≠ E0
  · rw [if_pos h0] at h; exact absurd h (by decide)
  · rw [if_neg h0] at h
    refine ⟨h, ?_⟩
    by_cases hs : s = E0
    · rw [hs]; rfl
    · exact absurd ⟨h, hs⟩ h0
theorem bdE_ok {pa : Bool} {s : ByteArray} {r : Rs} (h4 : s.size % 4 = 0) (h : (bdE pa s r).2.2 = 0) : r.2 = 0 ∧ (bdE pa s r).1.size % 4 = 0 ∧ (bdE pa s r).1.size ≤ s.size ∧ (bdE pa s r).2 = r := by
  unfold bdE at h ⊢
  by_cases h0 : pa = false ∨ r.2 ≠ 0
  · rw [if_pos h0] at h ⊢
    exact ⟨h, h4, Nat.le_refl _, rfl⟩
  · rw [if_neg h0] at h ⊢
    by_cases h1 : 0 < r.1.size ∨ padN s = 0 ∨ padN s % 4 ≠ 0 ∨ (s.size : Int) < padN s
    · rw [if_pos h1] at h
      exact absurd (rdF_ok h).2.1 (by decide)
    · rw [if_neg h1] at h ⊢
      have hp : 0 ≤ padN s := by
        unfold padN
        split
        · exact Int.le_refl _
        · exact (sb_b s _).1
      refine ⟨h, ?_, ?_, rfl⟩
      · simp only [ByteArray.size_extract]; omega
      · simp only [ByteArray.size_extract]; omega
/-- a packet that is read -/
theorem stM_ok {r : Rs} (hs : r.1.size ≤ 1500) (h : (stM r).2.2 = 0) : r.2 = 0 ∧ okK (stM r).1 ∧ (one4 ((hdK (stM r).1).1, (hdK (stM r).1).2, txK (stM r).1)).size + (stM r).2.1.size ≤ r.1.size := by
  unfold stM at h ⊢
  dsimp only at h ⊢
  generalize e1 : uK 1 r = q1 at *
  generalize e2 : uK 1 q1.2 = q2 at *
  generalize e3 : hdM q1.1 q2.1 q2.2 = q3 at *
  unfold bdM at h ⊢
  generalize e4 : uK 2 q3 = q4 at *
  generalize e5 : rdB q4.2.1 q4.2.2 (4 * q4.1) = q5 at *
  have b4 : 0 ≤ q4.1 := by rw [← e4]; exact (uK2_b q3).1
  generalize e6 : bdE (decide (q1.1 / 32 % 2 = 1)) q5.1 q5.2 = q6 at *
  unfold stB at h ⊢
  have h6 : q6.2.2 = 0 := by
    by_cases h6 : q6.2.2 = 0
    · exact h6
    · rw [if_pos h6] at h; exact h
  rw [if_neg (by simp [h6])] at h ⊢
  dsimp only at h ⊢
  obtain ⟨_, hE, eE⟩ := rdF_ok h
  rw [eE]
  obtain ⟨hE1, hE2⟩ := rdE_ok hE
  have h5 : q5.2.2 = 0 := by
    rw [← e6] at h6
    unfold bdE at h6
    split at h6
    · exact h6
    · split at h6
      · exact (rdF_ok h6).1
      · exact h6
  have t5 := rdB_ok (s := q4.2.1) (e := q4.2.2) (n := 4 * q4.1) (by rw [e5]; exact h5)
  rw [e5] at t5
  obtain ⟨g5, _, _, z5, s5⟩ := t5
  have t6 := bdE_ok (pa := decide (q1.1 / 32 % 2 = 1)) (s := q5.1) (r := q5.2) (by omega) (by rw [e6]; exact h6)
  rw [e6] at t6
  obtain ⟨_, m6, l6, r6⟩ := t6
  rw [r6]
  have t4 := eat2 q3 (by rw [e4]; exact g5)
  rw [e4] at t4
  obtain ⟨g4, s4, p4⟩ := t4
  have t3 : q2.2.2 = 0 ∧ q3 = q2.2 ∧ 192 ≤ q2.1 ∧ q2.1 ≤ 223 := by
    rw [← e3] at g4 ⊢
    unfold hdM at g4 ⊢
    by_cases hc : q2.2.2 = 0 ∧ (q1.1 / 64 ≠ 2 ∨ q2.1 < 192 ∨ 223 < q2.1)
    · rw [if_pos hc] at g4
      exact absurd (rdF_ok g4).2.1 (by decide)
    · rw [if_neg hc] at g4 ⊢
      refine ⟨g4, rfl, ?_⟩
      by_cases k1 : q2.1 < 192
      · exact absurd ⟨g4, .inr (.inl k1)⟩ hc
      · by_cases k2 : 223 < q2.1
        · exact absurd ⟨g4, .inr (.inr k2)⟩ hc
        · omega
  have t2 := eat1 q1.2 (by rw [e2]; exact t3.1)
  rw [e2] at t2
  obtain ⟨g2, s2, p2⟩ := t2
  have t1 := eat1 r (by rw [e1]; exact g2)
  rw [e1] at t1
  obtain ⟨g1, s1, p1⟩ := t1
  rw [t3.2.1] at s4
  have hq : q6.1.size ≤ 1500 := by omega
  obtain ⟨f1, f2⟩ := tkM_ok (b := q6.1) (kd := q2.1) (ct := q1.1 % 32) hq m6 t3.2.2 (by omega) hE1 hE2
  refine ⟨g1, f1, ?_⟩
  have f3 := pad4_id (txK_mod f1)
  rw [one4_size]
  dsimp only
  rw [f3]
  omega
theorem paM_ok : ∀ (n : Nat) (f : Bool) (r : Rs), r.1.size ≤ 1500 → r.2 = 0 → (paM n f r).2 = 0 → (∀ p ∈ (paM n f r).1, okK p) ∧ (txs (paM n f r).1).size ≤ r.1.size ∧ (f = true → 0 < n → (paM n f r).1 ≠ [])
  | 0, f, r, _, _, _ => ⟨(fun p hp => by cases hp), Nat.zero_le _, fun _ h => absurd h (by omega)⟩
  | n + 1, f, r, hs, hr, h => by
    by_cases hc : r.1.size = 0 ∧ ¬ (f = true ∧ r.2 = 0)
    · rw [paM, if_pos hc]
      exact ⟨(fun p hp => by cases hp), Nat.zero_le _, fun hf => absurd ⟨hf, hr⟩ hc.2⟩
    · rw [paM, if_neg hc] at h ⊢
      by_cases he : (stM r).2.2 = 0
      · rw [if_neg (by simp [he])] at h ⊢
        obtain ⟨_, h1, h2⟩ := stM_ok hs he
        have hsz : (stM r).2.1.size ≤ 1500 := by omega
        obtain ⟨h3, h4, _⟩ := paM_ok n false (stM r).2 hsz he h
        refine ⟨fun p hp => ?_, ?_, fun _ _ => by simp⟩
        · rcases List.mem_cons.1 hp with rfl | hp
          · exact h1
          · exact h3 p hp
        · show (one4 ((hdK (stM r).1).1, (hdK (stM r).1).2, txK (stM r).1) ++ txs (paM n false (stM r).2).1).size ≤ _
          rw [ByteArray.size_append]; omega
      · rw [if_pos he] at h
        exact absurd h he
/-- what is read may be -/
theorem pk_ok {s : ByteArray} (h : (pkM s).2 = 0) : s.size ≤ 1500 ∧ (∀ p ∈ (pkM s).1, okK p) ∧ (txs (pkM s).1).size ≤ s.size ∧ (pkM s).1 ≠ [] := by
  unfold pkM at h ⊢
  by_cases h0 : 1500 < s.size
  · rw [if_pos h0] at h; cases h
  · rw [if_neg h0] at h ⊢
    by_cases h1 : (paM (s.size + 1) true (s, 0)).2 = 0
    · rw [if_neg (by simp [h1])]
      obtain ⟨h2, h3, h4⟩ := paM_ok (s.size + 1) true (s, 0) (by dsimp only; omega) rfl h1
      exact ⟨by omega, h2, h3, h4 rfl (by omega)⟩
    · rw [if_pos h1] at h
      exact absurd h h1
end Go.Proofs.Yteaccbbmphcmnaa

/-
  Interface values that are compared.
-/
namespace Go.Proofs.Yteaccbbmphcmnaa
set_option linter.unusedSimpArgs false
set_option linter.unusedVariables false
open Go.RowKit
section
variable {P : Program} {fr : List (Nat × Value)} {hp : List It} {ro : List Ro} {x y : Operand} {t t' T : TypeId}
theorem pv_eql_if' {ks : List Kd} {r1 r2 : List Value} {ms : Array (String × TypeId)} {i : TypeInfo} (hx : opd fr x = some (.iface T (.agg r1.toArray))) (hy : opd fr y = some (.iface T (.agg r2.toArray)))
    (hu : P.underlying t = some (.interface ms)) (hi : P.info? T = some i) (hc : i.comparable = true) (h : TEq P T ks) (h1 : fits ks r1 = true) (h2 : fits ks r2 = true) : Pv P ⟨fr, hp, ro⟩ (.binOp .eql t x y t') (.bool (eqRow r1 r2)) := fun N E ac w dst ty pos af g ok => by
  have e1 : (Op.equal t (.iface T (.agg r1.toArray)) (.iface T (.agg r2.toArray))).run P w = .ok (eqRow r1 r2) w := by
    show Sem.run P (Op.equalIn (9999 + 1) t _ _) w = _
    have h := h.h
    unfold eqB at h
    split at h
    · rename_i fs hf
      split at h
      · rename_i hg
        have hff : P.fieldsOf T = fs := by unfold Program.fieldsOf; rw [hf]
        rw [Op.equalIn]
        simp only [Sem.run_bind, run_underlying hu, Result.andThen_ok]
        simp only [ne_eq, not_true_eq_false, if_false, Sem.run_bind, typeInfo, hi]
        simp [go_sem]
        rw [hi]
        simp [hc]
        rw [run_equalIn_struct w 9998 T _ _ (by rw [hff]; exact hf) hg.1, hff]
        exact run_eqFields_row fs.toList 0 ks r1 r2 h rfl rfl h1 h2
      · cases h
    · cases h
  have e2 : (binOp .eql t (.iface T (.agg r1.toArray)) (.iface T (.agg r2.toArray))).run P w = .ok (.bool (eqRow r1 r2)) w := by
    simp only [binOp, Sem.run_bind, e1]; rfl
  simp only [execOp, ok.h.eval hx, ok.h.eval hy]
  simp [eqGuard, e2]
def isIf (P : Program) (t : TypeId) : Bool := match P.underlying t with | some (.interface _) => true | _ => false
def cmpB (P : Program) (t : TypeId) : Bool := match P.info? t with | some i => i.comparable | none => false
theorem pv_eql_if {ks : List Kd} {r1 r2 : List Value} (hx : opd fr x = some (.iface T (.agg r1.toArray))) (hy : opd fr y = some (.iface T (.agg r2.toArray)))
    (hu : isIf P t = true) (hc : cmpB P T = true) (h : TEq P T ks) (h1 : fits ks r1 = true) (h2 : fits ks r2 = true) : Pv P ⟨fr, hp, ro⟩ (.binOp .eql t x y t') (.bool (eqRow r1 r2)) := by
  unfold isIf at hu
  unfold cmpB at hc
  split at hu
  · rename_i ms hm
    split at hc
    · rename_i i hi
      exact pv_eql_if' hx hy hm hi hc h h1 h2
    · cases hc
  · cases hu
theorem pv_eql_nil {e sz by_ : Nat} [h : TSl P t e sz by_] (hx : opd fr x = some (.slice none 0 0)) (hy : opd fr y = some (.slice none 0 0)) : Pv P ⟨fr, hp, ro⟩ (.binOp .eql t x y t') (.bool true) := fun N E ac w dst ty pos af g ok => by
  obtain ⟨_, _, h1, _⟩ := sl_und h.h
  have e1 : (Op.equal t (.slice none 0 0) (.slice none 0 0)).run P w = .ok true w := by
    show Sem.run P (Op.equalIn (9999 + 1) t _ _) w = _
    rw [Op.equalIn]
    simp only [Sem.run_bind, run_underlying h1, Result.andThen_ok]
    rfl
  have e2 : (binOp .eql t (.slice none 0 0) (.slice none 0 0)).run P w = .ok (.bool true) w := by
    simp only [binOp, Sem.run_bind, e1]; rfl
  simp only [execOp, ok.h.eval hx, ok.h.eval hy]
  simp [eqGuard, e2]
end
section
variable {P : Program} {N : Nat} {E : Env} {fr : List (Nat × Value)} {hp : List It} {ro : List Ro} {Kn : St → Prop} {ops : Array Oper} {rest : List Oper} {dst : Option Tmp} {ty : TypeId} {pos : String} {af : Array Edge} {x : Operand}
/-- a call of a function value -/
theorem wo_callv {f : FuncId} [HasBody P f] {vs : List Value} {L F : List It} {R : List Ro} {Post : Value → List It → List Ro → Prop} {l : List Operand} {ats : Array TypeId}
    (hx : opd fr x = some (.func (.func f) #[] #[])) (hF : Fn P f vs.toArray L R Post) (ha : opdL fr l = some vs) (hs : hp.Perm (L ++ F)) (hr : ∀ r ∈ R, r ∈ ro) (hd : dstOk dst N = true)
    (h : ∀ v L' R', Post v L' R' → ∀ H, H = L' ++ F → ∀ RR, RR = R' ++ ro → WO P N E ops rest ⟨putF dst v fr, H, RR⟩ Kn) :
    WO P N E ops (⟨dst, .call ⟨.value x, l.toArray, ats⟩, ty, pos, af, none⟩ :: rest) ⟨fr, hp, ro⟩ Kn := by
  intro Q hQ a w ok
  unfold wpList
  rw [if_pos (by simp [Region.wanted])]
  refine .inl ?_
  unfold Oper.wp
  have e : execOp a.eval ⟨dst, .call ⟨.value x, l.toArray, ats⟩, ty, pos, af, none⟩ = execOp a.eval ⟨dst, .call ⟨.value (.func f), l.toArray, ats⟩, ty, pos, af, none⟩ := by
    simp only [execOp, resolve, ok.h.eval hx]; rfl
  rw [e, HasBody.enter w, ok.h.evalL ha]
  refine (hF w (ok.s.start hs hr)).mono fun e w' ⟨v, L', R', he, hP, hS⟩ => ?_
  subst he
  exact h v L' R' hP _ rfl _ rfl Q hQ _ w' ⟨ok.h.putF hd v, ok.s.step hs (fun b hb => by
    obtain ⟨r, h1, h2⟩ := mem_blks.1 hb; exact mem_blks.2 ⟨r, hr r h1, h2⟩) hS⟩
end
end Go.Proofs.Yteaccbbmphcmnaa

/-
  Package rtcp: Check: lists, sound.
-/
namespace Go.Proofs.Yteaccbbmphcmnaa
set_option linter.unusedSimpArgs false
set_option linter.unusedVariables false
open Go.RowKit
attribute [local irreducible] Pv WO WC Fn
set_option maxRecDepth 100000
attribute [local irreducible] ByteArray.extract

instance : HasBody Try.prog 63 := ⟨by kernel_rfl⟩
instance : HasBody Try.prog 65 := ⟨by kernel_rfl⟩
instance : HasBody Try.prog 67 := ⟨by kernel_rfl⟩
instance : HasBody Try.prog 79 := ⟨by kernel_rfl⟩
instance : HasBody Try.prog 80 := ⟨by kernel_rfl⟩
instance : HasBody Try.prog 81 := ⟨by kernel_rfl⟩
abbrev fnV (f : FuncId) : Value := .func (.func f) #[] #[]
theorem cGreat (x1 x2 x3 x4 x5 x6 x7 : Int) : Fn Try.prog 64 #[.agg #[.int .u32 x1, .int .u8 x2, .int .u32 x3, .int .u32 x4, .int .u32 x5, .int .u32 x6, .int .u32 x7]] [] [] (fun v L' R' => v = .bool (decide (16777216 ≤ x3)) ∧ L' = [] ∧ R' = []) := by
  refine fn_intro Try.func64 rfl Try.ntmps64 rfl (fun E => ?_)
  (repeat (first | ((first | (apply wo_v; rfl) ); (· first | (apply pv_ev; rfl) | (apply pv_fld; rfl) | (apply g_load; first | (apply pv_ld; rfl; (· (repeat (first | apply sel_here ))); rfl) ) )) | apply wo_nil | apply wc_seq | apply wc_region | apply wc_ret | (apply wo_box1; rfl; rfl; rfl; intro bx) | (apply wo_boxa; rfl; rfl; intro bx) ))
  exact retv rfl (by (repeat (first | apply RV.nil | (apply RV.tmp; rfl) )); done) (⟨rfl, rfl, rfl⟩) (by (repeat (first | apply sub_nil )); done) (by first | exact fun _ h => h | (intro r hr; cases hr; done) | (simp; done) | exact fun _ h => List.mem_append_left _ h | (intro r hr; simp [hr]; done))
/-- an index is found, or none -/
def Fnd {α : Type} (l : List α) (f : α → Bool) (v : Value) : Prop := ∃ k : Int, v = .int .i64 k ∧ -1 ≤ k ∧ (decide (0 ≤ k) = l.any f)
theorem Fnd.no {α : Type} {l : List α} {f : α → Bool} (h : (l.take l.length).any f = false) : Fnd l f (.int .i64 (-1)) := ⟨-1, rfl, Int.le_refl _, by rw [List.take_length] at h; rw [h]; rfl⟩
theorem Fnd.yes {α : Type} {l : List α} {f : α → Bool} {i : Nat} {x : α} (h : l[i]? = some x) (hf : f x = true) : Fnd l f (.int .i64 i) := ⟨i, rfl, by omega, by
  rw [List.any_eq_true.2 ⟨x, List.mem_of_getElem? h, hf⟩]; simp⟩
theorem any_tk {α : Type} {l : List α} {j : Nat} {x : α} {f : α → Bool} (h : l[j]? = some x) (h1 : (l.take j).any f = false) (h2 : f x = false) : (l.take (j + 1)).any f = false := by
  rw [List.take_add_one, h, List.any_append, h1]; simp [h2]
set_option maxHeartbeats 4000000 in
theorem cIdxB (l : List Bk) (A : Option Addr) (n c : Nat) (R : List Ro) (hS : SQ R 7 A n c (blkV l)) (hl : l.length ≤ 100000) :
    Fn Try.prog 79 #[.slice A n c, fnV 64] [] R (fun v L' R' => Fnd l (fun b => decide (16777216 ≤ b.tt)) v ∧ L' = [] ∧ R' = []) := by
  have hn : n = l.length := by rw [← hS.len, blkV_len]
  subst hn
  refine fn_intro Try.func79 rfl Try.ntmps79 rfl (fun E => ?_)
  (repeat (first | ((first | (apply wo_v; rfl) ); (· first | (apply pv_ev; rfl) | (apply g_bi; first | (apply pv_len_sl; rfl) ) )) | apply wo_nil | apply wc_seq | apply wc_region ))
  refine wc_block ?_
  refine wc_loop' (fun q st => ∃ (i : Nat), q = l.length - i ∧ i ≤ l.length ∧ (l.take i).any (fun b => decide (16777216 ≤ b.tt)) = false ∧ st = ⟨[(0, .slice A l.length c), (1, fnV 64), (7, .int .i64 l.length), (8, .int .i64 i)], [], R⟩) ⟨0, rfl, Nat.zero_le _, rfl, rfl⟩ (wk_mk (by (repeat (first | apply wkf_nil | (apply wkf_cons; rfl))); done) (by (repeat (first | apply sub_nil )); done) (by first | exact fun _ h => h | (intro r hr; cases hr; done) | (simp; done) | exact fun _ h => List.mem_append_left _ h | (intro r hr; simp [hr]; done))) ?_
  rintro q st ⟨i, rfl, hi, hf, rfl⟩
  by_cases hlt : i < l.length
  · obtain ⟨x, hx⟩ : ∃ x, l[i]? = some x := ⟨_, List.getElem?_eq_getElem hlt⟩
    have hr := blkV_at hx
    obtain ⟨a0, o0, rfl, hmem⟩ := hS.pos (by omega)
    have hg := cGreat x.ss x.lo x.tt x.la x.ji x.ls x.dl
    (repeat (first | ((first | (apply wo_v; rfl) ); (· first | (apply pv_ev; rfl) )) | apply wo_nil | apply wc_seq | apply wc_region | apply wc_skip | (apply wc_true; rfl) | (apply wc_false; rfl) | (apply a_dec_t; rfl; (· first | assumption | omega)) ))
    refine wc_block ?_
    (repeat (first | ((first | (apply wo_v; rfl) ); (· first | (apply pv_ev; rfl) | (apply g_load; first | (apply pv_lda; rfl; (· (repeat (first | fail ))); (· (repeat (first | fail )))) | (apply pv_ld_owna; rfl; (· (repeat (first | fail ))); (· assumption)) | (apply pv_ld_roa; rfl; (· (first | assumption )); (· assumption))) | (apply g_idx; first | (apply pv_idx; rfl; rfl; omega) ) )) | apply wo_nil | apply wc_seq | apply wc_region ))
    refine wo_callv rfl hg rfl (by (repeat (first | apply sub_nil )); done) (by first | exact fun _ h => h | (intro r hr; cases hr; done) | (simp; done) | exact fun _ h => List.mem_append_left _ h | (intro r hr; simp [hr]; done)) rfl ?_
    rintro v L' R' ⟨rfl, rfl, rfl⟩ H hH RR hR
    simp only [List.cons_append, List.nil_append] at hH hR
    subst hH
    subst hR
    by_cases hc : 16777216 ≤ x.tt
    · (repeat (first | ((first | (apply wo_v; rfl) ); (· first | (apply pv_ev; rfl) )) | apply wo_nil | apply wc_seq | apply wc_region | apply wc_ret | (apply wc_true; rfl) | (apply wc_false; rfl) | (apply a_dec_t; rfl; (· first | assumption | omega)) ))
      exact ret1 rfl rfl ⟨Fnd.yes hx (by simpa using hc), rfl, rfl⟩ ((by (repeat (first | apply sub_nil )); done) : List.Perm _ ([] ++ _)) (by first | exact fun _ h => h | (intro r hr; cases hr; done) | (simp; done) | exact fun _ h => List.mem_append_left _ h | (intro r hr; simp [hr]; done))
    · (repeat (first | ((first | (apply wo_v; rfl) ); (· first | (apply pv_ev; rfl) | (apply g_bin; first | (apply a_add; rfl; rfl; infer_instance; omega) ) )) | apply wo_nil | apply wc_region | apply wc_skip | (apply wc_true; rfl) | (apply wc_false; rfl) | (apply a_dec_t; rfl; (· first | assumption | omega)) | (apply a_dec_f; rfl; (· first | assumption | omega)) ))
      exact loop_end ⟨i + 1, rfl, by omega, any_tk hx hf (by simpa using hc), rfl⟩ (by omega) (wk_mk (by (repeat (first | apply wkf_nil | (apply wkf_cons; rfl))); done) (by (repeat (first | apply sub_nil )); done) (by first | exact fun _ h => h | (intro r hr; cases hr; done) | (simp; done) | exact fun _ h => List.mem_append_left _ h | (intro r hr; simp [hr]; done)))
  · have e : i = l.length := by omega
    subst e
    (repeat (first | ((first | (apply wo_v; rfl) ); (· first | (apply pv_ev; rfl) )) | apply wo_nil | apply wc_seq | apply wc_region | (apply wc_exit; rfl) | apply wc_ret | (apply wc_true; rfl) | (apply wc_false; rfl) | (apply a_dec_t; rfl; (· first | assumption | omega)) | (apply a_dec_f; rfl; (· first | assumption | omega)) ))
    exact ret1 rfl rfl ⟨Fnd.no hf, rfl, rfl⟩ ((by (repeat (first | apply sub_nil )); done) : List.Perm _ ([] ++ _)) (by first | exact fun _ h => h | (intro r hr; cases hr; done) | (simp; done) | exact fun _ h => List.mem_append_left _ h | (intro r hr; simp [hr]; done))
theorem cContB (l : List Bk) (A : Option Addr) (n c : Nat) (R : List Ro) (hS : SQ R 7 A n c (blkV l)) (hl : l.length ≤ 100000) :
    Fn Try.prog 63 #[.slice A n c, fnV 64] [] R (fun v L' R' => v = .bool (l.any fun b => decide (16777216 ≤ b.tt)) ∧ L' = [] ∧ R' = []) := by
  refine fn_intro Try.func63 rfl Try.ntmps63 rfl (fun E => ?_)
  (repeat (first | ((first | (apply wo_v; rfl) ); (· first | (apply pv_ev; rfl) )) | apply wo_nil | apply wc_seq | apply wc_region ))
  (refine wo_call (cIdxB l A n c R hS hl) rfl (by (repeat (first | apply sub_nil )); done) (by first | exact fun _ h => h | (intro r hr; cases hr; done) | (simp; done) | exact fun _ h => List.mem_append_left _ h | (intro r hr; simp [hr]; done)) rfl ?_; rintro v L' R' ⟨⟨k, rfl, hk, he⟩, rfl, rfl⟩ H' hH RR hR; simp only [List.cons_append, List.nil_append] at hH hR; subst hH; have hR := hR.symm; subst hR)
  (repeat (first | ((first | (apply wo_v; rfl) ); (· first | (apply pv_ev; rfl) )) | apply wo_nil | apply wc_ret ))
  exact ret1 rfl rfl ⟨by rw [he], rfl, rfl⟩ ((by (repeat (first | apply sub_nil )); done) : List.Perm _ ([] ++ _)) (by first | exact fun _ h => h | (intro r hr; cases hr; done) | (simp; done) | exact fun _ h => List.mem_append_left _ h | (intro r hr; simp [hr]; done))
theorem cZero (k : Int) (s : ByteArray) : Fn Try.prog 68 #[.agg #[.int .u8 k, .string s]] [] [] (fun v L' R' => v = .bool (decide (k = 0)) ∧ L' = [] ∧ R' = []) := by
  refine fn_intro Try.func68 rfl Try.ntmps68 rfl (fun E => ?_)
  (repeat (first | ((first | (apply wo_v; rfl) ); (· first | (apply pv_ev; rfl) | (apply pv_fld; rfl) | (apply g_load; first | (apply pv_ld; rfl; (· (repeat (first | apply sel_here ))); rfl) ) )) | apply wo_nil | apply wc_seq | apply wc_region | apply wc_ret | (apply wo_box1; rfl; rfl; rfl; intro bx) | (apply wo_boxa; rfl; rfl; intro bx) ))
  exact retv rfl (by (repeat (first | apply RV.nil | (apply RV.tmp; rfl) )); done) (⟨rfl, rfl, rfl⟩) (by (repeat (first | apply sub_nil )); done) (by first | exact fun _ h => h | (intro r hr; cases hr; done) | (simp; done) | exact fun _ h => List.mem_append_left _ h | (intro r hr; simp [hr]; done))
set_option maxHeartbeats 4000000 in
theorem cIdxI (l : List (Int × ByteArray)) (A : Option Addr) (n c : Nat) (R : List Ro) (hS : SQ R 2 A n c (itmV l)) (hl : l.length ≤ 100000) :
    Fn Try.prog 81 #[.slice A n c, fnV 68] [] R (fun v L' R' => Fnd l (fun x => decide (x.1 = 0)) v ∧ L' = [] ∧ R' = []) := by
  have hn : n = l.length := by rw [← hS.len, itmV_len]
  subst hn
  refine fn_intro Try.func81 rfl Try.ntmps81 rfl (fun E => ?_)
  (repeat (first | ((first | (apply wo_v; rfl) ); (· first | (apply pv_ev; rfl) | (apply g_bi; first | (apply pv_len_sl; rfl) ) )) | apply wo_nil | apply wc_seq | apply wc_region ))
  refine wc_block ?_
  refine wc_loop' (fun q st => ∃ (i : Nat), q = l.length - i ∧ i ≤ l.length ∧ (l.take i).any (fun x => decide (x.1 = 0)) = false ∧ st = ⟨[(0, .slice A l.length c), (1, fnV 68), (7, .int .i64 l.length), (8, .int .i64 i)], [], R⟩) ⟨0, rfl, Nat.zero_le _, rfl, rfl⟩ (wk_mk (by (repeat (first | apply wkf_nil | (apply wkf_cons; rfl))); done) (by (repeat (first | apply sub_nil )); done) (by first | exact fun _ h => h | (intro r hr; cases hr; done) | (simp; done) | exact fun _ h => List.mem_append_left _ h | (intro r hr; simp [hr]; done))) ?_
  rintro q st ⟨i, rfl, hi, hf, rfl⟩
  by_cases hlt : i < l.length
  · obtain ⟨x, hx⟩ : ∃ x, l[i]? = some x := ⟨_, List.getElem?_eq_getElem hlt⟩
    have hr := itmV_at hx
    obtain ⟨a0, o0, rfl, hmem⟩ := hS.pos (by omega)
    have hg := cZero x.1 x.2
    (repeat (first | ((first | (apply wo_v; rfl) ); (· first | (apply pv_ev; rfl) )) | apply wo_nil | apply wc_seq | apply wc_region | apply wc_skip | (apply wc_true; rfl) | (apply wc_false; rfl) | (apply a_dec_t; rfl; (· first | assumption | omega)) ))
    refine wc_block ?_
    (repeat (first | ((first | (apply wo_v; rfl) ); (· first | (apply pv_ev; rfl) | (apply g_load; first | (apply pv_lda; rfl; (· (repeat (first | fail ))); (· (repeat (first | fail )))) | (apply pv_ld_owna; rfl; (· (repeat (first | fail ))); (· assumption)) | (apply pv_ld_roa; rfl; (· (first | assumption )); (· assumption))) | (apply g_idx; first | (apply pv_idx; rfl; rfl; omega) ) )) | apply wo_nil | apply wc_seq | apply wc_region ))
    refine wo_callv rfl hg rfl (by (repeat (first | apply sub_nil )); done) (by first | exact fun _ h => h | (intro r hr; cases hr; done) | (simp; done) | exact fun _ h => List.mem_append_left _ h | (intro r hr; simp [hr]; done)) rfl ?_
    rintro v L' R' ⟨rfl, rfl, rfl⟩ H hH RR hR
    simp only [List.cons_append, List.nil_append] at hH hR
    subst hH
    subst hR
    by_cases hc : x.1 = 0
    · (repeat (first | ((first | (apply wo_v; rfl) ); (· first | (apply pv_ev; rfl) )) | apply wo_nil | apply wc_seq | apply wc_region | apply wc_ret | (apply wc_true; rfl) | (apply wc_false; rfl) | (apply a_dec_t; rfl; (· first | assumption | omega)) ))
      exact ret1 rfl rfl ⟨Fnd.yes hx (by simpa using hc), rfl, rfl⟩ ((by (repeat (first | apply sub_nil )); done) : List.Perm _ ([] ++ _)) (by first | exact fun _ h => h | (intro r hr; cases hr; done) | (simp; done) | exact fun _ h => List.mem_append_left _ h | (intro r hr; simp [hr]; done))
    · (repeat (first | ((first | (apply wo_v; rfl) ); (· first | (apply pv_ev; rfl) | (apply g_bin; first | (apply a_add; rfl; rfl; infer_instance; omega) ) )) | apply wo_nil | apply wc_region | apply wc_skip | (apply wc_true; rfl) | (apply wc_false; rfl) | (apply a_dec_t; rfl; (· first | assumption | omega)) | (apply a_dec_f; rfl; (· first | assumption | omega)) ))
      exact loop_end ⟨i + 1, rfl, by omega, any_tk hx hf (by simpa using hc), rfl⟩ (by omega) (wk_mk (by (repeat (first | apply wkf_nil | (apply wkf_cons; rfl))); done) (by (repeat (first | apply sub_nil )); done) (by first | exact fun _ h => h | (intro r hr; cases hr; done) | (simp; done) | exact fun _ h => List.mem_append_left _ h | (intro r hr; simp [hr]; done)))
  · have e : i = l.length := by omega
    subst e
    (repeat (first | ((first | (apply wo_v; rfl) ); (· first | (apply pv_ev; rfl) )) | apply wo_nil | apply wc_seq | apply wc_region | (apply wc_exit; rfl) | apply wc_ret | (apply wc_true; rfl) | (apply wc_false; rfl) | (apply a_dec_t; rfl; (· first | assumption | omega)) | (apply a_dec_f; rfl; (· first | assumption | omega)) ))
    exact ret1 rfl rfl ⟨Fnd.no hf, rfl, rfl⟩ ((by (repeat (first | apply sub_nil )); done) : List.Perm _ ([] ++ _)) (by first | exact fun _ h => h | (intro r hr; cases hr; done) | (simp; done) | exact fun _ h => List.mem_append_left _ h | (intro r hr; simp [hr]; done))
theorem cContI (l : List (Int × ByteArray)) (A : Option Addr) (n c : Nat) (R : List Ro) (hS : SQ R 2 A n c (itmV l)) (hl : l.length ≤ 100000) :
    Fn Try.prog 67 #[.slice A n c, fnV 68] [] R (fun v L' R' => v = .bool (l.any fun x => decide (x.1 = 0)) ∧ L' = [] ∧ R' = []) := by
  refine fn_intro Try.func67 rfl Try.ntmps67 rfl (fun E => ?_)
  (repeat (first | ((first | (apply wo_v; rfl) ); (· first | (apply pv_ev; rfl) )) | apply wo_nil | apply wc_seq | apply wc_region ))
  (refine wo_call (cIdxI l A n c R hS hl) rfl (by (repeat (first | apply sub_nil )); done) (by first | exact fun _ h => h | (intro r hr; cases hr; done) | (simp; done) | exact fun _ h => List.mem_append_left _ h | (intro r hr; simp [hr]; done)) rfl ?_; rintro v L' R' ⟨⟨k, rfl, hk, he⟩, rfl, rfl⟩ H' hH RR hR; simp only [List.cons_append, List.nil_append] at hH hR; subst hH; have hR := hR.symm; subst hR)
  (repeat (first | ((first | (apply wo_v; rfl) ); (· first | (apply pv_ev; rfl) )) | apply wo_nil | apply wc_ret ))
  exact ret1 rfl rfl ⟨by rw [he], rfl, rfl⟩ ((by (repeat (first | apply sub_nil )); done) : List.Perm _ ([] ++ _)) (by first | exact fun _ h => h | (intro r hr; cases hr; done) | (simp; done) | exact fun _ h => List.mem_append_left _ h | (intro r hr; simp [hr]; done))
theorem cHole (ss : Int) (l : List (Int × ByteArray)) (A : Option Addr) (n c : Nat) (R : List Ro) (hS : SQ R 2 A n c (itmV l)) (hl : l.length ≤ 100000) : Fn Try.prog 66 #[.agg #[.int .u32 ss, .slice A n c]] [] R (fun v L' R' => v = .bool (l.any fun x => decide (x.1 = 0)) ∧ L' = [] ∧ R' = []) := by
  refine fn_intro Try.func66 rfl Try.ntmps66 rfl (fun E => ?_)
  (repeat (first | ((first | (apply wo_v; rfl) ); (· first | (apply pv_ev; rfl) | (apply pv_fld; rfl) | (apply g_load; first | (apply pv_ld; rfl; (· (repeat (first | apply sel_here ))); rfl) ) )) | apply wo_nil | apply wc_seq | apply wc_region | (apply wo_box1; rfl; rfl; rfl; intro bx) | (apply wo_boxa; rfl; rfl; intro bx) ))
  (refine wo_call (cContI l A n c R hS hl) rfl (by (repeat (first | apply sub_nil )); done) (by first | exact fun _ h => h | (intro r hr; cases hr; done) | (simp; done) | exact fun _ h => List.mem_append_left _ h | (intro r hr; simp [hr]; done)) rfl ?_; rintro v L' R' ⟨rfl, rfl, rfl⟩ H' hH RR hR; simp only [List.cons_append, List.nil_append] at hH hR; subst hH; have hR := hR.symm; subst hR)
  (repeat (first | ((first | (apply wo_v; rfl) ); (· first | (apply pv_ev; rfl) )) | apply wo_nil | apply wc_ret ))
  exact ret1 rfl rfl ⟨rfl, rfl, rfl⟩ ((by (repeat (first | apply sub_nil )); done) : List.Perm _ ([] ++ _)) (by first | exact fun _ h => h | (intro r hr; cases hr; done) | (simp; done) | exact fun _ h => List.mem_append_left _ h | (intro r hr; simp [hr]; done))
abbrev Ck5 := Int × List (Int × ByteArray)
set_option maxHeartbeats 4000000 in
theorem cIdxC (l : List Ck5) (rows : List (List Value)) (A : Option Addr) (n c : Nat) (R : List Ro) (hS : SQ R 2 A n c rows) (hV : ChsV R l rows) (hl : l.length ≤ 100000) (hi2 : ∀ c ∈ l, c.2.length ≤ 100000) :
    Fn Try.prog 80 #[.slice A n c, fnV 66] [] R (fun v L' R' => Fnd l (fun c => c.2.any fun x => decide (x.1 = 0)) v ∧ L' = [] ∧ R' = []) := by
  have hn : n = l.length := by rw [← hS.len, hV.1]
  refine fn_intro Try.func80 rfl Try.ntmps80 rfl (fun E => ?_)
  (repeat (first | ((first | (apply wo_v; rfl) ); (· first | (apply pv_ev; rfl) | (apply g_bi; first | (apply pv_len_sl; rfl) ) )) | apply wo_nil | apply wc_seq | apply wc_region ))
  refine wc_block ?_
  refine wc_loop' (fun q st => ∃ (i : Nat), q = l.length - i ∧ i ≤ l.length ∧ (l.take i).any (fun c => c.2.any fun x => decide (x.1 = 0)) = false ∧ st = ⟨[(0, .slice A n c), (1, fnV 66), (7, .int .i64 n), (8, .int .i64 i)], [], R⟩) ⟨0, rfl, Nat.zero_le _, rfl, rfl⟩ (wk_mk (by (repeat (first | apply wkf_nil | (apply wkf_cons; rfl))); done) (by (repeat (first | apply sub_nil )); done) (by first | exact fun _ h => h | (intro r hr; cases hr; done) | (simp; done) | exact fun _ h => List.mem_append_left _ h | (intro r hr; simp [hr]; done))) ?_
  rintro q st ⟨i, rfl, hi, hf, rfl⟩
  by_cases hlt : i < l.length
  · obtain ⟨x, hx⟩ : ∃ x, l[i]? = some x := ⟨_, List.getElem?_eq_getElem hlt⟩
    obtain ⟨row, hr, Ai, ni, ci, rfl, hSi⟩ := hV.2 i x hx
    obtain ⟨a0, o0, rfl, hmem⟩ := hS.pos (by omega)
    have hg := cHole x.1 x.2 Ai ni ci R hSi (hi2 x (List.mem_of_getElem? hx))
    (repeat (first | ((first | (apply wo_v; rfl) ); (· first | (apply pv_ev; rfl) )) | apply wo_nil | apply wc_seq | apply wc_region | apply wc_skip | (apply wc_true; rfl) | (apply wc_false; rfl) | (apply a_dec_t; rfl; (· first | assumption | omega)) ))
    refine wc_block ?_
    (repeat (first | ((first | (apply wo_v; rfl) ); (· first | (apply pv_ev; rfl) | (apply g_load; first | (apply pv_lda; rfl; (· (repeat (first | fail ))); (· (repeat (first | fail )))) | (apply pv_ld_owna; rfl; (· (repeat (first | fail ))); (· assumption)) | (apply pv_ld_roa; rfl; (· (first | assumption )); (· assumption))) | (apply g_idx; first | (apply pv_idx; rfl; rfl; omega) ) )) | apply wo_nil | apply wc_seq | apply wc_region ))
    refine wo_callv rfl hg rfl (by (repeat (first | apply sub_nil )); done) (by first | exact fun _ h => h | (intro r hr; cases hr; done) | (simp; done) | exact fun _ h => List.mem_append_left _ h | (intro r hr; simp [hr]; done)) rfl ?_
    rintro v L' R' ⟨rfl, rfl, rfl⟩ H hH RR hR
    simp only [List.cons_append, List.nil_append] at hH hR
    subst hH
    subst hR
    cases hc : x.2.any fun x => decide (x.1 = 0) with
    | true =>
      (repeat (first | ((first | (apply wo_v; rfl) ); (· first | (apply pv_ev; rfl) )) | apply wo_nil | apply wc_seq | apply wc_region | apply wc_ret | (apply wc_true; rfl) ))
      exact ret1 rfl rfl ⟨Fnd.yes hx hc, rfl, rfl⟩ ((by (repeat (first | apply sub_nil )); done) : List.Perm _ ([] ++ _)) (by first | exact fun _ h => h | (intro r hr; cases hr; done) | (simp; done) | exact fun _ h => List.mem_append_left _ h | (intro r hr; simp [hr]; done))
    | false =>
      (repeat (first | ((first | (apply wo_v; rfl) ); (· first | (apply pv_ev; rfl) | (apply g_bin; first | (apply a_add; rfl; rfl; infer_instance; omega) ) )) | apply wo_nil | apply wc_region | apply wc_skip | (apply wc_true; rfl) | (apply wc_false; rfl) ))
      exact loop_end ⟨i + 1, rfl, by omega, any_tk hx hf hc, rfl⟩ (by omega) (wk_mk (by (repeat (first | apply wkf_nil | (apply wkf_cons; rfl))); done) (by (repeat (first | apply sub_nil )); done) (by first | exact fun _ h => h | (intro r hr; cases hr; done) | (simp; done) | exact fun _ h => List.mem_append_left _ h | (intro r hr; simp [hr]; done)))
  · have e : i = l.length := by omega
    subst e
    (repeat (first | ((first | (apply wo_v; rfl) ); (· first | (apply pv_ev; rfl) )) | apply wo_nil | apply wc_seq | apply wc_region | (apply wc_exit; rfl) | apply wc_ret | (apply wc_true; rfl) | (apply wc_false; rfl) | (apply a_dec_t; rfl; (· first | assumption | omega)) | (apply a_dec_f; rfl; (· first | assumption | omega)) ))
    exact ret1 rfl rfl ⟨Fnd.no hf, rfl, rfl⟩ ((by (repeat (first | apply sub_nil )); done) : List.Perm _ ([] ++ _)) (by first | exact fun _ h => h | (intro r hr; cases hr; done) | (simp; done) | exact fun _ h => List.mem_append_left _ h | (intro r hr; simp [hr]; done))
theorem cContC (l : List Ck5) (rows : List (List Value)) (A : Option Addr) (n c : Nat) (R : List Ro) (hS : SQ R 2 A n c rows) (hV : ChsV R l rows) (hl : l.length ≤ 100000) (hi2 : ∀ c ∈ l, c.2.length ≤ 100000) :
    Fn Try.prog 65 #[.slice A n c, fnV 66] [] R (fun v L' R' => v = .bool (l.any fun c => c.2.any fun x => decide (x.1 = 0)) ∧ L' = [] ∧ R' = []) := by
  refine fn_intro Try.func65 rfl Try.ntmps65 rfl (fun E => ?_)
  (repeat (first | ((first | (apply wo_v; rfl) ); (· first | (apply pv_ev; rfl) )) | apply wo_nil | apply wc_seq | apply wc_region ))
  (refine wo_call (cIdxC l rows A n c R hS hV hl hi2) rfl (by (repeat (first | apply sub_nil )); done) (by first | exact fun _ h => h | (intro r hr; cases hr; done) | (simp; done) | exact fun _ h => List.mem_append_left _ h | (intro r hr; simp [hr]; done)) rfl ?_; rintro v L' R' ⟨⟨k, rfl, hk, he⟩, rfl, rfl⟩ H' hH RR hR; simp only [List.cons_append, List.nil_append] at hH hR; subst hH; have hR := hR.symm; subst hR)
  (repeat (first | ((first | (apply wo_v; rfl) ); (· first | (apply pv_ev; rfl) )) | apply wo_nil | apply wc_ret ))
  exact ret1 rfl rfl ⟨by rw [he], rfl, rfl⟩ ((by (repeat (first | apply sub_nil )); done) : List.Perm _ ([] ++ _)) (by first | exact fun _ h => h | (intro r hr; cases hr; done) | (simp; done) | exact fun _ h => List.mem_append_left _ h | (intro r hr; simp [hr]; done))
end Go.Proofs.Yteaccbbmphcmnaa

/-
  Package rtcp: Check: lists, sound.
-/
namespace Go.Proofs.Yteaccbbmphcmnaa
set_option linter.unusedSimpArgs false
set_option linter.unusedVariables false
open Go.RowKit
attribute [local irreducible] Pv WO WC Fn
set_option maxRecDepth 100000
attribute [local irreducible] ByteArray.extract

def mxI (l : List (Int × ByteArray)) (m : Int) : Int := l.foldl (fun m x => max m (x.2.size : Int)) m
def mxC (l : List Ck5) (m : Int) : Int := l.foldl (fun m c => mxI c.2 m) m
theorem mxI_take {l : List (Int × ByteArray)} {j : Nat} {x : Int × ByteArray} (m : Int) (h : l[j]? = some x) : mxI (l.take (j + 1)) m = max (mxI (l.take j) m) (x.2.size : Int) := by
  unfold mxI
  rw [List.take_add_one, h, List.foldl_append]; rfl
theorem mxC_take {l : List Ck5} {j : Nat} {x : Ck5} (m : Int) (h : l[j]? = some x) : mxC (l.take (j + 1)) m = mxI x.2 (mxC (l.take j) m) := by
  unfold mxC
  rw [List.take_add_one, h, List.foldl_append]; rfl
/-- lists that are not too long for the machine -/
def szK : Pkt → Prop
  | .sender _ _ _ _ _ bl => bl.length ≤ 100000
  | .receiver _ bl => bl.length ≤ 100000
  | .sdes ch => ch.length ≤ 100000 ∧ ∀ c ∈ ch, c.2.length ≤ 100000
  | _ => True
def lsK : Pkt → Int × Int
  | .sender _ _ _ _ _ bl => (bl.length, 0)
  | .receiver _ bl => (bl.length, 0)
  | .sdes ch => (ch.length, mxC ch 0)
  | .bye ss rs => (ss.length, rs.size)
  | _ => (0, 0)
abbrev LsC (R : List Ro) (v : Value) (q : Int × Int) : Prop := Fn Try.prog 39 #[v] [] R (fun u L' R' => u = .tuple #[.int .i64 q.1, .int .i64 q.2] ∧ L' = [] ∧ R' = [])
set_option maxHeartbeats 8000000 in
theorem cLsSdes (l : List Ck5) (rows : List (List Value)) (A : Option Addr) (n c : Nat) (R : List Ro) (hS : SQ R 2 A n c rows) (hV : ChsV R l rows) (hl : l.length ≤ 100000) (hi2 : ∀ c ∈ l, c.2.length ≤ 100000) : LsC R (.iface 157 (.agg #[.slice A n c])) (l.length, mxC l 0) := by
  have hn : n = l.length := by rw [← hS.len, hV.1]
  refine fn_intro Try.func39 rfl Try.ntmps39 rfl (fun E => ?_)
  (repeat (first | ((first | (apply wo_v; rfl) ); (· first | (apply pv_ev; rfl) | (apply pv_fld; rfl) | (apply g_load; first | (apply pv_ld; rfl; (· (repeat (first | apply sel_here ))); rfl) ) | (apply g_bi; first | (apply pv_len_sl; rfl) ) | (apply pv_tas; rfl; infer_instance) )) | apply wo_nil | apply wc_seq | apply wc_region | apply wc_block | (apply wc_true; rfl) | (apply wc_false; rfl) | (apply wo_alloc; rfl; intro bx) | (apply wo_sta; rfl; rfl; rfl; rfl; (· (repeat (first | apply sel_here ))); (· (repeat (first | apply LayAt.nil | apply LayAt.here ))); rfl) ))
  obtain ⟨b6, hb6⟩ : ∃ g, g = bx := ⟨_, rfl⟩
  subst hb6
  refine wc_loop' (fun q st => ∃ (i : Nat), q = l.length - i ∧ i ≤ l.length ∧ st = ⟨[(6, .pointer (some ⟨b6, 0, none⟩)), (7, .int .i64 (mxC (l.take i) 0)), (30, .slice A n c), (31, .int .i64 n), (32, .int .i64 i)], [sdB b6 (.slice A n c)], R⟩) ⟨0, rfl, Nat.zero_le _, rfl⟩ (wk_mk (by (repeat (first | apply wkf_nil | (apply wkf_cons; rfl))); done) (by (repeat (first | apply sub_nil )); done) (by first | exact fun _ h => h | (intro r hr; cases hr; done) | (simp; done) | exact fun _ h => List.mem_append_left _ h | (intro r hr; simp [hr]; done))) ?_
  rintro q st ⟨i, rfl, hi, rfl⟩
  by_cases hlt : i < l.length
  · obtain ⟨x, hx⟩ : ∃ x, l[i]? = some x := ⟨_, List.getElem?_eq_getElem hlt⟩
    obtain ⟨row, hr, Ai, ni, ci, rfl, hSi⟩ := hV.2 i x hx
    have hil := hi2 x (List.mem_of_getElem? hx)
    obtain ⟨a0, o0, rfl, hmem⟩ := hS.pos (by omega)
    have hnx := mxC_take 0 hx
    generalize mxC (l.take i) 0 = m at *
    obtain ⟨ss, its⟩ := x
    dsimp only at hr hSi hnx hil
    have hni : ni = its.length := by rw [← hSi.len, itmV_len]
    subst hni
    (repeat (first | ((first | (apply wo_v; rfl) ); (· first | (apply pv_ev; rfl) )) | apply wo_nil | apply wc_seq | apply wc_region | apply wc_skip | (apply wc_true; rfl) | (apply wc_false; rfl) | (apply a_dec_t; rfl; (· first | assumption | omega)) ))
    refine wc_block ?_
    (repeat (first | ((first | (apply wo_v; rfl) ); (· first | (apply pv_ev; rfl) | (apply pv_fld; rfl) | (apply g_load; first | (apply pv_ld; rfl; (· (repeat (first | apply sel_here ))); rfl) | (apply pv_lda; rfl; (· (repeat (first | apply sel_there))); (· (repeat (first | fail )))) | (apply pv_ld_owna; rfl; (· (repeat (first | apply sel_there))); (· assumption)) | (apply pv_ld_roa; rfl; (· (first | assumption )); (· assumption))) | (apply g_bi; first | (apply pv_len_sl; rfl) ) | (apply g_idx; first | (apply pv_idx; rfl; rfl; omega) ) )) | apply wo_nil | apply wc_seq | apply wc_region | (apply wo_alloc; rfl; intro bx) | (apply wo_sta; rfl; rfl; rfl; rfl; (· (repeat (first | apply sel_here ))); (· (repeat (first | apply LayAt.nil | apply LayAt.here ))); rfl) ))
    obtain ⟨b9, hb9⟩ : ∃ g, g = bx := ⟨_, rfl⟩
    subst hb9
    refine wc_join0 (fun st => st = ⟨[(6, .pointer (some ⟨b6, 0, none⟩)), (7, .int .i64 (mxI its m)), (30, .slice (some ⟨a0, o0, none⟩) n c), (31, .int .i64 n), (32, .int .i64 i)], [sdB b6 (.slice (some ⟨a0, o0, none⟩) n c)], R⟩) ?_ ?_
    · refine wc_block ?_
      refine wc_loop' (fun q st => ∃ (j : Nat), q = its.length - j ∧ j ≤ its.length ∧ st = ⟨[(6, .pointer (some ⟨b6, 0, none⟩)), (7, .int .i64 (mxI (its.take j) m)), (30, .slice (some ⟨a0, o0, none⟩) n c), (31, .int .i64 n), (32, .int .i64 i), (37, .slice Ai its.length ci), (38, .int .i64 its.length), (39, .int .i64 j)], [sdB b6 (.slice (some ⟨a0, o0, none⟩) n c)], R⟩) ⟨0, rfl, Nat.zero_le _, rfl⟩ (wk_mk (by (repeat (first | apply wkf_nil | (apply wkf_cons; rfl))); done) (by (repeat (first | apply sub_nil | (apply sub_cons; (· (repeat (first | apply sel_here | apply sel_there)))))); done) (by first | exact fun _ h => h | (intro r hr; cases hr; done) | (simp; done) | exact fun _ h => List.mem_append_left _ h | (intro r hr; simp [hr]; done))) ?_
      rintro q st ⟨j, rfl, hj, rfl⟩
      by_cases hlj : j < its.length
      · obtain ⟨y, hy⟩ : ∃ y, its[j]? = some y := ⟨_, List.getElem?_eq_getElem hlj⟩
        have hr2 := itmV_at hy
        have hny := mxI_take m hy
        obtain ⟨k, tx⟩ := y
        dsimp only at hr2 hny
        obtain ⟨ba, oa, rfl, hmi⟩ := hSi.pos (by omega)
        (repeat (first | ((first | (apply wo_v; rfl) ); (· first | (apply pv_ev; rfl) )) | apply wo_nil | apply wc_seq | apply wc_region | apply wc_skip | (apply wc_true; rfl) | (apply wc_false; rfl) | (apply a_dec_t; rfl; (· first | assumption | omega)) ))
        refine wc_block ?_
        (repeat (first | ((first | (apply wo_v; rfl) ); (· first | (apply pv_ev; rfl) | (apply pv_fld; rfl) | (apply g_load; first | (apply pv_ld; rfl; (· (repeat (first | apply sel_here ))); rfl) | (apply pv_lda; rfl; (· (repeat (first | apply sel_there))); (· (repeat (first | fail )))) | (apply pv_ld_owna; rfl; (· (repeat (first | apply sel_there))); (· assumption)) | (apply pv_ld_roa; rfl; (· (first | assumption )); (· assumption))) | (apply g_bin; first | (apply a_add; rfl; rfl; infer_instance; omega) ) | (apply g_bi; first | (apply pv_len_str; rfl) | (apply pv_max; rfl; rfl)) | (apply g_idx; first | (apply pv_idx; rfl; rfl; omega) ) )) | apply wo_nil | apply wc_seq | apply wc_region | (apply wo_alloc; rfl; intro bx) | (apply wo_sta; rfl; rfl; rfl; rfl; (· (repeat (first | apply sel_here ))); (· (repeat (first | apply LayAt.nil | apply LayAt.here ))); rfl) ))
        exact loop_end ⟨j + 1, rfl, by omega, by rw [hny]⟩ (by omega) (wk_mk (by (repeat (first | apply wkf_nil | (apply wkf_cons; rfl))); done) (by (repeat (first | apply sub_nil | (apply sub_cons; (· (repeat (first | apply sel_here | apply sel_there)))))); done) (by first | exact fun _ h => h | (intro r hr; cases hr; done) | (simp; done) | exact fun _ h => List.mem_append_left _ h | (intro r hr; simp [hr]; done)))
      · have e : j = its.length := by omega
        subst e
        rw [List.take_length]
        (repeat (first | ((first | (apply wo_v; rfl) ); (· first | (apply pv_ev; rfl) )) | apply wo_nil | apply wc_seq | apply wc_region | (apply wc_exit; rfl) | (apply wc_true; rfl) | (apply wc_false; rfl) | (apply a_dec_t; rfl; (· first | assumption | omega)) | (apply a_dec_f; rfl; (· first | assumption | omega)) ))
        exact cut_end rfl (wk_mk (by (repeat (first | apply wkf_nil | (apply wkf_cons; rfl))); done) (by (repeat (first | apply sub_nil )); done) (by first | exact fun _ h => h | (intro r hr; cases hr; done) | (simp; done) | exact fun _ h => List.mem_append_left _ h | (intro r hr; simp [hr]; done)))
    rintro st rfl
    (repeat (first | ((first | (apply wo_v; rfl) ); (· first | (apply pv_ev; rfl) | (apply g_bin; first | (apply a_add; rfl; rfl; infer_instance; omega) ) )) | apply wo_nil | apply wc_region ))
    exact loop_end ⟨i + 1, rfl, by omega, by rw [hnx]⟩ (by omega) (wk_mk (by (repeat (first | apply wkf_nil | (apply wkf_cons; rfl))); done) (by (repeat (first | apply sub_nil )); done) (by first | exact fun _ h => h | (intro r hr; cases hr; done) | (simp; done) | exact fun _ h => List.mem_append_left _ h | (intro r hr; simp [hr]; done)))
  · have e : i = l.length := by omega
    subst e
    rw [List.take_length]
    (repeat (first | ((first | (apply wo_v; rfl) ); (· first | (apply pv_ev; rfl) | (apply pv_fld; rfl) | (apply g_load; first | (apply pv_ld; rfl; (· (repeat (first | apply sel_here ))); rfl) ) | (apply g_bi; first | (apply pv_len_sl; rfl) ) )) | apply wo_nil | apply wc_seq | apply wc_region | (apply wc_exit; rfl) | apply wc_ret | (apply wc_true; rfl) | (apply wc_false; rfl) | (apply a_dec_t; rfl; (· first | assumption | omega)) | (apply a_dec_f; rfl; (· first | assumption | omega)) ))
    exact ret2 rfl rfl rfl ⟨by rw [hn], rfl, rfl⟩ ((by (repeat (first | apply sub_nil )); done) : List.Perm _ ([] ++ _)) (by first | exact fun _ h => h | (intro r hr; cases hr; done) | (simp; done) | exact fun _ h => List.mem_append_left _ h | (intro r hr; simp [hr]; done))
theorem cLists {R : List Ro} : ∀ {p : Pkt} {v : Value}, szK p → PkV R p v → LsC R v (lsK p)
  | .sender ss ntp t pk oc bl, v, hz, hv => by
    obtain ⟨A, n, c, rfl, hS⟩ := hv
    have hn : n = bl.length := by rw [← hS.len, blkV_len]
    subst hn
    refine fn_intro Try.func39 rfl Try.ntmps39 rfl (fun E => ?_)
    (repeat (first | ((first | (apply wo_v; rfl) ); (· first | (apply pv_ev; rfl) | (apply pv_fld; rfl) | (apply g_load; first | (apply pv_ld; rfl; (· (repeat (first | apply sel_here ))); rfl) ) | (apply g_bi; first | (apply pv_len_sl; rfl) ) | (apply pv_tas; rfl; infer_instance) )) | apply wo_nil | apply wc_seq | apply wc_region | apply wc_block | apply wc_ret | (apply wc_true; rfl) | (apply wo_alloc; rfl; intro bx) | (apply wo_sta; rfl; rfl; rfl; rfl; (· (repeat (first | apply sel_here ))); (· (repeat (first | apply LayAt.nil | apply LayAt.here ))); rfl) ))
    exact ret2 rfl rfl rfl ⟨rfl, rfl, rfl⟩ ((by (repeat (first | apply sub_nil )); done) : List.Perm _ ([] ++ _)) (by first | exact fun _ h => h | (intro r hr; cases hr; done) | (simp; done) | exact fun _ h => List.mem_append_left _ h | (intro r hr; simp [hr]; done))
  | .receiver ss bl, v, hz, hv => by
    obtain ⟨A, n, c, rfl, hS⟩ := hv
    have hn : n = bl.length := by rw [← hS.len, blkV_len]
    subst hn
    refine fn_intro Try.func39 rfl Try.ntmps39 rfl (fun E => ?_)
    (repeat (first | ((first | (apply wo_v; rfl) ); (· first | (apply pv_ev; rfl) | (apply pv_fld; rfl) | (apply g_load; first | (apply pv_ld; rfl; (· (repeat (first | apply sel_here ))); rfl) ) | (apply g_bi; first | (apply pv_len_sl; rfl) ) | (apply pv_tas; rfl; infer_instance) )) | apply wo_nil | apply wc_seq | apply wc_region | apply wc_block | apply wc_ret | (apply wc_true; rfl) | (apply wc_false; rfl) | (apply wo_alloc; rfl; intro bx) | (apply wo_sta; rfl; rfl; rfl; rfl; (· (repeat (first | apply sel_here ))); (· (repeat (first | apply LayAt.nil | apply LayAt.here ))); rfl) ))
    exact ret2 rfl rfl rfl ⟨rfl, rfl, rfl⟩ ((by (repeat (first | apply sub_nil )); done) : List.Perm _ ([] ++ _)) (by first | exact fun _ h => h | (intro r hr; cases hr; done) | (simp; done) | exact fun _ h => List.mem_append_left _ h | (intro r hr; simp [hr]; done))
  | .sdes ch, v, hz, hv => by
    obtain ⟨A, n, c, rows, rfl, hS, hV⟩ := hv
    exact cLsSdes ch rows A n c R hS hV hz.1 hz.2
  | .bye ss rs, v, hz, hv => by
    obtain ⟨A, n, c, rfl, hS⟩ := hv
    have hn : n = ss.length := by rw [← hS.len, c32_len]
    subst hn
    refine fn_intro Try.func39 rfl Try.ntmps39 rfl (fun E => ?_)
    (repeat (first | ((first | (apply wo_v; rfl) ); (· first | (apply pv_ev; rfl) | (apply pv_tas; rfl; infer_instance) )) | apply wo_nil | apply wc_seq | apply wc_region | apply wc_block | (apply wc_true; rfl) | (apply wc_false; rfl) | (apply wo_alloc; rfl; intro bx) | (apply wo_sta; rfl; rfl; rfl; rfl; (· (repeat (first | apply sel_here ))); (· (repeat (first | apply LayAt.nil | apply LayAt.here ))); rfl) ))
    (refine wc_quiet mixed (by kernel_rfl) ?_; (repeat (first | ((first | (apply hd_v; rfl) ); (· first | (apply pv_ev; rfl) | (apply pv_fld; rfl) | (apply g_load; first | (apply pv_ld; rfl; (· (repeat (first | apply sel_here ))); rfl) ) | (apply g_bi; first | (apply pv_len_sl; rfl) | (apply pv_len_str; rfl) ) )) | apply Hd.nil | apply wc_ret )))
    exact ret2 rfl rfl rfl ⟨rfl, rfl, rfl⟩ ((by (repeat (first | apply sub_nil )); done) : List.Perm _ ([] ++ _)) (by first | exact fun _ h => h | (intro r hr; cases hr; done) | (simp; done) | exact fun _ h => List.mem_append_left _ h | (intro r hr; simp [hr]; done))
  | .nack fm to ps, v, hz, hv => by
    obtain ⟨A, n, c, rfl, hS⟩ := hv
    refine fn_intro Try.func39 rfl Try.ntmps39 rfl (fun E => ?_)
    (repeat (first | ((first | (apply wo_v; rfl) ); (· first | (apply pv_ev; rfl) | (apply pv_tas; rfl; infer_instance) )) | apply wo_nil | apply wc_seq | apply wc_region | apply wc_block | apply wc_skip | apply wc_ret | (apply wc_true; rfl) | (apply wc_false; rfl) ))
    exact ret2 rfl rfl rfl ⟨rfl, rfl, rfl⟩ ((by (repeat (first | apply sub_nil )); done) : List.Perm _ ([] ++ _)) (by first | exact fun _ h => h | (intro r hr; cases hr; done) | (simp; done) | exact fun _ h => List.mem_append_left _ h | (intro r hr; simp [hr]; done))
  | .pli fm to, v, hz, hv => by
    obtain rfl := hv
    refine fn_intro Try.func39 rfl Try.ntmps39 rfl (fun E => ?_)
    (repeat (first | ((first | (apply wo_v; rfl) ); (· first | (apply pv_ev; rfl) | (apply pv_tas; rfl; infer_instance) )) | apply wo_nil | apply wc_seq | apply wc_region | apply wc_block | apply wc_skip | apply wc_ret | (apply wc_true; rfl) | (apply wc_false; rfl) ))
    exact ret2 rfl rfl rfl ⟨rfl, rfl, rfl⟩ ((by (repeat (first | apply sub_nil )); done) : List.Perm _ ([] ++ _)) (by first | exact fun _ h => h | (intro r hr; cases hr; done) | (simp; done) | exact fun _ h => List.mem_append_left _ h | (intro r hr; simp [hr]; done))
  | .fir fm os, v, hz, hv => by
    obtain ⟨A, n, c, rfl, hS⟩ := hv
    refine fn_intro Try.func39 rfl Try.ntmps39 rfl (fun E => ?_)
    (repeat (first | ((first | (apply wo_v; rfl) ); (· first | (apply pv_ev; rfl) | (apply pv_tas; rfl; infer_instance) )) | apply wo_nil | apply wc_seq | apply wc_region | apply wc_block | apply wc_skip | apply wc_ret | (apply wc_true; rfl) | (apply wc_false; rfl) ))
    exact ret2 rfl rfl rfl ⟨rfl, rfl, rfl⟩ ((by (repeat (first | apply sub_nil )); done) : List.Perm _ ([] ++ _)) (by first | exact fun _ h => h | (intro r hr; cases hr; done) | (simp; done) | exact fun _ h => List.mem_append_left _ h | (intro r hr; simp [hr]; done))
  | .remb fm rt ss, v, hz, hv => by
    obtain ⟨A, n, c, rfl, hS⟩ := hv
    refine fn_intro Try.func39 rfl Try.ntmps39 rfl (fun E => ?_)
    (repeat (first | ((first | (apply wo_v; rfl) ); (· first | (apply pv_ev; rfl) | (apply pv_tas; rfl; infer_instance) )) | apply wo_nil | apply wc_seq | apply wc_region | apply wc_block | apply wc_skip | apply wc_ret | (apply wc_true; rfl) | (apply wc_false; rfl) ))
    exact ret2 rfl rfl rfl ⟨rfl, rfl, rfl⟩ ((by (repeat (first | apply sub_nil )); done) : List.Perm _ ([] ++ _)) (by first | exact fun _ h => h | (intro r hr; cases hr; done) | (simp; done) | exact fun _ h => List.mem_append_left _ h | (intro r hr; simp [hr]; done))
  | .other kd ct bd, v, hz, hv => by
    obtain rfl := hv
    refine fn_intro Try.func39 rfl Try.ntmps39 rfl (fun E => ?_)
    (repeat (first | ((first | (apply wo_v; rfl) ); (· first | (apply pv_ev; rfl) | (apply pv_tas; rfl; infer_instance) )) | apply wo_nil | apply wc_seq | apply wc_region | apply wc_block | apply wc_skip | apply wc_ret | (apply wc_true; rfl) | (apply wc_false; rfl) ))
    exact ret2 rfl rfl rfl ⟨rfl, rfl, rfl⟩ ((by (repeat (first | apply sub_nil )); done) : List.Perm _ ([] ++ _)) (by first | exact fun _ h => h | (intro r hr; cases hr; done) | (simp; done) | exact fun _ h => List.mem_append_left _ h | (intro r hr; simp [hr]; done))
def knB (kd ct : Int) : Bool := decide ((200 ≤ kd ∧ kd ≤ 203) ∨ (kd = 205 ∧ ct = 1) ∨ (kd = 206 ∧ (ct = 1 ∨ ct = 4 ∨ ct = 15)))
theorem knB_iff {kd ct : Int} : knB kd ct = true ↔ knK kd ct := by unfold knB knK; exact decide_eq_true_iff
theorem cKnown (kd ct : Int) : Fn Try.prog 70 #[.int .u8 kd, .int .u8 ct] [] [] (fun v L' R' => v = .bool (knB kd ct) ∧ L' = [] ∧ R' = []) := by
  have hc : (kd < 200) ∨ (200 ≤ kd ∧ kd ≤ 203) ∨ (203 < kd ∧ kd = 205 ∧ ct = 1) ∨ (203 < kd ∧ kd = 205 ∧ ct ≠ 1) ∨ (203 < kd ∧ kd = 206 ∧ ct = 1) ∨ (203 < kd ∧ kd = 206 ∧ ct ≠ 1 ∧ ct = 4) ∨ (203 < kd ∧ kd = 206 ∧ ct ≠ 1 ∧ ct ≠ 4 ∧ ct = 15) ∨ (203 < kd ∧ kd = 206 ∧ ct ≠ 1 ∧ ct ≠ 4 ∧ ct ≠ 15) ∨ (203 < kd ∧ kd ≠ 205 ∧ kd ≠ 206) := by omega
  unfold knB
  rcases hc with a | ⟨a, b⟩ | ⟨a, b, c⟩ | ⟨a, b, c⟩ | ⟨a, b, c⟩ | ⟨a, b, c, d⟩ | ⟨a, b, c, d, e⟩ | ⟨a, b, c, d, e⟩ | ⟨a, b, c⟩
  all_goals
    refine fn_intro Try.func70 rfl Try.ntmps70 rfl (fun E => ?_)
    (repeat (first | ((first | (apply wo_v; rfl) ); (· first | (apply pv_ev; rfl) | (apply g_pick; first | (apply pv_pick_t; rfl; rfl) | (apply pv_pick_f; rfl; rfl)) )) | apply wo_nil | apply wc_seq | apply wc_region | apply wc_ret | (apply wo_run; rfl; rfl) | (apply wo_skip; rfl; rfl; rfl; rfl) | (apply wo_skip_u; rfl; rfl; rfl) | (apply a_gt; rfl; rfl; (· first | assumption | omega)) | (apply a_gf; rfl; rfl; (· first | assumption | omega)) ))
    exact ret1 rfl rfl ⟨by congr 1; first | rfl | (exact decide_eq_decide.2 (by omega)) | (simp; omega) | (rw [eq_comm, decide_eq_true_iff]; omega) | (rw [eq_comm, decide_eq_false_iff_not]; omega), rfl, rfl⟩ ((by (repeat (first | apply sub_nil )); done) : List.Perm _ ([] ++ _)) (by first | exact fun _ h => h | (intro r hr; cases hr; done) | (simp; done) | exact fun _ h => List.mem_append_left _ h | (intro r hr; simp [hr]; done))
end Go.Proofs.Yteaccbbmphcmnaa
