/-
  Texts of this proof, laid together (part 7 of 7).
-/
import Derived.Test.YtlhlidmhlhodiaaB6
/-
  AntiphonShares: bytes in proportion to the shares.
-/
namespace Go.Proofs.Ytlhlidmhlhodiaa
set_option linter.unusedSimpArgs false
set_option linter.unusedVariables false
open Go.RowKit
attribute [local irreducible] Pv WO WC Fn
set_option maxRecDepth 100000

abbrev c64s (l : List Int) : List (List Value) := l.map fun x => [.int .i64 x]
theorem c64s_at {l : List Int} {j : Nat} {x : Int} (h : l[j]? = some x) : (c64s l)[j]? = some [.int .i64 x] := by rw [List.getElem?_map, h]; rfl
abbrev saB (b : Nat) (s1 s2 : Int) : It := .ob b (.cells #[.int .i64 0, .int .i64 s1, .int .i64 s2] 126 (0, 0))
abbrev shH (ba e mf gs ms ml q1 q2 : Nat) (p q s1 s2 cr at_ : Int) (gr : Bool) (kl : List (Int × Value)) (a1 : Option Addr) (n1 c1 : Nat) (l1 : List It4) (k1 : Bool) (a2 : Option Addr) (n2 c2 : Nat) (l2 : List It4) (k2 : Bool) : List It := [saB ba s1 s2, eoI e mf gs cr 0, .ob mf (mob .i64 (fmM q1 q2)), Qc q1 5 1000 a1 n1 c1 (sumS l1) k1, Qc q2 5 1000 a2 n2 c2 (sumS l2) k2, scI gs ms ml at_ gr, .ob ms (shM p q), .ob ml (mob .i64 kl)]
abbrev shS (p q sz : Int) (Ag : Option Addr) (ng cg e ba : Nat) (n : Int) (i : Nat) (X : List (Nat × Value)) : List (Nat × Value) := (0, .int .i64 p) :: (1, .int .i64 q) :: (2, .int .i64 sz) :: (3, .slice Ag ng cg) :: (9, .pointer (some ⟨e, 0, none⟩)) :: (11, .int .i64 n) :: (12, .pointer (some ⟨ba, 0, none⟩)) :: (13, .int .i64 i) :: X
/-- a queue, and whether it takes all -/
def Qf (sz : Int) (l : List It4) (k : Bool) : Prop := QI sz l ∧ l.length ≤ 5 ∧ (k = false ∨ l.length = 0)
set_option maxHeartbeats 64000000 in
theorem shares_fn (x y z : Int) (lg : List Int) (Ag : Option Addr) (cg : Nat) (R : List Ro) (hG : SQ R 1 Ag lg.length cg (c64s lg)) :
    Fn Try.prog 10 #[.int .i64 x, .int .i64 y, .int .i64 z, .slice Ag lg.length cg] [] R (fun v _ _ => v = .bool true) := by
  have e1 : bits .and .i64 x 63 = x % 64 := and_63 x
  have e2 : bits .and .i64 y 63 = y % 64 := and_63 y
  have e3 : bits .and .i64 z 255 = z % 256 := and_ones z 8 (by omega)
  have b1 : 0 ≤ bits .and .i64 x 63 ∧ bits .and .i64 x 63 ≤ 63 := by omega
  have b2 : 0 ≤ bits .and .i64 y 63 ∧ bits .and .i64 y 63 ≤ 63 := by omega
  have b3 : 0 ≤ bits .and .i64 z 255 ∧ bits .and .i64 z 255 ≤ 255 := by omega
  clear e1 e2 e3
  refine fn_intro Try.func10 rfl Try.ntmps10 rfl (fun E => ?_)
  (repeat (first | ((first | (apply wo_v; rfl) ); (· first | (apply pv_ev; rfl) )) | apply wo_nil | apply wc_seq | apply wc_region ))
  (refine wo_call (alive) rfl (by (repeat (first | apply sub_nil )); done) (by first | exact fun _ h => h | (intro r hr; cases hr; done) | (simp; done) | exact fun _ h => List.mem_append_left _ h | (intro r hr; simp [hr]; done)) rfl ?_; rintro v L' R' ⟨rfl, rfl, rfl⟩ H' hH RR hR; simp only [List.cons_append, List.nil_append] at hH hR; subst hH; have hR := hR.symm; subst hR)
  (repeat (first | ((first | (apply wo_v; rfl) ); (· first | (apply pv_ev; rfl) | (apply g_bin; first | (apply a_add; rfl; rfl; infer_instance; omega) | (apply pv_rem; rfl; rfl; omega) | (apply pv_and; rfl; rfl) ) | (apply g_un; first | (apply pv_not_t; rfl) ) | (apply g_build; apply pv_build; (· (repeat (first | apply Bld.nil | (apply Bld.one; rfl; rfl; (· (repeat (first | apply SetAt.here | apply SetAt.there)))) )))) )) | apply wo_nil | apply wc_seq | apply wc_region | apply wc_skip | (apply wc_true; rfl) | (apply wc_false; rfl) ))
  obtain ⟨p, hp⟩ : ∃ p, 40 + bits .and .i64 x 63 = p := ⟨_, rfl⟩
  obtain ⟨q, hq⟩ : ∃ q, 40 + bits .and .i64 y 63 = q := ⟨_, rfl⟩
  obtain ⟨sz, hsz⟩ : ∃ sz, 1 + bits .and .i64 z 255 % 40 = sz := ⟨_, rfl⟩
  rw [hp, hq, hsz]
  have hb : 40 ≤ p ∧ p ≤ 200 ∧ 40 ≤ q ∧ q ≤ 200 ∧ 1 ≤ sz ∧ sz ≤ 40 := by omega
  have hpq1 : 0 ≤ p * q := Int.mul_nonneg (by omega) (by omega)
  have hpq2 : p * q ≤ 200 * 200 := Int.mul_le_mul hb.2.1 hb.2.2.2.1 (by omega) (by omega)
  clear hp hq hsz b1 b2 b3
  (refine wo_call (eNew) rfl (by (repeat (first | apply sub_nil )); done) (by first | exact fun _ h => h | (intro r hr; cases hr; done) | (simp; done) | exact fun _ h => List.mem_append_left _ h | (intro r hr; simp [hr]; done)) rfl ?_; rintro v L' R' ⟨e, mf, gs, ms, ml, rfl, rfl, rfl⟩ H' hH RR hR; simp only [List.cons_append, List.nil_append] at hH hR; subst hH; have hR := hR.symm; subst hR)
  have hA1 := eAdd e mf gs ms ml 1 p [] [] rfl rfl (by omega)
  have hA2 := fun q1 => eAdd e mf gs ms ml 2 q [(1, flV q1)] [(1, .int .i64 p)] rfl rfl (by omega)
  (repeat (first | ((first | (apply wo_v; rfl) ); (· first | (apply pv_ev; rfl) )) | apply wo_nil | apply wc_seq | apply wc_region | (apply wo_run; rfl; rfl) ))
  (refine wo_call (hA1) rfl (by (repeat (first | apply sub_nil )); done) (by first | exact fun _ h => h | (intro r hr; cases hr; done) | (simp; done) | exact fun _ h => List.mem_append_left _ h | (intro r hr; simp [hr]; done)) rfl ?_; rintro v L' R' ⟨q1, rfl, rfl, rfl⟩ H' hH RR hR; simp only [List.cons_append, List.nil_append] at hH hR; subst hH; have hR := hR.symm; subst hR)
  (repeat (first | ((first | (apply wo_v; rfl) ); (· first | (apply pv_ev; rfl) | (apply g_pick; first | (apply pv_pick_t; rfl; rfl) | (apply pv_pick_f; rfl; rfl)) )) | (apply wo_run; rfl; rfl) ))
  have hA2 := hA2 q1
  (refine wo_call (hA2) rfl (by (repeat (first | apply sub_nil )); done) (by first | exact fun _ h => h | (intro r hr; cases hr; done) | (simp; done) | exact fun _ h => List.mem_append_left _ h | (intro r hr; simp [hr]; done)) rfl ?_; rintro v L' R' ⟨q2, rfl, rfl, rfl⟩ H' hH RR hR; simp only [List.cons_append, List.nil_append] at hH hR; subst hH; have hR := hR.symm; subst hR)
  (repeat (first | ((first | (apply wo_v; rfl) ); (· first | (apply pv_ev; rfl) | (apply g_pick; first | (apply pv_pick_t; rfl; rfl) | (apply pv_pick_f; rfl; rfl)) )) | apply wo_nil | apply wc_seq | apply wc_region | apply wc_skip | (apply wc_true; rfl) | (apply wc_false; rfl) | (apply wo_run; rfl; rfl) | (apply wo_alloc; rfl; intro bx) ))
  obtain ⟨ba, hba⟩ : ∃ g, g = bx := ⟨_, rfl⟩
  subst hba
  refine wc_block ?_
  refine wc_loop' (fun w st => ∃ (i : Nat) (n cr at_ : Int) (gr : Bool) (y1 y2 s1 s2 : Int) (kl : List (Int × Value)) (a1 : Option Addr) (n1 c1 : Nat) (l1 : List It4) (k1 : Bool) (a2 : Option Addr) (n2 c2 : Nat) (l2 : List It4) (k2 : Bool) (RR : List Ro), w = 60 - i ∧ i ≤ 60 ∧ (0 ≤ n ∧ n ≤ 20 * (i : Int)) ∧ (0 ≤ cr ∧ cr < sz) ∧ (0 ≤ s1 ∧ s1 ≤ 200 * (i : Int)) ∧ (0 ≤ s2 ∧ s2 ≤ 200 * (i : Int)) ∧ KL kl ⟨at_, gr, y1, y2⟩ ∧ DI p q sz s1 s2 ⟨at_, gr, y1, y2⟩ ∧
      SR RR 4 a1 n1 c1 (its l1) ∧ SR RR 4 a2 n2 c2 (its l2) ∧ Qf sz l1 k1 ∧ Qf sz l2 k2 ∧ (∀ r ∈ R, r ∈ RR) ∧
      st = ⟨shS p q sz Ag lg.length cg e ba n i [], shH ba e mf gs ms ml q1 q2 p q s1 s2 cr at_ gr kl a1 n1 c1 l1 k1 a2 n2 c2 l2 k2, RR⟩)
    ⟨0, 0, 0, 0, false, 0, 0, 0, 0, [], none, 0, 0, [], true, none, 0, 0, [], true, R, rfl, by omega, by omega, by omega, by omega, by omega, ⟨.inl ⟨rfl, rfl⟩, .inl ⟨rfl, rfl⟩, fun x hx => by cases hx⟩, DI.zero p q sz, SR.nil R 4, SR.nil R 4, ⟨⟨fun x hx => by cases hx⟩, by simp, .inr rfl⟩, ⟨⟨fun x hx => by cases hx⟩, by simp, .inr rfl⟩, fun _ h => h, rfl⟩ (wk_mk (by (repeat (first | apply wkf_nil | (apply wkf_cons; rfl))); done) (by (repeat (first | apply sub_nil | (apply sub_cons; (· (repeat (first | apply sel_here | apply sel_there)))))); done) (by first | exact fun _ h => h | (intro r hr; cases hr; done) | (simp; done) | exact fun _ h => List.mem_append_left _ h | (intro r hr; simp [hr]; done))) ?_
  clear hA1 hA2
  rintro w st ⟨i, n, cr, at_, gr, y1, y2, s1, s2, kl, a1, n1, c1, l1, k1, a2, n2, c2, l2, k2, RR, rfl, hi, hn, hcr, hs1, hs2, hk, hD, hS1, hS2, hQ1, hQ2, hRR, rfl⟩
  by_cases h1 : i < lg.length
  · by_cases h2 : i < 60
    · obtain ⟨g, hg⟩ : ∃ g, lg[i]? = some g := ⟨_, List.getElem?_eq_getElem h1⟩
      have hr := c64s_at hg
      (repeat (first | ((first | (apply wo_v; rfl) ); (· first | (apply pv_ev; rfl) | (apply g_pick; first | (apply pv_pick_t; rfl; rfl) ) | (apply g_bi; first | (apply pv_len_sl; rfl) ) )) | apply wo_nil | apply wc_seq | apply wc_region | apply wc_skip | (apply wc_true; rfl) | (apply wc_false; rfl) | (apply a_dec_t; rfl; (· first | assumption | omega)) | (apply wo_run; rfl; rfl) | (apply wo_skip; rfl; rfl; rfl; rfl) | (apply wo_skip_u; rfl; rfl; rfl) | (apply a_gt; rfl; rfl; (· first | assumption | omega)) ))
      refine wc_block ?_
      apply wc_seq
      refine wc_join0 (fun st => ∃ (n : Int) (a1 : Option Addr) (n1 c1 : Nat) (l1 : List It4) (a2 : Option Addr) (n2 c2 : Nat) (l2 : List It4) (RR : List Ro), (0 ≤ n ∧ n ≤ 20 * (i : Int) + 10) ∧ SR RR 4 a1 n1 c1 (its l1) ∧ SR RR 4 a2 n2 c2 (its l2) ∧ QI sz l1 ∧ QI sz l2 ∧ l1.length = 5 ∧ l2.length = 5 ∧ (∀ r ∈ R, r ∈ RR) ∧
        st = ⟨shS p q sz Ag lg.length cg e ba n i [], shH ba e mf gs ms ml q1 q2 p q s1 s2 cr at_ gr kl a1 n1 c1 l1 false a2 n2 c2 l2 false, RR⟩) ?_ ?_
      · (repeat (first | ((first | (apply wo_v; rfl) ); (· first | (apply pv_ev; rfl) )) | apply wo_nil | apply wc_seq | apply wc_region ))
        refine wc_block ?_
        refine wc_loop' (fun w st => ∃ (id : Nat) (n : Int) (a1 : Option Addr) (n1 c1 : Nat) (l1 : List It4) (k1 : Bool) (a2 : Option Addr) (n2 c2 : Nat) (l2 : List It4) (k2 : Bool) (RR : List Ro), (id = 1 ∨ (id = 2 ∧ l1.length = 5) ∨ (id = 3 ∧ l1.length = 5 ∧ l2.length = 5)) ∧ w = 3 - id ∧ (0 ≤ n ∧ n ≤ 20 * (i : Int) + l1.length + l2.length) ∧ SR RR 4 a1 n1 c1 (its l1) ∧ SR RR 4 a2 n2 c2 (its l2) ∧ Qf sz l1 k1 ∧ Qf sz l2 k2 ∧ (∀ r ∈ R, r ∈ RR) ∧
          st = ⟨shS p q sz Ag lg.length cg e ba n i [(14, .int .i64 id)], shH ba e mf gs ms ml q1 q2 p q s1 s2 cr at_ gr kl a1 n1 c1 l1 k1 a2 n2 c2 l2 k2, RR⟩)
          ⟨1, n, a1, n1, c1, l1, k1, a2, n2, c2, l2, k2, RR, .inl rfl, rfl, by omega, hS1, hS2, hQ1, hQ2, hRR, rfl⟩ (wk_mk (by (repeat (first | apply wkf_nil | (apply wkf_cons; rfl))); done) (by (repeat (first | apply sub_nil )); done) (by first | exact fun _ h => h | (intro r hr; cases hr; done) | (simp; done) | exact fun _ h => List.mem_append_left _ h | (intro r hr; simp [hr]; done))) ?_
        clear hS1 hS2 hQ1 hQ2 hRR hn
        rintro w st ⟨id, n, a1, n1, c1, l1, k1, a2, n2, c2, l2, k2, RR, hid, rfl, hn, hS1, hS2, hQ1, hQ2, hRR, rfl⟩
        rcases hid with rfl | ⟨rfl, h5⟩ | ⟨rfl, h5, h6⟩
        · (repeat (first | ((first | (apply wo_v; rfl) ); (· first | (apply pv_ev; rfl) )) | apply wo_nil | apply wc_seq | apply wc_region | apply wc_skip | (apply wc_true; rfl) ))
          refine wc_block ?_
          refine wc_block ?_
          refine wc_loop' (fun w st => ∃ (n : Int) (a1 : Option Addr) (n1 c1 : Nat) (l1 : List It4) (k1 : Bool) (RR : List Ro), w = 5 - l1.length ∧ (0 ≤ n ∧ n ≤ 20 * (i : Int) + l1.length + l2.length) ∧ SR RR 4 a1 n1 c1 (its l1) ∧ SR RR 4 a2 n2 c2 (its l2) ∧ Qf sz l1 k1 ∧ (∀ r ∈ R, r ∈ RR) ∧
            st = ⟨shS p q sz Ag lg.length cg e ba n i [(14, .int .i64 1)], shH ba e mf gs ms ml q1 q2 p q s1 s2 cr at_ gr kl a1 n1 c1 l1 k1 a2 n2 c2 l2 k2, RR⟩)
            ⟨n, a1, n1, c1, l1, k1, RR, rfl, hn, hS1, hS2, hQ1, hRR, rfl⟩ (wk_mk (by (repeat (first | apply wkf_nil | (apply wkf_cons; rfl))); done) (by (repeat (first | apply sub_nil )); done) (by first | exact fun _ h => h | (intro r hr; cases hr; done) | (simp; done) | exact fun _ h => List.mem_append_left _ h | (intro r hr; simp [hr]; done))) ?_
          clear hS1 hS2 hQ1 hRR hn
          rintro w st ⟨n, a1, n1, c1, l1, k1, RR, rfl, hn, hS1, hS2, hQ1, hRR, rfl⟩
          have hnl : n1 = l1.length := by rw [← hS1.len]; exact its_len l1
          have hW := eWaits e mf gs cr 0 1 (fmM q1 q2) q1 a1 n1 c1 (sumS l1) k1 (fm1 q1 q2)
          refine wc_block ?_
          (repeat (first | ((first | (apply wo_v; rfl) ); (· first | (apply pv_ev; rfl) )) | apply wc_seq | apply wc_region ))
          (refine wo_call (hW) rfl (by (repeat (first | apply sub_nil | (apply sub_cons; (· (repeat (first | apply sel_here | apply sel_there)))))); done) (by first | exact fun _ h => h | (intro r hr; cases hr; done) | (simp; done) | exact fun _ h => List.mem_append_left _ h | (intro r hr; simp [hr]; done)) rfl ?_; rintro v L' R' ⟨rfl, rfl, rfl⟩ H' hH RR hR; simp only [List.cons_append, List.nil_append] at hH hR; subst hH; have hR := hR.symm; subst hR)
          have hle := hQ1.2.1
          have hll := hQ2.2.1
          by_cases hf5 : l1.length = 5
          · have hn5 : n1 = 5 := by omega
            subst hn5
            (repeat (first | ((first | (apply wo_v; rfl) ); (· first | (apply pv_ev; rfl) | (apply g_bin; first | (apply a_add; rfl; rfl; infer_instance; omega) ) )) | apply wo_nil | apply wc_seq | apply wc_region | (apply wc_exit; rfl) | (apply wc_true; rfl) ))
            exact loop_end ⟨2, n, a1, 5, c1, l1, k1, a2, n2, c2, l2, k2, RR, .inr (.inl ⟨rfl, hf5⟩), rfl, hn, hS1, hS2, hQ1, hQ2, hRR, rfl⟩ (by omega) (wk_mk (by (repeat (first | apply wkf_nil | (apply wkf_cons; rfl))); done) (by (repeat (first | apply sub_nil | (apply sub_cons; (· (repeat (first | apply sel_here | apply sel_there)))))); done) (by first | exact fun _ h => h | (intro r hr; cases hr; done) | (simp; done) | exact fun _ h => List.mem_append_left _ h | (intro r hr; simp [hr]; done)))
          · have hn5 : ¬ (n1 : Int) = 5 := by omega
            have hPut := ePut e mf gs cr 0 1 (n + 1) sz (fmM q1 q2) q1 a1 n1 c1 l1 k1 RR hS1 (fm1 q1 q2) hQ1.1 (by omega) (by omega)
            (repeat (first | ((first | (apply wo_v; rfl) ); (· first | (apply pv_ev; rfl) | (apply g_bin; first | (apply a_add; rfl; rfl; infer_instance; omega) ) | (apply g_build; apply pv_build; (· (repeat (first | apply Bld.nil | (apply Bld.one; rfl; rfl; (· (repeat (first | apply SetAt.here | apply SetAt.there)))) )))) )) | apply wo_nil | apply wc_seq | apply wc_region | apply wc_skip | (apply wc_true; rfl) | (apply wc_false; rfl) | (apply a_dec_t; rfl; (· first | assumption | omega)) | (apply a_dec_f; rfl; (· first | assumption | omega)) ))
            (refine wo_call (hPut) rfl (by (repeat (first | apply sub_nil )); done) (by first | exact fun _ h => h | (intro r hr; cases hr; done) | (simp; done) | exact fun _ h => List.mem_append_left _ h | (intro r hr; simp [hr]; done)) rfl ?_; rintro v L' R' ⟨a9, n9, c9, rfl, rfl, hS9⟩ H' hH RR hR; simp only [List.cons_append, List.nil_append] at hH hR; subst hH; have hR := hR.symm; subst hR)
            (repeat (first | ((first | (apply wo_v; rfl) ); (· first | (apply pv_ev; rfl) | (apply g_un; first | (apply pv_not_t; rfl) ) )) | apply wo_nil | apply wc_seq | apply wc_region | apply wc_skip | (apply wc_true; rfl) | (apply wc_false; rfl) ))
            have hl9 : (l1 ++ [(n + 1, sz, 0, true)]).length = l1.length + 1 := by rw [List.length_append]; rfl
            exact loop_end ⟨n + 1, a9, n9, c9, l1 ++ [(n + 1, sz, 0, true)], false, R' ++ RR, rfl, by rw [hl9]; omega, hS9.mono (fun r hr => List.mem_append_left _ hr), hS2.mono (fun r hr => List.mem_append_right _ hr), ⟨hQ1.1.snoc (n + 1), by rw [hl9]; omega, .inl rfl⟩, fun r hr => List.mem_append_right _ (hRR r hr), rfl⟩ (by rw [hl9]; omega) (wk_mk (by (repeat (first | apply wkf_nil | (apply wkf_cons; rfl))); done) (by (repeat (first | apply sub_nil | (apply sub_cons; (· (repeat (first | apply sel_here | apply sel_there)))))); done) (by first | exact fun _ h => h | (intro r hr; cases hr; done) | (simp; done) | exact fun _ h => List.mem_append_left _ h | (intro r hr; simp [hr]; done)))
        · (repeat (first | ((first | (apply wo_v; rfl) ); (· first | (apply pv_ev; rfl) )) | apply wo_nil | apply wc_seq | apply wc_region | apply wc_skip | (apply wc_true; rfl) ))
          refine wc_block ?_
          refine wc_block ?_
          refine wc_loop' (fun w st => ∃ (n : Int) (a2 : Option Addr) (n2 c2 : Nat) (l2 : List It4) (k2 : Bool) (RR : List Ro), w = 5 - l2.length ∧ (0 ≤ n ∧ n ≤ 20 * (i : Int) + l1.length + l2.length) ∧ SR RR 4 a1 n1 c1 (its l1) ∧ SR RR 4 a2 n2 c2 (its l2) ∧ Qf sz l2 k2 ∧ (∀ r ∈ R, r ∈ RR) ∧
            st = ⟨shS p q sz Ag lg.length cg e ba n i [(14, .int .i64 2)], shH ba e mf gs ms ml q1 q2 p q s1 s2 cr at_ gr kl a1 n1 c1 l1 k1 a2 n2 c2 l2 k2, RR⟩)
            ⟨n, a2, n2, c2, l2, k2, RR, rfl, hn, hS1, hS2, hQ2, hRR, rfl⟩ (wk_mk (by (repeat (first | apply wkf_nil | (apply wkf_cons; rfl))); done) (by (repeat (first | apply sub_nil )); done) (by first | exact fun _ h => h | (intro r hr; cases hr; done) | (simp; done) | exact fun _ h => List.mem_append_left _ h | (intro r hr; simp [hr]; done))) ?_
          clear hS1 hS2 hQ2 hRR hn
          rintro w st ⟨n, a2, n2, c2, l2, k2, RR, rfl, hn, hS1, hS2, hQ2, hRR, rfl⟩
          have hnl : n2 = l2.length := by rw [← hS2.len]; exact its_len l2
          have hW := eWaits e mf gs cr 0 2 (fmM q1 q2) q2 a2 n2 c2 (sumS l2) k2 (fm2 q1 q2)
          refine wc_block ?_
          (repeat (first | ((first | (apply wo_v; rfl) ); (· first | (apply pv_ev; rfl) )) | apply wc_seq | apply wc_region ))
          (refine wo_call (hW) rfl (by (repeat (first | apply sub_nil | (apply sub_cons; (· (repeat (first | apply sel_here | apply sel_there)))))); done) (by first | exact fun _ h => h | (intro r hr; cases hr; done) | (simp; done) | exact fun _ h => List.mem_append_left _ h | (intro r hr; simp [hr]; done)) rfl ?_; rintro v L' R' ⟨rfl, rfl, rfl⟩ H' hH RR hR; simp only [List.cons_append, List.nil_append] at hH hR; subst hH; have hR := hR.symm; subst hR)
          have hle := hQ2.2.1
          have hll := hQ1.2.1
          by_cases hf5 : l2.length = 5
          · have hn5 : n2 = 5 := by omega
            subst hn5
            (repeat (first | ((first | (apply wo_v; rfl) ); (· first | (apply pv_ev; rfl) | (apply g_bin; first | (apply a_add; rfl; rfl; infer_instance; omega) ) )) | apply wo_nil | apply wc_seq | apply wc_region | (apply wc_exit; rfl) | (apply wc_true; rfl) ))
            exact loop_end ⟨3, n, a1, n1, c1, l1, k1, a2, 5, c2, l2, k2, RR, .inr (.inr ⟨rfl, h5, hf5⟩), rfl, hn, hS1, hS2, hQ1, hQ2, hRR, rfl⟩ (by omega) (wk_mk (by (repeat (first | apply wkf_nil | (apply wkf_cons; rfl))); done) (by (repeat (first | apply sub_nil | (apply sub_cons; (· (repeat (first | apply sel_here | apply sel_there)))))); done) (by first | exact fun _ h => h | (intro r hr; cases hr; done) | (simp; done) | exact fun _ h => List.mem_append_left _ h | (intro r hr; simp [hr]; done)))
          · have hn5 : ¬ (n2 : Int) = 5 := by omega
            have hPut := ePut e mf gs cr 0 2 (n + 1) sz (fmM q1 q2) q2 a2 n2 c2 l2 k2 RR hS2 (fm2 q1 q2) hQ2.1 (by omega) (by omega)
            (repeat (first | ((first | (apply wo_v; rfl) ); (· first | (apply pv_ev; rfl) | (apply g_bin; first | (apply a_add; rfl; rfl; infer_instance; omega) ) | (apply g_build; apply pv_build; (· (repeat (first | apply Bld.nil | (apply Bld.one; rfl; rfl; (· (repeat (first | apply SetAt.here | apply SetAt.there)))) )))) )) | apply wo_nil | apply wc_seq | apply wc_region | apply wc_skip | (apply wc_true; rfl) | (apply wc_false; rfl) | (apply a_dec_t; rfl; (· first | assumption | omega)) | (apply a_dec_f; rfl; (· first | assumption | omega)) ))
            (refine wo_call (hPut) rfl (by (repeat (first | apply sub_nil )); done) (by first | exact fun _ h => h | (intro r hr; cases hr; done) | (simp; done) | exact fun _ h => List.mem_append_left _ h | (intro r hr; simp [hr]; done)) rfl ?_; rintro v L' R' ⟨a9, n9, c9, rfl, rfl, hS9⟩ H' hH RR hR; simp only [List.cons_append, List.nil_append] at hH hR; subst hH; have hR := hR.symm; subst hR)
            (repeat (first | ((first | (apply wo_v; rfl) ); (· first | (apply pv_ev; rfl) | (apply g_un; first | (apply pv_not_t; rfl) ) )) | apply wo_nil | apply wc_seq | apply wc_region | apply wc_skip | (apply wc_true; rfl) | (apply wc_false; rfl) ))
            have hl9 : (l2 ++ [(n + 1, sz, 0, true)]).length = l2.length + 1 := by rw [List.length_append]; rfl
            exact loop_end ⟨n + 1, a9, n9, c9, l2 ++ [(n + 1, sz, 0, true)], false, R' ++ RR, rfl, by rw [hl9]; omega, hS1.mono (fun r hr => List.mem_append_right _ hr), hS9.mono (fun r hr => List.mem_append_left _ hr), ⟨hQ2.1.snoc (n + 1), by rw [hl9]; omega, .inl rfl⟩, fun r hr => List.mem_append_right _ (hRR r hr), rfl⟩ (by rw [hl9]; omega) (wk_mk (by (repeat (first | apply wkf_nil | (apply wkf_cons; rfl))); done) (by (repeat (first | apply sub_nil | (apply sub_cons; (· (repeat (first | apply sel_here | apply sel_there)))))); done) (by first | exact fun _ h => h | (intro r hr; cases hr; done) | (simp; done) | exact fun _ h => List.mem_append_left _ h | (intro r hr; simp [hr]; done)))
        · have hk1 : k1 = false := hQ1.2.2.resolve_right (by omega)
          have hk2 : k2 = false := hQ2.2.2.resolve_right (by omega)
          subst hk1 hk2
          (repeat (first | ((first | (apply wo_v; rfl) ); (· first | (apply pv_ev; rfl) )) | apply wo_nil | apply wc_seq | apply wc_region | (apply wc_exit; rfl) | (apply wc_true; rfl) | (apply wc_false; rfl) ))
          exact cut_end ⟨n, a1, n1, c1, l1, a2, n2, c2, l2, RR, by omega, hS1, hS2, hQ1.1, hQ2.1, h5, h6, hRR, rfl⟩ (wk_mk (by (repeat (first | apply wkf_nil | (apply wkf_cons; rfl))); done) (by (repeat (first | apply sub_nil )); done) (by first | exact fun _ h => h | (intro r hr; cases hr; done) | (simp; done) | exact fun _ h => List.mem_append_left _ h | (intro r hr; simp [hr]; done)))
      clear hS1 hS2 hQ1 hQ2 hRR hn
      rintro st ⟨n, a1, n1, c1, l1, a2, n2, c2, l2, RR, hn, hS1, hS2, hQ1, hQ2, hl1, hl2, hRR, rfl⟩
      have e4 : bits .and .i64 g 127 = g % 128 := and_127 g
      have hgb : 0 ≤ bits .and .i64 g 127 ∧ bits .and .i64 g 127 ≤ 127 := by omega
      obtain ⟨a7, o7, rfl, hmem⟩ := (hG.mono hRR).pos (by omega)
      (repeat (first | ((first | (apply wo_v; rfl) ); (· first | (apply pv_ev; rfl) | (apply g_load; first | (apply pv_ld; rfl; (· (repeat (first | apply sel_there))); rfl) | (apply pv_ld_ownf; rfl; (· (repeat (first | fail ))); (· assumption); rfl) | (apply pv_ld_own1; rfl; (· (repeat (first | apply sel_there))); (· assumption)) | (apply pv_ld_rof; rfl; (· (first | assumption )); (· assumption); rfl) | (apply pv_ld_ro1; rfl; (· (first | assumption )); (· assumption)) ) | (apply g_bin; first | (apply a_mul; rfl; rfl; infer_instance; omega) | (apply pv_and; rfl; rfl) ) | (apply g_bi; first | (apply pv_min; rfl; rfl) ) | (apply g_idx; first | (apply pv_idx; rfl; rfl; omega) ) )) | apply wc_seq | apply wc_region ))
      obtain ⟨gm, hgm⟩ : ∃ gm, min (bits .and .i64 g 127) (3 * sz) = gm := ⟨_, rfl⟩
      rw [hgm]
      have hgm2 : 0 ≤ gm ∧ gm ≤ 3 * sz := by omega
      clear hgm e4 hgb
      have hGr := eGrant e mf gs cr 0 gm (by omega)
      have hRn := eRun e mf gs ms ml q1 q2 (cr + gm) at_ gr y1 y2 p q sz kl a1 n1 c1 l1 a2 n2 c2 l2 RR s1 s2 hk hD hb hS1 hS2 hl1 hl2 hQ1 hQ2 (by omega)
      (refine wo_call (hGr) rfl (by (repeat (first | apply sub_nil | (apply sub_cons; (· (repeat (first | apply sel_here | apply sel_there)))))); done) (by first | exact fun _ h => h | (intro r hr; cases hr; done) | (simp; done) | exact fun _ h => List.mem_append_left _ h | (intro r hr; simp [hr]; done)) rfl ?_; rintro v L' R' ⟨rfl, rfl, rfl⟩ H' hH RR hR; simp only [List.cons_append, List.nil_append] at hH hR; subst hH; have hR := hR.symm; subst hR)
      (repeat (first | ((first | (apply wo_v; rfl) ); (· first | (apply pv_ev; rfl) )) | apply wo_nil | apply wc_seq | apply wc_region ))
      (refine wo_call (hRn) rfl (by (repeat (first | apply sub_nil | (apply sub_cons; (· (repeat (first | apply sel_here | apply sel_there)))))); done) (by first | exact fun _ h => h | (intro r hr; cases hr; done) | (simp; done) | exact fun _ h => List.mem_append_left _ h | (intro r hr; simp [hr]; done)) rfl ?_; rintro v L' R' ⟨rows, ao, co, kl', t', cr', a1, n1, c1, l1, a2, n2, c2, l2, rfl, rfl, hT1, hT2, hU1, hU2, hV1, hV2, hids, hcr', hk', hD', hr3⟩ H' hH RR hR; simp only [List.cons_append, List.nil_append] at hH hR; subst hH; have hR := hR.symm; subst hR)
      have hT1 := hT1.mono (R' := R' ++ RR) (fun r hr => List.mem_append_left _ hr)
      have hT2 := hT2.mono (R' := R' ++ RR) (fun r hr => List.mem_append_left _ hr)
      have hRR2 : ∀ r ∈ R, r ∈ R' ++ RR := fun r hr => List.mem_append_right _ (hRR r hr)
      clear hGr hRn hS1 hS2 hQ1 hQ2 hRR hmem hk hD hcr hgm2
      generalize R' ++ RR = RG at hT1 hT2 hRR2 ⊢
      have hsum := cI_sum hids
      have hc1 : sz * (cI 1 rows : Int) ≤ 40 * 3 := Int.mul_le_mul hb.2.2.2.2.2 (by omega) (by omega) (by omega)
      have hc2 : sz * (cI 2 rows : Int) ≤ 40 * 3 := Int.mul_le_mul hb.2.2.2.2.2 (by omega) (by omega) (by omega)
      have hp1 : 0 ≤ sz * (cI 1 rows : Int) := Int.mul_nonneg (by omega) (by omega)
      have hp2 : 0 ≤ sz * (cI 2 rows : Int) := Int.mul_nonneg (by omega) (by omega)
      obtain ⟨F1, hF1⟩ : ∃ F1, s1 + sz * (cI 1 rows : Int) = F1 := ⟨_, rfl⟩
      obtain ⟨F2, hF2⟩ : ∃ F2, s2 + sz * (cI 2 rows : Int) = F2 := ⟨_, rfl⟩
      rw [hF1, hF2] at hD'
      (repeat (first | ((first | (apply wo_v; rfl) ); (· first | (apply pv_ev; rfl) | (apply g_bi; first | (apply pv_len_sl; rfl) ) )) | apply wo_nil ))
      refine wc_join0 (fun st => ∃ (n : Int) (a1 : Option Addr) (n1 c1 : Nat) (l1 : List It4) (a2 : Option Addr) (n2 c2 : Nat) (l2 : List It4) (RR : List Ro), (0 ≤ n ∧ n ≤ 20 * (i : Int) + 13) ∧ SR RR 4 a1 n1 c1 (its l1) ∧ SR RR 4 a2 n2 c2 (its l2) ∧ QI sz l1 ∧ QI sz l2 ∧ l1.length = 5 ∧ l2.length = 5 ∧ (∀ r ∈ R, r ∈ RR) ∧
        st = ⟨shS p q sz (some ⟨a7, o7, none⟩) lg.length cg e ba n i [], shH ba e mf gs ms ml q1 q2 p q F1 F2 cr' t'.at_ t'.gr kl' a1 n1 c1 l1 false a2 n2 c2 l2 false, RR⟩) ?_ ?_
      · refine wc_block ?_
        refine wc_loop' (fun w st => ∃ (j : Nat) (n x1 x2 : Int) (a1 : Option Addr) (n1 c1 : Nat) (l1 : List It4) (a2 : Option Addr) (n2 c2 : Nat) (l2 : List It4) (RR : List Ro), w = rows.length - j ∧ j ≤ rows.length ∧ (0 ≤ n ∧ n ≤ 20 * (i : Int) + 10 + j) ∧ (0 ≤ x1 ∧ x1 + sz * (cI 1 (rows.drop j) : Int) = F1) ∧ (0 ≤ x2 ∧ x2 + sz * (cI 2 (rows.drop j) : Int) = F2) ∧ SR RR 4 a1 n1 c1 (its l1) ∧ SR RR 4 a2 n2 c2 (its l2) ∧ QI sz l1 ∧ QI sz l2 ∧ l1.length + cI 1 (rows.drop j) = 5 ∧ l2.length + cI 2 (rows.drop j) = 5 ∧ (∀ r ∈ R, r ∈ RR) ∧
          st = ⟨shS p q sz (some ⟨a7, o7, none⟩) lg.length cg e ba n i [(100, .slice ao rows.length co), (101, .int .i64 rows.length), (102, .int .i64 j)], snO ao co rows :: shH ba e mf gs ms ml q1 q2 p q x1 x2 cr' t'.at_ t'.gr kl' a1 n1 c1 l1 false a2 n2 c2 l2 false, RR⟩)
          ⟨0, n, s1, s2, a1, n1, c1, l1, a2, n2, c2, l2, RG, rfl, Nat.zero_le _, by omega, ⟨hs1.1, by rw [List.drop_zero]; exact hF1⟩, ⟨hs2.1, by rw [List.drop_zero]; exact hF2⟩, hT1, hT2, hU1, hU2, by rw [List.drop_zero]; exact hV1, by rw [List.drop_zero]; exact hV2, hRR2, rfl⟩ (wk_mk (by (repeat (first | apply wkf_nil | (apply wkf_cons; rfl))); done) (by (repeat (first | apply sub_nil | (apply sub_cons; (· (repeat (first | apply sel_here | apply sel_there)))))); done) (by first | exact fun _ h => h | (intro r hr; cases hr; done) | (simp; done) | exact fun _ h => List.mem_append_left _ h | (intro r hr; simp [hr]; done))) ?_
        clear hT1 hT2 hU1 hU2 hV1 hV2 hRR2 hn
        rintro w st ⟨j, n, x1, x2, a1, n1, c1, l1, a2, n2, c2, l2, RR, rfl, hj, hn, hx1, hx2, hT1, hT2, hU1, hU2, hV1, hV2, hRR, rfl⟩
        by_cases hlt : j < rows.length
        · obtain ⟨xr, hxr⟩ : ∃ xr, rows[j]? = some xr := ⟨_, List.getElem?_eq_getElem hlt⟩
          have hrow := sRs_at hxr
          have hdr : rows.drop j = xr :: rows.drop (j + 1) := by
            obtain ⟨h1, h2⟩ := List.getElem?_eq_some_iff.1 hxr
            rw [List.drop_eq_getElem_cons h1, h2]
          have hid := hids xr (List.mem_of_getElem? hxr)
          rw [hdr] at hx1 hx2 hV1 hV2
          obtain ⟨xi, xn, xs, xt, xk⟩ := xr
          dsimp only at hid hrow
          have hp1 : 0 ≤ sz * (cI 1 (rows.drop (j + 1)) : Int) := Int.mul_nonneg (by omega) (by omega)
          have hp2 : 0 ≤ sz * (cI 2 (rows.drop (j + 1)) : Int) := Int.mul_nonneg (by omega) (by omega)
          refine wc_some (ao := ao) (n := rows.length) (by (repeat (first | apply sel_here )); done) (by omega) ?_
          rintro b8 o8 rfl
          rcases hid with rfl | rfl
          · have k1 : cI 1 ((1, xn, xs, xt, xk) :: rows.drop (j + 1)) = cI 1 (rows.drop (j + 1)) + 1 := by show 1 + _ = _; omega
            have k2 : cI 2 ((1, xn, xs, xt, xk) :: rows.drop (j + 1)) = cI 2 (rows.drop (j + 1)) := by show 0 + _ = _; omega
            rw [k1] at hx1 hV1
            rw [k2] at hx2 hV2
            rw [mul_snoc] at hx1
            (repeat (first | ((first | (apply wo_v; rfl) ); (· first | (apply pv_ev; rfl) )) | apply wo_nil | apply wc_seq | apply wc_region | apply wc_skip | (apply wc_true; rfl) | (apply wc_false; rfl) | (apply a_dec_t; rfl; (· first | assumption | omega)) ))
            refine wc_block ?_
            (repeat (first | ((first | (apply wo_v; rfl) ); (· first | (apply pv_ev; rfl) | (apply pv_fld; rfl) | (apply g_load; first | (apply pv_ld; rfl; (· (repeat (first | apply sel_here | apply sel_there))); rfl) | (apply pv_lda; rfl; (· (repeat (first | apply sel_there))); (· (repeat (first | fail )))) | (apply pv_ld_owna; rfl; (· (repeat (first | apply sel_here ))); (· assumption)) ) | (apply g_bin; first | (apply a_add; rfl; rfl; infer_instance; omega) ) | (apply g_idx; first | (apply pv_idx; rfl; rfl; omega) | (apply (pv_idx_e 0); rfl; rfl; rfl; omega) | (apply pv_idx_ar; rfl; rfl; omega; omega) | (apply (pv_idx_ar_e 0); rfl; rfl; rfl; omega; omega) | (apply (pv_idx_ar_e 1); rfl; rfl; rfl; omega; omega) ) | (apply g_build; apply pv_build; (· (repeat (first | apply Bld.nil | (apply Bld.one; rfl; rfl; (· (repeat (first | apply SetAt.here | apply SetAt.there)))) )))) )) | apply wo_nil | apply wc_seq | apply wc_region | (apply wo_st; rfl; rfl; rfl; (· (repeat (first | apply sel_here | apply sel_there))); (· (repeat (first | apply SetAt.here | apply SetAt.there))); rfl) | (apply wo_alloc; rfl; intro bx) | (apply wo_sta; rfl; rfl; rfl; rfl; (· (repeat (first | apply sel_here ))); (· (repeat (first | apply LayAt.nil | apply LayAt.here ))); rfl) ))
            have hl9 : (l1 ++ [(n + 1, sz, 0, true)]).length = l1.length + 1 := by rw [List.length_append]; rfl
            have hPut := ePut e mf gs cr' 0 1 (n + 1) sz (fmM q1 q2) q1 a1 n1 c1 l1 false RR hT1 (fm1 q1 q2) hU1 (by omega) (by omega)
            (refine wo_call (hPut) rfl (by (repeat (first | apply sub_nil | (apply sub_cons; (· (repeat (first | apply sel_here | apply sel_there)))))); done) (by first | exact fun _ h => h | (intro r hr; cases hr; done) | (simp; done) | exact fun _ h => List.mem_append_left _ h | (intro r hr; simp [hr]; done)) rfl ?_; rintro v L' R' ⟨a9, n9, c9, rfl, rfl, hS9⟩ H' hH RR hR; simp only [List.cons_append, List.nil_append] at hH hR; subst hH; have hR := hR.symm; subst hR)
            (repeat (first | ((first | (apply wo_v; rfl) ); (· first | (apply pv_ev; rfl) | (apply g_bin; first | (apply a_add; rfl; rfl; infer_instance; omega) ) )) | apply wo_nil | apply wc_region ))
            exact loop_end ⟨j + 1, n + 1, x1 + sz, x2, a9, n9, c9, l1 ++ [(n + 1, sz, 0, true)], a2, n2, c2, l2, R' ++ RR, rfl, by omega, by omega, ⟨by omega, by omega⟩, ⟨by omega, by omega⟩, hS9.mono (fun r hr => List.mem_append_left _ hr), hT2.mono (fun r hr => List.mem_append_right _ hr), hU1.snoc (n + 1), hU2, by rw [hl9]; omega, hV2, fun r hr => List.mem_append_right _ (hRR r hr), rfl⟩ (by omega) (wk_mk (by (repeat (first | apply wkf_nil | (apply wkf_cons; rfl))); done) (by (repeat (first | apply sub_nil | (apply sub_cons; (· (repeat (first | apply sel_here | apply sel_there)))))); done) (by first | exact fun _ h => h | (intro r hr; cases hr; done) | (simp; done) | exact fun _ h => List.mem_append_left _ h | (intro r hr; simp [hr]; done)))
          · have k1 : cI 1 ((2, xn, xs, xt, xk) :: rows.drop (j + 1)) = cI 1 (rows.drop (j + 1)) := by show 0 + _ = _; omega
            have k2 : cI 2 ((2, xn, xs, xt, xk) :: rows.drop (j + 1)) = cI 2 (rows.drop (j + 1)) + 1 := by show 1 + _ = _; omega
            rw [k1] at hx1 hV1
            rw [k2] at hx2 hV2
            rw [mul_snoc] at hx2
            (repeat (first | ((first | (apply wo_v; rfl) ); (· first | (apply pv_ev; rfl) )) | apply wo_nil | apply wc_seq | apply wc_region | apply wc_skip | (apply wc_true; rfl) | (apply wc_false; rfl) | (apply a_dec_t; rfl; (· first | assumption | omega)) ))
            refine wc_block ?_
            (repeat (first | ((first | (apply wo_v; rfl) ); (· first | (apply pv_ev; rfl) | (apply pv_fld; rfl) | (apply g_load; first | (apply pv_ld; rfl; (· (repeat (first | apply sel_here | apply sel_there))); rfl) | (apply pv_lda; rfl; (· (repeat (first | apply sel_there))); (· (repeat (first | fail )))) | (apply pv_ld_owna; rfl; (· (repeat (first | apply sel_here ))); (· assumption)) ) | (apply g_bin; first | (apply a_add; rfl; rfl; infer_instance; omega) ) | (apply g_idx; first | (apply pv_idx; rfl; rfl; omega) | (apply (pv_idx_e 0); rfl; rfl; rfl; omega) | (apply pv_idx_ar; rfl; rfl; omega; omega) | (apply (pv_idx_ar_e 0); rfl; rfl; rfl; omega; omega) | (apply (pv_idx_ar_e 1); rfl; rfl; rfl; omega; omega) | (apply (pv_idx_ar_e 2); rfl; rfl; rfl; omega; omega) ) | (apply g_build; apply pv_build; (· (repeat (first | apply Bld.nil | (apply Bld.one; rfl; rfl; (· (repeat (first | apply SetAt.here | apply SetAt.there)))) )))) )) | apply wo_nil | apply wc_seq | apply wc_region | (apply wo_st; rfl; rfl; rfl; (· (repeat (first | apply sel_here | apply sel_there))); (· (repeat (first | apply SetAt.here | apply SetAt.there))); rfl) | (apply wo_alloc; rfl; intro bx) | (apply wo_sta; rfl; rfl; rfl; rfl; (· (repeat (first | apply sel_here ))); (· (repeat (first | apply LayAt.nil | apply LayAt.here ))); rfl) ))
            have hl9 : (l2 ++ [(n + 1, sz, 0, true)]).length = l2.length + 1 := by rw [List.length_append]; rfl
            have hPut := ePut e mf gs cr' 0 2 (n + 1) sz (fmM q1 q2) q2 a2 n2 c2 l2 false RR hT2 (fm2 q1 q2) hU2 (by omega) (by omega)
            (refine wo_call (hPut) rfl (by (repeat (first | apply sub_nil | (apply sub_cons; (· (repeat (first | apply sel_here | apply sel_there)))))); done) (by first | exact fun _ h => h | (intro r hr; cases hr; done) | (simp; done) | exact fun _ h => List.mem_append_left _ h | (intro r hr; simp [hr]; done)) rfl ?_; rintro v L' R' ⟨a9, n9, c9, rfl, rfl, hS9⟩ H' hH RR hR; simp only [List.cons_append, List.nil_append] at hH hR; subst hH; have hR := hR.symm; subst hR)
            (repeat (first | ((first | (apply wo_v; rfl) ); (· first | (apply pv_ev; rfl) | (apply g_bin; first | (apply a_add; rfl; rfl; infer_instance; omega) ) )) | apply wo_nil | apply wc_region ))
            exact loop_end ⟨j + 1, n + 1, x1, x2 + sz, a1, n1, c1, l1, a9, n9, c9, l2 ++ [(n + 1, sz, 0, true)], R' ++ RR, rfl, by omega, by omega, ⟨by omega, by omega⟩, ⟨by omega, by omega⟩, hT1.mono (fun r hr => List.mem_append_right _ hr), hS9.mono (fun r hr => List.mem_append_left _ hr), hU1, hU2.snoc (n + 1), hV1, by rw [hl9]; omega, fun r hr => List.mem_append_right _ (hRR r hr), rfl⟩ (by omega) (wk_mk (by (repeat (first | apply wkf_nil | (apply wkf_cons; rfl))); done) (by (repeat (first | apply sub_nil | (apply sub_cons; (· (repeat (first | apply sel_here | apply sel_there)))))); done) (by first | exact fun _ h => h | (intro r hr; cases hr; done) | (simp; done) | exact fun _ h => List.mem_append_left _ h | (intro r hr; simp [hr]; done)))
        · obtain rfl : j = rows.length := by omega
          rw [List.drop_length] at hx1 hx2 hV1 hV2
          have z1 : x1 = F1 := by have := hx1.2; simp [cI] at this; exact this
          have z2 : x2 = F2 := by have := hx2.2; simp [cI] at this; exact this
          subst z1 z2
          (repeat (first | ((first | (apply wo_v; rfl) ); (· first | (apply pv_ev; rfl) )) | apply wo_nil | apply wc_seq | apply wc_region | (apply wc_exit; rfl) | (apply wc_true; rfl) | (apply wc_false; rfl) | (apply a_dec_t; rfl; (· first | assumption | omega)) | (apply a_dec_f; rfl; (· first | assumption | omega)) ))
          exact cut_end ⟨n, a1, n1, c1, l1, a2, n2, c2, l2, RR, by omega, hT1, hT2, hU1, hU2, by simpa [cI] using hV1, by simpa [cI] using hV2, hRR, rfl⟩ (wk_mk (by (repeat (first | apply wkf_nil | (apply wkf_cons; rfl))); done) (by (repeat (first | apply sub_nil | (apply sub_cons; (· (repeat (first | apply sel_here | apply sel_there)))))); done) (by first | exact fun _ h => h | (intro r hr; cases hr; done) | (simp; done) | exact fun _ h => List.mem_append_left _ h | (intro r hr; simp [hr]; done)))
      clear hT1 hT2 hU1 hU2 hV1 hV2 hRR2 hn
      rintro st ⟨n, a1, n1, c1, l1, a2, n2, c2, l2, RR, hn, hT1, hT2, hU1, hU2, hl1, hl2, hRR, rfl⟩
      have hfair := hD'.fair hb
      have v1 : 0 ≤ F1 * q := Int.mul_nonneg (by omega) (by omega)
      have v2 : 0 ≤ F2 * p := Int.mul_nonneg (by omega) (by omega)
      have v3 : F1 * q ≤ 20000 * 200 := Int.mul_le_mul (by omega) (by omega) (by omega) (by omega)
      have v4 : F2 * p ≤ 20000 * 200 := Int.mul_le_mul (by omega) (by omega) (by omega) (by omega)
      (repeat (first | ((first | (apply wo_v; rfl) ); (· first | (apply pv_ev; rfl) | (apply g_load; first | (apply pv_ld; rfl; (· (repeat (first | apply sel_here ))); rfl) ) | (apply g_pick; first | (apply pv_pick_t; rfl; rfl) | (apply pv_pick_f; rfl; rfl)) | (apply g_bin; first | (apply a_add; rfl; rfl; infer_instance; omega) | (apply a_sub; rfl; rfl; infer_instance; omega) | (apply a_mul; rfl; rfl; infer_instance; omega) ) | (apply g_un; first | (apply a_neg; rfl; infer_instance; omega)) | (apply g_idx; first | (apply (pv_idx_e 0); rfl; rfl; rfl; omega) | (apply pv_idx_ar; rfl; rfl; omega; omega) | (apply (pv_idx_ar_e 0); rfl; rfl; rfl; omega; omega) | (apply (pv_idx_ar_e 1); rfl; rfl; rfl; omega; omega) | (apply (pv_idx_ar_e 2); rfl; rfl; rfl; omega; omega) ) )) | apply wo_nil | apply wc_seq | apply wc_region | apply wc_skip | (apply wc_true; rfl) | (apply wc_false; rfl) | (apply a_dec_t; rfl; (· first | assumption | omega)) | (apply a_dec_f; rfl; (· first | assumption | omega)) | (apply wo_run; rfl; rfl) | (apply wo_skip; rfl; rfl; rfl; rfl) | (apply wo_skip_u; rfl; rfl; rfl) | (apply a_gt; rfl; rfl; (· first | assumption | omega)) | (apply a_gf; rfl; rfl; (· first | assumption | omega)) ))
      exact loop_end ⟨i + 1, n, cr', t'.at_, t'.gr, t'.l1, t'.l2, F1, F2, kl', a1, n1, c1, l1, false, a2, n2, c2, l2, false, RR, rfl, by omega, by omega, hcr', by omega, by omega, hk', hD', hT1, hT2, ⟨hU1, by omega, .inl rfl⟩, ⟨hU2, by omega, .inl rfl⟩, hRR, rfl⟩ (by omega) (wk_mk (by (repeat (first | apply wkf_nil | (apply wkf_cons; rfl))); done) (by (repeat (first | apply sub_nil )); done) (by first | exact fun _ h => h | (intro r hr; cases hr; done) | (simp; done) | exact fun _ h => List.mem_append_left _ h | (intro r hr; simp [hr]; done)))
    · (repeat (first | ((first | (apply wo_v; rfl) ); (· first | (apply pv_ev; rfl) | (apply g_pick; first | (apply pv_pick_t; rfl; rfl) ) | (apply g_bi; first | (apply pv_len_sl; rfl) ) )) | apply wo_nil | apply wc_seq | apply wc_region | (apply wc_exit; rfl) | apply wc_ret | (apply wc_true; rfl) | (apply wc_false; rfl) | (apply a_dec_t; rfl; (· first | assumption | omega)) | (apply a_dec_f; rfl; (· first | assumption | omega)) | (apply wo_run; rfl; rfl) | (apply wo_skip; rfl; rfl; rfl; rfl) | (apply wo_skip_u; rfl; rfl; rfl) | (apply a_gt; rfl; rfl; (· first | assumption | omega)) ))
      exact ret1 rfl rfl rfl ((by (repeat (first | apply sub_nil )); done) : List.Perm _ ([] ++ _)) (by first | exact fun _ h => h | (intro r hr; cases hr; done) | (simp; done) | exact fun _ h => List.mem_append_left _ h | (intro r hr; simp [hr]; done))
  · (repeat (first | ((first | (apply wo_v; rfl) ); (· first | (apply pv_ev; rfl) | (apply g_pick; first | (apply pv_pick_t; rfl; rfl) | (apply pv_pick_f; rfl; rfl)) | (apply g_bi; first | (apply pv_len_sl; rfl) ) )) | apply wo_nil | apply wc_seq | apply wc_region | (apply wc_exit; rfl) | apply wc_ret | (apply wc_true; rfl) | (apply wc_false; rfl) | (apply wo_run; rfl; rfl) | (apply wo_skip; rfl; rfl; rfl; rfl) | (apply wo_skip_u; rfl; rfl; rfl) | (apply a_gt; rfl; rfl; (· first | assumption | omega)) | (apply a_gf; rfl; rfl; (· first | assumption | omega)) ))
    exact ret1 rfl rfl rfl ((by (repeat (first | apply sub_nil )); done) : List.Perm _ ([] ++ _)) (by first | exact fun _ h => h | (intro r hr; cases hr; done) | (simp; done) | exact fun _ h => List.mem_append_left _ h | (intro r hr; simp [hr]; done))
theorem c64_rowsS {A : Option Addr} {n c : Nat} {V : Nat → Nat → Value} {w : World} (h : Rws [.int .i64] w A n c V) : ∃ (l : List Int) (R : List Ro), l.length = n ∧ (∀ r ∈ R, r.sat w) ∧ SQ R 1 A n c (c64s l) := by
  obtain ⟨z, R, h4, h5, h6, _⟩ := rws_k h
  refine ⟨(List.range n).map z, R, by simp, h4, ⟨by simp, fun h0 => ?_⟩⟩
  obtain ⟨b, o, hA, hm⟩ := h6 h0
  have e : kseg .i64 z n = c64s ((List.range n).map z) := by simp [kseg, Function.comp_def]
  exact ⟨b, o, hA, by rw [← e]; exact hm⟩
theorem antiphonShares_walk {w : World} (a : Int) (ha : -9223372036854775808 ≤ a ∧ a ≤ 9223372036854775807) (b : Int) (hb : -9223372036854775808 ≤ b ∧ b ≤ 9223372036854775807) (d : Int) (hd : -9223372036854775808 ≤ d ∧ d ≤ 9223372036854775807) (A : Option Addr) (n c : Nat) (V : Nat → Nat → Value) (hV : Rws [.int .i64] w A n c V) :
    Calls Try.prog 10 #[.int .i64 a, .int .i64 b, .int .i64 d, .slice A n c] w fun e w' => e = .returned (.bool true) ∧ Below w.heap.size w w' := by
  obtain ⟨l, R, rfl, hR, hS⟩ := c64_rowsS hV
  exact walk_of (shares_fn a b d l A c R hS) hR
end Go.Proofs.Ytlhlidmhlhodiaa
