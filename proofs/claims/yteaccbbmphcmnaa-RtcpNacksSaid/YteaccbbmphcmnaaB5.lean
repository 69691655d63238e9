/-
  Texts of this proof, laid together (part 5 of 6).
-/
import Derived.Test.YteaccbbmphcmnaaB4
/-
  Package rtcp: what packets' parts are read.
-/
namespace Go.Proofs.Yteaccbbmphcmnaa
set_option linter.unusedSimpArgs false
set_option linter.unusedVariables false
open Go.RowKit
attribute [local irreducible] Pv WO WC Fn
set_option maxRecDepth 100000
attribute [local irreducible] ByteArray.extract

theorem rU8 (g : Nat) (r : Rs) (hs : r.1.size ≤ 1000000) : Fn Try.prog 23 #[.pointer (some ⟨g, 0, none⟩)] [rdO g r.1 r.2] [] (fun v L' R' => v = .int .u8 (uK 1 r).1 ∧ L' = [rdO g (uK 1 r).2.1 (uK 1 r).2.2] ∧ R' = []) := octU8 g r.1 _ _ r.2 _ (by omega) rfl
theorem rU16 (g : Nat) (r : Rs) (hs : r.1.size ≤ 1000000) : Fn Try.prog 46 #[.pointer (some ⟨g, 0, none⟩)] [rdO g r.1 r.2] [] (fun v L' R' => v = .int .u16 (uK 2 r).1 ∧ L' = [rdO g (uK 2 r).2.1 (uK 2 r).2.2] ∧ R' = []) := octU16 g r.1 _ _ r.2 _ (by omega) rfl
theorem rU32 (g : Nat) (r : Rs) (hs : r.1.size ≤ 1000000) : Fn Try.prog 47 #[.pointer (some ⟨g, 0, none⟩)] [rdO g r.1 r.2] [] (fun v L' R' => v = .int .u32 (uK 4 r).1 ∧ L' = [rdO g (uK 4 r).2.1 (uK 4 r).2.2] ∧ R' = []) := octU32 g r.1 _ _ r.2 _ (by omega) rfl
theorem rNum3 (g : Nat) (r : Rs) (hs : r.1.size ≤ 1000000) : Fn Try.prog 44 #[.pointer (some ⟨g, 0, none⟩), .int .i64 3] [rdO g r.1 r.2] [] (fun v L' R' => v = .int .u64 (uK 3 r).1 ∧ L' = [rdO g (uK 3 r).2.1 (uK 3 r).2.2] ∧ R' = []) := octNum g r.1 _ _ r.2 3 _ (by omega) rfl
theorem rNum8 (g : Nat) (r : Rs) (hs : r.1.size ≤ 1000000) : Fn Try.prog 44 #[.pointer (some ⟨g, 0, none⟩), .int .i64 8] [rdO g r.1 r.2] [] (fun v L' R' => v = .int .u64 (uK 8 r).1 ∧ L' = [rdO g (uK 8 r).2.1 (uK 8 r).2.2] ∧ R' = []) := octNum g r.1 _ _ r.2 8 _ (by omega) rfl
def tilA {α : Type} (f : Rs → α × Rs) (r : Rs) : List α × Rs := tilM f r.1.size r
theorem tilA_end {α : Type} {f : Rs → α × Rs} {r : Rs} (h : r.1.size = 0) : tilA f r = ([], r) := tilM_end h
theorem tilA_go {α : Type} {f : Rs → α × Rs} (h : ∀ r, Ri r → 0 < r.1.size → (f r).2.1.size < r.1.size) (hi : ∀ r, Ri r → Ri (f r).2) {r : Rs} (hr : Ri r) (h0 : 0 < r.1.size) : tilA f r = ((f r).1 :: (tilA f (f r).2).1, (tilA f (f r).2).2) := by
  have h1 := h r hr h0
  unfold tilA
  obtain ⟨n, hn⟩ : ∃ n, r.1.size = n + 1 := ⟨r.1.size - 1, by omega⟩
  rw [hn, tilM, if_neg (by omega), tilM_more h hi n (f r).2.1.size (f r).2 (hi r hr) (by omega) (Nat.le_refl _)]
abbrev c32O (ao : Option Addr) (n c : Nat) (l : List Int) : It := .own 37 1 ao n c (c32 l)
abbrev c32O' (ao : Option Addr) (n c : Nat) (xs : List (List Value)) : It := .own 37 1 ao n c xs
theorem c32_snoc (l : List Int) (x : Int) : c32 (l ++ [x]) = c32 l ++ [[.int .u32 x]] := by simp [c32]
theorem c32O_snoc (ao : Option Addr) (n c : Nat) (l : List Int) (x : Int) : c32O ao n c (l ++ [x]) = c32O' ao n c (c32 l ++ [[.int .u32 x]]) := by rw [c32O, c32_snoc]
theorem pairV_snoc (l : List (Int × Int)) (x : Int × Int) : pairV (l ++ [x]) = pairV l ++ [[.int .u16 x.1, .int .u16 x.2]] := by simp [pairV]
theorem ordV_snoc (l : List (Int × Int)) (x : Int × Int) : ordV (l ++ [x]) = ordV l ++ [[.int .u32 x.1, .int .u8 x.2]] := by simp [ordV]
theorem itmV_snoc (l : List (Int × ByteArray)) (x : Int × ByteArray) : itmV (l ++ [x]) = itmV l ++ [[.int .u8 x.1, .string x.2]] := by simp [itmV]
theorem blkV_snoc (l : List Bk) (b : Bk) : blkV (l ++ [b]) = blkV l ++ [[.int .u32 b.ss, .int .u8 b.lo, .int .u32 b.tt, .int .u32 b.la, .int .u32 b.ji, .int .u32 b.ls, .int .u32 b.dl]] := by simp [blkV]
set_option maxHeartbeats 4000000 in
theorem kAll (g : Nat) (r0 : Rs) (hi : Ri r0) (hs : r0.1.size ≤ 1000000) : Fn Try.prog 77 #[.pointer (some ⟨g, 0, none⟩)] [rdO g r0.1 r0.2] [] (fun v L' R' => ∃ ao c, v = .slice ao (tilA (uK 4) r0).1.length c ∧ L' = [rdO g (tilA (uK 4) r0).2.1 (tilA (uK 4) r0).2.2, c32O ao (tilA (uK 4) r0).1.length c (tilA (uK 4) r0).1] ∧ R' = []) := by
  refine fn_intro Try.func77 rfl Try.ntmps77 rfl (fun E => ?_)
  refine wc_own0 37 1 ?_
  (repeat (first | ((first | (apply wo_v; rfl) ); (· first | (apply pv_ev; rfl) )) | apply wo_nil | apply wc_seq | apply wc_region ))
  refine wc_block ?_
  refine wc_loop' (fun q st => ∃ (l : List Int) (ao : Option Addr) (c : Nat) (r : Rs), q = r.1.size ∧ Ri r ∧ l.length + r.1.size ≤ 1000000 ∧ l ++ (tilA (uK 4) r).1 = (tilA (uK 4) r0).1 ∧ (tilA (uK 4) r).2 = (tilA (uK 4) r0).2 ∧ st = ⟨[(0, .pointer (some ⟨g, 0, none⟩)), (3, .slice ao l.length c)], [rdO g r.1 r.2, c32O ao l.length c l], []⟩) ⟨[], none, 0, r0, rfl, hi, by simpa using hs, rfl, rfl, rfl⟩ (wk_mk (by (repeat (first | apply wkf_nil | (apply wkf_cons; rfl))); done) (by (repeat (first | apply sub_nil | (apply sub_cons; (· (repeat (first | apply sel_here | apply sel_there)))))); done) (by first | exact fun _ h => h | (intro r hr; cases hr; done) | (simp; done) | exact fun _ h => List.mem_append_left _ h | (intro r hr; simp [hr]; done))) ?_
  rintro q st ⟨l, ao, c, r, rfl, hr, hl, h1, h2, rfl⟩
  (repeat (first | ((first | (apply wo_v; rfl) ); (· first | (apply pv_ev; rfl) )) | apply wc_seq | apply wc_region ))
  (refine wo_call (octLen g r.1 r.2) rfl (by (repeat (first | apply sub_nil )); done) (by first | exact fun _ h => h | (intro r hr; cases hr; done) | (simp; done) | exact fun _ h => List.mem_append_left _ h | (intro r hr; simp [hr]; done)) rfl ?_; rintro v L' R' ⟨rfl, rfl, rfl⟩ H' hH RR hR; simp only [List.cons_append, List.nil_append] at hH hR; subst hH; have hR := hR.symm; subst hR)
  by_cases h0 : 0 < r.1.size
  · have hgo := tilA_go (f := uK 4) (fun r hr h => uK_less hr (by omega) h) (fun r hr => hr.uK 4) hr h0
    have hless := uK_less hr (n := 4) (by omega) h0
    have hri := hr.uK 4
    have hU := rU32 g r (by omega)
    rw [hgo] at h1 h2
    generalize uK 4 r = y at *
    obtain ⟨x, rr⟩ := y
    dsimp only at *
    (repeat (first | ((first | (apply wo_v; rfl) ); (· first | (apply pv_ev; rfl) )) | apply wo_nil | apply wc_skip | (apply wc_true; rfl) | (apply wc_false; rfl) | (apply a_dec_t; rfl; (· first | assumption | omega)) ))
    refine wc_block ?_
    (repeat (first | ((first | (apply wo_v; rfl) ); (· first | (apply pv_ev; rfl) )) | apply wc_region ))
    (refine wo_call (hU) rfl (by (repeat (first | apply sub_nil )); done) (by first | exact fun _ h => h | (intro r hr; cases hr; done) | (simp; done) | exact fun _ h => List.mem_append_left _ h | (intro r hr; simp [hr]; done)) rfl ?_; rintro v L' R' ⟨rfl, rfl, rfl⟩ H' hH RR hR; simp only [List.cons_append, List.nil_append] at hH hR; subst hH; have hR := hR.symm; subst hR)
    (repeat (first | ((first | (apply wo_v; rfl) ); (· first | (apply pv_ev; rfl) | (apply g_bi; first | fail ) )) | (apply wo_bsl; (· (repeat (first | apply Rws'.nil | (apply Rws'.one; rfl; rfl; rfl) ))); rfl; rfl; rfl; rfl; intro bx) ))
    refine wo_app rfl rfl (by (repeat (first | apply sel_here | apply sel_there)); done) (by (repeat (first | apply sel_here )); done) (by unfold maxLen; omega) (by omega) rfl (fun ao2 c2 => ?_)
    (repeat (first | ((first | (apply wo_v; rfl) ); (· first | (apply pv_ev; rfl) )) | apply wo_nil ))
    exact loop_end ⟨l ++ [x], ao2, c2, rr, rfl, hri, by rw [List.length_append, List.length_singleton]; omega, by rw [List.append_assoc]; exact h1, h2, by rw [List.length_append, List.length_singleton, c32O_snoc]⟩ (by omega) (wk_mk (by (repeat (first | apply wkf_nil | (apply wkf_cons; rfl))); done) (by (repeat (first | apply sub_nil | (apply sub_cons; (· (repeat (first | apply sel_here | apply sel_there)))))); done) (by first | exact fun _ h => h | (intro r hr; cases hr; done) | (simp; done) | exact fun _ h => List.mem_append_left _ h | (intro r hr; simp [hr]; done)))
  · have e : r.1.size = 0 := by omega
    rw [tilA_end e] at h1 h2
    dsimp only at h1 h2
    rw [List.append_nil] at h1
    subst h1
    (repeat (first | ((first | (apply wo_v; rfl) ); (· first | (apply pv_ev; rfl) )) | apply wo_nil | apply wc_seq | apply wc_region | (apply wc_exit; rfl) | apply wc_ret | (apply wc_true; rfl) | (apply wc_false; rfl) | (apply a_dec_t; rfl; (· first | assumption | omega)) | (apply a_dec_f; rfl; (· first | assumption | omega)) ))
    rw [← h2]
    exact ret1 rfl rfl ⟨ao, c, rfl, rfl, rfl⟩ (by (repeat (first | apply sub_nil )); done) (by first | exact fun _ h => h | (intro r hr; cases hr; done) | (simp; done) | exact fun _ h => List.mem_append_left _ h | (intro r hr; simp [hr]; done))

abbrev bkO (ao : Option Addr) (n c : Nat) (l : List Bk) : It := .own 160 7 ao n c (blkV l)
theorem bkO_snoc (ao : Option Addr) (n c : Nat) (l : List Bk) (b : Bk) : bkO ao n c (l ++ [b]) = It.own 160 7 ao n c (blkV l ++ [[.int .u32 b.ss, .int .u8 b.lo, .int .u32 b.tt, .int .u32 b.la, .int .u32 b.ji, .int .u32 b.ls, .int .u32 b.dl]]) := by rw [bkO, blkV_snoc]
theorem tBk_size (r : Rs) : (tBk r).2.1.size ≤ r.1.size := by
  unfold tBk
  exact Nat.le_trans (uK_size _ _) (Nat.le_trans (uK_size _ _) (Nat.le_trans (uK_size _ _) (Nat.le_trans (uK_size _ _) (Nat.le_trans (uK_size _ _) (Nat.le_trans (uK_size _ _) (uK_size _ _))))))
set_option maxHeartbeats 8000000 in
theorem kBlocks (g : Nat) (r0 : Rs) (hs : r0.1.size ≤ 1000000) (N : Nat) (hN : N ≤ 255) : Fn Try.prog 48 #[.pointer (some ⟨g, 0, none⟩), .int .u8 N] [rdO g r0.1 r0.2] [] (fun v L' R' => ∃ ao c, v = .slice ao N c ∧ L' = [rdO g (repM tBk N r0).2.1 (repM tBk N r0).2.2, bkO ao N c (repM tBk N r0).1] ∧ R' = []) := by
  refine fn_intro Try.func48 rfl Try.ntmps48 rfl (fun E => ?_)
  refine wc_own0 160 7 ?_
  (repeat (first | ((first | (apply wo_v; rfl) ); (· first | (apply pv_ev; rfl) )) | apply wo_nil | apply wc_seq | apply wc_region ))
  refine wc_block ?_
  refine wc_loop' (fun q st => ∃ (i : Nat) (l : List Bk) (ao : Option Addr) (c : Nat) (r : Rs), q = N - i ∧ i ≤ N ∧ r.1.size ≤ 1000000 ∧ l.length = i ∧ l ++ (repM tBk (N - i) r).1 = (repM tBk N r0).1 ∧ (repM tBk (N - i) r).2 = (repM tBk N r0).2 ∧ st = ⟨[(0, .pointer (some ⟨g, 0, none⟩)), (5, .slice ao i c), (6, .int .u8 N), (7, .int .u8 i)], [rdO g r.1 r.2, bkO ao i c l], []⟩) ⟨0, [], none, 0, r0, rfl, Nat.zero_le _, hs, rfl, rfl, rfl, rfl⟩ (wk_mk (by (repeat (first | apply wkf_nil | (apply wkf_cons; rfl))); done) (by (repeat (first | apply sub_nil | (apply sub_cons; (· (repeat (first | apply sel_here | apply sel_there)))))); done) (by first | exact fun _ h => h | (intro r hr; cases hr; done) | (simp; done) | exact fun _ h => List.mem_append_left _ h | (intro r hr; simp [hr]; done))) ?_
  rintro q st ⟨i, l, ao, c, r, rfl, hi, hr, hl, h1, h2, rfl⟩
  by_cases h0 : i < N
  · obtain ⟨m, hm⟩ : ∃ m, N - i = m + 1 := ⟨N - i - 1, by omega⟩
    have hm2 : N - (i + 1) = m := by omega
    have e1 : l ++ ((tBk r).1 :: (repM tBk (N - (i + 1)) (tBk r).2).1) = (repM tBk N r0).1 := by rw [hm2, ← h1, hm]; rfl
    have e2 : (repM tBk (N - (i + 1)) (tBk r).2).2 = (repM tBk N r0).2 := by rw [hm2, ← h2, hm]; rfl
    clear h1 h2
    have hz := tBk_size r
    unfold tBk at e1 e2 hz
    dsimp only at e1 e2 hz
    have s1 := uK_size 4 r
    have c1 := rU32 g r (by omega)
    generalize uK 4 r = y at *
    obtain ⟨v1, r1⟩ := y
    dsimp only at *
    have s2 := uK_size 1 r1
    have c2 := rU8 g r1 (by omega)
    generalize uK 1 r1 = y at *
    obtain ⟨v2, r2⟩ := y
    dsimp only at *
    have s3 := uK_size 3 r2
    have b3 := uK3_b r2
    have c3 := rNum3 g r2 (by omega)
    generalize uK 3 r2 = y at *
    obtain ⟨v3, r3⟩ := y
    dsimp only at *
    have s4 := uK_size 4 r3
    have c4 := rU32 g r3 (by omega)
    generalize uK 4 r3 = y at *
    obtain ⟨v4, r4⟩ := y
    dsimp only at *
    have s5 := uK_size 4 r4
    have c5 := rU32 g r4 (by omega)
    generalize uK 4 r4 = y at *
    obtain ⟨v5, r5⟩ := y
    dsimp only at *
    have s6 := uK_size 4 r5
    have c6 := rU32 g r5 (by omega)
    generalize uK 4 r5 = y at *
    obtain ⟨v6, r6⟩ := y
    dsimp only at *
    have s7 := uK_size 4 r6
    have c7 := rU32 g r6 (by omega)
    generalize uK 4 r6 = y at *
    obtain ⟨v7, r7⟩ := y
    dsimp only at *
    (repeat (first | ((first | (apply wo_v; rfl) ); (· first | (apply pv_ev; rfl) )) | apply wo_nil | apply wc_seq | apply wc_region | apply wc_skip | (apply wc_true; rfl) | (apply wc_false; rfl) | (apply a_dec_t; rfl; (· first | assumption | omega)) ))
    refine wc_block ?_
    (repeat (first | ((first | (apply wo_v; rfl) ); (· first | (apply pv_ev; rfl) )) | apply wc_region ))
    (refine wo_call (c1) rfl (by (repeat (first | apply sub_nil )); done) (by first | exact fun _ h => h | (intro r hr; cases hr; done) | (simp; done) | exact fun _ h => List.mem_append_left _ h | (intro r hr; simp [hr]; done)) rfl ?_; rintro v L' R' ⟨rfl, rfl, rfl⟩ H' hH RR hR; simp only [List.cons_append, List.nil_append] at hH hR; subst hH; have hR := hR.symm; subst hR)
    (repeat (first | ((first | (apply wo_v; rfl) ); (· first | (apply pv_ev; rfl) )) ))
    (refine wo_call (c2) rfl (by (repeat (first | apply sub_nil )); done) (by first | exact fun _ h => h | (intro r hr; cases hr; done) | (simp; done) | exact fun _ h => List.mem_append_left _ h | (intro r hr; simp [hr]; done)) rfl ?_; rintro v L' R' ⟨rfl, rfl, rfl⟩ H' hH RR hR; simp only [List.cons_append, List.nil_append] at hH hR; subst hH; have hR := hR.symm; subst hR)
    (repeat (first | ((first | (apply wo_v; rfl) ); (· first | (apply pv_ev; rfl) )) ))
    (refine wo_call (c3) rfl (by (repeat (first | apply sub_nil )); done) (by first | exact fun _ h => h | (intro r hr; cases hr; done) | (simp; done) | exact fun _ h => List.mem_append_left _ h | (intro r hr; simp [hr]; done)) rfl ?_; rintro v L' R' ⟨rfl, rfl, rfl⟩ H' hH RR hR; simp only [List.cons_append, List.nil_append] at hH hR; subst hH; have hR := hR.symm; subst hR)
    (repeat (first | ((first | (apply wo_v; rfl) ); (· first | (apply pv_ev; rfl) | (apply g_conv; first | (apply a_conv; rfl; infer_instance; infer_instance; infer_instance; omega) ) )) ))
    (refine wo_call (c4) rfl (by (repeat (first | apply sub_nil )); done) (by first | exact fun _ h => h | (intro r hr; cases hr; done) | (simp; done) | exact fun _ h => List.mem_append_left _ h | (intro r hr; simp [hr]; done)) rfl ?_; rintro v L' R' ⟨rfl, rfl, rfl⟩ H' hH RR hR; simp only [List.cons_append, List.nil_append] at hH hR; subst hH; have hR := hR.symm; subst hR)
    (repeat (first | ((first | (apply wo_v; rfl) ); (· first | (apply pv_ev; rfl) )) ))
    (refine wo_call (c5) rfl (by (repeat (first | apply sub_nil )); done) (by first | exact fun _ h => h | (intro r hr; cases hr; done) | (simp; done) | exact fun _ h => List.mem_append_left _ h | (intro r hr; simp [hr]; done)) rfl ?_; rintro v L' R' ⟨rfl, rfl, rfl⟩ H' hH RR hR; simp only [List.cons_append, List.nil_append] at hH hR; subst hH; have hR := hR.symm; subst hR)
    (repeat (first | ((first | (apply wo_v; rfl) ); (· first | (apply pv_ev; rfl) )) ))
    (refine wo_call (c6) rfl (by (repeat (first | apply sub_nil )); done) (by first | exact fun _ h => h | (intro r hr; cases hr; done) | (simp; done) | exact fun _ h => List.mem_append_left _ h | (intro r hr; simp [hr]; done)) rfl ?_; rintro v L' R' ⟨rfl, rfl, rfl⟩ H' hH RR hR; simp only [List.cons_append, List.nil_append] at hH hR; subst hH; have hR := hR.symm; subst hR)
    (repeat (first | ((first | (apply wo_v; rfl) ); (· first | (apply pv_ev; rfl) )) ))
    (refine wo_call (c7) rfl (by (repeat (first | apply sub_nil )); done) (by first | exact fun _ h => h | (intro r hr; cases hr; done) | (simp; done) | exact fun _ h => List.mem_append_left _ h | (intro r hr; simp [hr]; done)) rfl ?_; rintro v L' R' ⟨rfl, rfl, rfl⟩ H' hH RR hR; simp only [List.cons_append, List.nil_append] at hH hR; subst hH; have hR := hR.symm; subst hR)
    (repeat (first | ((first | (apply wo_v; rfl) ); (· first | (apply pv_ev; rfl) | (apply g_bi; first | fail ) | (apply g_build; apply pv_build; (· (repeat (first | apply Bld.nil | (apply Bld.one; rfl; rfl; (· (repeat (first | apply SetAt.here | apply SetAt.there)))) )))) )) | (apply wo_bsl; (· (repeat (first | apply Rws'.nil | (apply Rws'.one; rfl; rfl; rfl) | (apply Rws'.agg; rfl; rfl; rfl)))); rfl; rfl; rfl; rfl; intro bx) ))
    refine wo_app rfl rfl (by (repeat (first | apply sel_here | apply sel_there)); done) (by (repeat (first | apply sel_here )); done) (by unfold maxLen; omega) (by omega) rfl (fun ao2 c2 => ?_)
    (repeat (first | ((first | (apply wo_v; rfl) ); (· first | (apply pv_ev; rfl) | (apply g_bin; first | (apply a_add; rfl; rfl; infer_instance; omega) ) )) | apply wo_nil | apply wc_region ))
    exact loop_end ⟨i + 1, l ++ [⟨v1, v2, v3, v4, v5, v6, v7⟩], ao2, c2, r7, rfl, by omega, by omega, by rw [List.length_append, List.length_singleton, hl], by rw [List.append_assoc]; exact e1, e2, by rw [bkO_snoc]⟩ (by omega) (wk_mk (by (repeat (first | apply wkf_nil | (apply wkf_cons; rfl))); done) (by (repeat (first | apply sub_nil | (apply sub_cons; (· (repeat (first | apply sel_here | apply sel_there)))))); done) (by first | exact fun _ h => h | (intro r hr; cases hr; done) | (simp; done) | exact fun _ h => List.mem_append_left _ h | (intro r hr; simp [hr]; done)))
  · have e : i = N := by omega
    subst e
    rw [Nat.sub_self] at h1 h2
    have h1 : l ++ [] = (repM tBk i r0).1 := h1
    have h2 : r = (repM tBk i r0).2 := h2
    rw [List.append_nil] at h1
    subst h1
    subst h2
    (repeat (first | ((first | (apply wo_v; rfl) ); (· first | (apply pv_ev; rfl) )) | apply wo_nil | apply wc_seq | apply wc_region | (apply wc_exit; rfl) | apply wc_ret | (apply wc_true; rfl) | (apply wc_false; rfl) | (apply a_dec_t; rfl; (· first | assumption | omega)) | (apply a_dec_f; rfl; (· first | assumption | omega)) ))
    exact ret1 rfl rfl ⟨ao, c, rfl, rfl, rfl⟩ (by (repeat (first | apply sub_nil )); done) (by first | exact fun _ h => h | (intro r hr; cases hr; done) | (simp; done) | exact fun _ h => List.mem_append_left _ h | (intro r hr; simp [hr]; done))
end Go.Proofs.Yteaccbbmphcmnaa

/-
  Package rtcp: packets' kinds, read.
-/
namespace Go.Proofs.Yteaccbbmphcmnaa
set_option linter.unusedSimpArgs false
set_option linter.unusedVariables false
open Go.RowKit
attribute [local irreducible] Pv WO WC Fn
set_option maxRecDepth 100000
attribute [local irreducible] ByteArray.extract

abbrev pairO (ao : Option Addr) (n c : Nat) (l : List (Int × Int)) : It := .own 44 2 ao n c (pairV l)
abbrev pairO' (ao : Option Addr) (n c : Nat) (xs : List (List Value)) : It := .own 44 2 ao n c xs
theorem pairO_snoc (ao : Option Addr) (n c : Nat) (l : List (Int × Int)) (x : Int × Int) : pairO ao n c (l ++ [x]) = pairO' ao n c (pairV l ++ pairV [x]) := by rw [pairO, pairV_snoc]; rfl
abbrev nakI (b : Nat) (fm to : Int) (v : Value) : It := .ob b (.cells #[.int .u32 fm, .int .u32 to, v] 39 (0, 0))
def tblN5 (g : Nat) (x y : Int) (r2 r3 : Rs) (bp : Nat) (fm to : Int) (ao : Option Addr) (c : Nat) (l : List (Int × Int)) : Nat → List (List It) → Value → List (List It) → Prop := fun k Ls v Ms => match k, Ls with
  | 1, [z] => v = .slice ao l.length c ∧ Ms = [z]
  | 3, _ => v = .int .u16 x ∧ Ms = [[rdO g r2.1 r2.2]]
  | 5, _ => v = .int .u16 y ∧ Ms = [[rdO g r3.1 r3.2]]
  | 7, _ => ∃ b, v = .slice (some ⟨b, 0, none⟩) 1 1 ∧ Ms = [[pairO (some ⟨b, 0, none⟩) 1 1 [(x, y)]]]
  | 8, [_, z] => ∃ ao2 c2, v = .slice ao2 (l.length + 1) c2 ∧ Ms = [[pairO' ao2 (l.length + 1) c2 (pairV l ++ pairV [(x, y)])], z]
  | 10, [[.own T2 sz ao2 n2 c2 xs], _] => v = undef ∧ Ms = [[.own T2 sz ao2 n2 c2 xs], [nakI bp fm to (.slice ao2 n2 c2)]]
  | _, _ => False
theorem tPr_size (r : Rs) : (tPr r).2.1.size ≤ r.1.size := Nat.le_trans (uK_size _ _) (uK_size _ _)
theorem tPr_less (r : Rs) (h : Ri r) (h0 : 0 < r.1.size) : (tPr r).2.1.size < r.1.size := Nat.lt_of_le_of_lt (uK_size _ _) (uK_less h (by omega) h0)
theorem tPr_ri (r : Rs) (h : Ri r) : Ri (tPr r).2 := (h.uK 2).uK 2
set_option maxHeartbeats 8000000 in
theorem kNack (g : Nat) (r0 : Rs) (hi : Ri r0) (hs : r0.1.size ≤ 1000000) : Fn Try.prog 51 #[.pointer (some ⟨g, 0, none⟩)] [rdO g r0.1 r0.2] [] (fun v L' R' => PkV R' (tNk r0).1 v ∧ L' = [rdO g (tNk r0).2.1 (tNk r0).2.2]) := by
  unfold tNk
  dsimp only
  have s1 := uK_size 4 r0
  have i1 := hi.uK 4
  have c1 := rU32 g r0 (by omega)
  generalize uK 4 r0 = y at *
  obtain ⟨f0, r1⟩ := y
  dsimp only at *
  have s2 := uK_size 4 r1
  have i2 := i1.uK 4
  have c2 := rU32 g r1 (by omega)
  generalize uK 4 r1 = y at *
  obtain ⟨to, r2⟩ := y
  dsimp only at *
  rw [show tilM tPr r2.1.size r2 = tilA tPr r2 from rfl]
  refine fn_intro Try.func51 rfl Try.ntmps51 rfl (fun E => ?_)
  (repeat (first | ((first | (apply wo_v; rfl) ); (· first | (apply pv_ev; rfl) )) | apply wo_nil | apply wc_seq | apply wc_region ))
  (refine wo_call (c1) rfl (by (repeat (first | apply sub_nil )); done) (by first | exact fun _ h => h | (intro r hr; cases hr; done) | (simp; done) | exact fun _ h => List.mem_append_left _ h | (intro r hr; simp [hr]; done)) rfl ?_; rintro v L' R' ⟨rfl, rfl, rfl⟩ H' hH RR hR; simp only [List.cons_append, List.nil_append] at hH hR; subst hH; have hR := hR.symm; subst hR)
  (repeat (first | ((first | (apply wo_v; rfl) ); (· first | (apply pv_ev; rfl) )) ))
  (refine wo_call (c2) rfl (by (repeat (first | apply sub_nil )); done) (by first | exact fun _ h => h | (intro r hr; cases hr; done) | (simp; done) | exact fun _ h => List.mem_append_left _ h | (intro r hr; simp [hr]; done)) rfl ?_; rintro v L' R' ⟨rfl, rfl, rfl⟩ H' hH RR hR; simp only [List.cons_append, List.nil_append] at hH hR; subst hH; have hR := hR.symm; subst hR)
  (repeat (first | ((first | (apply wo_v; rfl) ); (· first | (apply pv_ev; rfl) | (apply g_build; apply pv_build; (· (repeat (first | apply Bld.nil | (apply Bld.one; rfl; rfl; (· (repeat (first | apply SetAt.here | apply SetAt.there)))) )))) )) | apply wo_nil | apply wc_seq | (apply wo_alloc; rfl; intro bx) | (apply wo_sta; rfl; rfl; rfl; rfl; (· (repeat (first | apply sel_here ))); (· (repeat (first | apply LayAt.nil | apply LayAt.here ))); rfl) ))
  obtain ⟨bp, hbp⟩ : ∃ g, g = bx := ⟨_, rfl⟩
  subst hbp
  refine wc_own0 44 2 ?_
  refine wc_block ?_
  refine wc_loop' (fun q st => ∃ (l : List (Int × Int)) (ao : Option Addr) (c : Nat) (r : Rs), q = r.1.size ∧ Ri r ∧ l.length + r.1.size ≤ 1000000 ∧ l ++ (tilA tPr r).1 = (tilA tPr r2).1 ∧ (tilA tPr r).2 = (tilA tPr r2).2 ∧ st = ⟨[(0, .pointer (some ⟨g, 0, none⟩)), (3, .pointer (some ⟨bp, 0, none⟩))], [rdO g r.1 r.2, nakI bp f0 to (.slice ao l.length c), pairO ao l.length c l], []⟩) ⟨[], none, 0, r2, rfl, i2, by simpa using (by omega : r2.1.size ≤ 1000000), rfl, rfl, rfl⟩ (wk_mk (by (repeat (first | apply wkf_nil | (apply wkf_cons; rfl))); done) (by (repeat (first | apply sub_nil | (apply sub_cons; (· (repeat (first | apply sel_here | apply sel_there)))))); done) (by first | exact fun _ h => h | (intro r hr; cases hr; done) | (simp; done) | exact fun _ h => List.mem_append_left _ h | (intro r hr; simp [hr]; done))) ?_
  clear c1 c2
  rintro q st ⟨l, ao, c, r, rfl, hr, hl, h1, h2, rfl⟩
  (repeat (first | ((first | (apply wo_v; rfl) ); (· first | (apply pv_ev; rfl) )) | apply wc_seq | apply wc_region ))
  (refine wo_call (octLen g r.1 r.2) rfl (by (repeat (first | apply sub_nil )); done) (by first | exact fun _ h => h | (intro r hr; cases hr; done) | (simp; done) | exact fun _ h => List.mem_append_left _ h | (intro r hr; simp [hr]; done)) rfl ?_; rintro v L' R' ⟨rfl, rfl, rfl⟩ H' hH RR hR; simp only [List.cons_append, List.nil_append] at hH hR; subst hH; have hR := hR.symm; subst hR)
  by_cases h0 : 0 < r.1.size
  · have hgo := tilA_go (f := tPr) tPr_less tPr_ri hr h0
    have hless := tPr_less r hr h0
    have hri := tPr_ri r hr
    rw [hgo] at h1 h2
    clear hgo
    rw [show tPr r = (((uK 2 r).1, (uK 2 (uK 2 r).2).1), (uK 2 (uK 2 r).2).2) from rfl] at *
    have c3 := rU16 g r (by omega)
    have s3 := uK_size 2 r
    generalize uK 2 r = y at *
    obtain ⟨x, r3⟩ := y
    dsimp only at *
    have c4 := rU16 g r3 (by omega)
    generalize uK 2 r3 = z at *
    obtain ⟨y, r4⟩ := z
    dsimp only at *
    (repeat (first | ((first | (apply wo_v; rfl) ); (· first | (apply pv_ev; rfl) )) | apply wo_nil | apply wc_skip | (apply wc_true; rfl) | (apply wc_false; rfl) | (apply a_dec_t; rfl; (· first | assumption | omega)) ))
    refine wc_block ?_
    (repeat (first | fail ))
    (refine wc_regM [0, 1, 2, 3] (aslL [(1, [3]), (3, [0]), (5, [0]), (7, [1]), (8, [2, 1]), (10, [2, 3])]) (tblN5 g x y r3 r4 bp f0 to ao c l) ([]) (fm [(0, [rdO g r.1 r.2]), (1, []), (2, [pairO ao l.length c l]), (3, [nakI bp f0 to (.slice ao l.length c)])]) mixed (by kernel_rfl) (by kernel_rfl) (by decide) (aslL_ok (by decide)) (by (repeat (first | (apply prm_cons; (· (repeat (first | apply sel_here | apply sel_there)))) | apply List.Perm.nil )); done) ?_; (repeat (first | (apply HdM.val; rfl; rfl; (· first | apply gok_none ); (· first | (apply pv_ev; rfl) | (apply pv_fld; rfl) )) )))
    (refine hm_eff (cs := [3]) rfl (by decide) rfl rfl (by first | exact gok_none | exact gok_run rfl rfl) (fun a ha => outc_mono (outc_ld (L := [nakI bp f0 to (.slice ao l.length c)]) (pv_ld rfl (by (repeat (first | apply sel_here )); done) rfl) a ha) (fun v M h => ⟨[M], And.intro h.1 (congrArg (fun x => [x]) h.2), rfl, by simp⟩)) (⟨_, _, And.intro rfl rfl, rfl⟩) ?_; rintro v Ms ⟨rfl, rfl⟩ _; simp only [setls, setl, reduceIte, Nat.reduceEqDiff]; (repeat (first | (apply HdM.val; rfl; rfl; (· first | apply gok_none ); (· first | (apply pv_ev; rfl) )) )))
    (refine hm_eff (cs := [0]) rfl (by decide) rfl rfl (by first | exact gok_none | exact gok_run rfl rfl) (fun a ha => outc_mono (outc_call (F1 := _) (T := fun v M => v = .int .u16 x ∧ M = [rdO g r3.1 r3.2]) c3 rfl (by (repeat (first | apply sub_nil )); done) (by first | exact fun _ h => h | (intro r hr; cases hr; done) | (simp; done) | exact fun _ h => List.mem_append_left _ h | (intro r hr; simp [hr]; done)) (by rintro v L' R' ⟨rfl, rfl, _⟩; exact ⟨_, ⟨rfl, rfl⟩, (by (repeat (first | (apply prm_cons; (· (repeat (first | apply sel_here )))) | apply List.Perm.nil )); done)⟩) a ha) (fun v M h => ⟨[M], And.intro h.1 (congrArg (fun x => [x]) h.2), rfl, by simp⟩)) (⟨_, _, And.intro rfl rfl, rfl⟩) ?_; rintro v Ms ⟨rfl, rfl⟩ _; simp only [setls, setl, reduceIte, Nat.reduceEqDiff]; (repeat (first | (apply HdM.val; rfl; rfl; (· first | apply gok_none ); (· first | (apply pv_ev; rfl) )) )))
    (refine hm_eff (cs := [0]) rfl (by decide) rfl rfl (by first | exact gok_none | exact gok_run rfl rfl) (fun a ha => outc_mono (outc_call (F1 := _) (T := fun v M => v = .int .u16 y ∧ M = [rdO g r4.1 r4.2]) c4 rfl (by (repeat (first | apply sub_nil )); done) (by first | exact fun _ h => h | (intro r hr; cases hr; done) | (simp; done) | exact fun _ h => List.mem_append_left _ h | (intro r hr; simp [hr]; done)) (by rintro v L' R' ⟨rfl, rfl, _⟩; exact ⟨_, ⟨rfl, rfl⟩, (by (repeat (first | (apply prm_cons; (· (repeat (first | apply sel_here )))) | apply List.Perm.nil )); done)⟩) a ha) (fun v M h => ⟨[M], And.intro h.1 (congrArg (fun x => [x]) h.2), rfl, by simp⟩)) (⟨_, _, And.intro rfl rfl, rfl⟩) ?_; rintro v Ms ⟨rfl, rfl⟩ _; simp only [setls, setl, reduceIte, Nat.reduceEqDiff]; (repeat (first | (apply HdM.val; rfl; rfl; (· first | apply gok_none ); (· first | (apply pv_ev; rfl) | (apply g_build; apply pv_build; (· (repeat (first | apply Bld.nil | (apply Bld.one; rfl; rfl; (· (repeat (first | apply SetAt.here | apply SetAt.there)))) )))) )) )))
    (refine hm_eff (cs := [1]) rfl (by decide) rfl rfl (by first | exact gok_none | exact gok_run rfl rfl) (fun a ha => outc_mono (outc_bsl (by (repeat (first | apply Rws'.nil | (apply Rws'.agg; rfl; rfl; rfl))); done) rfl rfl rfl a ha) (fun v M h => Exists.elim h fun b h => ⟨[M], Exists.intro b (And.intro h.1 (congrArg (fun x => [x]) h.2)), rfl, by simp⟩)) (⟨_, _, Exists.intro 0 (And.intro rfl rfl), rfl⟩) ?_; rintro v Ms ⟨b9, rfl, rfl⟩ _; simp only [setls, setl, reduceIte, Nat.reduceEqDiff]; (repeat (first | (apply HdM.val; rfl; rfl; (· first | fail ); (· first | fail )) )))
    (refine hm_eff (cs := [2, 1]) rfl (by decide) rfl rfl (by first | exact gok_none | exact gok_run rfl rfl) (fun a ha => outc_mono (outc_app rfl rfl (by unfold maxLen; omega) (by omega) a ha) (fun v M h => by obtain ⟨b, c, h1, h2⟩ := h; exact ⟨[[_], [_]], ⟨b, c, h1, rfl⟩, rfl, h2⟩)) (⟨_, _, ⟨none, 0, rfl, rfl⟩, rfl⟩) ?_; rintro v Ms ⟨ao2, c2, rfl, rfl⟩ _; simp only [setls, setl, reduceIte, Nat.reduceEqDiff]; (repeat (first | (apply HdM.val; rfl; rfl; (· first | apply gok_none ); (· first | (apply pv_ev; rfl) | (apply pv_fld; rfl) )) )))
    (refine hm_eff (cs := [2, 3]) rfl (by decide) rfl rfl (by first | exact gok_none | exact gok_run rfl rfl) (fun a ha => outc_mono (outc_frA (X := [pairO' ao2 (l.length + 1) c2 (pairV l ++ pairV [(x, y)])]) (L := [nakI bp f0 to (.slice ao l.length c)]) (outc_st rfl rfl rfl (by (repeat (first | apply SetAt.here | apply SetAt.there)); done)) a ha) (fun v M h => by obtain ⟨M0, ⟨h1, h2⟩, h3⟩ := h; exact ⟨[[_], [_]], ⟨h1, rfl⟩, rfl, by rw [h3, h2]; rfl⟩)) (⟨_, _, ⟨rfl, rfl⟩, rfl⟩) ?_; rintro v Ms ⟨rfl, rfl⟩ _; simp only [setls, setl, reduceIte, Nat.reduceEqDiff]; (repeat (first | fail )))
    (refine HdM.nil ?_; intro H hH; simp only [Hp, fm, look, setl, List.flatMap_cons, List.flatMap_nil, reduceIte, Nat.reduceEqDiff, Option.getD_some, List.append_nil, List.cons_append, List.nil_append] at hH; subst hH)
    (repeat (first | fail ))
    exact loop_end ⟨l ++ [(x, y)], ao2, c2, r4, rfl, hri, by rw [List.length_append, List.length_singleton]; omega, by rw [List.append_assoc]; exact h1, h2, by rw [List.length_append, List.length_singleton, pairO_snoc]⟩ (by omega) (wk_mk (by (repeat (first | apply wkf_nil | (apply wkf_cons; rfl))); done) (by (repeat (first | apply sub_nil | (apply sub_cons; (· (repeat (first | apply sel_here | apply sel_there)))))); done) (by first | exact fun _ h => h | (intro r hr; cases hr; done) | (simp; done) | exact fun _ h => List.mem_append_left _ h | (intro r hr; simp [hr]; done)))
  · have e : r.1.size = 0 := by omega
    rw [tilA_end e] at h1 h2
    dsimp only at h1 h2
    rw [List.append_nil] at h1
    subst h1
    refine wo_still (ao := ao) (n := (tilA tPr r2).1.length) (c := c) (by (repeat (first | apply sel_here | apply sel_there)); done) (fun R1 hS1 => ?_)
    (repeat (first | ((first | (apply wo_v; rfl) ); (· first | (apply pv_ev; rfl) | (apply g_load; first | (apply pv_lda; rfl; (· (repeat (first | apply sel_here | apply sel_there))); (· (repeat (first | apply Cut.here0 | apply Cut.here )))) ) | (apply pv_mki; rfl; infer_instance) )) | apply wo_nil | apply wc_seq | apply wc_region | (apply wc_exit; rfl) | apply wc_ret | (apply wc_true; rfl) | (apply wc_false; rfl) | (apply a_dec_t; rfl; (· first | assumption | omega)) | (apply a_dec_f; rfl; (· first | assumption | omega)) ))
    rw [← h2]
    exact ret1 rfl rfl ⟨⟨ao, _, c, rfl, hS1.sq⟩, rfl⟩ (by (repeat (first | apply sub_nil )); done) (by first | exact fun _ h => h | (intro r hr; cases hr; done) | (simp; done) | exact fun _ h => List.mem_append_left _ h | (intro r hr; simp [hr]; done))

/-! ## Fir -/
abbrev ordO (ao : Option Addr) (n c : Nat) (l : List (Int × Int)) : It := .own 108 2 ao n c (ordV l)
abbrev ordO' (ao : Option Addr) (n c : Nat) (xs : List (List Value)) : It := .own 108 2 ao n c xs
theorem ordO_snoc (ao : Option Addr) (n c : Nat) (l : List (Int × Int)) (x : Int × Int) : ordO ao n c (l ++ [x]) = ordO' ao n c (ordV l ++ ordV [x]) := by rw [ordO, ordV_snoc]; rfl
abbrev firI (b : Nat) (fm : Int) (v : Value) : It := .ob b (.cells #[.int .u32 fm, v] 106 (0, 0))
def tblF5 (g : Nat) (x y : Int) (r2 r3 : Rs) (bp : Nat) (fm : Int) (ao : Option Addr) (c : Nat) (l : List (Int × Int)) : Nat → List (List It) → Value → List (List It) → Prop := fun k Ls v Ms => match k, Ls with
  | 1, [z] => v = .slice ao l.length c ∧ Ms = [z]
  | 3, _ => v = .int .u32 x ∧ Ms = [[rdO g r2.1 r2.2]]
  | 5, _ => v = .int .u8 y ∧ Ms = [[rdO g r3.1 r3.2]]
  | 7, _ => ∃ b, v = .slice (some ⟨b, 0, none⟩) 1 1 ∧ Ms = [[ordO (some ⟨b, 0, none⟩) 1 1 [(x, y)]]]
  | 8, [_, z] => ∃ ao2 c2, v = .slice ao2 (l.length + 1) c2 ∧ Ms = [[ordO' ao2 (l.length + 1) c2 (ordV l ++ ordV [(x, y)])], z]
  | 10, [[.own T2 sz ao2 n2 c2 xs], _] => v = undef ∧ Ms = [[.own T2 sz ao2 n2 c2 xs], [firI bp fm (.slice ao2 n2 c2)]]
  | _, _ => False
theorem tOr_less (r : Rs) (h : Ri r) (h0 : 0 < r.1.size) : (tOr r).2.1.size < r.1.size := Nat.lt_of_le_of_lt (rdB_size2 _ _ _) (Nat.lt_of_le_of_lt (uK_size _ _) (uK_less h (by omega) h0))
theorem tOr_ri (r : Rs) (h : Ri r) : Ri (tOr r).2 := ((h.uK 4).uK 1).rdB 3
set_option maxHeartbeats 8000000 in
theorem kFir (g : Nat) (r0 : Rs) (hi : Ri r0) (hs : r0.1.size ≤ 1000000) : Fn Try.prog 52 #[.pointer (some ⟨g, 0, none⟩)] [rdO g r0.1 r0.2] [] (fun v L' R' => PkV R' (tFi r0).1 v ∧ L' = [rdO g (tFi r0).2.1 (tFi r0).2.2]) := by
  unfold tFi
  dsimp only
  have s1 := uK_size 4 r0
  have i1 := hi.uK 4
  have c1 := rU32 g r0 (by omega)
  generalize uK 4 r0 = y at *
  obtain ⟨f0, r1⟩ := y
  dsimp only at *
  have s2 := uK_size 4 r1
  have i2 := i1.uK 4
  have c2 := rU32 g r1 (by omega)
  generalize uK 4 r1 = y at *
  obtain ⟨to, r2⟩ := y
  dsimp only at *
  rw [show tilM tOr r2.1.size r2 = tilA tOr r2 from rfl]
  refine fn_intro Try.func52 rfl Try.ntmps52 rfl (fun E => ?_)
  (repeat (first | ((first | (apply wo_v; rfl) ); (· first | (apply pv_ev; rfl) )) | apply wo_nil | apply wc_seq | apply wc_region ))
  (refine wo_call (c1) rfl (by (repeat (first | apply sub_nil )); done) (by first | exact fun _ h => h | (intro r hr; cases hr; done) | (simp; done) | exact fun _ h => List.mem_append_left _ h | (intro r hr; simp [hr]; done)) rfl ?_; rintro v L' R' ⟨rfl, rfl, rfl⟩ H' hH RR hR; simp only [List.cons_append, List.nil_append] at hH hR; subst hH; have hR := hR.symm; subst hR)
  (repeat (first | ((first | (apply wo_v; rfl) ); (· first | (apply pv_ev; rfl) | (apply g_build; apply pv_build; (· (repeat (first | apply Bld.nil | (apply Bld.one; rfl; rfl; (· (repeat (first | apply SetAt.here )))) )))) )) | apply wo_nil | apply wc_seq | apply wc_region | (apply wo_alloc; rfl; intro bx) | (apply wo_sta; rfl; rfl; rfl; rfl; (· (repeat (first | apply sel_here ))); (· (repeat (first | apply LayAt.nil | apply LayAt.here ))); rfl) ))
  obtain ⟨bp, hbp⟩ : ∃ g, g = bx := ⟨_, rfl⟩
  subst hbp
  (refine wo_call (c2) rfl (by (repeat (first | apply sub_nil | (apply sub_cons; (· (repeat (first | apply sel_here | apply sel_there)))))); done) (by first | exact fun _ h => h | (intro r hr; cases hr; done) | (simp; done) | exact fun _ h => List.mem_append_left _ h | (intro r hr; simp [hr]; done)) rfl ?_; rintro v L' R' ⟨rfl, rfl, rfl⟩ H' hH RR hR; simp only [List.cons_append, List.nil_append] at hH hR; subst hH; have hR := hR.symm; subst hR)
  (repeat (first | apply wo_nil | apply wc_seq ))
  refine wc_own0 108 2 ?_
  refine wc_block ?_
  refine wc_loop' (fun q st => ∃ (l : List (Int × Int)) (ao : Option Addr) (c : Nat) (r : Rs), q = r.1.size ∧ Ri r ∧ l.length + r.1.size ≤ 1000000 ∧ l ++ (tilA tOr r).1 = (tilA tOr r2).1 ∧ (tilA tOr r).2 = (tilA tOr r2).2 ∧ st = ⟨[(0, .pointer (some ⟨g, 0, none⟩)), (3, .pointer (some ⟨bp, 0, none⟩))], [rdO g r.1 r.2, firI bp f0 (.slice ao l.length c), ordO ao l.length c l], []⟩) ⟨[], none, 0, r2, rfl, i2, by simpa using (by omega : r2.1.size ≤ 1000000), rfl, rfl, rfl⟩ (wk_mk (by (repeat (first | apply wkf_nil | (apply wkf_cons; rfl))); done) (by (repeat (first | apply sub_nil | (apply sub_cons; (· (repeat (first | apply sel_here | apply sel_there)))))); done) (by first | exact fun _ h => h | (intro r hr; cases hr; done) | (simp; done) | exact fun _ h => List.mem_append_left _ h | (intro r hr; simp [hr]; done))) ?_
  clear c1 c2
  rintro q st ⟨l, ao, c, r, rfl, hr, hl, h1, h2, rfl⟩
  (repeat (first | ((first | (apply wo_v; rfl) ); (· first | (apply pv_ev; rfl) )) | apply wc_seq | apply wc_region ))
  (refine wo_call (octLen g r.1 r.2) rfl (by (repeat (first | apply sub_nil )); done) (by first | exact fun _ h => h | (intro r hr; cases hr; done) | (simp; done) | exact fun _ h => List.mem_append_left _ h | (intro r hr; simp [hr]; done)) rfl ?_; rintro v L' R' ⟨rfl, rfl, rfl⟩ H' hH RR hR; simp only [List.cons_append, List.nil_append] at hH hR; subst hH; have hR := hR.symm; subst hR)
  by_cases h0 : 0 < r.1.size
  · have hgo := tilA_go (f := tOr) tOr_less tOr_ri hr h0
    have hless := tOr_less r hr h0
    have hri := tOr_ri r hr
    rw [hgo] at h1 h2
    clear hgo
    rw [show tOr r = (((uK 4 r).1, (uK 1 (uK 4 r).2).1), (rdB (uK 1 (uK 4 r).2).2.1 (uK 1 (uK 4 r).2).2.2 3).2) from rfl] at *
    have c3 := rU32 g r (by omega)
    have s3 := uK_size 4 r
    generalize uK 4 r = y at *
    obtain ⟨x, r3⟩ := y
    dsimp only at *
    have c4 := rU8 g r3 (by omega)
    have s4 := uK_size 1 r3
    generalize uK 1 r3 = z at *
    obtain ⟨y, r4⟩ := z
    dsimp only at *
    have c5 := octBytes g r4.1 r4.2 3 (by omega)
    generalize rdB r4.1 r4.2 3 = z at *
    obtain ⟨z, r5⟩ := z
    dsimp only at *
    (repeat (first | ((first | (apply wo_v; rfl) ); (· first | (apply pv_ev; rfl) )) | apply wo_nil | apply wc_skip | (apply wc_true; rfl) | (apply wc_false; rfl) | (apply a_dec_t; rfl; (· first | assumption | omega)) ))
    refine wc_block ?_
    (repeat (first | apply wc_seq ))
    (refine wc_regM [0, 1, 2, 3] (aslL [(1, [3]), (3, [0]), (5, [0]), (7, [1]), (8, [2, 1]), (10, [2, 3])]) (tblF5 g x y r3 r4 bp f0 ao c l) ([]) (fm [(0, [rdO g r.1 r.2]), (1, []), (2, [ordO ao l.length c l]), (3, [firI bp f0 (.slice ao l.length c)])]) mixed (by kernel_rfl) (by kernel_rfl) (by decide) (aslL_ok (by decide)) (by (repeat (first | (apply prm_cons; (· (repeat (first | apply sel_here | apply sel_there)))) | apply List.Perm.nil )); done) ?_; (repeat (first | (apply HdM.val; rfl; rfl; (· first | apply gok_none ); (· first | (apply pv_ev; rfl) | (apply pv_fld; rfl) )) )))
    (refine hm_eff (cs := [3]) rfl (by decide) rfl rfl (by first | exact gok_none | exact gok_run rfl rfl) (fun a ha => outc_mono (outc_ld (L := [firI bp f0 (.slice ao l.length c)]) (pv_ld rfl (by (repeat (first | apply sel_here )); done) rfl) a ha) (fun v M h => ⟨[M], And.intro h.1 (congrArg (fun x => [x]) h.2), rfl, by simp⟩)) (⟨_, _, And.intro rfl rfl, rfl⟩) ?_; rintro v Ms ⟨rfl, rfl⟩ _; simp only [setls, setl, reduceIte, Nat.reduceEqDiff]; (repeat (first | (apply HdM.val; rfl; rfl; (· first | apply gok_none ); (· first | (apply pv_ev; rfl) )) )))
    (refine hm_eff (cs := [0]) rfl (by decide) rfl rfl (by first | exact gok_none | exact gok_run rfl rfl) (fun a ha => outc_mono (outc_call (F1 := _) (T := fun v M => v = .int .u32 x ∧ M = [rdO g r3.1 r3.2]) c3 rfl (by (repeat (first | apply sub_nil )); done) (by first | exact fun _ h => h | (intro r hr; cases hr; done) | (simp; done) | exact fun _ h => List.mem_append_left _ h | (intro r hr; simp [hr]; done)) (by rintro v L' R' ⟨rfl, rfl, _⟩; exact ⟨_, ⟨rfl, rfl⟩, (by (repeat (first | (apply prm_cons; (· (repeat (first | apply sel_here )))) | apply List.Perm.nil )); done)⟩) a ha) (fun v M h => ⟨[M], And.intro h.1 (congrArg (fun x => [x]) h.2), rfl, by simp⟩)) (⟨_, _, And.intro rfl rfl, rfl⟩) ?_; rintro v Ms ⟨rfl, rfl⟩ _; simp only [setls, setl, reduceIte, Nat.reduceEqDiff]; (repeat (first | (apply HdM.val; rfl; rfl; (· first | apply gok_none ); (· first | (apply pv_ev; rfl) )) )))
    (refine hm_eff (cs := [0]) rfl (by decide) rfl rfl (by first | exact gok_none | exact gok_run rfl rfl) (fun a ha => outc_mono (outc_call (F1 := _) (T := fun v M => v = .int .u8 y ∧ M = [rdO g r4.1 r4.2]) c4 rfl (by (repeat (first | apply sub_nil )); done) (by first | exact fun _ h => h | (intro r hr; cases hr; done) | (simp; done) | exact fun _ h => List.mem_append_left _ h | (intro r hr; simp [hr]; done)) (by rintro v L' R' ⟨rfl, rfl, _⟩; exact ⟨_, ⟨rfl, rfl⟩, (by (repeat (first | (apply prm_cons; (· (repeat (first | apply sel_here )))) | apply List.Perm.nil )); done)⟩) a ha) (fun v M h => ⟨[M], And.intro h.1 (congrArg (fun x => [x]) h.2), rfl, by simp⟩)) (⟨_, _, And.intro rfl rfl, rfl⟩) ?_; rintro v Ms ⟨rfl, rfl⟩ _; simp only [setls, setl, reduceIte, Nat.reduceEqDiff]; (repeat (first | (apply HdM.val; rfl; rfl; (· first | apply gok_none ); (· first | (apply pv_ev; rfl) | (apply g_build; apply pv_build; (· (repeat (first | apply Bld.nil | (apply Bld.one; rfl; rfl; (· (repeat (first | apply SetAt.here | apply SetAt.there)))) )))) )) )))
    (refine hm_eff (cs := [1]) rfl (by decide) rfl rfl (by first | exact gok_none | exact gok_run rfl rfl) (fun a ha => outc_mono (outc_bsl (by (repeat (first | apply Rws'.nil | (apply Rws'.agg; rfl; rfl; rfl))); done) rfl rfl rfl a ha) (fun v M h => Exists.elim h fun b h => ⟨[M], Exists.intro b (And.intro h.1 (congrArg (fun x => [x]) h.2)), rfl, by simp⟩)) (⟨_, _, Exists.intro 0 (And.intro rfl rfl), rfl⟩) ?_; rintro v Ms ⟨b9, rfl, rfl⟩ _; simp only [setls, setl, reduceIte, Nat.reduceEqDiff]; (repeat (first | (apply HdM.val; rfl; rfl; (· first | fail ); (· first | fail )) )))
    (refine hm_eff (cs := [2, 1]) rfl (by decide) rfl rfl (by first | exact gok_none | exact gok_run rfl rfl) (fun a ha => outc_mono (outc_app rfl rfl (by unfold maxLen; omega) (by omega) a ha) (fun v M h => by obtain ⟨b, c, h1, h2⟩ := h; exact ⟨[[_], [_]], ⟨b, c, h1, rfl⟩, rfl, h2⟩)) (⟨_, _, ⟨none, 0, rfl, rfl⟩, rfl⟩) ?_; rintro v Ms ⟨ao2, c2, rfl, rfl⟩ _; simp only [setls, setl, reduceIte, Nat.reduceEqDiff]; (repeat (first | (apply HdM.val; rfl; rfl; (· first | apply gok_none ); (· first | (apply pv_ev; rfl) | (apply pv_fld; rfl) )) )))
    (refine hm_eff (cs := [2, 3]) rfl (by decide) rfl rfl (by first | exact gok_none | exact gok_run rfl rfl) (fun a ha => outc_mono (outc_frA (X := [ordO' ao2 (l.length + 1) c2 (ordV l ++ ordV [(x, y)])]) (L := [firI bp f0 (.slice ao l.length c)]) (outc_st rfl rfl rfl (by (repeat (first | apply SetAt.here | apply SetAt.there)); done)) a ha) (fun v M h => by obtain ⟨M0, ⟨h1, h2⟩, h3⟩ := h; exact ⟨[[_], [_]], ⟨h1, rfl⟩, rfl, by rw [h3, h2]; rfl⟩)) (⟨_, _, ⟨rfl, rfl⟩, rfl⟩) ?_; rintro v Ms ⟨rfl, rfl⟩ _; simp only [setls, setl, reduceIte, Nat.reduceEqDiff]; (repeat (first | fail )))
    (refine HdM.nil ?_; intro H hH; simp only [Hp, fm, look, setl, List.flatMap_cons, List.flatMap_nil, reduceIte, Nat.reduceEqDiff, Option.getD_some, List.append_nil, List.cons_append, List.nil_append] at hH; subst hH)
    (repeat (first | ((first | (apply wo_v; rfl) ); (· first | (apply pv_ev; rfl) )) | apply wc_region ))
    (refine wo_call (c5) rfl (by (repeat (first | apply sub_nil )); done) (by first | exact fun _ h => h | (intro r hr; cases hr; done) | (simp; done) | exact fun _ h => List.mem_append_left _ h | (intro r hr; simp [hr]; done)) rfl ?_; rintro v L' R' ⟨rfl, rfl, rfl⟩ H' hH RR hR; simp only [List.cons_append, List.nil_append] at hH hR; subst hH; have hR := hR.symm; subst hR)
    (repeat (first | apply wo_nil ))
    exact loop_end ⟨l ++ [(x, y)], ao2, c2, r5, rfl, hri, by rw [List.length_append, List.length_singleton]; omega, by rw [List.append_assoc]; exact h1, h2, by rw [List.length_append, List.length_singleton, ordO_snoc]⟩ (by omega) (wk_mk (by (repeat (first | apply wkf_nil | (apply wkf_cons; rfl))); done) (by (repeat (first | apply sub_nil | (apply sub_cons; (· (repeat (first | apply sel_here | apply sel_there)))))); done) (by first | exact fun _ h => h | (intro r hr; cases hr; done) | (simp; done) | exact fun _ h => List.mem_append_left _ h | (intro r hr; simp [hr]; done)))
  · have e : r.1.size = 0 := by omega
    rw [tilA_end e] at h1 h2
    dsimp only at h1 h2
    rw [List.append_nil] at h1
    subst h1
    refine wo_still (ao := ao) (n := (tilA tOr r2).1.length) (c := c) (by (repeat (first | apply sel_here | apply sel_there)); done) (fun R1 hS1 => ?_)
    (repeat (first | ((first | (apply wo_v; rfl) ); (· first | (apply pv_ev; rfl) | (apply g_load; first | (apply pv_lda; rfl; (· (repeat (first | apply sel_here | apply sel_there))); (· (repeat (first | apply Cut.here0 | apply Cut.here )))) ) | (apply pv_mki; rfl; infer_instance) )) | apply wo_nil | apply wc_seq | apply wc_region | (apply wc_exit; rfl) | apply wc_ret | (apply wc_true; rfl) | (apply wc_false; rfl) | (apply a_dec_t; rfl; (· first | assumption | omega)) | (apply a_dec_f; rfl; (· first | assumption | omega)) ))
    rw [← h2]
    exact ret1 rfl rfl ⟨⟨ao, _, c, rfl, hS1.sq⟩, rfl⟩ (by (repeat (first | apply sub_nil )); done) (by first | exact fun _ h => h | (intro r hr; cases hr; done) | (simp; done) | exact fun _ h => List.mem_append_left _ h | (intro r hr; simp [hr]; done))

/-! ## Bye -/
abbrev byeI (b : Nat) (v : Value) (s : ByteArray) : It := .ob b (.cells #[v, .string s] 136 (0, 0))
def tblB5 (g : Nat) (x : Int) (r2 : Rs) (bp : Nat) (ao : Option Addr) (c : Nat) (l : List Int) : Nat → List (List It) → Value → List (List It) → Prop := fun k Ls v Ms => match k, Ls with
  | 1, [y] => v = .slice ao l.length c ∧ Ms = [y]
  | 3, _ => v = .int .u32 x ∧ Ms = [[rdO g r2.1 r2.2]]
  | 4, _ => ∃ b, v = .slice (some ⟨b, 0, none⟩) 1 1 ∧ Ms = [[c32O (some ⟨b, 0, none⟩) 1 1 [x]]]
  | 5, [_, y] => ∃ ao2 c2, v = .slice ao2 (l.length + 1) c2 ∧ Ms = [[c32O' ao2 (l.length + 1) c2 (c32 l ++ c32 [x])], y]
  | 7, [[.own T2 sz ao2 n2 c2 xs], _] => v = undef ∧ Ms = [[.own T2 sz ao2 n2 c2 xs], [byeI bp (.slice ao2 n2 c2) E0]]
  | _, _ => False
theorem c32O_snoc' (ao : Option Addr) (n c : Nat) (l : List Int) (x : Int) : c32O ao n c (l ++ [x]) = c32O' ao n c (c32 l ++ c32 [x]) := c32O_snoc ao n c l x
theorem uK4_size (r : Rs) : (uK 4 r).2.1.size ≤ r.1.size := uK_size 4 r
set_option maxHeartbeats 8000000 in
theorem kBye (g : Nat) (r0 : Rs) (hs : r0.1.size ≤ 1000000) (N : Nat) (hN : N ≤ 255) : Fn Try.prog 50 #[.pointer (some ⟨g, 0, none⟩), .int .u8 N] [rdO g r0.1 r0.2] [] (fun v L' R' => PkV R' (byE (repM (uK 4) N r0)).1 v ∧ L' = [rdO g (byE (repM (uK 4) N r0)).2.1 (byE (repM (uK 4) N r0)).2.2]) := by
  refine fn_intro Try.func50 rfl Try.ntmps50 rfl (fun E => ?_)
  (repeat (first | ((first | (apply wo_v; rfl) ); (· first | (apply pv_ev; rfl) )) | apply wo_nil | apply wc_seq | apply wc_region | (apply wo_alloc; rfl; intro bx) ))
  obtain ⟨bp, hbp⟩ : ∃ g, g = bx := ⟨_, rfl⟩
  subst hbp
  refine wc_own0 37 1 ?_
  refine wc_join0 (fun st => ∃ ao c, st = ⟨[(0, .pointer (some ⟨g, 0, none⟩)), (5, .pointer (some ⟨bp, 0, none⟩))], [rdO g (repM (uK 4) N r0).2.1 (repM (uK 4) N r0).2.2, byeI bp (.slice ao (repM (uK 4) N r0).1.length c) E0, c32O ao (repM (uK 4) N r0).1.length c (repM (uK 4) N r0).1], []⟩) ?_ ?_
  · refine wc_block ?_
    refine wc_loop' (fun q st => ∃ (i : Nat) (l : List Int) (ao : Option Addr) (c : Nat) (r : Rs), q = N - i ∧ i ≤ N ∧ r.1.size ≤ 1000000 ∧ l.length = i ∧ l ++ (repM (uK 4) (N - i) r).1 = (repM (uK 4) N r0).1 ∧ (repM (uK 4) (N - i) r).2 = (repM (uK 4) N r0).2 ∧ st = ⟨[(0, .pointer (some ⟨g, 0, none⟩)), (5, .pointer (some ⟨bp, 0, none⟩)), (6, .int .u8 N), (7, .int .u8 i)], [rdO g r.1 r.2, byeI bp (.slice ao l.length c) E0, c32O ao l.length c l], []⟩) ⟨0, [], none, 0, r0, rfl, Nat.zero_le _, hs, rfl, rfl, rfl, rfl⟩ (wk_mk (by (repeat (first | apply wkf_nil | (apply wkf_cons; rfl))); done) (by (repeat (first | apply sub_nil | (apply sub_cons; (· (repeat (first | apply sel_here | apply sel_there)))))); done) (by first | exact fun _ h => h | (intro r hr; cases hr; done) | (simp; done) | exact fun _ h => List.mem_append_left _ h | (intro r hr; simp [hr]; done))) ?_
    rintro q st ⟨i, l, ao, c, r, rfl, hi, hr, hl, h1, h2, rfl⟩
    by_cases h0 : i < N
    · obtain ⟨m, hm⟩ : ∃ m, N - i = m + 1 := ⟨N - i - 1, by omega⟩
      have hm2 : N - (i + 1) = m := by omega
      have e1 : l ++ ((uK 4 r).1 :: (repM (uK 4) (N - (i + 1)) (uK 4 r).2).1) = (repM (uK 4) N r0).1 := by rw [hm2, ← h1, hm]; rfl
      have e2 : (repM (uK 4) (N - (i + 1)) (uK 4 r).2).2 = (repM (uK 4) N r0).2 := by rw [hm2, ← h2, hm]; rfl
      clear h1 h2
      have s1 := uK_size 4 r
      have c1 := rU32 g r (by omega)
      generalize uK 4 r = y at *
      obtain ⟨x, r1⟩ := y
      dsimp only at *
      (repeat (first | ((first | (apply wo_v; rfl) ); (· first | (apply pv_ev; rfl) )) | apply wo_nil | apply wc_seq | apply wc_region | apply wc_skip | (apply wc_true; rfl) | (apply wc_false; rfl) | (apply a_dec_t; rfl; (· first | assumption | omega)) ))
      refine wc_block ?_
      (repeat (first | fail ))
      (refine wc_regM [0, 1, 2, 3] (aslL [(1, [3]), (3, [0]), (4, [1]), (5, [2, 1]), (7, [2, 3])]) (tblB5 g x r1 bp ao c l) ([]) (fm [(0, [rdO g r.1 r.2]), (1, []), (2, [c32O ao l.length c l]), (3, [byeI bp (.slice ao l.length c) E0])]) mixed (by kernel_rfl) (by kernel_rfl) (by decide) (aslL_ok (by decide)) (by (repeat (first | (apply prm_cons; (· (repeat (first | apply sel_here | apply sel_there)))) | apply List.Perm.nil )); done) ?_; (repeat (first | (apply HdM.val; rfl; rfl; (· first | apply gok_none ); (· first | (apply pv_ev; rfl) | (apply pv_fld; rfl) )) )))
      (refine hm_eff (cs := [3]) rfl (by decide) rfl rfl (by first | exact gok_none | exact gok_run rfl rfl) (fun a ha => outc_mono (outc_ld (L := [byeI bp (.slice ao l.length c) E0]) (pv_ld rfl (by (repeat (first | apply sel_here )); done) rfl) a ha) (fun v M h => ⟨[M], And.intro h.1 (congrArg (fun x => [x]) h.2), rfl, by simp⟩)) (⟨_, _, And.intro rfl rfl, rfl⟩) ?_; rintro v Ms ⟨rfl, rfl⟩ _; simp only [setls, setl, reduceIte, Nat.reduceEqDiff]; (repeat (first | (apply HdM.val; rfl; rfl; (· first | apply gok_none ); (· first | (apply pv_ev; rfl) )) )))
      (refine hm_eff (cs := [0]) rfl (by decide) rfl rfl (by first | exact gok_none | exact gok_run rfl rfl) (fun a ha => outc_mono (outc_call (F1 := _) (T := fun v M => v = .int .u32 x ∧ M = [rdO g r1.1 r1.2]) c1 rfl (by (repeat (first | apply sub_nil )); done) (by first | exact fun _ h => h | (intro r hr; cases hr; done) | (simp; done) | exact fun _ h => List.mem_append_left _ h | (intro r hr; simp [hr]; done)) (by rintro v L' R' ⟨rfl, rfl, _⟩; exact ⟨_, ⟨rfl, rfl⟩, (by (repeat (first | (apply prm_cons; (· (repeat (first | apply sel_here )))) | apply List.Perm.nil )); done)⟩) a ha) (fun v M h => ⟨[M], And.intro h.1 (congrArg (fun x => [x]) h.2), rfl, by simp⟩)) (⟨_, _, And.intro rfl rfl, rfl⟩) ?_; rintro v Ms ⟨rfl, rfl⟩ _; simp only [setls, setl, reduceIte, Nat.reduceEqDiff]; (repeat (first | (apply HdM.val; rfl; rfl; (· first | fail ); (· first | fail )) )))
      (refine hm_eff (cs := [1]) rfl (by decide) rfl rfl (by first | exact gok_none | exact gok_run rfl rfl) (fun a ha => outc_mono (outc_bsl (by (repeat (first | apply Rws'.nil | (apply Rws'.one; rfl; rfl; rfl) )); done) rfl rfl rfl a ha) (fun v M h => Exists.elim h fun b h => ⟨[M], Exists.intro b (And.intro h.1 (congrArg (fun x => [x]) h.2)), rfl, by simp⟩)) (⟨_, _, Exists.intro 0 (And.intro rfl rfl), rfl⟩) ?_; rintro v Ms ⟨b9, rfl, rfl⟩ _; simp only [setls, setl, reduceIte, Nat.reduceEqDiff]; (repeat (first | (apply HdM.val; rfl; rfl; (· first | fail ); (· first | fail )) )))
      (refine hm_eff (cs := [2, 1]) rfl (by decide) rfl rfl (by first | exact gok_none | exact gok_run rfl rfl) (fun a ha => outc_mono (outc_app rfl rfl (by unfold maxLen; omega) (by omega) a ha) (fun v M h => by obtain ⟨b, c, h1, h2⟩ := h; exact ⟨[[_], [_]], ⟨b, c, h1, rfl⟩, rfl, h2⟩)) (⟨_, _, ⟨none, 0, rfl, rfl⟩, rfl⟩) ?_; rintro v Ms ⟨ao2, c2, rfl, rfl⟩ _; simp only [setls, setl, reduceIte, Nat.reduceEqDiff]; (repeat (first | (apply HdM.val; rfl; rfl; (· first | apply gok_none ); (· first | (apply pv_ev; rfl) | (apply pv_fld; rfl) )) )))
      (refine hm_eff (cs := [2, 3]) rfl (by decide) rfl rfl (by first | exact gok_none | exact gok_run rfl rfl) (fun a ha => outc_mono (outc_frA (X := [c32O' ao2 (l.length + 1) c2 (c32 l ++ c32 [x])]) (L := [byeI bp (.slice ao l.length c) E0]) (outc_st rfl rfl rfl (by (repeat (first | apply SetAt.here )); done)) a ha) (fun v M h => by obtain ⟨M0, ⟨h1, h2⟩, h3⟩ := h; exact ⟨[[_], [_]], ⟨h1, rfl⟩, rfl, by rw [h3, h2]; rfl⟩)) (⟨_, _, ⟨rfl, rfl⟩, rfl⟩) ?_; rintro v Ms ⟨rfl, rfl⟩ _; simp only [setls, setl, reduceIte, Nat.reduceEqDiff]; (repeat (first | fail )))
      (refine HdM.nil ?_; intro H hH; simp only [Hp, fm, look, setl, List.flatMap_cons, List.flatMap_nil, reduceIte, Nat.reduceEqDiff, Option.getD_some, List.append_nil, List.cons_append, List.nil_append] at hH; subst hH)
      (repeat (first | ((first | (apply wo_v; rfl) ); (· first | (apply pv_ev; rfl) | (apply g_bin; first | (apply a_add; rfl; rfl; infer_instance; omega) ) )) | apply wo_nil | apply wc_region ))
      exact loop_end ⟨i + 1, l ++ [x], ao2, c2, r1, rfl, by omega, by omega, by rw [List.length_append, List.length_singleton, hl], by rw [List.append_assoc]; exact e1, e2, by rw [List.length_append, List.length_singleton, c32O_snoc']⟩ (by omega) (wk_mk (by (repeat (first | apply wkf_nil | (apply wkf_cons; rfl))); done) (by (repeat (first | apply sub_nil | (apply sub_cons; (· (repeat (first | apply sel_here | apply sel_there)))))); done) (by first | exact fun _ h => h | (intro r hr; cases hr; done) | (simp; done) | exact fun _ h => List.mem_append_left _ h | (intro r hr; simp [hr]; done)))
    · have e : i = N := by omega
      subst e
      rw [Nat.sub_self] at h1 h2
      have h1 : l ++ [] = (repM (uK 4) i r0).1 := h1
      have h2 : r = (repM (uK 4) i r0).2 := h2
      rw [List.append_nil] at h1
      subst h1
      subst h2
      (repeat (first | ((first | (apply wo_v; rfl) ); (· first | (apply pv_ev; rfl) )) | apply wo_nil | apply wc_seq | apply wc_region | (apply wc_exit; rfl) | (apply wc_true; rfl) | (apply wc_false; rfl) | (apply a_dec_t; rfl; (· first | assumption | omega)) | (apply a_dec_f; rfl; (· first | assumption | omega)) ))
      exact cut_end ⟨ao, c, rfl⟩ (wk_mk (by (repeat (first | apply wkf_nil | (apply wkf_cons; rfl))); done) (by (repeat (first | apply sub_nil )); done) (by first | exact fun _ h => h | (intro r hr; cases hr; done) | (simp; done) | exact fun _ h => List.mem_append_left _ h | (intro r hr; simp [hr]; done)))
  rintro st ⟨ao, c, rfl⟩
  have hz := repM_size (f := uK 4) uK4_size N r0
  unfold byE
  generalize repM (uK 4) N r0 = y at *
  obtain ⟨l, r⟩ := y
  dsimp only at *
  (repeat (first | ((first | (apply wo_v; rfl) ); (· first | (apply pv_ev; rfl) )) | apply wc_seq | apply wc_region ))
  (refine wo_call (octLen g r.1 r.2) rfl (by (repeat (first | apply sub_nil )); done) (by first | exact fun _ h => h | (intro r hr; cases hr; done) | (simp; done) | exact fun _ h => List.mem_append_left _ h | (intro r hr; simp [hr]; done)) rfl ?_; rintro v L' R' ⟨rfl, rfl, rfl⟩ H' hH RR hR; simp only [List.cons_append, List.nil_append] at hH hR; subst hH; have hR := hR.symm; subst hR)
  by_cases h0 : r.1.size = 0
  · rw [if_pos h0]
    refine wo_still (ao := ao) (n := l.length) (c := c) (by (repeat (first | apply sel_here | apply sel_there)); done) (fun R1 hS1 => ?_)
    (repeat (first | ((first | (apply wo_v; rfl) ); (· first | (apply pv_ev; rfl) | (apply g_load; first | (apply pv_lda; rfl; (· (repeat (first | apply sel_here | apply sel_there))); (· (repeat (first | apply Cut.here0 | apply Cut.here )))) ) | (apply pv_mki; rfl; infer_instance) )) | apply wo_nil | apply wc_seq | apply wc_region | apply wc_skip | apply wc_ret | (apply wc_true; rfl) | (apply wc_false; rfl) | (apply a_dec_t; rfl; (· first | assumption | omega)) | (apply a_dec_f; rfl; (· first | assumption | omega)) ))
    exact ret1 rfl rfl ⟨⟨ao, _, c, rfl, hS1.sq⟩, rfl⟩ (by (repeat (first | apply sub_nil )); done) (by first | exact fun _ h => h | (intro r hr; cases hr; done) | (simp; done) | exact fun _ h => List.mem_append_left _ h | (intro r hr; simp [hr]; done))
  · rw [if_neg h0]
    have h0 : 0 < r.1.size := by omega
    have c1 := rU8 g r (by omega)
    have s1 := uK_size 1 r
    have b1 := uK1_b r
    generalize uK 1 r = y at *
    obtain ⟨k, r1⟩ := y
    dsimp only at *
    have c2 := octBytes g r1.1 r1.2 k (by omega)
    have s2 := rdB_size2 r1.1 r1.2 k
    generalize rdB r1.1 r1.2 k = y at *
    obtain ⟨tx, r2⟩ := y
    dsimp only at *
    have c3 := octRest g r2.1 r2.2 (by omega)
    generalize rdB r2.1 r2.2 r2.1.size = y at *
    obtain ⟨t2, r3⟩ := y
    dsimp only at *
    (repeat (first | ((first | (apply wo_v; rfl) ); (· first | (apply pv_ev; rfl) )) | apply wo_nil | apply wc_seq | apply wc_region | (apply wc_true; rfl) | (apply wc_false; rfl) | (apply a_dec_t; rfl; (· first | assumption | omega)) ))
    (refine wo_call (c1) rfl (by (repeat (first | apply sub_nil )); done) (by first | exact fun _ h => h | (intro r hr; cases hr; done) | (simp; done) | exact fun _ h => List.mem_append_left _ h | (intro r hr; simp [hr]; done)) rfl ?_; rintro v L' R' ⟨rfl, rfl, rfl⟩ H' hH RR hR; simp only [List.cons_append, List.nil_append] at hH hR; subst hH; have hR := hR.symm; subst hR)
    (repeat (first | ((first | (apply wo_v; rfl) ); (· first | (apply pv_ev; rfl) | (apply g_conv; first | (apply a_conv; rfl; infer_instance; infer_instance; infer_instance; omega) ) )) ))
    (refine wo_call (c2) rfl (by (repeat (first | apply sub_nil )); done) (by first | exact fun _ h => h | (intro r hr; cases hr; done) | (simp; done) | exact fun _ h => List.mem_append_left _ h | (intro r hr; simp [hr]; done)) rfl ?_; rintro v L' R' ⟨rfl, rfl, rfl⟩ H' hH RR hR; simp only [List.cons_append, List.nil_append] at hH hR; subst hH; have hR := hR.symm; subst hR)
    (repeat (first | ((first | (apply wo_v; rfl) ); (· first | (apply pv_ev; rfl) | (apply pv_fld; rfl) )) | apply wo_nil | apply wc_region | (apply wo_st; rfl; rfl; rfl; (· (repeat (first | apply sel_here | apply sel_there))); (· (repeat (first | apply SetAt.here | apply SetAt.there))); rfl) ))
    (refine wo_call (c3) rfl (by (repeat (first | apply sub_nil | (apply sub_cons; (· (repeat (first | apply sel_here | apply sel_there)))))); done) (by first | exact fun _ h => h | (intro r hr; cases hr; done) | (simp; done) | exact fun _ h => List.mem_append_left _ h | (intro r hr; simp [hr]; done)) rfl ?_; rintro v L' R' ⟨rfl, rfl, rfl⟩ H' hH RR hR; simp only [List.cons_append, List.nil_append] at hH hR; subst hH; have hR := hR.symm; subst hR)
    refine wo_still (ao := ao) (n := l.length) (c := c) (by (repeat (first | apply sel_here | apply sel_there)); done) (fun R1 hS1 => ?_)
    (repeat (first | ((first | (apply wo_v; rfl) ); (· first | (apply pv_ev; rfl) | (apply g_load; first | (apply pv_lda; rfl; (· (repeat (first | apply sel_here | apply sel_there))); (· (repeat (first | apply Cut.here0 | apply Cut.here )))) ) | (apply pv_mki; rfl; infer_instance) )) | apply wo_nil | apply wc_seq | apply wc_region | apply wc_ret ))
    exact ret1 rfl rfl ⟨⟨ao, _, c, rfl, hS1.sq⟩, rfl⟩ (by (repeat (first | apply sub_nil )); done) (by first | exact fun _ h => h | (intro r hr; cases hr; done) | (simp; done) | exact fun _ h => List.mem_append_left _ h | (intro r hr; simp [hr]; done))
end Go.Proofs.Yteaccbbmphcmnaa

/-
  Package rtcp: Remb, read.
-/
namespace Go.Proofs.Yteaccbbmphcmnaa
set_option linter.unusedSimpArgs false
set_option linter.unusedVariables false
open Go.RowKit
attribute [local irreducible] Pv WO WC Fn
set_option maxRecDepth 100000
attribute [local irreducible] ByteArray.extract

theorem and64_18 {a : Int} (h : 0 ≤ a ∧ a ≤ 16777215) : bits .and .u64 a 262143 = a % 262144 := by
  obtain ⟨u, rfl⟩ := Int.eq_ofNat_of_zero_le h.1
  show IntKind.u64.wrap ((BitVec.ofInt 64 (u : Int) &&& BitVec.ofInt 64 ((262143 : Nat) : Int)).toNat : Int) = _
  have hz : ∀ c : Nat, c < 2 ^ 64 → (BitVec.ofInt 64 (c : Int)).toNat = c := fun c hc => by
    rw [BitVec.ofInt_natCast, BitVec.toNat_ofNat]; exact Nat.mod_eq_of_lt hc
  rw [BitVec.toNat_and, hz u (by omega), hz 262143 (by omega), show (262143 : Nat) = 2 ^ 18 - 1 from rfl, Nat.and_two_pow_sub_one_eq_mod, IntKind.wrap_u64]
  omega
theorem shlM_b : ∀ (n : Nat) (x : Int), 0 ≤ x ∧ x ≤ 18446744073709551615 → 0 ≤ (shlM n x).1 ∧ (shlM n x).1 ≤ 18446744073709551615
  | 0, x, h => h
  | n + 1, x, h => by
    rw [shlM]
    split
    · exact h
    · exact shlM_b n (2 * x) (by omega)
abbrev rmbI (b : Nat) (fm rt : Int) (v : Value) : It := .ob b (.cells #[.int .u32 fm, .int .u64 rt, v] 111 (0, 0))
theorem reA_size (r : Rs) : (reA r).1.size ≤ r.1.size := by
  unfold reA
  split
  · exact rdB_size2 _ _ _
  · exact Nat.le_trans (rdF_sz _ _) (rdB_size2 _ _ _)
theorem reA_ri {r : Rs} (h : Ri r) : Ri (reA r) := by
  unfold reA
  split
  · exact h.rdB 4
  · exact (h.rdB 4).rdF 2
theorem reB_size (b : Bool) (r : Rs) : (reB b r).1.size ≤ r.1.size := by
  unfold reB
  split
  · exact rdF_sz _ _
  · exact Nat.le_refl _
theorem reB_ri (b : Bool) {r : Rs} (h : Ri r) : Ri (reB b r) := by
  unfold reB
  split
  · exact h.rdF 4
  · exact h
set_option maxHeartbeats 8000000 in
theorem kRemb (g : Nat) (r0 : Rs) (hi : Ri r0) (hs : r0.1.size ≤ 1000000) : Fn Try.prog 53 #[.pointer (some ⟨g, 0, none⟩)] [rdO g r0.1 r0.2] [] (fun v L' R' => PkV R' (tRe r0).1 v ∧ L' = [rdO g (tRe r0).2.1 (tRe r0).2.2]) := by
  unfold tRe
  dsimp only
  have s1 := uK_size 4 r0
  have i1 := hi.uK 4
  have c1 := rU32 g r0 (by omega)
  generalize uK 4 r0 = y at *
  obtain ⟨f0, r1⟩ := y
  dsimp only at *
  have s2 := uK_size 4 r1
  have i2 := i1.uK 4
  have c2 := rU32 g r1 (by omega)
  generalize uK 4 r1 = y at *
  obtain ⟨to, r2⟩ := y
  dsimp only at *
  have s3 := reA_size r2
  have i3 := reA_ri i2
  have c4 := rU8 g (reA r2) (by omega)
  have s4 := uK_size 1 (reA r2)
  have b4 := uK1_b (reA r2)
  have i4 := i3.uK 1
  have c3 := octBytes g r2.1 r2.2 4 (by omega)
  have e3 : reA r2 = if (rdB r2.1 r2.2 4).1 = rembS then (rdB r2.1 r2.2 4).2 else rdF (rdB r2.1 r2.2 4).2.1 (rdB r2.1 r2.2 4).2.2 2 := rfl
  generalize reA r2 = r3 at *
  generalize rdB r2.1 r2.2 4 = y at *
  obtain ⟨tg, rt⟩ := y
  dsimp only at *
  generalize uK 1 r3 = y at *
  obtain ⟨n, r4⟩ := y
  dsimp only at *
  have s5 := uK_size 3 r4
  have b5 := uK3_b r4
  have i5 := i4.uK 3
  have c5 := rNum3 g r4 (by omega)
  generalize uK 3 r4 = y at *
  obtain ⟨x, r5⟩ := y
  dsimp only at *
  have x18 := and64_18 b5
  obtain ⟨N, hN⟩ : ∃ N : Nat, x / 262144 = (N : Int) := ⟨(x / 262144).toNat, by omega⟩
  have hN2 : (x / 262144).toNat = N := by omega
  have hf : x.fdiv (2 ^ (min (18 : Int).toNat IntKind.u64.bits)) = (N : Int) := by
    rw [← hN]; show x.fdiv 262144 = _
    exact Int.fdiv_eq_ediv_of_nonneg _ (by omega)
  rw [hN2]
  have hm : 0 ≤ x % 262144 ∧ x % 262144 ≤ 262143 := by omega
  generalize x % 262144 = m at *
  have s6 := reB_size (shlM N m).2 r5
  have i6 := reB_ri (shlM N m).2 i5
  have hsb := shlM_b N m (by omega)
  have c6 := kAll g (reB (shlM N m).2 r5) i6 (by omega)
  rw [show tilM (uK 4) (reB (shlM N m).2 r5).1.size (reB (shlM N m).2 r5) = tilA (uK 4) (reB (shlM N m).2 r5) from rfl]
  refine fn_intro Try.func53 rfl Try.ntmps53 rfl (fun E => ?_)
  (repeat (first | ((first | (apply wo_v; rfl) ); (· first | (apply pv_ev; rfl) )) | apply wo_nil | apply wc_seq | apply wc_region ))
  (refine wo_call (c1) rfl (by (repeat (first | apply sub_nil )); done) (by first | exact fun _ h => h | (intro r hr; cases hr; done) | (simp; done) | exact fun _ h => List.mem_append_left _ h | (intro r hr; simp [hr]; done)) rfl ?_; rintro v L' R' ⟨rfl, rfl, rfl⟩ H' hH RR hR; simp only [List.cons_append, List.nil_append] at hH hR; subst hH; have hR := hR.symm; subst hR)
  (repeat (first | ((first | (apply wo_v; rfl) ); (· first | (apply pv_ev; rfl) | (apply g_build; apply pv_build; (· (repeat (first | apply Bld.nil | (apply Bld.one; rfl; rfl; (· (repeat (first | apply SetAt.here )))) )))) )) | apply wo_nil | apply wc_seq | apply wc_region | (apply wo_alloc; rfl; intro bx) | (apply wo_sta; rfl; rfl; rfl; rfl; (· (repeat (first | apply sel_here ))); (· (repeat (first | apply LayAt.nil | apply LayAt.here ))); rfl) ))
  obtain ⟨bp, hbp⟩ : ∃ g, g = bx := ⟨_, rfl⟩
  subst hbp
  (refine wo_call (c2) rfl (by (repeat (first | apply sub_nil | (apply sub_cons; (· (repeat (first | apply sel_here | apply sel_there)))))); done) (by first | exact fun _ h => h | (intro r hr; cases hr; done) | (simp; done) | exact fun _ h => List.mem_append_left _ h | (intro r hr; simp [hr]; done)) rfl ?_; rintro v L' R' ⟨rfl, rfl, rfl⟩ H' hH RR hR; simp only [List.cons_append, List.nil_append] at hH hR; subst hH; have hR := hR.symm; subst hR)
  (repeat (first | ((first | (apply wo_v; rfl) ); (· first | (apply pv_ev; rfl) )) | apply wo_nil | apply wc_seq | apply wc_region ))
  (refine wo_call (c3) rfl (by (repeat (first | apply sub_nil )); done) (by first | exact fun _ h => h | (intro r hr; cases hr; done) | (simp; done) | exact fun _ h => List.mem_append_left _ h | (intro r hr; simp [hr]; done)) rfl ?_; rintro v L' R' ⟨rfl, rfl, rfl⟩ H' hH RR hR; simp only [List.cons_append, List.nil_append] at hH hR; subst hH; have hR := hR.symm; subst hR)
  (repeat (first | ((first | (apply wo_v; rfl) ); (· first | (apply pv_ev; rfl) | (apply g_bin; first | (apply pv_neq_s; rfl; rfl) ) )) | apply wo_nil | (apply wc_true; rfl) | (apply wc_false; rfl) | (apply a_dec_t; rfl; (· first | assumption | omega)) | (apply a_dec_f; rfl; (· first | assumption | omega)) | (apply a_dec_t; rfl; (· first | (simp; done) | (simp; omega))) | (apply a_dec_f; rfl; (· first | (simp; done) | (simp; omega))) ))
  refine wc_join0 (fun st => st = ⟨[(0, .pointer (some ⟨g, 0, none⟩)), (3, .pointer (some ⟨bp, 0, none⟩))], [rdO g r3.1 r3.2, rmbI bp f0 0 (.slice none 0 0)], []⟩) ?_ ?_
  · by_cases ht : tg = rembS
    · rw [if_pos ht] at e3
      subst e3
      (repeat (first | apply wc_skip | (apply wc_true; rfl) | (apply wc_false; rfl) | (apply a_dec_t; rfl; (· first | assumption | omega)) | (apply a_dec_f; rfl; (· first | assumption | omega)) | (apply a_dec_t; rfl; (· first | (simp; done) | (simp; omega))) | (apply a_dec_f; rfl; (· first | (simp; done) | (simp; omega))) ))
      exact cut_end rfl (wk_mk (by (repeat (first | apply wkf_nil | (apply wkf_cons; rfl))); done) (by (repeat (first | apply sub_nil )); done) (by first | exact fun _ h => h | (intro r hr; cases hr; done) | (simp; done) | exact fun _ h => List.mem_append_left _ h | (intro r hr; simp [hr]; done)))
    · rw [if_neg ht] at e3
      subst e3
      (repeat (first | ((first | (apply wo_v; rfl) ); (· first | (apply pv_ev; rfl) )) | apply wc_region | (apply wc_true; rfl) | (apply wc_false; rfl) | (apply a_dec_t; rfl; (· first | assumption | omega)) ))
      (refine wo_call (octFail g rt.1 rt.2 2) rfl (by (repeat (first | apply sub_nil )); done) (by first | exact fun _ h => h | (intro r hr; cases hr; done) | (simp; done) | exact fun _ h => List.mem_append_left _ h | (intro r hr; simp [hr]; done)) rfl ?_; rintro v L' R' ⟨rfl, rfl, rfl⟩ H' hH RR hR; simp only [List.cons_append, List.nil_append] at hH hR; subst hH; have hR := hR.symm; subst hR)
      (repeat (first | apply wo_nil ))
      exact cut_end rfl (wk_mk (by (repeat (first | apply wkf_nil | (apply wkf_cons; rfl))); done) (by (repeat (first | apply sub_nil )); done) (by first | exact fun _ h => h | (intro r hr; cases hr; done) | (simp; done) | exact fun _ h => List.mem_append_left _ h | (intro r hr; simp [hr]; done)))
  rintro st rfl
  clear c1 c2 c3 e3
  (repeat (first | ((first | (apply wo_v; rfl) ); (· first | (apply pv_ev; rfl) )) | apply wc_seq | apply wc_region ))
  (refine wo_call (c4) rfl (by (repeat (first | apply sub_nil )); done) (by first | exact fun _ h => h | (intro r hr; cases hr; done) | (simp; done) | exact fun _ h => List.mem_append_left _ h | (intro r hr; simp [hr]; done)) rfl ?_; rintro v L' R' ⟨rfl, rfl, rfl⟩ H' hH RR hR; simp only [List.cons_append, List.nil_append] at hH hR; subst hH; have hR := hR.symm; subst hR)
  (repeat (first | ((first | (apply wo_v; rfl) ); (· first | (apply pv_ev; rfl) | (apply g_conv; first | (apply a_conv; rfl; infer_instance; infer_instance; infer_instance; omega) ) )) | apply wo_nil | apply wc_seq | apply wc_region ))
  (refine wo_call (c5) rfl (by (repeat (first | apply sub_nil )); done) (by first | exact fun _ h => h | (intro r hr; cases hr; done) | (simp; done) | exact fun _ h => List.mem_append_left _ h | (intro r hr; simp [hr]; done)) rfl ?_; rintro v L' R' ⟨rfl, rfl, rfl⟩ H' hH RR hR; simp only [List.cons_append, List.nil_append] at hH hR; subst hH; have hR := hR.symm; subst hR)
  (repeat (first | ((first | (apply wo_v; rfl) ); (· first | (apply pv_ev; rfl) | (apply pv_fld; rfl) | (apply g_bin; first | (apply pv_and; rfl; rfl) | (apply a_shr; rfl; rfl; rfl; omega; rfl) ) )) | apply wo_nil | apply wc_seq | apply wc_region | (apply wo_st; rfl; rfl; rfl; (· (repeat (first | apply sel_here | apply sel_there))); (· (repeat (first | apply SetAt.here | apply SetAt.there))); rfl) ))
  rw [x18, hN]
  refine wc_join0 (fun st => st = ⟨[(0, .pointer (some ⟨g, 0, none⟩)), (3, .pointer (some ⟨bp, 0, none⟩)), (4, .int .i64 n)], [rdO g (reB (shlM N m).2 r5).1 (reB (shlM N m).2 r5).2, rmbI bp f0 (shlM N m).1 (.slice none 0 0)], []⟩) ?_ ?_
  · refine wc_block ?_
    refine wc_loop' (fun q st => ∃ (i : Nat) (u : Int), q = N - i ∧ i ≤ N ∧ (0 ≤ u ∧ u ≤ 18446744073709551615) ∧ shlM (N - i) u = shlM N m ∧ st = ⟨[(0, .pointer (some ⟨g, 0, none⟩)), (3, .pointer (some ⟨bp, 0, none⟩)), (4, .int .i64 n), (25, .int .u64 N), (26, .int .u64 i)], [rdO g r5.1 r5.2, rmbI bp f0 u (.slice none 0 0)], []⟩) ⟨0, m, rfl, Nat.zero_le _, by omega, rfl, rfl⟩ (wk_mk (by (repeat (first | apply wkf_nil | (apply wkf_cons; rfl))); done) (by (repeat (first | apply sub_nil | (apply sub_cons; (· (repeat (first | apply sel_here | apply sel_there)))))); done) (by first | exact fun _ h => h | (intro r hr; cases hr; done) | (simp; done) | exact fun _ h => List.mem_append_left _ h | (intro r hr; simp [hr]; done))) ?_
    rintro q st ⟨i, u, rfl, hi, hu, hsh, rfl⟩
    by_cases h0 : i < N
    · obtain ⟨k, hk⟩ : ∃ k, N - i = k + 1 := ⟨N - i - 1, by omega⟩
      have hk2 : N - (i + 1) = k := by omega
      rw [hk, shlM] at hsh
      by_cases hbig : 9223372036854775808 ≤ u
      · rw [if_pos hbig] at hsh
        rw [← hsh]
        (repeat (first | ((first | (apply wo_v; rfl) ); (· first | (apply pv_ev; rfl) )) | apply wo_nil | apply wc_seq | apply wc_region | apply wc_skip | (apply wc_true; rfl) | (apply wc_false; rfl) | (apply a_dec_t; rfl; (· first | assumption | omega)) ))
        refine wc_block ?_
        (repeat (first | ((first | (apply wo_v; rfl) ); (· first | (apply pv_ev; rfl) | (apply pv_fld; rfl) | (apply g_load; first | (apply pv_ld; rfl; (· (repeat (first | apply sel_here | apply sel_there))); rfl) ) )) | apply wo_nil | apply wc_seq | apply wc_region | (apply wc_true; rfl) | (apply wc_false; rfl) | (apply a_dec_t; rfl; (· first | assumption | omega)) ))
        (refine wo_call (octFail g r5.1 r5.2 4) rfl (by (repeat (first | apply sub_nil )); done) (by first | exact fun _ h => h | (intro r hr; cases hr; done) | (simp; done) | exact fun _ h => List.mem_append_left _ h | (intro r hr; simp [hr]; done)) rfl ?_; rintro v L' R' ⟨rfl, rfl, rfl⟩ H' hH RR hR; simp only [List.cons_append, List.nil_append] at hH hR; subst hH; have hR := hR.symm; subst hR)
        (repeat (first | apply wo_nil | (apply wc_exit; rfl) ))
        exact cut_end rfl (wk_mk (by (repeat (first | apply wkf_nil | (apply wkf_cons; rfl))); done) (by (repeat (first | apply sub_nil )); done) (by first | exact fun _ h => h | (intro r hr; cases hr; done) | (simp; done) | exact fun _ h => List.mem_append_left _ h | (intro r hr; simp [hr]; done)))
      · rw [if_neg hbig, ← hk2] at hsh
        (repeat (first | ((first | (apply wo_v; rfl) ); (· first | (apply pv_ev; rfl) )) | apply wo_nil | apply wc_seq | apply wc_region | apply wc_skip | (apply wc_true; rfl) | (apply wc_false; rfl) | (apply a_dec_t; rfl; (· first | assumption | omega)) ))
        refine wc_block ?_
        (repeat (first | ((first | (apply wo_v; rfl) ); (· first | (apply pv_ev; rfl) | (apply pv_fld; rfl) | (apply g_load; first | (apply pv_ld; rfl; (· (repeat (first | apply sel_here | apply sel_there))); rfl) ) | (apply g_bin; first | (apply a_add; rfl; rfl; infer_instance; omega) | (apply a_shl; rfl; rfl; rfl; omega; rfl; infer_instance; omega) ) )) | apply wo_nil | apply wc_seq | apply wc_region | apply wc_skip | (apply wc_true; rfl) | (apply wc_false; rfl) | (apply a_dec_t; rfl; (· first | assumption | omega)) | (apply a_dec_f; rfl; (· first | assumption | omega)) | (apply wo_st; rfl; rfl; rfl; (· (repeat (first | apply sel_here | apply sel_there))); (· (repeat (first | apply SetAt.here | apply SetAt.there))); rfl) ))
        exact loop_end ⟨i + 1, 2 * u, rfl, by omega, by omega, hsh, by rw [Int.mul_comm]⟩ (by omega) (wk_mk (by (repeat (first | apply wkf_nil | (apply wkf_cons; rfl))); done) (by (repeat (first | apply sub_nil | (apply sub_cons; (· (repeat (first | apply sel_here | apply sel_there)))))); done) (by first | exact fun _ h => h | (intro r hr; cases hr; done) | (simp; done) | exact fun _ h => List.mem_append_left _ h | (intro r hr; simp [hr]; done)))
    · have e : i = N := by omega
      subst e
      rw [Nat.sub_self] at hsh
      have hsh : (u, false) = shlM i m := hsh
      rw [← hsh]
      (repeat (first | ((first | (apply wo_v; rfl) ); (· first | (apply pv_ev; rfl) )) | apply wo_nil | apply wc_seq | apply wc_region | (apply wc_exit; rfl) | (apply wc_true; rfl) | (apply wc_false; rfl) | (apply a_dec_t; rfl; (· first | assumption | omega)) | (apply a_dec_f; rfl; (· first | assumption | omega)) ))
      exact cut_end rfl (wk_mk (by (repeat (first | apply wkf_nil | (apply wkf_cons; rfl))); done) (by (repeat (first | apply sub_nil )); done) (by first | exact fun _ h => h | (intro r hr; cases hr; done) | (simp; done) | exact fun _ h => List.mem_append_left _ h | (intro r hr; simp [hr]; done)))
  rintro st rfl
  generalize shlM N m = y at *
  obtain ⟨rate, big⟩ := y
  dsimp only at *
  have s7 := tilM_size (f := uK 4) uK4_size (reB big r5).1.size (reB big r5)
  rw [show tilM (uK 4) (reB big r5).1.size (reB big r5) = tilA (uK 4) (reB big r5) from rfl] at s7
  generalize tilA (uK 4) (reB big r5) = y at *
  obtain ⟨l, r7⟩ := y
  dsimp only at *
  unfold reC
  (repeat (first | ((first | (apply wo_v; rfl) ); (· first | (apply pv_ev; rfl) )) | apply wc_seq | apply wc_region ))
  (refine wo_call (c6) rfl (by (repeat (first | apply sub_nil )); done) (by first | exact fun _ h => h | (intro r hr; cases hr; done) | (simp; done) | exact fun _ h => List.mem_append_left _ h | (intro r hr; simp [hr]; done)) rfl ?_; rintro v L' R' ⟨ao, c, rfl, rfl, rfl⟩ H' hH RR hR; simp only [List.cons_append, List.nil_append] at hH hR; subst hH; have hR := hR.symm; subst hR)
  (repeat (first | ((first | (apply wo_v; rfl) ); (· first | (apply pv_ev; rfl) | (apply pv_fld; rfl) | (apply g_load; first | (apply pv_ld; rfl; (· (repeat (first | apply sel_here ))); rfl) ) | (apply g_bi; first | (apply pv_len_sl; rfl) ) )) | apply wo_nil | apply wc_seq | apply wc_region | (apply wc_true; rfl) | (apply wc_false; rfl) | (apply a_dec_t; rfl; (· first | assumption | omega)) | (apply a_dec_f; rfl; (· first | assumption | omega)) | (apply a_dec_t; rfl; (· first | (simp; done) | (simp; omega))) | (apply a_dec_f; rfl; (· first | (simp; done) | (simp; omega))) | (apply wo_st; rfl; rfl; rfl; (· (repeat (first | apply sel_here | apply sel_there))); (· (repeat (first | apply SetAt.here | apply SetAt.there))); rfl) ))
  refine wc_still (ao := ao) (n := l.length) (c := c) (by (repeat (first | apply sel_here | apply sel_there)); done) (fun R1 hS1 => ?_)
  by_cases hn : (l.length : Int) = n
  · rw [if_pos hn]
    (repeat (first | ((first | (apply wo_v; rfl) ); (· first | (apply pv_ev; rfl) | (apply g_load; first | (apply pv_lda; rfl; (· (repeat (first | apply sel_here ))); (· (repeat (first | apply Cut.here0 | apply Cut.here )))) ) | (apply pv_mki; rfl; infer_instance) )) | apply wo_nil | apply wc_seq | apply wc_region | apply wc_skip | apply wc_ret | (apply wc_true; rfl) | (apply wc_false; rfl) | (apply a_dec_t; rfl; (· first | assumption | omega)) | (apply a_dec_f; rfl; (· first | assumption | omega)) ))
    exact ret1 rfl rfl ⟨⟨ao, _, c, rfl, hS1.sq⟩, rfl⟩ (by (repeat (first | apply sub_nil | (apply sub_cons; (· (repeat (first | apply sel_here | apply sel_there)))))); done) (by first | exact fun _ h => h | (intro r hr; cases hr; done) | (simp; done) | exact fun _ h => List.mem_append_left _ h | (intro r hr; simp [hr]; done))
  · rw [if_neg hn]
    (repeat (first | ((first | (apply wo_v; rfl) ); (· first | (apply pv_ev; rfl) )) | apply wc_region | (apply wc_true; rfl) | (apply wc_false; rfl) | (apply a_dec_t; rfl; (· first | assumption | omega)) ))
    (refine wo_call (octFail g r7.1 r7.2 2) rfl (by (repeat (first | apply sub_nil | (apply sub_cons; (· (repeat (first | apply sel_here | apply sel_there)))))); done) (by first | exact fun _ h => h | (intro r hr; cases hr; done) | (simp; done) | exact fun _ h => List.mem_append_left _ h | (intro r hr; simp [hr]; done)) rfl ?_; rintro v L' R' ⟨rfl, rfl, rfl⟩ H' hH RR hR; simp only [List.cons_append, List.nil_append] at hH hR; subst hH; have hR := hR.symm; subst hR)
    (repeat (first | ((first | (apply wo_v; rfl) ); (· first | (apply pv_ev; rfl) | (apply g_load; first | (apply pv_lda; rfl; (· (repeat (first | apply sel_here | apply sel_there))); (· (repeat (first | apply Cut.here0 | apply Cut.here )))) ) | (apply pv_mki; rfl; infer_instance) )) | apply wo_nil | apply wc_seq | apply wc_region | apply wc_ret ))
    exact ret1 rfl rfl ⟨⟨ao, _, c, rfl, hS1.sq⟩, rfl⟩ (by (repeat (first | apply sub_nil )); done) (by first | exact fun _ h => h | (intro r hr; cases hr; done) | (simp; done) | exact fun _ h => List.mem_append_left _ h | (intro r hr; simp [hr]; done))
end Go.Proofs.Yteaccbbmphcmnaa

/-
  Package rtcp: Sdes, read.
-/
namespace Go.Proofs.Yteaccbbmphcmnaa
set_option linter.unusedSimpArgs false
set_option linter.unusedVariables false
open Go.RowKit
attribute [local irreducible] Pv WO WC Fn
set_option maxRecDepth 100000
attribute [local irreducible] ByteArray.extract

abbrev itO (ao : Option Addr) (n c : Nat) (l : List (Int × ByteArray)) : It := .own 158 2 ao n c (itmV l)
abbrev itO' (ao : Option Addr) (n c : Nat) (xs : List (List Value)) : It := .own 158 2 ao n c xs
theorem itO_snoc (ao : Option Addr) (n c : Nat) (l : List (Int × ByteArray)) (x : Int × ByteArray) : itO ao n c (l ++ [x]) = itO' ao n c (itmV l ++ itmV [x]) := by rw [itO, itmV_snoc]; rfl
abbrev chI (b : Nat) (ss : Int) (v : Value) : It := .ob b (.cells #[.int .u32 ss, v] 152 (0, 0))
def tblCh5 (g : Nat) (y : Int) (tx : ByteArray) (r2 r3 : Rs) (bp : Nat) (ss k : Int) (ao : Option Addr) (c : Nat) (l : List (Int × ByteArray)) : Nat → List (List It) → Value → List (List It) → Prop := fun i Ls v Ms => match i, Ls with
  | 1, [z] => v = .slice ao l.length c ∧ Ms = [z]
  | 5, _ => v = .int .u8 y ∧ Ms = [[rdO g r2.1 r2.2]]
  | 7, _ => v = .string tx ∧ Ms = [[rdO g r3.1 r3.2]]
  | 9, _ => ∃ b, v = .slice (some ⟨b, 0, none⟩) 1 1 ∧ Ms = [[itO (some ⟨b, 0, none⟩) 1 1 [(k, tx)]]]
  | 10, [_, z] => ∃ ao2 c2, v = .slice ao2 (l.length + 1) c2 ∧ Ms = [[itO' ao2 (l.length + 1) c2 (itmV l ++ itmV [(k, tx)])], z]
  | 12, [[.own T2 sz ao2 n2 c2 xs], _] => v = undef ∧ Ms = [[.own T2 sz ao2 n2 c2 xs], [chI bp ss (.slice ao2 n2 c2)]]
  | _, _ => False
def itmA (r : Rs) : List (Int × ByteArray) × Rs := itmM (r.1.size + 1) r
theorem itmM_more : ∀ (n m : Nat) (r : Rs), Ri r → r.1.size < n → r.1.size < m → itmM n r = itmM m r
  | 0, m, r, hr, h1, h2 => by omega
  | n + 1, 0, r, hr, h1, h2 => by omega
  | n + 1, m + 1, r, hr, h1, h2 => by
    by_cases he : r.2 = 0
    · by_cases hk : (uK 1 r).1 = 0
      · rw [itmM, itmM, if_neg (by simp [he]), if_pos hk, if_neg (by simp [he]), if_pos hk]
      · have := itmS_less hr hk
        rw [itmM_step he hk, itmM_step he hk, itmM_more n m (itmS r) (itmS_ri hr) (by omega) (by omega)]
    · rw [itmM, itmM, if_pos he, if_pos he]
theorem itmA_err {r : Rs} (h : r.2 ≠ 0) : itmA r = ([], r) := by unfold itmA; rw [itmM, if_pos h]
theorem itmA_end {r : Rs} (h : r.2 = 0) (h1 : (uK 1 r).1 = 0) : itmA r = ([], (uK 1 r).2) := by unfold itmA; rw [itmM, if_neg (by simp [h]), if_pos h1]
theorem itmA_go {r : Rs} (hr : Ri r) (h : r.2 = 0) (h1 : (uK 1 r).1 ≠ 0) : itmA r = (((uK 1 r).1, (rdB (uK 1 (uK 1 r).2).2.1 (uK 1 (uK 1 r).2).2.2 (uK 1 (uK 1 r).2).1).1) :: (itmA (itmS r)).1, (itmA (itmS r)).2) := by
  have := itmS_less hr h1
  unfold itmA
  rw [itmM_step h h1, itmM_more r.1.size ((itmS r).1.size + 1) (itmS r) (itmS_ri hr) (by omega) (by omega)]
theorem tCh_eq (r : Rs) : tCh r = (((uK 4 r).1, (itmA (uK 4 r).2).1), chE r.1.size (itmA (uK 4 r).2).2) := rfl
set_option maxHeartbeats 8000000 in
theorem kChunk (g : Nat) (r0 : Rs) (hi : Ri r0) (hs : r0.1.size ≤ 1000000) : Fn Try.prog 76 #[.pointer (some ⟨g, 0, none⟩)] [rdO g r0.1 r0.2] [] (fun v L' R' => ∃ ao c, v = .agg #[.int .u32 (tCh r0).1.1, .slice ao (tCh r0).1.2.length c] ∧ L' = [rdO g (tCh r0).2.1 (tCh r0).2.2, itO ao (tCh r0).1.2.length c (tCh r0).1.2] ∧ R' = []) := by
  rw [tCh_eq]
  dsimp only
  have s1 := uK_size 4 r0
  have i1 := hi.uK 4
  have c1 := rU32 g r0 (by omega)
  generalize uK 4 r0 = y at *
  obtain ⟨ss, r1⟩ := y
  dsimp only at *
  refine fn_intro Try.func76 rfl Try.ntmps76 rfl (fun E => ?_)
  (repeat (first | ((first | (apply wo_v; rfl) ); (· first | (apply pv_ev; rfl) )) | apply wo_nil | apply wc_seq | apply wc_region | (apply wo_alloc; rfl; intro bx) ))
  obtain ⟨bq, hbq⟩ : ∃ g, g = bx := ⟨_, rfl⟩
  subst hbq
  (refine wo_call (octLen g r0.1 r0.2) rfl (by (repeat (first | apply sub_nil | (apply sub_cons; (· (repeat (first | apply sel_here | apply sel_there)))))); done) (by first | exact fun _ h => h | (intro r hr; cases hr; done) | (simp; done) | exact fun _ h => List.mem_append_left _ h | (intro r hr; simp [hr]; done)) rfl ?_; rintro v L' R' ⟨rfl, rfl, rfl⟩ H' hH RR hR; simp only [List.cons_append, List.nil_append] at hH hR; subst hH; have hR := hR.symm; subst hR)
  (repeat (first | ((first | (apply wo_v; rfl) ); (· first | (apply pv_ev; rfl) )) | apply wo_nil | apply wc_seq | apply wc_region ))
  (refine wo_call (c1) rfl (by (repeat (first | apply sub_nil )); done) (by first | exact fun _ h => h | (intro r hr; cases hr; done) | (simp; done) | exact fun _ h => List.mem_append_left _ h | (intro r hr; simp [hr]; done)) rfl ?_; rintro v L' R' ⟨rfl, rfl, rfl⟩ H' hH RR hR; simp only [List.cons_append, List.nil_append] at hH hR; subst hH; have hR := hR.symm; subst hR)
  (repeat (first | ((first | (apply wo_v; rfl) ); (· first | (apply pv_ev; rfl) | (apply g_build; apply pv_build; (· (repeat (first | apply Bld.nil | (apply Bld.one; rfl; rfl; (· (repeat (first | apply SetAt.here )))) )))) )) | apply wo_nil | apply wc_seq | (apply wo_alloc; rfl; intro bx) | (apply wo_sta; rfl; rfl; rfl; rfl; (· (repeat (first | apply sel_here ))); (· (repeat (first | apply LayAt.nil | apply LayAt.here ))); rfl) ))
  obtain ⟨bp, hbp⟩ : ∃ g, g = bx := ⟨_, rfl⟩
  subst hbp
  refine wc_own0 158 2 ?_
  refine wc_join0 (fun st => ∃ ao c, st = ⟨[(0, .pointer (some ⟨g, 0, none⟩)), (2, .pointer (some ⟨bq, 0, none⟩)), (3, .int .i64 r0.1.size), (4, .pointer (some ⟨bp, 0, none⟩))], [rdO g (itmA r1).2.1 (itmA r1).2.2, chI bp ss (.slice ao (itmA r1).1.length c), chI bq 0 (.slice none 0 0), itO ao (itmA r1).1.length c (itmA r1).1], []⟩) ?_ ?_
  · refine wc_block ?_
    refine wc_loop' (fun q st => ∃ (l : List (Int × ByteArray)) (ao : Option Addr) (c : Nat) (r : Rs), q = r.1.size ∧ Ri r ∧ l.length + r.1.size ≤ 1000000 ∧ l ++ (itmA r).1 = (itmA r1).1 ∧ (itmA r).2 = (itmA r1).2 ∧ st = ⟨[(0, .pointer (some ⟨g, 0, none⟩)), (2, .pointer (some ⟨bq, 0, none⟩)), (3, .int .i64 r0.1.size), (4, .pointer (some ⟨bp, 0, none⟩))], [rdO g r.1 r.2, chI bp ss (.slice ao l.length c), chI bq 0 (.slice none 0 0), itO ao l.length c l], []⟩) ⟨[], none, 0, r1, rfl, i1, by simpa using (by omega : r1.1.size ≤ 1000000), rfl, rfl, rfl⟩ (wk_mk (by (repeat (first | apply wkf_nil | (apply wkf_cons; rfl))); done) (by (repeat (first | apply sub_nil | (apply sub_cons; (· (repeat (first | apply sel_here | apply sel_there)))))); done) (by first | exact fun _ h => h | (intro r hr; cases hr; done) | (simp; done) | exact fun _ h => List.mem_append_left _ h | (intro r hr; simp [hr]; done))) ?_
    clear c1
    rintro q st ⟨l, ao, c, r, rfl, hr, hl, h1, h2, rfl⟩
    (repeat (first | ((first | (apply wo_v; rfl) ); (· first | (apply pv_ev; rfl) )) | apply wc_seq | apply wc_region ))
    (refine wo_call (octErr g r.1 r.2) rfl (by (repeat (first | apply sub_nil )); done) (by first | exact fun _ h => h | (intro r hr; cases hr; done) | (simp; done) | exact fun _ h => List.mem_append_left _ h | (intro r hr; simp [hr]; done)) rfl ?_; rintro v L' R' ⟨rfl, rfl, rfl⟩ H' hH RR hR; simp only [List.cons_append, List.nil_append] at hH hR; subst hH; have hR := hR.symm; subst hR)
    by_cases he : r.2 = 0
    · have c2 := rU8 g r (by omega)
      have s2 := uK_size 1 r
      by_cases hk : (uK 1 r).1 = 0
      · rw [itmA_end he hk] at h1 h2
        dsimp only at h1 h2
        rw [List.append_nil] at h1
        subst h1
        rw [← h2]
        generalize uK 1 r = y at *
        obtain ⟨k, r2⟩ := y
        dsimp only at *
        subst hk
        (repeat (first | ((first | (apply wo_v; rfl) ); (· first | (apply pv_ev; rfl) )) | apply wo_nil | apply wc_skip | (apply wc_true; rfl) | (apply wc_false; rfl) | (apply a_dec_t; rfl; (· first | assumption | omega)) ))
        refine wc_block ?_
        (repeat (first | ((first | (apply wo_v; rfl) ); (· first | (apply pv_ev; rfl) )) | apply wc_seq | apply wc_region ))
        (refine wo_call (c2) rfl (by (repeat (first | apply sub_nil )); done) (by first | exact fun _ h => h | (intro r hr; cases hr; done) | (simp; done) | exact fun _ h => List.mem_append_left _ h | (intro r hr; simp [hr]; done)) rfl ?_; rintro v L' R' ⟨rfl, rfl, rfl⟩ H' hH RR hR; simp only [List.cons_append, List.nil_append] at hH hR; subst hH; have hR := hR.symm; subst hR)
        (repeat (first | ((first | (apply wo_v; rfl) ); (· first | (apply pv_ev; rfl) )) | apply wo_nil | apply wc_seq | apply wc_region | (apply wc_exit; rfl) | (apply wc_true; rfl) ))
        exact cut_end ⟨ao, c, rfl⟩ (wk_mk (by (repeat (first | apply wkf_nil | (apply wkf_cons; rfl))); done) (by (repeat (first | apply sub_nil )); done) (by first | exact fun _ h => h | (intro r hr; cases hr; done) | (simp; done) | exact fun _ h => List.mem_append_left _ h | (intro r hr; simp [hr]; done)))
      · have hless := itmS_less hr hk
        have hri := itmS_ri hr
        rw [itmA_go hr he hk] at h1 h2
        dsimp only at h1 h2
        unfold itmS at h1 h2 hless hri
        generalize uK 1 r = y at *
        obtain ⟨k, r2⟩ := y
        dsimp only at *
        have c3 := rU8 g r2 (by omega)
        have b3 := uK1_b r2
        have s3 := uK_size 1 r2
        generalize uK 1 r2 = y at *
        obtain ⟨n, r3⟩ := y
        dsimp only at *
        have c4 := octBytes g r3.1 r3.2 n (by omega)
        generalize rdB r3.1 r3.2 n = y at *
        obtain ⟨tx, r4⟩ := y
        dsimp only at *
        (repeat (first | ((first | (apply wo_v; rfl) ); (· first | (apply pv_ev; rfl) )) | apply wo_nil | apply wc_skip | (apply wc_true; rfl) | (apply wc_false; rfl) | (apply a_dec_t; rfl; (· first | assumption | omega)) ))
        refine wc_block ?_
        (repeat (first | ((first | (apply wo_v; rfl) ); (· first | (apply pv_ev; rfl) )) | apply wc_seq | apply wc_region ))
        (refine wo_call (c2) rfl (by (repeat (first | apply sub_nil )); done) (by first | exact fun _ h => h | (intro r hr; cases hr; done) | (simp; done) | exact fun _ h => List.mem_append_left _ h | (intro r hr; simp [hr]; done)) rfl ?_; rintro v L' R' ⟨rfl, rfl, rfl⟩ H' hH RR hR; simp only [List.cons_append, List.nil_append] at hH hR; subst hH; have hR := hR.symm; subst hR)
        (repeat (first | ((first | (apply wo_v; rfl) ); (· first | (apply pv_ev; rfl) )) | apply wo_nil | apply wc_seq | apply wc_region | apply wc_skip | (apply wc_true; rfl) | (apply wc_false; rfl) | (apply a_dec_t; rfl; (· first | assumption | omega)) | (apply a_dec_f; rfl; (· first | assumption | omega)) ))
        (refine wc_regM [0, 1, 2, 3] (aslL [(1, [3]), (5, [0]), (7, [0]), (9, [1]), (10, [2, 1]), (12, [2, 3])]) (tblCh5 g n tx r3 r4 bp ss k ao c l) ([chI bq 0 (.slice none 0 0)]) (fm [(0, [rdO g r2.1 r2.2]), (1, []), (2, [itO ao l.length c l]), (3, [chI bp ss (.slice ao l.length c)])]) mixed (by kernel_rfl) (by kernel_rfl) (by decide) (aslL_ok (by decide)) (by (repeat (first | (apply prm_cons; (· (repeat (first | apply sel_here | apply sel_there)))) | apply List.Perm.nil )); done) ?_; (repeat (first | (apply HdM.val; rfl; rfl; (· first | apply gok_none ); (· first | (apply pv_ev; rfl) | (apply pv_fld; rfl) )) )))
        (refine hm_eff (cs := [3]) rfl (by decide) rfl rfl (by first | exact gok_none | exact gok_run rfl rfl) (fun a ha => outc_mono (outc_ld (L := [chI bp ss (.slice ao l.length c)]) (pv_ld rfl (by (repeat (first | apply sel_here )); done) rfl) a ha) (fun v M h => ⟨[M], And.intro h.1 (congrArg (fun x => [x]) h.2), rfl, by simp⟩)) (⟨_, _, And.intro rfl rfl, rfl⟩) ?_; rintro v Ms ⟨rfl, rfl⟩ _; simp only [setls, setl, reduceIte, Nat.reduceEqDiff]; (repeat (first | (apply HdM.val; rfl; rfl; (· first | apply gok_none ); (· first | (apply pv_ev; rfl) )) )))
        (refine hm_eff (cs := [0]) rfl (by decide) rfl rfl (by first | exact gok_none | exact gok_run rfl rfl) (fun a ha => outc_mono (outc_call (F1 := _) (T := fun v M => v = .int .u8 n ∧ M = [rdO g r3.1 r3.2]) c3 rfl (by (repeat (first | apply sub_nil )); done) (by first | exact fun _ h => h | (intro r hr; cases hr; done) | (simp; done) | exact fun _ h => List.mem_append_left _ h | (intro r hr; simp [hr]; done)) (by rintro v L' R' ⟨rfl, rfl, _⟩; exact ⟨_, ⟨rfl, rfl⟩, (by (repeat (first | (apply prm_cons; (· (repeat (first | apply sel_here )))) | apply List.Perm.nil )); done)⟩) a ha) (fun v M h => ⟨[M], And.intro h.1 (congrArg (fun x => [x]) h.2), rfl, by simp⟩)) (⟨_, _, And.intro rfl rfl, rfl⟩) ?_; rintro v Ms ⟨rfl, rfl⟩ _; simp only [setls, setl, reduceIte, Nat.reduceEqDiff]; (repeat (first | (apply HdM.val; rfl; rfl; (· first | apply gok_none ); (· first | (apply pv_ev; rfl) | (apply g_conv; first | (apply a_conv; rfl; infer_instance; infer_instance; infer_instance; omega) ) )) )))
        (refine hm_eff (cs := [0]) rfl (by decide) rfl rfl (by first | exact gok_none | exact gok_run rfl rfl) (fun a ha => outc_mono (outc_call (F1 := _) (T := fun v M => v = .string tx ∧ M = [rdO g r4.1 r4.2]) c4 rfl (by (repeat (first | apply sub_nil )); done) (by first | exact fun _ h => h | (intro r hr; cases hr; done) | (simp; done) | exact fun _ h => List.mem_append_left _ h | (intro r hr; simp [hr]; done)) (by rintro v L' R' ⟨rfl, rfl, _⟩; exact ⟨_, ⟨rfl, rfl⟩, (by (repeat (first | (apply prm_cons; (· (repeat (first | apply sel_here )))) | apply List.Perm.nil )); done)⟩) a ha) (fun v M h => ⟨[M], And.intro h.1 (congrArg (fun x => [x]) h.2), rfl, by simp⟩)) (⟨_, _, And.intro rfl rfl, rfl⟩) ?_; rintro v Ms ⟨rfl, rfl⟩ _; simp only [setls, setl, reduceIte, Nat.reduceEqDiff]; (repeat (first | (apply HdM.val; rfl; rfl; (· first | apply gok_none ); (· first | (apply pv_ev; rfl) | (apply g_build; apply pv_build; (· (repeat (first | apply Bld.nil | (apply Bld.one; rfl; rfl; (· (repeat (first | apply SetAt.here | apply SetAt.there)))) )))) )) )))
        (refine hm_eff (cs := [1]) rfl (by decide) rfl rfl (by first | exact gok_none | exact gok_run rfl rfl) (fun a ha => outc_mono (outc_bsl (by (repeat (first | apply Rws'.nil | (apply Rws'.agg; rfl; rfl; rfl))); done) rfl rfl rfl a ha) (fun v M h => Exists.elim h fun b h => ⟨[M], Exists.intro b (And.intro h.1 (congrArg (fun x => [x]) h.2)), rfl, by simp⟩)) (⟨_, _, Exists.intro 0 (And.intro rfl rfl), rfl⟩) ?_; rintro v Ms ⟨b9, rfl, rfl⟩ _; simp only [setls, setl, reduceIte, Nat.reduceEqDiff]; (repeat (first | (apply HdM.val; rfl; rfl; (· first | fail ); (· first | fail )) )))
        (refine hm_eff (cs := [2, 1]) rfl (by decide) rfl rfl (by first | exact gok_none | exact gok_run rfl rfl) (fun a ha => outc_mono (outc_app rfl rfl (by unfold maxLen; omega) (by omega) a ha) (fun v M h => by obtain ⟨b, c, h1, h2⟩ := h; exact ⟨[[_], [_]], ⟨b, c, h1, rfl⟩, rfl, h2⟩)) (⟨_, _, ⟨none, 0, rfl, rfl⟩, rfl⟩) ?_; rintro v Ms ⟨ao2, c2, rfl, rfl⟩ _; simp only [setls, setl, reduceIte, Nat.reduceEqDiff]; (repeat (first | (apply HdM.val; rfl; rfl; (· first | apply gok_none ); (· first | (apply pv_ev; rfl) | (apply pv_fld; rfl) )) )))
        (refine hm_eff (cs := [2, 3]) rfl (by decide) rfl rfl (by first | exact gok_none | exact gok_run rfl rfl) (fun a ha => outc_mono (outc_frA (X := [itO' ao2 (l.length + 1) c2 (itmV l ++ itmV [(k, tx)])]) (L := [chI bp ss (.slice ao l.length c)]) (outc_st rfl rfl rfl (by (repeat (first | apply SetAt.here | apply SetAt.there)); done)) a ha) (fun v M h => by obtain ⟨M0, ⟨h1, h2⟩, h3⟩ := h; exact ⟨[[_], [_]], ⟨h1, rfl⟩, rfl, by rw [h3, h2]; rfl⟩)) (⟨_, _, ⟨rfl, rfl⟩, rfl⟩) ?_; rintro v Ms ⟨rfl, rfl⟩ _; simp only [setls, setl, reduceIte, Nat.reduceEqDiff]; (repeat (first | fail )))
        (refine HdM.nil ?_; intro H hH; simp only [Hp, fm, look, setl, List.flatMap_cons, List.flatMap_nil, reduceIte, Nat.reduceEqDiff, Option.getD_some, List.append_nil, List.cons_append, List.nil_append] at hH; subst hH)
        (repeat (first | fail ))
        exact loop_end ⟨l ++ [(k, tx)], ao2, c2, r4, rfl, hri, by rw [List.length_append, List.length_singleton]; omega, by rw [List.append_assoc]; exact h1, h2, by rw [List.length_append, List.length_singleton, itO_snoc]⟩ (by omega) (wk_mk (by (repeat (first | apply wkf_nil | (apply wkf_cons; rfl))); done) (by (repeat (first | apply sub_nil | (apply sub_cons; (· (repeat (first | apply sel_here | apply sel_there)))))); done) (by first | exact fun _ h => h | (intro r hr; cases hr; done) | (simp; done) | exact fun _ h => List.mem_append_left _ h | (intro r hr; simp [hr]; done)))
    · rw [itmA_err he] at h1 h2
      dsimp only at h1 h2
      rw [List.append_nil] at h1
      subst h1
      rw [← h2]
      (repeat (first | ((first | (apply wo_v; rfl) ); (· first | (apply pv_ev; rfl) )) | apply wo_nil | (apply wc_exit; rfl) | (apply wc_true; rfl) | (apply wc_false; rfl) | (apply a_dec_t; rfl; (· first | assumption | omega)) | (apply a_dec_f; rfl; (· first | assumption | omega)) ))
      exact cut_end ⟨ao, c, rfl⟩ (wk_mk (by (repeat (first | apply wkf_nil | (apply wkf_cons; rfl))); done) (by (repeat (first | apply sub_nil )); done) (by first | exact fun _ h => h | (intro r hr; cases hr; done) | (simp; done) | exact fun _ h => List.mem_append_left _ h | (intro r hr; simp [hr]; done)))
  rintro st ⟨ao, c, rfl⟩
  have s9 : (itmA r1).2.1.size ≤ r1.1.size := itmM_size _ _
  generalize itmA r1 = y at *
  obtain ⟨l, r2⟩ := y
  dsimp only at *
  unfold chE
  have e4 : ((r0.1.size : Int) - r2.1.size).tmod 4 = ((r0.1.size : Int) - r2.1.size) % 4 := Int.tmod_eq_emod_of_nonneg (by omega)
  have e5 : (4 - ((r0.1.size : Int) - r2.1.size) % 4).tmod 4 = (4 - ((r0.1.size : Int) - r2.1.size) % 4) % 4 := Int.tmod_eq_emod_of_nonneg (by omega)
  have c5 := octBytes g r2.1 r2.2 ((4 - ((r0.1.size : Int) - r2.1.size) % 4) % 4) (by omega)
  (repeat (first | ((first | (apply wo_v; rfl) ); (· first | (apply pv_ev; rfl) )) | apply wc_seq | apply wc_region ))
  (refine wo_call (octLen g r2.1 r2.2) rfl (by (repeat (first | apply sub_nil )); done) (by first | exact fun _ h => h | (intro r hr; cases hr; done) | (simp; done) | exact fun _ h => List.mem_append_left _ h | (intro r hr; simp [hr]; done)) rfl ?_; rintro v L' R' ⟨rfl, rfl, rfl⟩ H' hH RR hR; simp only [List.cons_append, List.nil_append] at hH hR; subst hH; have hR := hR.symm; subst hR)
  (repeat (first | ((first | (apply wo_v; rfl) ); (· first | (apply pv_ev; rfl) | (apply g_bin; first | (apply a_sub; rfl; rfl; infer_instance; omega) | (apply pv_rem; rfl; rfl; omega) ) )) ))
  (refine wo_call (c5) rfl (by (repeat (first | apply sub_nil )); done) (by first | exact fun _ h => h | (intro r hr; cases hr; done) | (simp; done) | exact fun _ h => List.mem_append_left _ h | (intro r hr; simp [hr]; done)) rfl ?_; rintro v L' R' ⟨rfl, rfl, rfl⟩ H' hH RR hR; simp only [List.cons_append, List.nil_append] at hH hR; subst hH; have hR := hR.symm; subst hR)
  (repeat (first | ((first | (apply wo_v; rfl) ); (· first | (apply pv_ev; rfl) | (apply g_load; first | (apply pv_lda; rfl; (· (repeat (first | apply sel_here | apply sel_there))); (· (repeat (first | apply Cut.here0 | apply Cut.here )))) ) )) | apply wo_nil | apply wc_seq | apply wc_region | apply wc_ret | (apply wo_sta; rfl; rfl; rfl; rfl; (· (repeat (first | apply sel_here | apply sel_there))); (· (repeat (first | apply LayAt.nil | apply LayAt.here ))); rfl) ))
  exact retv rfl (by (repeat (first | apply RV.nil | (apply RV.agg; rfl; (· (repeat (first | apply sel_here ))); infer_instance; (· (repeat (first | apply Cut.here0 | apply Cut.here )))) )); done) (⟨ao, c, rfl, rfl, rfl⟩) (by (repeat (first | apply sub_nil | (apply sub_cons; (· (repeat (first | apply sel_here | apply sel_there)))))); done) (by first | exact fun _ h => h | (intro r hr; cases hr; done) | (simp; done) | exact fun _ h => List.mem_append_left _ h | (intro r hr; simp [hr]; done))
theorem tCh_size (r : Rs) : (tCh r).2.1.size ≤ r.1.size := by
  rw [tCh_eq]
  exact Nat.le_trans (rdB_size2 _ _ _) (Nat.le_trans (itmM_size _ _) (uK_size 4 r))
theorem tCh_ri (r : Rs) (h : Ri r) : Ri (tCh r).2 := by
  rw [tCh_eq]
  exact (itmM_ri _ _ (h.uK 4)).rdB _
abbrev chO (ao : Option Addr) (n c : Nat) (rows : List (List Value)) : It := .own 152 2 ao n c rows
abbrev sdI (b : Nat) (v : Value) : It := .ob b (.cells #[v] 157 (0, 0))
theorem ChsV.nil (R : List Ro) : ChsV R [] [] := ⟨rfl, fun i c h => by simp at h⟩
theorem ChsV.snoc {R : List Ro} {l : List (Int × List (Int × ByteArray))} {rows : List (List Value)} {x : Int × List (Int × ByteArray)} {row : List Value} (h : ChsV R l rows) (hx : ChV R x row) : ChsV R (l ++ [x]) (rows ++ [row]) := by
  refine ⟨by simp [h.1], fun i q hq => ?_⟩
  by_cases hi : i < l.length
  · rw [List.getElem?_append_left hi] at hq
    obtain ⟨u, h1, h2⟩ := h.2 i q hq
    exact ⟨u, by rw [List.getElem?_append_left (by rw [h.1]; exact hi)]; exact h1, h2⟩
  · rw [List.getElem?_append_right (by omega)] at hq
    have : i - l.length = 0 := by
      rcases Nat.eq_zero_or_pos (i - l.length) with h0 | h0
      · exact h0
      · rw [List.getElem?_eq_none (by simp; omega)] at hq; cases hq
    rw [this] at hq
    simp only [List.getElem?_cons_zero, Option.some.injEq] at hq
    subst hq
    exact ⟨row, by rw [List.getElem?_append_right (by rw [h.1]; omega), h.1, this]; rfl, hx⟩
def tblD5 (g : Nat) (x : Int) (its : List (Int × ByteArray)) (r2 : Rs) (bp : Nat) (ao : Option Addr) (c i : Nat) (rows : List (List Value)) : Nat → List (List It) → Value → List (List It) → Prop := fun k Ls v Ms => match k, Ls with
  | 1, [y] => v = .slice ao i c ∧ Ms = [y]
  | 3, _ => ∃ ai ci, v = .agg #[.int .u32 x, .slice ai its.length ci] ∧ Ms = [[rdO g r2.1 r2.2, itO ai its.length ci its]]
  | 4, [[rd, .own T2 sz ai n2 ci xs], _] => ∃ b, v = .slice (some ⟨b, 0, none⟩) 1 1 ∧ Ms = [[rd, .own T2 sz ai n2 ci xs], [chO (some ⟨b, 0, none⟩) 1 1 [[.int .u32 x, .slice ai n2 ci]]]]
  | 5, [_, [.own T2 sz a2 n2 c2 ys]] => ∃ ao2 c3, v = .slice ao2 (i + 1) c3 ∧ Ms = [[chO ao2 (i + 1) c3 (rows ++ ys)], [.own T2 sz a2 n2 c2 ys]]
  | 7, [[.own T2 sz ao2 n2 c2 xs], _] => v = undef ∧ Ms = [[.own T2 sz ao2 n2 c2 xs], [sdI bp (.slice ao2 n2 c2)]]
  | _, _ => False
set_option maxHeartbeats 8000000 in
theorem kSdes (g : Nat) (r0 : Rs) (hi : Ri r0) (hs : r0.1.size ≤ 1000000) (N : Nat) (hN : N ≤ 255) : Fn Try.prog 49 #[.pointer (some ⟨g, 0, none⟩), .int .u8 N] [rdO g r0.1 r0.2] [] (fun v L' R' => PkV R' (.sdes (repM tCh N r0).1) v ∧ L' = [rdO g (repM tCh N r0).2.1 (repM tCh N r0).2.2]) := by
  refine fn_intro Try.func49 rfl Try.ntmps49 rfl (fun E => ?_)
  (repeat (first | ((first | (apply wo_v; rfl) ); (· first | (apply pv_ev; rfl) )) | apply wo_nil | apply wc_seq | apply wc_region | (apply wo_alloc; rfl; intro bx) ))
  obtain ⟨bp, hbp⟩ : ∃ g, g = bx := ⟨_, rfl⟩
  subst hbp
  refine wc_own0 152 2 ?_
  refine wc_block ?_
  refine wc_loop' (fun q st => ∃ (i : Nat) (l : List (Int × List (Int × ByteArray))) (rows : List (List Value)) (ao : Option Addr) (c : Nat) (r : Rs) (R : List Ro), q = N - i ∧ i ≤ N ∧ r.1.size ≤ 1000000 ∧ Ri r ∧ l.length = i ∧ rows.length = i ∧ ChsV R l rows ∧ l ++ (repM tCh (N - i) r).1 = (repM tCh N r0).1 ∧ (repM tCh (N - i) r).2 = (repM tCh N r0).2 ∧ st = ⟨[(0, .pointer (some ⟨g, 0, none⟩)), (5, .pointer (some ⟨bp, 0, none⟩)), (6, .int .u8 N), (7, .int .u8 i)], [rdO g r.1 r.2, sdI bp (.slice ao i c), chO ao i c rows], R⟩) ⟨0, [], [], none, 0, r0, [], rfl, Nat.zero_le _, hs, hi, rfl, rfl, ChsV.nil _, rfl, rfl, rfl⟩ (wk_mk (by (repeat (first | apply wkf_nil | (apply wkf_cons; rfl))); done) (by (repeat (first | apply sub_nil | (apply sub_cons; (· (repeat (first | apply sel_here | apply sel_there)))))); done) (by first | exact fun _ h => h | (intro r hr; cases hr; done) | (simp; done) | exact fun _ h => List.mem_append_left _ h | (intro r hr; simp [hr]; done))) ?_
  rintro q st ⟨i, l, rows, ao, c, r, R, rfl, hi, hr, hri, hl, hrl, hch, h1, h2, rfl⟩
  by_cases h0 : i < N
  · obtain ⟨m, hm⟩ : ∃ m, N - i = m + 1 := ⟨N - i - 1, by omega⟩
    have hm2 : N - (i + 1) = m := by omega
    have e1 : l ++ ((tCh r).1 :: (repM tCh (N - (i + 1)) (tCh r).2).1) = (repM tCh N r0).1 := by rw [hm2, ← h1, hm]; rfl
    have e2 : (repM tCh (N - (i + 1)) (tCh r).2).2 = (repM tCh N r0).2 := by rw [hm2, ← h2, hm]; rfl
    clear h1 h2
    have s1 := tCh_size r
    have i1 := tCh_ri r hri
    have c1 := kChunk g r hri (by omega)
    generalize tCh r = y at *
    obtain ⟨⟨x, its⟩, r1⟩ := y
    dsimp only at *
    (repeat (first | ((first | (apply wo_v; rfl) ); (· first | (apply pv_ev; rfl) )) | apply wo_nil | apply wc_seq | apply wc_region | apply wc_skip | (apply wc_true; rfl) | (apply wc_false; rfl) | (apply a_dec_t; rfl; (· first | assumption | omega)) ))
    refine wc_block ?_
    (repeat (first | fail ))
    (refine wc_regM [0, 1, 2, 3] (aslL [(1, [3]), (3, [0]), (4, [0, 1]), (5, [2, 1]), (7, [2, 3])]) (tblD5 g x its r1 bp ao c i rows) ([]) (fm [(0, [rdO g r.1 r.2]), (1, []), (2, [chO ao i c rows]), (3, [sdI bp (.slice ao i c)])]) mixed (by kernel_rfl) (by kernel_rfl) (by decide) (aslL_ok (by decide)) (by (repeat (first | (apply prm_cons; (· (repeat (first | apply sel_here | apply sel_there)))) | apply List.Perm.nil )); done) ?_; (repeat (first | (apply HdM.val; rfl; rfl; (· first | apply gok_none ); (· first | (apply pv_ev; rfl) | (apply pv_fld; rfl) )) )))
    (refine hm_eff (cs := [3]) rfl (by decide) rfl rfl (by first | exact gok_none | exact gok_run rfl rfl) (fun a ha => outc_mono (outc_ld (L := [sdI bp (.slice ao i c)]) (pv_ld rfl (by (repeat (first | apply sel_here )); done) rfl) a ha) (fun v M h => ⟨[M], And.intro h.1 (congrArg (fun x => [x]) h.2), rfl, by simp⟩)) (⟨_, _, And.intro rfl rfl, rfl⟩) ?_; rintro v Ms ⟨rfl, rfl⟩ _; simp only [setls, setl, reduceIte, Nat.reduceEqDiff]; (repeat (first | (apply HdM.val; rfl; rfl; (· first | apply gok_none ); (· first | (apply pv_ev; rfl) )) )))
    (refine hm_eff (cs := [0]) rfl (by decide) rfl rfl (by first | exact gok_none | exact gok_run rfl rfl) (fun a ha => outc_mono (outc_call (F1 := _) (T := fun v M => ∃ ai ci, v = .agg #[.int .u32 x, .slice ai its.length ci] ∧ M = [rdO g r1.1 r1.2, itO ai its.length ci its]) c1 rfl (by (repeat (first | apply sub_nil )); done) (by first | exact fun _ h => h | (intro r hr; cases hr; done) | (simp; done) | exact fun _ h => List.mem_append_left _ h | (intro r hr; simp [hr]; done)) (by rintro v L' R' ⟨ai, ci, rfl, rfl, _⟩; exact ⟨_, ⟨ai, ci, rfl, rfl⟩, (by (repeat (first | (apply prm_cons; (· (repeat (first | apply sel_here )))) | apply List.Perm.nil )); done)⟩) a ha) (fun v M h => ⟨[M], by obtain ⟨ai, ci, h1, h2⟩ := h; exact ⟨ai, ci, h1, by rw [h2]⟩, rfl, by simp⟩)) (⟨_, _, ⟨none, 0, rfl, rfl⟩, rfl⟩) ?_; rintro v Ms ⟨ai, ci, rfl, rfl⟩ _; simp only [setls, setl, reduceIte, Nat.reduceEqDiff]; (repeat (first | (apply HdM.val; rfl; rfl; (· first | fail ); (· first | fail )) )))
    (refine hm_eff (cs := [0, 1]) rfl (by decide) rfl rfl (by first | exact gok_none | exact gok_run rfl rfl) (fun a ha => outc_mono (outc_frA (X := [rdO g r1.1 r1.2, itO ai its.length ci its]) (L := []) (outc_bsl (by (repeat (first | apply Rws'.nil | (apply Rws'.one; rfl; rfl; rfl) | (apply Rws'.agg; rfl; rfl; rfl))); done) rfl rfl rfl) a ha) (fun v M h => by obtain ⟨M0, ⟨b, h1, h2⟩, h3⟩ := h; exact ⟨[[_, _], [_]], ⟨b, h1, rfl⟩, rfl, by rw [h3, h2]; rfl⟩)) (⟨_, _, ⟨0, rfl, rfl⟩, rfl⟩) ?_; rintro v Ms ⟨b9, rfl, rfl⟩ _; simp only [setls, setl, reduceIte, Nat.reduceEqDiff]; (repeat (first | (apply HdM.val; rfl; rfl; (· first | fail ); (· first | fail )) )))
    (refine hm_eff (cs := [2, 1]) rfl (by decide) rfl rfl (by first | exact gok_none | exact gok_run rfl rfl) (fun a ha => outc_mono (outc_app rfl rfl (by unfold maxLen; omega) (by omega) a ha) (fun v M h => by obtain ⟨b, c, h1, h2⟩ := h; exact ⟨[[_], [_]], ⟨b, c, h1, rfl⟩, rfl, h2⟩)) (⟨_, _, ⟨none, 0, rfl, rfl⟩, rfl⟩) ?_; rintro v Ms ⟨ao2, c2, rfl, rfl⟩ _; simp only [setls, setl, reduceIte, Nat.reduceEqDiff]; (repeat (first | (apply HdM.val; rfl; rfl; (· first | apply gok_none ); (· first | (apply pv_ev; rfl) | (apply pv_fld; rfl) )) )))
    (refine hm_eff (cs := [2, 3]) rfl (by decide) rfl rfl (by first | exact gok_none | exact gok_run rfl rfl) (fun a ha => outc_mono (outc_frA (X := [chO ao2 (i + 1) c2 (rows ++ [[.int .u32 x, .slice ai its.length ci]])]) (L := [sdI bp (.slice ao i c)]) (outc_st rfl rfl rfl (by (repeat (first | apply SetAt.here )); done)) a ha) (fun v M h => by obtain ⟨M0, ⟨h1, h2⟩, h3⟩ := h; exact ⟨[[_], [_]], ⟨h1, rfl⟩, rfl, by rw [h3, h2]; rfl⟩)) (⟨_, _, ⟨rfl, rfl⟩, rfl⟩) ?_; rintro v Ms ⟨rfl, rfl⟩ _; simp only [setls, setl, reduceIte, Nat.reduceEqDiff]; (repeat (first | fail )))
    (refine HdM.nil ?_; intro H hH; simp only [Hp, fm, look, setl, List.flatMap_cons, List.flatMap_nil, reduceIte, Nat.reduceEqDiff, Option.getD_some, List.append_nil, List.cons_append, List.nil_append] at hH; subst hH)
    refine wc_still (ao := ai) (n := its.length) (c := ci) (by (repeat (first | apply sel_here | apply sel_there)); done) (fun R1 hS1 => ?_)
    (repeat (first | ((first | (apply wo_v; rfl) ); (· first | (apply pv_ev; rfl) | (apply g_bin; first | (apply a_add; rfl; rfl; infer_instance; omega) ) )) | apply wo_nil | apply wc_region ))
    exact loop_end ⟨i + 1, l ++ [(x, its)], _, ao2, c2, r1, R1 ++ R, rfl, by omega, by omega, i1, by rw [List.length_append, List.length_singleton, hl], by rw [List.length_append, List.length_singleton, hrl], (hch.mono (fun r hr => List.mem_append_right _ hr)).snoc ⟨ai, _, ci, rfl, hS1.sq⟩, by rw [List.append_assoc]; exact e1, e2, rfl⟩ (by omega) (wk_mk (by (repeat (first | apply wkf_nil | (apply wkf_cons; rfl))); done) (by (repeat (first | apply sub_nil | (apply sub_cons; (· (repeat (first | apply sel_here | apply sel_there)))))); done) (by first | exact fun _ h => h | (intro r hr; cases hr; done) | (simp; done) | exact fun _ h => List.mem_append_left _ h | (intro r hr; simp [hr]; done)))
  · have e : i = N := by omega
    subst e
    rw [Nat.sub_self] at h1 h2
    have h1 : l ++ [] = (repM tCh i r0).1 := h1
    have h2 : r = (repM tCh i r0).2 := h2
    rw [List.append_nil] at h1
    subst h1
    subst h2
    refine wc_still (ao := ao) (n := i) (c := c) (by (repeat (first | apply sel_here | apply sel_there)); done) (fun R1 hS1 => ?_)
    (repeat (first | ((first | (apply wo_v; rfl) ); (· first | (apply pv_ev; rfl) | (apply g_load; first | (apply pv_lda; rfl; (· (repeat (first | apply sel_here | apply sel_there))); (· (repeat (first | apply Cut.here0 | apply Cut.here )))) ) | (apply pv_mki; rfl; infer_instance) )) | apply wo_nil | apply wc_seq | apply wc_region | (apply wc_exit; rfl) | apply wc_ret | (apply wc_true; rfl) | (apply wc_false; rfl) | (apply a_dec_t; rfl; (· first | assumption | omega)) | (apply a_dec_f; rfl; (· first | assumption | omega)) ))
    exact ret1 rfl rfl ⟨⟨ao, _, c, rows, rfl, hS1.sq, hch.mono (fun r hr => List.mem_append_right _ hr)⟩, rfl⟩ (by (repeat (first | apply sub_nil )); done) (by first | exact fun _ h => h | (intro r hr; cases hr; done) | (simp; done) | exact fun _ h => List.mem_append_left _ h | (intro r hr; simp [hr]; done))
end Go.Proofs.Yteaccbbmphcmnaa

/-
  Package rtcp: take, body.
-/
namespace Go.Proofs.Yteaccbbmphcmnaa
set_option linter.unusedSimpArgs false
set_option linter.unusedVariables false
open Go.RowKit
attribute [local irreducible] Pv WO WC Fn
set_option maxRecDepth 100000
attribute [local irreducible] ByteArray.extract

abbrev TakeC (g : Nat) (r : Rs) (kd ct : Int) (q : Pkt × Rs) : Prop := Fn Try.prog 26 #[.pointer (some ⟨g, 0, none⟩), .int .u8 kd, .int .u8 ct] [rdO g r.1 r.2] [] (fun v L' R' => PkV R' q.1 v ∧ L' = [rdO g q.2.1 q.2.2])
set_option maxHeartbeats 4000000 in
theorem kT200 (g : Nat) (r0 : Rs) (hs : r0.1.size ≤ 1000000) (N : Nat) (hN : N ≤ 255) : TakeC g r0 200 N (tSn N r0) := by
  unfold tSn
  dsimp only
  have s1 := uK_size 4 r0
  have c1 := rU32 g r0 (by omega)
  generalize uK 4 r0 = y at *
  obtain ⟨v1, r1⟩ := y
  dsimp only at *
  have s2 := uK_size 8 r1
  have c2 := rNum8 g r1 (by omega)
  generalize uK 8 r1 = y at *
  obtain ⟨v2, r2⟩ := y
  dsimp only at *
  have s3 := uK_size 4 r2
  have c3 := rU32 g r2 (by omega)
  generalize uK 4 r2 = y at *
  obtain ⟨v3, r3⟩ := y
  dsimp only at *
  have s4 := uK_size 4 r3
  have c4 := rU32 g r3 (by omega)
  generalize uK 4 r3 = y at *
  obtain ⟨v4, r4⟩ := y
  dsimp only at *
  have s5 := uK_size 4 r4
  have c5 := rU32 g r4 (by omega)
  generalize uK 4 r4 = y at *
  obtain ⟨v5, r5⟩ := y
  dsimp only at *
  have c6 := kBlocks g r5 (by omega) N hN
  have hl := repM_len (f := tBk) N r5
  rw [show ((N : Int)).toNat = N from rfl]
  generalize repM tBk N r5 = y at *
  obtain ⟨l, r6⟩ := y
  dsimp only at *
  refine fn_intro Try.func26 rfl Try.ntmps26 rfl (fun E => ?_)
  (repeat (first | ((first | (apply wo_v; rfl) ); (· first | (apply pv_ev; rfl) )) | apply wo_nil | apply wc_seq | apply wc_region | apply wc_block | (apply wc_true; rfl) ))
  (refine wo_call (c1) rfl (by (repeat (first | apply sub_nil )); done) (by first | exact fun _ h => h | (intro r hr; cases hr; done) | (simp; done) | exact fun _ h => List.mem_append_left _ h | (intro r hr; simp [hr]; done)) rfl ?_; rintro v L' R' ⟨rfl, rfl, rfl⟩ H' hH RR hR; simp only [List.cons_append, List.nil_append] at hH hR; subst hH; have hR := hR.symm; subst hR)
  (repeat (first | ((first | (apply wo_v; rfl) ); (· first | (apply pv_ev; rfl) )) ))
  (refine wo_call (c2) rfl (by (repeat (first | apply sub_nil )); done) (by first | exact fun _ h => h | (intro r hr; cases hr; done) | (simp; done) | exact fun _ h => List.mem_append_left _ h | (intro r hr; simp [hr]; done)) rfl ?_; rintro v L' R' ⟨rfl, rfl, rfl⟩ H' hH RR hR; simp only [List.cons_append, List.nil_append] at hH hR; subst hH; have hR := hR.symm; subst hR)
  (repeat (first | ((first | (apply wo_v; rfl) ); (· first | (apply pv_ev; rfl) )) ))
  (refine wo_call (c3) rfl (by (repeat (first | apply sub_nil )); done) (by first | exact fun _ h => h | (intro r hr; cases hr; done) | (simp; done) | exact fun _ h => List.mem_append_left _ h | (intro r hr; simp [hr]; done)) rfl ?_; rintro v L' R' ⟨rfl, rfl, rfl⟩ H' hH RR hR; simp only [List.cons_append, List.nil_append] at hH hR; subst hH; have hR := hR.symm; subst hR)
  (repeat (first | ((first | (apply wo_v; rfl) ); (· first | (apply pv_ev; rfl) )) ))
  (refine wo_call (c4) rfl (by (repeat (first | apply sub_nil )); done) (by first | exact fun _ h => h | (intro r hr; cases hr; done) | (simp; done) | exact fun _ h => List.mem_append_left _ h | (intro r hr; simp [hr]; done)) rfl ?_; rintro v L' R' ⟨rfl, rfl, rfl⟩ H' hH RR hR; simp only [List.cons_append, List.nil_append] at hH hR; subst hH; have hR := hR.symm; subst hR)
  (repeat (first | ((first | (apply wo_v; rfl) ); (· first | (apply pv_ev; rfl) )) ))
  (refine wo_call (c5) rfl (by (repeat (first | apply sub_nil )); done) (by first | exact fun _ h => h | (intro r hr; cases hr; done) | (simp; done) | exact fun _ h => List.mem_append_left _ h | (intro r hr; simp [hr]; done)) rfl ?_; rintro v L' R' ⟨rfl, rfl, rfl⟩ H' hH RR hR; simp only [List.cons_append, List.nil_append] at hH hR; subst hH; have hR := hR.symm; subst hR)
  (repeat (first | ((first | (apply wo_v; rfl) ); (· first | (apply pv_ev; rfl) )) ))
  (refine wo_call (c6) rfl (by (repeat (first | apply sub_nil )); done) (by first | exact fun _ h => h | (intro r hr; cases hr; done) | (simp; done) | exact fun _ h => List.mem_append_left _ h | (intro r hr; simp [hr]; done)) rfl ?_; rintro v L' R' ⟨ao, c, rfl, rfl, rfl⟩ H' hH RR hR; simp only [List.cons_append, List.nil_append] at hH hR; subst hH; have hR := hR.symm; subst hR)
  refine wo_still (ao := ao) (n := N) (c := c) (by (repeat (first | apply sel_here | apply sel_there)); done) (fun R1 hS1 => ?_)
  (repeat (first | ((first | (apply wo_v; rfl) ); (· first | (apply pv_ev; rfl) | (apply g_build; apply pv_build; (· (repeat (first | apply Bld.nil | (apply Bld.one; rfl; rfl; (· (repeat (first | apply SetAt.here | apply SetAt.there)))) )))) | (apply pv_mki; rfl; infer_instance) )) | apply wo_nil | apply wc_ret ))
  exact ret1 rfl rfl ⟨⟨ao, _, c, rfl, hS1.sq⟩, rfl⟩ (by (repeat (first | apply sub_nil )); done) (by first | exact fun _ h => h | (intro r hr; cases hr; done) | (simp; done) | exact fun _ h => List.mem_append_left _ h | (intro r hr; simp [hr]; done))
theorem kT201 (g : Nat) (r0 : Rs) (hs : r0.1.size ≤ 1000000) (N : Nat) (hN : N ≤ 255) : TakeC g r0 201 N (tRv N r0) := by
  unfold tRv
  dsimp only
  have s1 := uK_size 4 r0
  have c1 := rU32 g r0 (by omega)
  generalize uK 4 r0 = y at *
  obtain ⟨v1, r1⟩ := y
  dsimp only at *
  have c6 := kBlocks g r1 (by omega) N hN
  have hl := repM_len (f := tBk) N r1
  rw [show ((N : Int)).toNat = N from rfl]
  generalize repM tBk N r1 = y at *
  obtain ⟨l, r6⟩ := y
  dsimp only at *
  refine fn_intro Try.func26 rfl Try.ntmps26 rfl (fun E => ?_)
  (repeat (first | ((first | (apply wo_v; rfl) ); (· first | (apply pv_ev; rfl) )) | apply wo_nil | apply wc_seq | apply wc_region | apply wc_block | (apply wc_true; rfl) | (apply wc_false; rfl) ))
  (refine wo_call (c1) rfl (by (repeat (first | apply sub_nil )); done) (by first | exact fun _ h => h | (intro r hr; cases hr; done) | (simp; done) | exact fun _ h => List.mem_append_left _ h | (intro r hr; simp [hr]; done)) rfl ?_; rintro v L' R' ⟨rfl, rfl, rfl⟩ H' hH RR hR; simp only [List.cons_append, List.nil_append] at hH hR; subst hH; have hR := hR.symm; subst hR)
  (repeat (first | ((first | (apply wo_v; rfl) ); (· first | (apply pv_ev; rfl) )) ))
  (refine wo_call (c6) rfl (by (repeat (first | apply sub_nil )); done) (by first | exact fun _ h => h | (intro r hr; cases hr; done) | (simp; done) | exact fun _ h => List.mem_append_left _ h | (intro r hr; simp [hr]; done)) rfl ?_; rintro v L' R' ⟨ao, c, rfl, rfl, rfl⟩ H' hH RR hR; simp only [List.cons_append, List.nil_append] at hH hR; subst hH; have hR := hR.symm; subst hR)
  refine wo_still (ao := ao) (n := N) (c := c) (by (repeat (first | apply sel_here | apply sel_there)); done) (fun R1 hS1 => ?_)
  (repeat (first | ((first | (apply wo_v; rfl) ); (· first | (apply pv_ev; rfl) | (apply g_build; apply pv_build; (· (repeat (first | apply Bld.nil | (apply Bld.one; rfl; rfl; (· (repeat (first | apply SetAt.here | apply SetAt.there)))) )))) | (apply pv_mki; rfl; infer_instance) )) | apply wo_nil | apply wc_ret ))
  exact ret1 rfl rfl ⟨⟨ao, _, c, rfl, hS1.sq⟩, rfl⟩ (by (repeat (first | apply sub_nil )); done) (by first | exact fun _ h => h | (intro r hr; cases hr; done) | (simp; done) | exact fun _ h => List.mem_append_left _ h | (intro r hr; simp [hr]; done))
theorem kT202 (g : Nat) (r0 : Rs) (hi : Ri r0) (hs : r0.1.size ≤ 1000000) (N : Nat) (hN : N ≤ 255) : TakeC g r0 202 N (.sdes (repM tCh N r0).1, (repM tCh N r0).2) := by
  have c1 := kSdes g r0 hi hs N hN
  generalize repM tCh N r0 = y at *
  obtain ⟨l, r6⟩ := y
  dsimp only at *
  refine fn_intro Try.func26 rfl Try.ntmps26 rfl (fun E => ?_)
  (repeat (first | ((first | (apply wo_v; rfl) ); (· first | (apply pv_ev; rfl) )) | apply wo_nil | apply wc_seq | apply wc_region | apply wc_block | (apply wc_true; rfl) | (apply wc_false; rfl) ))
  (refine wo_call (c1) rfl (by (repeat (first | apply sub_nil )); done) (by first | exact fun _ h => h | (intro r hr; cases hr; done) | (simp; done) | exact fun _ h => List.mem_append_left _ h | (intro r hr; simp [hr]; done)) rfl ?_; rintro v L' R' ⟨hp, rfl⟩ H' hH RR hR; simp only [List.cons_append, List.nil_append] at hH hR; subst hH; have hR := hR.symm; subst hR)
  (repeat (first | ((first | (apply wo_v; rfl) ); (· first | (apply pv_ev; rfl) )) | apply wo_nil | apply wc_ret ))
  exact ret1 rfl rfl ⟨hp, rfl⟩ (by (repeat (first | apply sub_nil )); done) (by first | exact fun _ h => h | (intro r hr; cases hr; done) | (simp; done) | exact fun _ h => List.mem_append_left _ h | (intro r hr; simp [hr]; done))
theorem kT203 (g : Nat) (r0 : Rs) (hs : r0.1.size ≤ 1000000) (N : Nat) (hN : N ≤ 255) : TakeC g r0 203 N (byE (repM (uK 4) N r0)) := by
  have c1 := kBye g r0 hs N hN
  generalize byE (repM (uK 4) N r0) = y at *
  obtain ⟨p, r6⟩ := y
  dsimp only at *
  refine fn_intro Try.func26 rfl Try.ntmps26 rfl (fun E => ?_)
  (repeat (first | ((first | (apply wo_v; rfl) ); (· first | (apply pv_ev; rfl) )) | apply wo_nil | apply wc_seq | apply wc_region | apply wc_block | (apply wc_true; rfl) | (apply wc_false; rfl) ))
  (refine wo_call (c1) rfl (by (repeat (first | apply sub_nil )); done) (by first | exact fun _ h => h | (intro r hr; cases hr; done) | (simp; done) | exact fun _ h => List.mem_append_left _ h | (intro r hr; simp [hr]; done)) rfl ?_; rintro v L' R' ⟨hp, rfl⟩ H' hH RR hR; simp only [List.cons_append, List.nil_append] at hH hR; subst hH; have hR := hR.symm; subst hR)
  (repeat (first | ((first | (apply wo_v; rfl) ); (· first | (apply pv_ev; rfl) )) | apply wo_nil | apply wc_ret ))
  exact ret1 rfl rfl ⟨hp, rfl⟩ (by (repeat (first | apply sub_nil )); done) (by first | exact fun _ h => h | (intro r hr; cases hr; done) | (simp; done) | exact fun _ h => List.mem_append_left _ h | (intro r hr; simp [hr]; done))
theorem kT205 (g : Nat) (r0 : Rs) (hi : Ri r0) (hs : r0.1.size ≤ 1000000) : TakeC g r0 205 1 (tNk r0) := by
  have c1 := kNack g r0 hi hs
  generalize tNk r0 = y at *
  obtain ⟨p, r6⟩ := y
  dsimp only at *
  refine fn_intro Try.func26 rfl Try.ntmps26 rfl (fun E => ?_)
  (repeat (first | ((first | (apply wo_v; rfl) ); (· first | (apply pv_ev; rfl) | (apply g_pick; first | (apply pv_pick_t; rfl; rfl) ) )) | apply wo_nil | apply wc_seq | apply wc_region | apply wc_block | (apply wc_true; rfl) | (apply wc_false; rfl) | (apply wo_run; rfl; rfl) ))
  (refine wo_call (c1) rfl (by (repeat (first | apply sub_nil )); done) (by first | exact fun _ h => h | (intro r hr; cases hr; done) | (simp; done) | exact fun _ h => List.mem_append_left _ h | (intro r hr; simp [hr]; done)) rfl ?_; rintro v L' R' ⟨hp, rfl⟩ H' hH RR hR; simp only [List.cons_append, List.nil_append] at hH hR; subst hH; have hR := hR.symm; subst hR)
  (repeat (first | ((first | (apply wo_v; rfl) ); (· first | (apply pv_ev; rfl) )) | apply wo_nil | apply wc_ret ))
  exact ret1 rfl rfl ⟨hp, rfl⟩ (by (repeat (first | apply sub_nil )); done) (by first | exact fun _ h => h | (intro r hr; cases hr; done) | (simp; done) | exact fun _ h => List.mem_append_left _ h | (intro r hr; simp [hr]; done))
theorem kT206a (g : Nat) (r0 : Rs) (hs : r0.1.size ≤ 1000000) : TakeC g r0 206 1 (.pli (uK 4 r0).1 (uK 4 (uK 4 r0).2).1, (uK 4 (uK 4 r0).2).2) := by
  have s1 := uK_size 4 r0
  have c1 := rU32 g r0 (by omega)
  generalize uK 4 r0 = y at *
  obtain ⟨v1, r1⟩ := y
  dsimp only at *
  have c2 := rU32 g r1 (by omega)
  generalize uK 4 r1 = y at *
  obtain ⟨v2, r2⟩ := y
  dsimp only at *
  refine fn_intro Try.func26 rfl Try.ntmps26 rfl (fun E => ?_)
  (repeat (first | ((first | (apply wo_v; rfl) ); (· first | (apply pv_ev; rfl) | (apply g_pick; first | (apply pv_pick_t; rfl; rfl) | (apply pv_pick_f; rfl; rfl)) )) | apply wo_nil | apply wc_seq | apply wc_region | apply wc_block | (apply wc_true; rfl) | (apply wc_false; rfl) | (apply wo_run; rfl; rfl) | (apply wo_skip; rfl; rfl; rfl; rfl) ))
  (refine wo_call (c1) rfl (by (repeat (first | apply sub_nil )); done) (by first | exact fun _ h => h | (intro r hr; cases hr; done) | (simp; done) | exact fun _ h => List.mem_append_left _ h | (intro r hr; simp [hr]; done)) rfl ?_; rintro v L' R' ⟨rfl, rfl, rfl⟩ H' hH RR hR; simp only [List.cons_append, List.nil_append] at hH hR; subst hH; have hR := hR.symm; subst hR)
  (repeat (first | ((first | (apply wo_v; rfl) ); (· first | (apply pv_ev; rfl) )) ))
  (refine wo_call (c2) rfl (by (repeat (first | apply sub_nil )); done) (by first | exact fun _ h => h | (intro r hr; cases hr; done) | (simp; done) | exact fun _ h => List.mem_append_left _ h | (intro r hr; simp [hr]; done)) rfl ?_; rintro v L' R' ⟨rfl, rfl, rfl⟩ H' hH RR hR; simp only [List.cons_append, List.nil_append] at hH hR; subst hH; have hR := hR.symm; subst hR)
  (repeat (first | ((first | (apply wo_v; rfl) ); (· first | (apply pv_ev; rfl) | (apply g_build; apply pv_build; (· (repeat (first | apply Bld.nil | (apply Bld.one; rfl; rfl; (· (repeat (first | apply SetAt.here | apply SetAt.there)))) )))) | (apply pv_mki; rfl; infer_instance) )) | apply wo_nil | apply wc_ret ))
  exact ret1 rfl rfl ⟨rfl, rfl⟩ (by (repeat (first | apply sub_nil )); done) (by first | exact fun _ h => h | (intro r hr; cases hr; done) | (simp; done) | exact fun _ h => List.mem_append_left _ h | (intro r hr; simp [hr]; done))
theorem kT206b (g : Nat) (r0 : Rs) (hi : Ri r0) (hs : r0.1.size ≤ 1000000) : TakeC g r0 206 4 (tFi r0) := by
  have c1 := kFir g r0 hi hs
  generalize tFi r0 = y at *
  obtain ⟨p, r6⟩ := y
  dsimp only at *
  refine fn_intro Try.func26 rfl Try.ntmps26 rfl (fun E => ?_)
  (repeat (first | ((first | (apply wo_v; rfl) ); (· first | (apply pv_ev; rfl) | (apply g_pick; first | (apply pv_pick_t; rfl; rfl) | (apply pv_pick_f; rfl; rfl)) )) | apply wo_nil | apply wc_seq | apply wc_region | apply wc_block | (apply wc_true; rfl) | (apply wc_false; rfl) | (apply wo_run; rfl; rfl) | (apply wo_skip; rfl; rfl; rfl; rfl) ))
  (refine wo_call (c1) rfl (by (repeat (first | apply sub_nil )); done) (by first | exact fun _ h => h | (intro r hr; cases hr; done) | (simp; done) | exact fun _ h => List.mem_append_left _ h | (intro r hr; simp [hr]; done)) rfl ?_; rintro v L' R' ⟨hp, rfl⟩ H' hH RR hR; simp only [List.cons_append, List.nil_append] at hH hR; subst hH; have hR := hR.symm; subst hR)
  (repeat (first | ((first | (apply wo_v; rfl) ); (· first | (apply pv_ev; rfl) )) | apply wo_nil | apply wc_ret ))
  exact ret1 rfl rfl ⟨hp, rfl⟩ (by (repeat (first | apply sub_nil )); done) (by first | exact fun _ h => h | (intro r hr; cases hr; done) | (simp; done) | exact fun _ h => List.mem_append_left _ h | (intro r hr; simp [hr]; done))
theorem kT206c (g : Nat) (r0 : Rs) (hi : Ri r0) (hs : r0.1.size ≤ 1000000) : TakeC g r0 206 15 (tRe r0) := by
  have c1 := kRemb g r0 hi hs
  generalize tRe r0 = y at *
  obtain ⟨p, r6⟩ := y
  dsimp only at *
  refine fn_intro Try.func26 rfl Try.ntmps26 rfl (fun E => ?_)
  (repeat (first | ((first | (apply wo_v; rfl) ); (· first | (apply pv_ev; rfl) | (apply g_pick; first | (apply pv_pick_t; rfl; rfl) | (apply pv_pick_f; rfl; rfl)) )) | apply wo_nil | apply wc_seq | apply wc_region | apply wc_block | (apply wc_true; rfl) | (apply wc_false; rfl) | (apply wo_run; rfl; rfl) | (apply wo_skip; rfl; rfl; rfl; rfl) ))
  (refine wo_call (c1) rfl (by (repeat (first | apply sub_nil )); done) (by first | exact fun _ h => h | (intro r hr; cases hr; done) | (simp; done) | exact fun _ h => List.mem_append_left _ h | (intro r hr; simp [hr]; done)) rfl ?_; rintro v L' R' ⟨hp, rfl⟩ H' hH RR hR; simp only [List.cons_append, List.nil_append] at hH hR; subst hH; have hR := hR.symm; subst hR)
  (repeat (first | ((first | (apply wo_v; rfl) ); (· first | (apply pv_ev; rfl) )) | apply wo_nil | apply wc_ret ))
  exact ret1 rfl rfl ⟨hp, rfl⟩ (by (repeat (first | apply sub_nil )); done) (by first | exact fun _ h => h | (intro r hr; cases hr; done) | (simp; done) | exact fun _ h => List.mem_append_left _ h | (intro r hr; simp [hr]; done))
set_option maxHeartbeats 4000000 in
theorem kTX (g : Nat) (r0 : Rs) (hs : r0.1.size ≤ 1000000) (kd ct : Int) (h0 : kd ≠ 200) (h1 : kd ≠ 201) (h2 : kd ≠ 202) (h3 : kd ≠ 203) (h5 : ¬ (kd = 205 ∧ ct = 1)) (h6 : ¬ (kd = 206 ∧ (ct = 1 ∨ ct = 4 ∨ ct = 15))) : TakeC g r0 kd ct (.other kd ct (rdB r0.1 r0.2 r0.1.size).1, (rdB r0.1 r0.2 r0.1.size).2) := by
  have c1 := octRest g r0.1 r0.2 (by omega)
  generalize rdB r0.1 r0.2 r0.1.size = y at *
  obtain ⟨p, r6⟩ := y
  dsimp only at *
  have hc : (kd = 205 ∧ ct ≠ 1) ∨ (kd = 206 ∧ ct ≠ 1 ∧ ct ≠ 4 ∧ ct ≠ 15) ∨ (kd ≠ 205 ∧ kd ≠ 206) := by omega
  clear h5 h6
  rcases hc with ⟨h5, h6⟩ | ⟨h5, h6, h7, h8⟩ | ⟨h5, h6⟩
  all_goals
    refine fn_intro Try.func26 rfl Try.ntmps26 rfl (fun E => ?_)
    (repeat (first | ((first | (apply wo_v; rfl) ); (· first | (apply pv_ev; rfl) | (apply g_pick; first | (apply pv_pick_t; rfl; rfl) | (apply pv_pick_f; rfl; rfl)) )) | apply wo_nil | apply wc_seq | apply wc_region | apply wc_block | apply wc_skip | (apply wc_true; rfl) | (apply wc_false; rfl) | (apply a_dec_t; rfl; (· first | assumption | omega)) | (apply a_dec_f; rfl; (· first | assumption | omega)) | (apply wo_run; rfl; rfl) | (apply wo_skip; rfl; rfl; rfl; rfl) | (apply wo_skip_u; rfl; rfl; rfl) | (apply a_gt; rfl; rfl; (· first | assumption | omega)) | (apply a_gf; rfl; rfl; (· first | assumption | omega)) ))
    (refine wo_call (c1) rfl (by (repeat (first | apply sub_nil )); done) (by first | exact fun _ h => h | (intro r hr; cases hr; done) | (simp; done) | exact fun _ h => List.mem_append_left _ h | (intro r hr; simp [hr]; done)) rfl ?_; rintro v L' R' ⟨rfl, rfl, rfl⟩ H' hH RR hR; simp only [List.cons_append, List.nil_append] at hH hR; subst hH; have hR := hR.symm; subst hR)
    (repeat (first | ((first | (apply wo_v; rfl) ); (· first | (apply pv_ev; rfl) | (apply g_build; apply pv_build; (· (repeat (first | apply Bld.nil | (apply Bld.one; rfl; rfl; (· (repeat (first | apply SetAt.here | apply SetAt.there)))) )))) | (apply pv_mki; rfl; infer_instance) )) | apply wo_nil | apply wc_ret ))
    exact ret1 rfl rfl ⟨rfl, rfl⟩ (by (repeat (first | apply sub_nil )); done) (by first | exact fun _ h => h | (intro r hr; cases hr; done) | (simp; done) | exact fun _ h => List.mem_append_left _ h | (intro r hr; simp [hr]; done))
theorem kTake (g : Nat) (r0 : Rs) (hi : Ri r0) (hs : r0.1.size ≤ 1000000) (kd ct : Int) (hct : 0 ≤ ct ∧ ct ≤ 31) : TakeC g r0 kd ct (tkM r0 kd ct) := by
  unfold tkM
  obtain ⟨N, rfl⟩ := Int.eq_ofNat_of_zero_le hct.1
  rw [show ((N : Int)).toNat = N from rfl]
  split
  · rename_i h; subst h; exact kT200 g r0 hs N (by omega)
  split
  · rename_i h; subst h; exact kT201 g r0 hs N (by omega)
  split
  · rename_i h; subst h; exact kT202 g r0 hi hs N (by omega)
  split
  · rename_i h; subst h; exact kT203 g r0 hs N (by omega)
  split
  · rename_i h; rw [h.1, h.2]; exact kT205 g r0 hi hs
  split
  · rename_i h; rw [h.1, h.2]; exact kT206a g r0 hs
  split
  · rename_i h; rw [h.1, h.2]; exact kT206b g r0 hi hs
  split
  · rename_i h; rw [h.1, h.2]; exact kT206c g r0 hi hs
  · rename_i a1 a2 a3 a4 a5 a6 a7 a8
    exact kTX g r0 hs kd N a1 a2 a3 a4 a5 (by omega)
end Go.Proofs.Yteaccbbmphcmnaa

/-
  Package rtcp: body, Parse.
-/
namespace Go.Proofs.Yteaccbbmphcmnaa
set_option linter.unusedSimpArgs false
set_option linter.unusedVariables false
open Go.RowKit
attribute [local irreducible] Pv WO WC Fn
set_option maxRecDepth 100000
attribute [local irreducible] ByteArray.extract

theorem rdE_z {r : Rs} (h : Ri r) : r.2 ≠ 0 → r.1 = E0 := h
set_option maxHeartbeats 4000000 in
theorem kBody (g : Nat) (r0 : Rs) (hs : r0.1.size ≤ 1000000) (pa : Bool) : Fn Try.prog 25 #[.pointer (some ⟨g, 0, none⟩), .bool pa] [rdO g r0.1 r0.2] [] (fun v L' R' => v = .string (bdM r0 pa).1 ∧ L' = [rdO g (bdM r0 pa).2.1 (bdM r0 pa).2.2] ∧ R' = []) := by
  unfold bdM
  have s1 := uK_size 2 r0
  have b1 := uK2_b r0
  have c1 := rU16 g r0 (by omega)
  generalize uK 2 r0 = y at *
  obtain ⟨n, r1⟩ := y
  dsimp only at *
  have c2 := octBytes g r1.1 r1.2 (4 * n) (by omega)
  have hz := rdB_size r1.1 r1.2 (4 * n) (by omega)
  generalize rdB r1.1 r1.2 (4 * n) = y at *
  obtain ⟨s, r2⟩ := y
  dsimp only at *
  unfold bdE
  by_cases hp : pa = false
  · subst hp
    rw [if_pos (.inl rfl)]
    refine fn_intro Try.func25 rfl Try.ntmps25 rfl (fun E => ?_)
    (repeat (first | ((first | (apply wo_v; rfl) ); (· first | (apply pv_ev; rfl) )) | apply wo_nil | apply wc_seq | apply wc_region ))
    (refine wo_call (c1) rfl (by (repeat (first | apply sub_nil )); done) (by first | exact fun _ h => h | (intro r hr; cases hr; done) | (simp; done) | exact fun _ h => List.mem_append_left _ h | (intro r hr; simp [hr]; done)) rfl ?_; rintro v L' R' ⟨rfl, rfl, rfl⟩ H' hH RR hR; simp only [List.cons_append, List.nil_append] at hH hR; subst hH; have hR := hR.symm; subst hR)
    (repeat (first | ((first | (apply wo_v; rfl) ); (· first | (apply pv_ev; rfl) | (apply g_bin; first | (apply a_mul; rfl; rfl; infer_instance; omega) ) | (apply g_conv; first | (apply a_conv; rfl; infer_instance; infer_instance; infer_instance; omega) ) )) ))
    (refine wo_call (c2) rfl (by (repeat (first | apply sub_nil )); done) (by first | exact fun _ h => h | (intro r hr; cases hr; done) | (simp; done) | exact fun _ h => List.mem_append_left _ h | (intro r hr; simp [hr]; done)) rfl ?_; rintro v L' R' ⟨rfl, rfl, rfl⟩ H' hH RR hR; simp only [List.cons_append, List.nil_append] at hH hR; subst hH; have hR := hR.symm; subst hR)
    (repeat (first | ((first | (apply wo_v; rfl) ); (· first | (apply pv_ev; rfl) | (apply g_pick; first | (apply pv_pick_t; rfl; rfl) ) | (apply g_un; first | (apply pv_not_t; rfl) | (apply pv_not_f; rfl) ) )) | apply wo_nil | apply wc_seq | apply wc_region | apply wc_ret | (apply wc_true; rfl) | (apply wo_run; rfl; rfl) | (apply wo_skip; rfl; rfl; rfl; rfl) ))
    exact ret1 rfl rfl ⟨rfl, rfl, rfl⟩ ((by (repeat (first | apply sub_nil )); done) : List.Perm _ ([_] ++ _)) (by first | exact fun _ h => h | (intro r hr; cases hr; done) | (simp; done) | exact fun _ h => List.mem_append_left _ h | (intro r hr; simp [hr]; done))
  have hp : pa = true := by simpa using hp
  subst hp
  by_cases he : r2.2 = 0
  · rw [if_neg (by simp [he])]
    have c3 := octFail g r2.1 r2.2 2
    have b2 := sb_b s (s.size - 1)
    have e1 : ((s.size : Int) - 1).toNat = s.size - 1 := by omega
    unfold padN
    by_cases h0 : s.size = 0
    · have hE : s = E0 := size_zero h0
      subst hE
      rw [if_pos h0, if_pos (.inr (.inl rfl))]
      by_cases hl : 0 < r2.1.size
      all_goals
        refine fn_intro Try.func25 rfl Try.ntmps25 rfl (fun E => ?_)
        (repeat (first | ((first | (apply wo_v; rfl) ); (· first | (apply pv_ev; rfl) )) | apply wo_nil | apply wc_seq | apply wc_region ))
        (refine wo_call (c1) rfl (by (repeat (first | apply sub_nil )); done) (by first | exact fun _ h => h | (intro r hr; cases hr; done) | (simp; done) | exact fun _ h => List.mem_append_left _ h | (intro r hr; simp [hr]; done)) rfl ?_; rintro v L' R' ⟨rfl, rfl, rfl⟩ H' hH RR hR; simp only [List.cons_append, List.nil_append] at hH hR; subst hH; have hR := hR.symm; subst hR)
        (repeat (first | ((first | (apply wo_v; rfl) ); (· first | (apply pv_ev; rfl) | (apply g_bin; first | (apply a_mul; rfl; rfl; infer_instance; omega) ) | (apply g_conv; first | (apply a_conv; rfl; infer_instance; infer_instance; infer_instance; omega) ) )) ))
        (refine wo_call (c2) rfl (by (repeat (first | apply sub_nil )); done) (by first | exact fun _ h => h | (intro r hr; cases hr; done) | (simp; done) | exact fun _ h => List.mem_append_left _ h | (intro r hr; simp [hr]; done)) rfl ?_; rintro v L' R' ⟨rfl, rfl, rfl⟩ H' hH RR hR; simp only [List.cons_append, List.nil_append] at hH hR; subst hH; have hR := hR.symm; subst hR)
        (repeat (first | ((first | (apply wo_v; rfl) ); (· first | (apply pv_ev; rfl) | (apply g_un; first | (apply pv_not_t; rfl) ) )) | apply wo_nil | apply wc_seq | apply wc_region | (apply wo_run; rfl; rfl) ))
        (refine wo_call (octErr g r2.1 r2.2) rfl (by (repeat (first | apply sub_nil )); done) (by first | exact fun _ h => h | (intro r hr; cases hr; done) | (simp; done) | exact fun _ h => List.mem_append_left _ h | (intro r hr; simp [hr]; done)) rfl ?_; rintro v L' R' ⟨rfl, rfl, rfl⟩ H' hH RR hR; simp only [List.cons_append, List.nil_append] at hH hR; subst hH; have hR := hR.symm; subst hR)
        (repeat (first | ((first | (apply wo_v; rfl) ); (· first | (apply pv_ev; rfl) | (apply g_pick; first | (apply pv_pick_t; rfl; rfl) | (apply pv_pick_f; rfl; rfl)) | (apply g_bin; first | (apply pv_neq_s; rfl; rfl) ) )) | apply wo_nil | apply wc_seq | apply wc_region | apply wc_skip | (apply wc_true; rfl) | (apply wc_false; rfl) | (apply a_dec_t; rfl; (· first | assumption | omega)) | (apply a_dec_f; rfl; (· first | assumption | omega)) | (apply wo_run; rfl; rfl) ))
        (refine wo_call (octLen g r2.1 r2.2) rfl (by (repeat (first | apply sub_nil )); done) (by first | exact fun _ h => h | (intro r hr; cases hr; done) | (simp; done) | exact fun _ h => List.mem_append_left _ h | (intro r hr; simp [hr]; done)) rfl ?_; rintro v L' R' ⟨rfl, rfl, rfl⟩ H' hH RR hR; simp only [List.cons_append, List.nil_append] at hH hR; subst hH; have hR := hR.symm; subst hR)
        (repeat (first | ((first | (apply wo_v; rfl) ); (· first | (apply pv_ev; rfl) | (apply g_pick; first | (apply pv_pick_t; rfl; rfl) | (apply pv_pick_f; rfl; rfl)) )) | apply wo_nil | apply wc_seq | apply wc_region | (apply wc_true; rfl) | (apply wo_run; rfl; rfl) | (apply wo_skip; rfl; rfl; rfl; rfl) | (apply wo_skip_u; rfl; rfl; rfl) | (apply a_gt; rfl; rfl; (· first | assumption | omega)) | (apply a_gf; rfl; rfl; (· first | assumption | omega)) ))
        (refine wo_call (c3) rfl (by (repeat (first | apply sub_nil )); done) (by first | exact fun _ h => h | (intro r hr; cases hr; done) | (simp; done) | exact fun _ h => List.mem_append_left _ h | (intro r hr; simp [hr]; done)) rfl ?_; rintro v L' R' ⟨rfl, rfl, rfl⟩ H' hH RR hR; simp only [List.cons_append, List.nil_append] at hH hR; subst hH; have hR := hR.symm; subst hR)
        (repeat (first | ((first | (apply wo_v; rfl) ); (· first | (apply pv_ev; rfl) )) | apply wo_nil | apply wc_seq | apply wc_region | apply wc_ret ))
        exact ret1 rfl rfl ⟨rfl, rfl, rfl⟩ ((by (repeat (first | apply sub_nil )); done) : List.Perm _ ([_] ++ _)) (by first | exact fun _ h => h | (intro r hr; cases hr; done) | (simp; done) | exact fun _ h => List.mem_append_left _ h | (intro r hr; simp [hr]; done))
    · rw [if_neg h0]
      have hE : s ≠ E0 := fun h => h0 (by rw [h]; rfl)
      have hE2 : s ≠ ⟨#[]⟩ := hE
      have hb' := sb_b s ((s.size : Int) - 1).toNat
      rw [← e1] at b2 ⊢
      generalize hm : sb s ((s.size : Int) - 1).toNat = m at *
      have et : m.tmod 4 = m % 4 := Int.tmod_eq_emod_of_nonneg (by omega)
      have e6 : ∀ k : Nat, s.extract 0 k = s.extract 0 k := fun _ => rfl
      have hc : (0 < r2.1.size ∧ True) ∨ (r2.1.size = 0 ∧ m = 0 ∧ True) ∨ (r2.1.size = 0 ∧ m ≠ 0 ∧ m % 4 ≠ 0 ∧ True) ∨ (r2.1.size = 0 ∧ m ≠ 0 ∧ m % 4 = 0 ∧ (s.size : Int) < m ∧ True) ∨ (r2.1.size = 0 ∧ m ≠ 0 ∧ m % 4 = 0 ∧ ¬ (s.size : Int) < m) := by
        by_cases q1 : 0 < r2.1.size
        · exact .inl ⟨q1, trivial⟩
        by_cases q2 : m = 0
        · exact .inr (.inl ⟨by omega, q2, trivial⟩)
        by_cases q3 : m % 4 = 0
        · by_cases q4 : (s.size : Int) < m
          · exact .inr (.inr (.inr (.inl ⟨by omega, q2, q3, q4, trivial⟩)))
          · exact .inr (.inr (.inr (.inr ⟨by omega, q2, q3, q4⟩)))
        · exact .inr (.inr (.inl ⟨by omega, q2, q3, trivial⟩))
      rcases hc with ⟨q1, _⟩ | ⟨q1, q2, _⟩ | ⟨q1, q2, q3, _⟩ | ⟨q1, q2, q3, q4, _⟩ | ⟨q1, q2, q3, q4⟩
      · rw [if_pos (by omega)]
        refine fn_intro Try.func25 rfl Try.ntmps25 rfl (fun E => ?_)
        (repeat (first | ((first | (apply wo_v; rfl) ); (· first | (apply pv_ev; rfl) )) | apply wo_nil | apply wc_seq | apply wc_region ))
        (refine wo_call (c1) rfl (by (repeat (first | apply sub_nil )); done) (by first | exact fun _ h => h | (intro r hr; cases hr; done) | (simp; done) | exact fun _ h => List.mem_append_left _ h | (intro r hr; simp [hr]; done)) rfl ?_; rintro v L' R' ⟨rfl, rfl, rfl⟩ H' hH RR hR; simp only [List.cons_append, List.nil_append] at hH hR; subst hH; have hR := hR.symm; subst hR)
        (repeat (first | ((first | (apply wo_v; rfl) ); (· first | (apply pv_ev; rfl) | (apply g_bin; first | (apply a_mul; rfl; rfl; infer_instance; omega) ) | (apply g_conv; first | (apply a_conv; rfl; infer_instance; infer_instance; infer_instance; omega) ) )) ))
        (refine wo_call (c2) rfl (by (repeat (first | apply sub_nil )); done) (by first | exact fun _ h => h | (intro r hr; cases hr; done) | (simp; done) | exact fun _ h => List.mem_append_left _ h | (intro r hr; simp [hr]; done)) rfl ?_; rintro v L' R' ⟨rfl, rfl, rfl⟩ H' hH RR hR; simp only [List.cons_append, List.nil_append] at hH hR; subst hH; have hR := hR.symm; subst hR)
        (repeat (first | ((first | (apply wo_v; rfl) ); (· first | (apply pv_ev; rfl) | (apply g_un; first | (apply pv_not_t; rfl) ) )) | apply wo_nil | apply wc_seq | apply wc_region | (apply wo_run; rfl; rfl) ))
        (refine wo_call (octErr g r2.1 r2.2) rfl (by (repeat (first | apply sub_nil )); done) (by first | exact fun _ h => h | (intro r hr; cases hr; done) | (simp; done) | exact fun _ h => List.mem_append_left _ h | (intro r hr; simp [hr]; done)) rfl ?_; rintro v L' R' ⟨rfl, rfl, rfl⟩ H' hH RR hR; simp only [List.cons_append, List.nil_append] at hH hR; subst hH; have hR := hR.symm; subst hR)
        (repeat (first | ((first | (apply wo_v; rfl) ); (· first | (apply pv_ev; rfl) | (apply g_pick; first | (apply pv_pick_t; rfl; rfl) | (apply pv_pick_f; rfl; rfl)) | (apply g_bin; first | (apply a_sub; rfl; rfl; infer_instance; omega) | (apply pv_neq_s; rfl; rfl) ) | (apply g_bi; first | (apply pv_len_str; rfl) ) | (apply g_conv; first | (apply a_conv; rfl; infer_instance; infer_instance; infer_instance; omega) ) | (apply pv_index_sn; rfl; rfl; omega) | (apply pv_index_s; rfl; rfl; omega) )) | apply wo_nil | apply wc_seq | apply wc_region | apply wc_skip | (apply wc_true; rfl) | (apply wc_false; rfl) | (apply a_dec_t; rfl; (· first | assumption | omega)) | (apply a_dec_f; rfl; (· first | assumption | omega)) | (apply wo_run; rfl; rfl) ))
        rw [hm]
        (refine wo_call (octLen g r2.1 r2.2) rfl (by (repeat (first | apply sub_nil )); done) (by first | exact fun _ h => h | (intro r hr; cases hr; done) | (simp; done) | exact fun _ h => List.mem_append_left _ h | (intro r hr; simp [hr]; done)) rfl ?_; rintro v L' R' ⟨rfl, rfl, rfl⟩ H' hH RR hR; simp only [List.cons_append, List.nil_append] at hH hR; subst hH; have hR := hR.symm; subst hR)
        (repeat (first | ((first | (apply wo_v; rfl) ); (· first | (apply pv_ev; rfl) | (apply g_pick; first | (apply pv_pick_t; rfl; rfl) ) )) | apply wo_nil | apply wc_seq | apply wc_region | (apply wc_true; rfl) | (apply wo_run; rfl; rfl) | (apply wo_skip; rfl; rfl; rfl; rfl) | (apply wo_skip_u; rfl; rfl; rfl) | (apply a_gt; rfl; rfl; (· first | assumption | omega)) ))
        (refine wo_call (c3) rfl (by (repeat (first | apply sub_nil )); done) (by first | exact fun _ h => h | (intro r hr; cases hr; done) | (simp; done) | exact fun _ h => List.mem_append_left _ h | (intro r hr; simp [hr]; done)) rfl ?_; rintro v L' R' ⟨rfl, rfl, rfl⟩ H' hH RR hR; simp only [List.cons_append, List.nil_append] at hH hR; subst hH; have hR := hR.symm; subst hR)
        (repeat (first | ((first | (apply wo_v; rfl) ); (· first | (apply pv_ev; rfl) )) | apply wo_nil | apply wc_seq | apply wc_region | apply wc_ret ))
        exact ret1 rfl rfl ⟨rfl, rfl, rfl⟩ ((by (repeat (first | apply sub_nil )); done) : List.Perm _ ([_] ++ _)) (by first | exact fun _ h => h | (intro r hr; cases hr; done) | (simp; done) | exact fun _ h => List.mem_append_left _ h | (intro r hr; simp [hr]; done))
      · rw [if_pos (by omega)]
        refine fn_intro Try.func25 rfl Try.ntmps25 rfl (fun E => ?_)
        (repeat (first | ((first | (apply wo_v; rfl) ); (· first | (apply pv_ev; rfl) )) | apply wo_nil | apply wc_seq | apply wc_region ))
        (refine wo_call (c1) rfl (by (repeat (first | apply sub_nil )); done) (by first | exact fun _ h => h | (intro r hr; cases hr; done) | (simp; done) | exact fun _ h => List.mem_append_left _ h | (intro r hr; simp [hr]; done)) rfl ?_; rintro v L' R' ⟨rfl, rfl, rfl⟩ H' hH RR hR; simp only [List.cons_append, List.nil_append] at hH hR; subst hH; have hR := hR.symm; subst hR)
        (repeat (first | ((first | (apply wo_v; rfl) ); (· first | (apply pv_ev; rfl) | (apply g_bin; first | (apply a_mul; rfl; rfl; infer_instance; omega) ) | (apply g_conv; first | (apply a_conv; rfl; infer_instance; infer_instance; infer_instance; omega) ) )) ))
        (refine wo_call (c2) rfl (by (repeat (first | apply sub_nil )); done) (by first | exact fun _ h => h | (intro r hr; cases hr; done) | (simp; done) | exact fun _ h => List.mem_append_left _ h | (intro r hr; simp [hr]; done)) rfl ?_; rintro v L' R' ⟨rfl, rfl, rfl⟩ H' hH RR hR; simp only [List.cons_append, List.nil_append] at hH hR; subst hH; have hR := hR.symm; subst hR)
        (repeat (first | ((first | (apply wo_v; rfl) ); (· first | (apply pv_ev; rfl) | (apply g_un; first | (apply pv_not_t; rfl) ) )) | apply wo_nil | apply wc_seq | apply wc_region | (apply wo_run; rfl; rfl) ))
        (refine wo_call (octErr g r2.1 r2.2) rfl (by (repeat (first | apply sub_nil )); done) (by first | exact fun _ h => h | (intro r hr; cases hr; done) | (simp; done) | exact fun _ h => List.mem_append_left _ h | (intro r hr; simp [hr]; done)) rfl ?_; rintro v L' R' ⟨rfl, rfl, rfl⟩ H' hH RR hR; simp only [List.cons_append, List.nil_append] at hH hR; subst hH; have hR := hR.symm; subst hR)
        (repeat (first | ((first | (apply wo_v; rfl) ); (· first | (apply pv_ev; rfl) | (apply g_pick; first | (apply pv_pick_t; rfl; rfl) | (apply pv_pick_f; rfl; rfl)) | (apply g_bin; first | (apply a_sub; rfl; rfl; infer_instance; omega) | (apply pv_neq_s; rfl; rfl) ) | (apply g_bi; first | (apply pv_len_str; rfl) ) | (apply g_conv; first | (apply a_conv; rfl; infer_instance; infer_instance; infer_instance; omega) ) | (apply pv_index_sn; rfl; rfl; omega) | (apply pv_index_s; rfl; rfl; omega) )) | apply wo_nil | apply wc_seq | apply wc_region | apply wc_skip | (apply wc_true; rfl) | (apply wc_false; rfl) | (apply a_dec_t; rfl; (· first | assumption | omega)) | (apply a_dec_f; rfl; (· first | assumption | omega)) | (apply wo_run; rfl; rfl) ))
        rw [hm]
        (refine wo_call (octLen g r2.1 r2.2) rfl (by (repeat (first | apply sub_nil )); done) (by first | exact fun _ h => h | (intro r hr; cases hr; done) | (simp; done) | exact fun _ h => List.mem_append_left _ h | (intro r hr; simp [hr]; done)) rfl ?_; rintro v L' R' ⟨rfl, rfl, rfl⟩ H' hH RR hR; simp only [List.cons_append, List.nil_append] at hH hR; subst hH; have hR := hR.symm; subst hR)
        (repeat (first | ((first | (apply wo_v; rfl) ); (· first | (apply pv_ev; rfl) | (apply g_pick; first | (apply pv_pick_t; rfl; rfl) | (apply pv_pick_f; rfl; rfl)) )) | apply wo_nil | apply wc_seq | apply wc_region | (apply wc_true; rfl) | (apply wo_run; rfl; rfl) | (apply wo_skip; rfl; rfl; rfl; rfl) | (apply wo_skip_u; rfl; rfl; rfl) | (apply a_gt; rfl; rfl; (· first | assumption | omega)) | (apply a_gf; rfl; rfl; (· first | assumption | omega)) ))
        (refine wo_call (c3) rfl (by (repeat (first | apply sub_nil )); done) (by first | exact fun _ h => h | (intro r hr; cases hr; done) | (simp; done) | exact fun _ h => List.mem_append_left _ h | (intro r hr; simp [hr]; done)) rfl ?_; rintro v L' R' ⟨rfl, rfl, rfl⟩ H' hH RR hR; simp only [List.cons_append, List.nil_append] at hH hR; subst hH; have hR := hR.symm; subst hR)
        (repeat (first | ((first | (apply wo_v; rfl) ); (· first | (apply pv_ev; rfl) )) | apply wo_nil | apply wc_seq | apply wc_region | apply wc_ret ))
        exact ret1 rfl rfl ⟨rfl, rfl, rfl⟩ ((by (repeat (first | apply sub_nil )); done) : List.Perm _ ([_] ++ _)) (by first | exact fun _ h => h | (intro r hr; cases hr; done) | (simp; done) | exact fun _ h => List.mem_append_left _ h | (intro r hr; simp [hr]; done))
      · rw [if_pos (by omega)]
        refine fn_intro Try.func25 rfl Try.ntmps25 rfl (fun E => ?_)
        (repeat (first | ((first | (apply wo_v; rfl) ); (· first | (apply pv_ev; rfl) )) | apply wo_nil | apply wc_seq | apply wc_region ))
        (refine wo_call (c1) rfl (by (repeat (first | apply sub_nil )); done) (by first | exact fun _ h => h | (intro r hr; cases hr; done) | (simp; done) | exact fun _ h => List.mem_append_left _ h | (intro r hr; simp [hr]; done)) rfl ?_; rintro v L' R' ⟨rfl, rfl, rfl⟩ H' hH RR hR; simp only [List.cons_append, List.nil_append] at hH hR; subst hH; have hR := hR.symm; subst hR)
        (repeat (first | ((first | (apply wo_v; rfl) ); (· first | (apply pv_ev; rfl) | (apply g_bin; first | (apply a_mul; rfl; rfl; infer_instance; omega) ) | (apply g_conv; first | (apply a_conv; rfl; infer_instance; infer_instance; infer_instance; omega) ) )) ))
        (refine wo_call (c2) rfl (by (repeat (first | apply sub_nil )); done) (by first | exact fun _ h => h | (intro r hr; cases hr; done) | (simp; done) | exact fun _ h => List.mem_append_left _ h | (intro r hr; simp [hr]; done)) rfl ?_; rintro v L' R' ⟨rfl, rfl, rfl⟩ H' hH RR hR; simp only [List.cons_append, List.nil_append] at hH hR; subst hH; have hR := hR.symm; subst hR)
        (repeat (first | ((first | (apply wo_v; rfl) ); (· first | (apply pv_ev; rfl) | (apply g_un; first | (apply pv_not_t; rfl) ) )) | apply wo_nil | apply wc_seq | apply wc_region | (apply wo_run; rfl; rfl) ))
        (refine wo_call (octErr g r2.1 r2.2) rfl (by (repeat (first | apply sub_nil )); done) (by first | exact fun _ h => h | (intro r hr; cases hr; done) | (simp; done) | exact fun _ h => List.mem_append_left _ h | (intro r hr; simp [hr]; done)) rfl ?_; rintro v L' R' ⟨rfl, rfl, rfl⟩ H' hH RR hR; simp only [List.cons_append, List.nil_append] at hH hR; subst hH; have hR := hR.symm; subst hR)
        (repeat (first | ((first | (apply wo_v; rfl) ); (· first | (apply pv_ev; rfl) | (apply g_pick; first | (apply pv_pick_t; rfl; rfl) | (apply pv_pick_f; rfl; rfl)) | (apply g_bin; first | (apply a_sub; rfl; rfl; infer_instance; omega) | (apply pv_neq_s; rfl; rfl) ) | (apply g_bi; first | (apply pv_len_str; rfl) ) | (apply g_conv; first | (apply a_conv; rfl; infer_instance; infer_instance; infer_instance; omega) ) | (apply pv_index_sn; rfl; rfl; omega) | (apply pv_index_s; rfl; rfl; omega) )) | apply wo_nil | apply wc_seq | apply wc_region | apply wc_skip | (apply wc_true; rfl) | (apply wc_false; rfl) | (apply a_dec_t; rfl; (· first | assumption | omega)) | (apply a_dec_f; rfl; (· first | assumption | omega)) | (apply wo_run; rfl; rfl) ))
        rw [hm]
        (refine wo_call (octLen g r2.1 r2.2) rfl (by (repeat (first | apply sub_nil )); done) (by first | exact fun _ h => h | (intro r hr; cases hr; done) | (simp; done) | exact fun _ h => List.mem_append_left _ h | (intro r hr; simp [hr]; done)) rfl ?_; rintro v L' R' ⟨rfl, rfl, rfl⟩ H' hH RR hR; simp only [List.cons_append, List.nil_append] at hH hR; subst hH; have hR := hR.symm; subst hR)
        (repeat (first | ((first | (apply wo_v; rfl) ); (· first | (apply pv_ev; rfl) | (apply g_pick; first | (apply pv_pick_t; rfl; rfl) | (apply pv_pick_f; rfl; rfl)) | (apply g_bin; first | (apply pv_rem; rfl; rfl; omega) ) )) | apply wo_nil | apply wc_seq | apply wc_region | (apply wc_true; rfl) | (apply wo_run; rfl; rfl) | (apply wo_skip; rfl; rfl; rfl; rfl) | (apply wo_skip_u; rfl; rfl; rfl) | (apply a_gt; rfl; rfl; (· first | assumption | omega)) | (apply a_gf; rfl; rfl; (· first | assumption | omega)) ))
        (refine wo_call (c3) rfl (by (repeat (first | apply sub_nil )); done) (by first | exact fun _ h => h | (intro r hr; cases hr; done) | (simp; done) | exact fun _ h => List.mem_append_left _ h | (intro r hr; simp [hr]; done)) rfl ?_; rintro v L' R' ⟨rfl, rfl, rfl⟩ H' hH RR hR; simp only [List.cons_append, List.nil_append] at hH hR; subst hH; have hR := hR.symm; subst hR)
        (repeat (first | ((first | (apply wo_v; rfl) ); (· first | (apply pv_ev; rfl) )) | apply wo_nil | apply wc_seq | apply wc_region | apply wc_ret ))
        exact ret1 rfl rfl ⟨rfl, rfl, rfl⟩ ((by (repeat (first | apply sub_nil )); done) : List.Perm _ ([_] ++ _)) (by first | exact fun _ h => h | (intro r hr; cases hr; done) | (simp; done) | exact fun _ h => List.mem_append_left _ h | (intro r hr; simp [hr]; done))
      · rw [if_pos (by omega)]
        refine fn_intro Try.func25 rfl Try.ntmps25 rfl (fun E => ?_)
        (repeat (first | ((first | (apply wo_v; rfl) ); (· first | (apply pv_ev; rfl) )) | apply wo_nil | apply wc_seq | apply wc_region ))
        (refine wo_call (c1) rfl (by (repeat (first | apply sub_nil )); done) (by first | exact fun _ h => h | (intro r hr; cases hr; done) | (simp; done) | exact fun _ h => List.mem_append_left _ h | (intro r hr; simp [hr]; done)) rfl ?_; rintro v L' R' ⟨rfl, rfl, rfl⟩ H' hH RR hR; simp only [List.cons_append, List.nil_append] at hH hR; subst hH; have hR := hR.symm; subst hR)
        (repeat (first | ((first | (apply wo_v; rfl) ); (· first | (apply pv_ev; rfl) | (apply g_bin; first | (apply a_mul; rfl; rfl; infer_instance; omega) ) | (apply g_conv; first | (apply a_conv; rfl; infer_instance; infer_instance; infer_instance; omega) ) )) ))
        (refine wo_call (c2) rfl (by (repeat (first | apply sub_nil )); done) (by first | exact fun _ h => h | (intro r hr; cases hr; done) | (simp; done) | exact fun _ h => List.mem_append_left _ h | (intro r hr; simp [hr]; done)) rfl ?_; rintro v L' R' ⟨rfl, rfl, rfl⟩ H' hH RR hR; simp only [List.cons_append, List.nil_append] at hH hR; subst hH; have hR := hR.symm; subst hR)
        (repeat (first | ((first | (apply wo_v; rfl) ); (· first | (apply pv_ev; rfl) | (apply g_un; first | (apply pv_not_t; rfl) ) )) | apply wo_nil | apply wc_seq | apply wc_region | (apply wo_run; rfl; rfl) ))
        (refine wo_call (octErr g r2.1 r2.2) rfl (by (repeat (first | apply sub_nil )); done) (by first | exact fun _ h => h | (intro r hr; cases hr; done) | (simp; done) | exact fun _ h => List.mem_append_left _ h | (intro r hr; simp [hr]; done)) rfl ?_; rintro v L' R' ⟨rfl, rfl, rfl⟩ H' hH RR hR; simp only [List.cons_append, List.nil_append] at hH hR; subst hH; have hR := hR.symm; subst hR)
        (repeat (first | ((first | (apply wo_v; rfl) ); (· first | (apply pv_ev; rfl) | (apply g_pick; first | (apply pv_pick_t; rfl; rfl) | (apply pv_pick_f; rfl; rfl)) | (apply g_bin; first | (apply a_sub; rfl; rfl; infer_instance; omega) | (apply pv_neq_s; rfl; rfl) ) | (apply g_bi; first | (apply pv_len_str; rfl) ) | (apply g_conv; first | (apply a_conv; rfl; infer_instance; infer_instance; infer_instance; omega) ) | (apply pv_index_sn; rfl; rfl; omega) | (apply pv_index_s; rfl; rfl; omega) )) | apply wo_nil | apply wc_seq | apply wc_region | apply wc_skip | (apply wc_true; rfl) | (apply wc_false; rfl) | (apply a_dec_t; rfl; (· first | assumption | omega)) | (apply a_dec_f; rfl; (· first | assumption | omega)) | (apply wo_run; rfl; rfl) ))
        rw [hm]
        (refine wo_call (octLen g r2.1 r2.2) rfl (by (repeat (first | apply sub_nil )); done) (by first | exact fun _ h => h | (intro r hr; cases hr; done) | (simp; done) | exact fun _ h => List.mem_append_left _ h | (intro r hr; simp [hr]; done)) rfl ?_; rintro v L' R' ⟨rfl, rfl, rfl⟩ H' hH RR hR; simp only [List.cons_append, List.nil_append] at hH hR; subst hH; have hR := hR.symm; subst hR)
        (repeat (first | ((first | (apply wo_v; rfl) ); (· first | (apply pv_ev; rfl) | (apply g_pick; first | (apply pv_pick_t; rfl; rfl) | (apply pv_pick_f; rfl; rfl)) | (apply g_bin; first | (apply pv_rem; rfl; rfl; omega) ) | (apply g_bi; first | (apply pv_len_str; rfl) ) )) | apply wo_nil | apply wc_seq | apply wc_region | (apply wc_true; rfl) | (apply wc_false; rfl) | (apply a_dec_t; rfl; (· first | assumption | omega)) | (apply wo_run; rfl; rfl) | (apply wo_skip; rfl; rfl; rfl; rfl) | (apply wo_skip_u; rfl; rfl; rfl) | (apply a_gt; rfl; rfl; (· first | assumption | omega)) | (apply a_gf; rfl; rfl; (· first | assumption | omega)) ))
        (refine wo_call (c3) rfl (by (repeat (first | apply sub_nil )); done) (by first | exact fun _ h => h | (intro r hr; cases hr; done) | (simp; done) | exact fun _ h => List.mem_append_left _ h | (intro r hr; simp [hr]; done)) rfl ?_; rintro v L' R' ⟨rfl, rfl, rfl⟩ H' hH RR hR; simp only [List.cons_append, List.nil_append] at hH hR; subst hH; have hR := hR.symm; subst hR)
        (repeat (first | ((first | (apply wo_v; rfl) ); (· first | (apply pv_ev; rfl) )) | apply wo_nil | apply wc_seq | apply wc_region | apply wc_ret ))
        exact ret1 rfl rfl ⟨rfl, rfl, rfl⟩ ((by (repeat (first | apply sub_nil )); done) : List.Perm _ ([_] ++ _)) (by first | exact fun _ h => h | (intro r hr; cases hr; done) | (simp; done) | exact fun _ h => List.mem_append_left _ h | (intro r hr; simp [hr]; done))
      · rw [if_neg (by omega)]
        refine fn_intro Try.func25 rfl Try.ntmps25 rfl (fun E => ?_)
        (repeat (first | ((first | (apply wo_v; rfl) ); (· first | (apply pv_ev; rfl) )) | apply wo_nil | apply wc_seq | apply wc_region ))
        (refine wo_call (c1) rfl (by (repeat (first | apply sub_nil )); done) (by first | exact fun _ h => h | (intro r hr; cases hr; done) | (simp; done) | exact fun _ h => List.mem_append_left _ h | (intro r hr; simp [hr]; done)) rfl ?_; rintro v L' R' ⟨rfl, rfl, rfl⟩ H' hH RR hR; simp only [List.cons_append, List.nil_append] at hH hR; subst hH; have hR := hR.symm; subst hR)
        (repeat (first | ((first | (apply wo_v; rfl) ); (· first | (apply pv_ev; rfl) | (apply g_bin; first | (apply a_mul; rfl; rfl; infer_instance; omega) ) | (apply g_conv; first | (apply a_conv; rfl; infer_instance; infer_instance; infer_instance; omega) ) )) ))
        (refine wo_call (c2) rfl (by (repeat (first | apply sub_nil )); done) (by first | exact fun _ h => h | (intro r hr; cases hr; done) | (simp; done) | exact fun _ h => List.mem_append_left _ h | (intro r hr; simp [hr]; done)) rfl ?_; rintro v L' R' ⟨rfl, rfl, rfl⟩ H' hH RR hR; simp only [List.cons_append, List.nil_append] at hH hR; subst hH; have hR := hR.symm; subst hR)
        (repeat (first | ((first | (apply wo_v; rfl) ); (· first | (apply pv_ev; rfl) | (apply g_un; first | (apply pv_not_t; rfl) ) )) | apply wo_nil | apply wc_seq | apply wc_region | (apply wo_run; rfl; rfl) ))
        (refine wo_call (octErr g r2.1 r2.2) rfl (by (repeat (first | apply sub_nil )); done) (by first | exact fun _ h => h | (intro r hr; cases hr; done) | (simp; done) | exact fun _ h => List.mem_append_left _ h | (intro r hr; simp [hr]; done)) rfl ?_; rintro v L' R' ⟨rfl, rfl, rfl⟩ H' hH RR hR; simp only [List.cons_append, List.nil_append] at hH hR; subst hH; have hR := hR.symm; subst hR)
        (repeat (first | ((first | (apply wo_v; rfl) ); (· first | (apply pv_ev; rfl) | (apply g_pick; first | (apply pv_pick_t; rfl; rfl) | (apply pv_pick_f; rfl; rfl)) | (apply g_bin; first | (apply a_sub; rfl; rfl; infer_instance; omega) | (apply pv_neq_s; rfl; rfl) ) | (apply g_bi; first | (apply pv_len_str; rfl) ) | (apply g_conv; first | (apply a_conv; rfl; infer_instance; infer_instance; infer_instance; omega) ) | (apply pv_index_sn; rfl; rfl; omega) | (apply pv_index_s; rfl; rfl; omega) )) | apply wo_nil | apply wc_seq | apply wc_region | apply wc_skip | (apply wc_true; rfl) | (apply wc_false; rfl) | (apply a_dec_t; rfl; (· first | assumption | omega)) | (apply a_dec_f; rfl; (· first | assumption | omega)) | (apply wo_run; rfl; rfl) ))
        rw [hm]
        (refine wo_call (octLen g r2.1 r2.2) rfl (by (repeat (first | apply sub_nil )); done) (by first | exact fun _ h => h | (intro r hr; cases hr; done) | (simp; done) | exact fun _ h => List.mem_append_left _ h | (intro r hr; simp [hr]; done)) rfl ?_; rintro v L' R' ⟨rfl, rfl, rfl⟩ H' hH RR hR; simp only [List.cons_append, List.nil_append] at hH hR; subst hH; have hR := hR.symm; subst hR)
        (repeat (first | ((first | (apply wo_v; rfl) ); (· first | (apply pv_ev; rfl) | (apply g_pick; first | (apply pv_pick_t; rfl; rfl) | (apply pv_pick_f; rfl; rfl)) | (apply g_bin; first | (apply a_sub; rfl; rfl; infer_instance; omega) | (apply pv_rem; rfl; rfl; omega) ) | (apply g_bi; first | (apply pv_len_str; rfl) ) | (apply pv_cs_hi; rfl; rfl; omega) )) | apply wo_nil | apply wc_seq | apply wc_region | apply wc_skip | apply wc_ret | (apply wc_true; rfl) | (apply wc_false; rfl) | (apply a_dec_t; rfl; (· first | assumption | omega)) | (apply a_dec_f; rfl; (· first | assumption | omega)) | (apply wo_run; rfl; rfl) | (apply wo_skip; rfl; rfl; rfl; rfl) | (apply wo_skip_u; rfl; rfl; rfl) | (apply a_gt; rfl; rfl; (· first | assumption | omega)) | (apply a_gf; rfl; rfl; (· first | assumption | omega)) ))
        exact ret1 rfl rfl ⟨rfl, rfl, rfl⟩ ((by (repeat (first | apply sub_nil )); done) : List.Perm _ ([_] ++ _)) (by first | exact fun _ h => h | (intro r hr; cases hr; done) | (simp; done) | exact fun _ h => List.mem_append_left _ h | (intro r hr; simp [hr]; done))
  · rw [if_pos (.inr he)]
    refine fn_intro Try.func25 rfl Try.ntmps25 rfl (fun E => ?_)
    (repeat (first | ((first | (apply wo_v; rfl) ); (· first | (apply pv_ev; rfl) )) | apply wo_nil | apply wc_seq | apply wc_region ))
    (refine wo_call (c1) rfl (by (repeat (first | apply sub_nil )); done) (by first | exact fun _ h => h | (intro r hr; cases hr; done) | (simp; done) | exact fun _ h => List.mem_append_left _ h | (intro r hr; simp [hr]; done)) rfl ?_; rintro v L' R' ⟨rfl, rfl, rfl⟩ H' hH RR hR; simp only [List.cons_append, List.nil_append] at hH hR; subst hH; have hR := hR.symm; subst hR)
    (repeat (first | ((first | (apply wo_v; rfl) ); (· first | (apply pv_ev; rfl) | (apply g_bin; first | (apply a_mul; rfl; rfl; infer_instance; omega) ) | (apply g_conv; first | (apply a_conv; rfl; infer_instance; infer_instance; infer_instance; omega) ) )) ))
    (refine wo_call (c2) rfl (by (repeat (first | apply sub_nil )); done) (by first | exact fun _ h => h | (intro r hr; cases hr; done) | (simp; done) | exact fun _ h => List.mem_append_left _ h | (intro r hr; simp [hr]; done)) rfl ?_; rintro v L' R' ⟨rfl, rfl, rfl⟩ H' hH RR hR; simp only [List.cons_append, List.nil_append] at hH hR; subst hH; have hR := hR.symm; subst hR)
    (repeat (first | ((first | (apply wo_v; rfl) ); (· first | (apply pv_ev; rfl) | (apply g_un; first | (apply pv_not_t; rfl) ) )) | apply wo_nil | apply wc_seq | apply wc_region | (apply wo_run; rfl; rfl) ))
    (refine wo_call (octErr g r2.1 r2.2) rfl (by (repeat (first | apply sub_nil )); done) (by first | exact fun _ h => h | (intro r hr; cases hr; done) | (simp; done) | exact fun _ h => List.mem_append_left _ h | (intro r hr; simp [hr]; done)) rfl ?_; rintro v L' R' ⟨rfl, rfl, rfl⟩ H' hH RR hR; simp only [List.cons_append, List.nil_append] at hH hR; subst hH; have hR := hR.symm; subst hR)
    (repeat (first | ((first | (apply wo_v; rfl) ); (· first | (apply pv_ev; rfl) | (apply g_pick; first | (apply pv_pick_t; rfl; rfl) | (apply pv_pick_f; rfl; rfl)) )) | apply wo_nil | apply wc_seq | apply wc_region | apply wc_ret | (apply wc_true; rfl) | (apply wc_false; rfl) | (apply a_dec_t; rfl; (· first | assumption | omega)) | (apply wo_run; rfl; rfl) ))
    exact ret1 rfl rfl ⟨rfl, rfl, rfl⟩ ((by (repeat (first | apply sub_nil )); done) : List.Perm _ ([_] ++ _)) (by first | exact fun _ h => h | (intro r hr; cases hr; done) | (simp; done) | exact fun _ h => List.mem_append_left _ h | (intro r hr; simp [hr]; done))
end Go.Proofs.Yteaccbbmphcmnaa

/-
  Package rtcp: Parse.
-/
namespace Go.Proofs.Yteaccbbmphcmnaa
set_option linter.unusedSimpArgs false
set_option linter.unusedVariables false
open Go.RowKit
attribute [local irreducible] Pv WO WC Fn
set_option maxRecDepth 100000
attribute [local irreducible] ByteArray.extract

def paA (f : Bool) (r : Rs) : List Pkt × Int := paM (r.1.size + 1) f r
def bo (f : Bool) : Nat := if f = true then 1 else 0
theorem bo_le (f : Bool) : bo f ≤ 1 := by cases f <;> simp [bo]
theorem stM_le {r : Rs} : (stM r).2.1.size ≤ r.1.size := Nat.le_trans (stM_size r) (uK_size 1 r)
theorem paM_more : ∀ (n m : Nat) (f : Bool) (r : Rs), Ri r → r.1.size + bo f ≤ n → r.1.size + bo f ≤ m → paM n f r = paM m f r
  | 0, 0, _, _, _, _, _ => rfl
  | 0, m + 1, f, r, hr, h1, h2 => by
    have hf : f = false := by cases f with | false => rfl | true => simp [bo] at h1
    subst hf
    rw [paM, paM, if_pos ⟨by omega, by simp⟩]
  | n + 1, 0, f, r, hr, h1, h2 => by
    have hf : f = false := by cases f with | false => rfl | true => simp [bo] at h2
    subst hf
    rw [paM, paM, if_pos ⟨by omega, by simp⟩]
  | n + 1, m + 1, f, r, hr, h1, h2 => by
    rw [paM, paM]
    split
    · rfl
    · rename_i hc
      split
      · rfl
      · have hz : (stM r).2.1.size + bo false ≤ n ∧ (stM r).2.1.size + bo false ≤ m := by
          have e : bo false = 0 := rfl
          rw [e]
          by_cases h0 : 0 < r.1.size
          · have := stM_less hr h0; omega
          · have hf : f = true := by
              cases f with
              | true => rfl
              | false => exact absurd ⟨by omega, by simp⟩ hc
            subst hf
            have e2 : bo true = 1 := rfl
            have := stM_le (r := r)
            omega
        rw [paM_more n m false (stM r).2 (stM_ri hr) hz.1 hz.2]
theorem paA_end {f : Bool} {r : Rs} (h : r.1.size = 0 ∧ ¬ (f = true ∧ r.2 = 0)) : paA f r = ([], r.2) := by unfold paA; rw [paM, if_pos h]
theorem paA_err {f : Bool} {r : Rs} (h : ¬ (r.1.size = 0 ∧ ¬ (f = true ∧ r.2 = 0))) (he : (stM r).2.2 ≠ 0) : paA f r = ([], (stM r).2.2) := by unfold paA; rw [paM, if_neg h, if_pos he]
theorem paA_go {f : Bool} {r : Rs} (hr : Ri r) (h : ¬ (r.1.size = 0 ∧ ¬ (f = true ∧ r.2 = 0))) (he : (stM r).2.2 = 0) : paA f r = ((stM r).1 :: (paA false (stM r).2).1, (paA false (stM r).2).2) := by
  have := stM_le (r := r)
  unfold paA
  rw [paM, if_neg h, if_neg (by simp [he]), paM_more r.1.size ((stM r).2.1.size + 1) false (stM r).2 (stM_ri hr) (by show _ + 0 ≤ _; omega) (by show _ + 0 ≤ _; omega)]
abbrev pksO (ao : Option Addr) (n c : Nat) (vs : List Value) : It := .own 51 1 ao n c (one1 vs)
abbrev pksO' (ao : Option Addr) (n c : Nat) (xs : List (List Value)) : It := .own 51 1 ao n c xs
theorem pksO_snoc (ao : Option Addr) (n c : Nat) (vs : List Value) (v : Value) : pksO ao n c (vs ++ [v]) = pksO' ao n c (one1 vs ++ [[v]]) := by rw [pksO, one1_app]; rfl
theorem x6 {a : Int} (h : 0 ≤ a ∧ a ≤ 255) : a.fdiv (2 ^ (min (6 : Int).toNat IntKind.u8.bits)) = a / 64 := by
  show a.fdiv 64 = _
  exact Int.fdiv_eq_ediv_of_nonneg _ (by omega)
theorem repM_uK4 (n : Nat) {r : Rs} (h : Ri r) : Ri (repM (uK 4) n r).2 := repM_ri (fun r h => h.uK 4) n r h
theorem tBk_ri (r : Rs) (h : Ri r) : Ri (tBk r).2 := ((((((h.uK 4).uK 1).uK 3).uK 4).uK 4).uK 4).uK 4
theorem byE_ri {q : List Int × Rs} (h : Ri q.2) : Ri (byE q).2 := by
  unfold byE
  split
  · exact h
  · exact ((h.uK 1).rdB _).rdB _
theorem reC_ri (n m : Int) {r : Rs} (h : Ri r) : Ri (reC n m r) := by
  unfold reC
  split
  · exact h
  · exact h.rdF 2
theorem tkM_ri {r : Rs} (h : Ri r) (kd ct : Int) : Ri (tkM r kd ct).2 := by
  unfold tkM
  split
  · exact repM_ri tBk_ri _ _ (((((h.uK 4).uK 8).uK 4).uK 4).uK 4)
  split
  · exact repM_ri tBk_ri _ _ (h.uK 4)
  split
  · exact repM_ri tCh_ri _ _ h
  split
  · exact byE_ri (repM_uK4 _ h)
  split
  · exact tilM_ri tPr_ri _ _ ((h.uK 4).uK 4)
  split
  · exact (h.uK 4).uK 4
  split
  · exact tilM_ri tOr_ri _ _ ((h.uK 4).uK 4)
  split
  · exact reC_ri _ _ (tilM_ri (fun r h => h.uK 4) _ _ (reB_ri _ (((reA_ri ((h.uK 4).uK 4)).uK 1).uK 3)))
  · exact h.rdB _
set_option maxHeartbeats 16000000 in
theorem kParse (s : ByteArray) (hs : s.size ≤ 100000) : Fn Try.prog 9 #[.string s] [] []
    (fun v L' R' => ∃ ao c vs, v = .tuple #[.slice ao (pkM s).1.length c, .int .i64 (pkM s).2] ∧ SQ R' 1 ao (pkM s).1.length c (one1 vs) ∧ PksV R' (pkM s).1 vs ∧ ((pkM s).2 ≠ 0 → ao = none ∧ c = 0) ∧ L' = []) := by
  unfold pkM
  by_cases h0 : 1500 < s.size
  · rw [if_pos h0]
    refine fn_intro Try.func9 rfl Try.ntmps9 rfl (fun E => ?_)
    (repeat (first | ((first | (apply wo_v; rfl) ); (· first | (apply pv_ev; rfl) | (apply g_bi; first | (apply pv_len_str; rfl) ) )) | apply wo_nil | apply wc_seq | apply wc_region | apply wc_ret | (apply wc_true; rfl) | (apply wc_false; rfl) | (apply a_dec_t; rfl; (· first | assumption | omega)) ))
    exact ret2 rfl rfl rfl ⟨none, 0, [], rfl, SQ.nil _ _ _ _, PksV.nil _, fun _ => ⟨rfl, rfl⟩, rfl⟩ (by (repeat (first | apply sub_nil )); done) (by first | exact fun _ h => h | (intro r hr; cases hr; done) | (simp; done) | exact fun _ h => List.mem_append_left _ h | (intro r hr; simp [hr]; done))
  rw [if_neg h0, show paM (s.size + 1) true (s, 0) = paA true (s, 0) from rfl]
  generalize hQ : paA true (s, 0) = Q
  refine fn_intro Try.func9 rfl Try.ntmps9 rfl (fun E => ?_)
  (repeat (first | ((first | (apply wo_v; rfl) ); (· first | (apply pv_ev; rfl) | (apply g_bi; first | (apply pv_len_str; rfl) ) )) | apply wo_nil | apply wc_seq | apply wc_region | apply wc_skip | (apply wc_true; rfl) | (apply wc_false; rfl) | (apply a_dec_t; rfl; (· first | assumption | omega)) | (apply a_dec_f; rfl; (· first | assumption | omega)) ))
  (refine wo_call (octRead s) rfl (by (repeat (first | apply sub_nil )); done) (by first | exact fun _ h => h | (intro r hr; cases hr; done) | (simp; done) | exact fun _ h => List.mem_append_left _ h | (intro r hr; simp [hr]; done)) rfl ?_; rintro v L' R' ⟨g, rfl, rfl, rfl⟩ H' hH RR hR; simp only [List.cons_append, List.nil_append] at hH hR; subst hH; have hR := hR.symm; subst hR)
  (repeat (first | ((first | (apply wo_v; rfl) ); (· first | (apply pv_ev; rfl) )) | apply wo_nil | apply wc_seq | apply wc_region ))
  refine wc_own0 51 1 ?_
  refine wc_join0 (fun st => ∃ (l : List Pkt) (vs : List Value) (ao : Option Addr) (c : Nat) (r : Rs) (R : List Ro), r.2 = Q.2 ∧ (Q.2 = 0 → l = Q.1) ∧ PksV R l vs ∧ st = ⟨[(4, .pointer (some ⟨g, 0, none⟩)), (5, .slice ao l.length c)], [rdO g r.1 r.2, pksO ao l.length c vs], R⟩) ?_ ?_
  · refine wc_block ?_
    refine wc_loop' (fun q st => ∃ (f : Bool) (l : List Pkt) (vs : List Value) (ao : Option Addr) (c : Nat) (r : Rs) (R : List Ro), q = r.1.size + bo f ∧ (f = true ↔ l.length = 0) ∧ Ri r ∧ l.length + r.1.size ≤ 2000 - bo f ∧ l ++ (paA f r).1 = Q.1 ∧ (paA f r).2 = Q.2 ∧ PksV R l vs ∧ st = ⟨[(4, .pointer (some ⟨g, 0, none⟩)), (5, .slice ao l.length c)], [rdO g r.1 r.2, pksO ao l.length c vs], R⟩) ⟨true, [], [], none, 0, (s, 0), [], rfl, by simp, Ri.start s, by show 0 + s.size ≤ 2000 - 1; omega, by rw [hQ]; rfl, by rw [hQ], PksV.nil _, rfl⟩ (wk_mk (by (repeat (first | apply wkf_nil | (apply wkf_cons; rfl))); done) (by (repeat (first | apply sub_nil | (apply sub_cons; (· (repeat (first | apply sel_here | apply sel_there)))))); done) (by first | exact fun _ h => h | (intro r hr; cases hr; done) | (simp; done) | exact fun _ h => List.mem_append_left _ h | (intro r hr; simp [hr]; done))) ?_
    clear hQ
    rintro q st ⟨f, l, vs, ao, c, r, R, rfl, hf, hr, hlen, h1, h2, hV, rfl⟩
    have hvl := hV.1
    apply wc_seq
    refine wc_join (fun st => ¬ (r.1.size = 0 ∧ ¬ (f = true ∧ r.2 = 0)) ∧ st = ⟨[(4, .pointer (some ⟨g, 0, none⟩)), (5, .slice ao l.length c)], [rdO g r.1 r.2, pksO ao l.length c vs], R⟩) ?_ ?_
    · by_cases hc : r.1.size = 0 ∧ ¬ (f = true ∧ r.2 = 0)
      · obtain ⟨hz, hc⟩ := hc
        rw [paA_end ⟨hz, hc⟩] at h1 h2
        dsimp only at h1 h2
        rw [List.append_nil] at h1
        by_cases hl : l.length = 0
        · have he : r.2 ≠ 0 := fun h => hc ⟨hf.2 hl, h⟩
          (repeat (first | ((first | (apply wo_v; rfl) ); (· first | (apply pv_ev; rfl) )) | apply wc_seq | apply wc_region ))
          (refine wo_call (octLen g r.1 r.2) rfl (by (repeat (first | apply sub_nil )); done) (by first | exact fun _ h => h | (intro r hr; cases hr; done) | (simp; done) | exact fun _ h => List.mem_append_left _ h | (intro r hr; simp [hr]; done)) rfl ?_; rintro v L' R' ⟨rfl, rfl, rfl⟩ H' hH RR hR; simp only [List.cons_append, List.nil_append] at hH hR; subst hH; have hR := hR.symm; subst hR)
          (repeat (first | ((first | (apply wo_v; rfl) ); (· first | (apply pv_ev; rfl) | (apply g_bi; first | (apply pv_len_sl; rfl) ) )) | (apply wo_run; rfl; rfl) | (apply wo_skip; rfl; rfl; rfl; rfl) | (apply wo_skip_u; rfl; rfl; rfl) | (apply a_gt; rfl; rfl; (· first | assumption | omega)) | (apply a_gf; rfl; rfl; (· first | assumption | omega)) ))
          (refine wo_call (octErr g r.1 r.2) rfl (by (repeat (first | apply sub_nil )); done) (by first | exact fun _ h => h | (intro r hr; cases hr; done) | (simp; done) | exact fun _ h => List.mem_append_left _ h | (intro r hr; simp [hr]; done)) rfl ?_; rintro v L' R' ⟨rfl, rfl, rfl⟩ H' hH RR hR; simp only [List.cons_append, List.nil_append] at hH hR; subst hH; have hR := hR.symm; subst hR)
          (repeat (first | ((first | (apply wo_v; rfl) ); (· first | (apply pv_ev; rfl) | (apply g_pick; first | (apply pv_pick_t; rfl; rfl) | (apply pv_pick_f; rfl; rfl)) )) | apply wo_nil | (apply wc_exit; rfl) | (apply wc_true; rfl) | (apply wc_false; rfl) | (apply a_dec_t; rfl; (· first | assumption | omega)) | (apply a_dec_f; rfl; (· first | assumption | omega)) | (apply wo_run; rfl; rfl) ))
          exact cut_end ⟨l, vs, ao, c, r, R, h2, fun _ => h1, hV, rfl⟩ (wk_mk (by (repeat (first | apply wkf_nil | (apply wkf_cons; rfl))); done) (by (repeat (first | apply sub_nil )); done) (by first | exact fun _ h => h | (intro r hr; cases hr; done) | (simp; done) | exact fun _ h => List.mem_append_left _ h | (intro r hr; simp [hr]; done)))
        · (repeat (first | ((first | (apply wo_v; rfl) ); (· first | (apply pv_ev; rfl) )) | apply wc_seq | apply wc_region ))
          (refine wo_call (octLen g r.1 r.2) rfl (by (repeat (first | apply sub_nil )); done) (by first | exact fun _ h => h | (intro r hr; cases hr; done) | (simp; done) | exact fun _ h => List.mem_append_left _ h | (intro r hr; simp [hr]; done)) rfl ?_; rintro v L' R' ⟨rfl, rfl, rfl⟩ H' hH RR hR; simp only [List.cons_append, List.nil_append] at hH hR; subst hH; have hR := hR.symm; subst hR)
          (repeat (first | ((first | (apply wo_v; rfl) ); (· first | (apply pv_ev; rfl) | (apply g_pick; first | (apply pv_pick_t; rfl; rfl) | (apply pv_pick_f; rfl; rfl)) | (apply g_bi; first | (apply pv_len_sl; rfl) ) )) | apply wo_nil | (apply wc_exit; rfl) | (apply wc_true; rfl) | (apply wc_false; rfl) | (apply wo_run; rfl; rfl) | (apply wo_skip; rfl; rfl; rfl; rfl) | (apply wo_skip_u; rfl; rfl; rfl) | (apply a_gt; rfl; rfl; (· first | assumption | omega)) | (apply a_gf; rfl; rfl; (· first | assumption | omega)) ))
          exact cut_end ⟨l, vs, ao, c, r, R, h2, fun _ => h1, hV, rfl⟩ (wk_mk (by (repeat (first | apply wkf_nil | (apply wkf_cons; rfl))); done) (by (repeat (first | apply sub_nil )); done) (by first | exact fun _ h => h | (intro r hr; cases hr; done) | (simp; done) | exact fun _ h => List.mem_append_left _ h | (intro r hr; simp [hr]; done)))
      · have hgo : (0 < r.1.size ∧ True) ∨ (r.1.size = 0 ∧ l.length = 0 ∧ r.2 = 0) := by
          by_cases hz : 0 < r.1.size
          · exact .inl ⟨hz, trivial⟩
          · refine .inr ⟨by omega, ?_⟩
            cases f with
            | false => exact absurd ⟨by omega, by simp⟩ hc
            | true =>
              by_cases he : r.2 = 0
              · exact ⟨hf.1 rfl, he⟩
              · exact absurd ⟨by omega, fun h => he h.2⟩ hc
        rcases hgo with ⟨q1, _⟩ | ⟨q1, q2, q3⟩
        · (repeat (first | ((first | (apply wo_v; rfl) ); (· first | (apply pv_ev; rfl) )) | apply wc_seq | apply wc_region ))
          (refine wo_call (octLen g r.1 r.2) rfl (by (repeat (first | apply sub_nil )); done) (by first | exact fun _ h => h | (intro r hr; cases hr; done) | (simp; done) | exact fun _ h => List.mem_append_left _ h | (intro r hr; simp [hr]; done)) rfl ?_; rintro v L' R' ⟨rfl, rfl, rfl⟩ H' hH RR hR; simp only [List.cons_append, List.nil_append] at hH hR; subst hH; have hR := hR.symm; subst hR)
          (repeat (first | ((first | (apply wo_v; rfl) ); (· first | (apply pv_ev; rfl) | (apply g_pick; first | (apply pv_pick_t; rfl; rfl) ) )) | apply wo_nil | apply wc_skip | (apply wc_true; rfl) | (apply wo_run; rfl; rfl) | (apply wo_skip; rfl; rfl; rfl; rfl) | (apply wo_skip_u; rfl; rfl; rfl) | (apply a_gt; rfl; rfl; (· first | assumption | omega)) ))
          exact cut_end ⟨hc, rfl⟩ (wk_mk (by (repeat (first | apply wkf_nil | (apply wkf_cons; rfl))); done) (by (repeat (first | apply sub_nil )); done) (by first | exact fun _ h => h | (intro r hr; cases hr; done) | (simp; done) | exact fun _ h => List.mem_append_left _ h | (intro r hr; simp [hr]; done)))
        · (repeat (first | ((first | (apply wo_v; rfl) ); (· first | (apply pv_ev; rfl) )) | apply wc_seq | apply wc_region ))
          (refine wo_call (octLen g r.1 r.2) rfl (by (repeat (first | apply sub_nil )); done) (by first | exact fun _ h => h | (intro r hr; cases hr; done) | (simp; done) | exact fun _ h => List.mem_append_left _ h | (intro r hr; simp [hr]; done)) rfl ?_; rintro v L' R' ⟨rfl, rfl, rfl⟩ H' hH RR hR; simp only [List.cons_append, List.nil_append] at hH hR; subst hH; have hR := hR.symm; subst hR)
          (repeat (first | ((first | (apply wo_v; rfl) ); (· first | (apply pv_ev; rfl) | (apply g_bi; first | (apply pv_len_sl; rfl) ) )) | (apply wo_run; rfl; rfl) | (apply wo_skip; rfl; rfl; rfl; rfl) | (apply wo_skip_u; rfl; rfl; rfl) | (apply a_gt; rfl; rfl; (· first | assumption | omega)) | (apply a_gf; rfl; rfl; (· first | assumption | omega)) ))
          (refine wo_call (octErr g r.1 r.2) rfl (by (repeat (first | apply sub_nil )); done) (by first | exact fun _ h => h | (intro r hr; cases hr; done) | (simp; done) | exact fun _ h => List.mem_append_left _ h | (intro r hr; simp [hr]; done)) rfl ?_; rintro v L' R' ⟨rfl, rfl, rfl⟩ H' hH RR hR; simp only [List.cons_append, List.nil_append] at hH hR; subst hH; have hR := hR.symm; subst hR)
          (repeat (first | ((first | (apply wo_v; rfl) ); (· first | (apply pv_ev; rfl) | (apply g_pick; first | (apply pv_pick_t; rfl; rfl) | (apply pv_pick_f; rfl; rfl)) )) | apply wo_nil | apply wc_skip | (apply wc_true; rfl) | (apply wc_false; rfl) | (apply a_dec_t; rfl; (· first | assumption | omega)) | (apply wo_run; rfl; rfl) ))
          exact cut_end ⟨hc, rfl⟩ (wk_mk (by (repeat (first | apply wkf_nil | (apply wkf_cons; rfl))); done) (by (repeat (first | apply sub_nil )); done) (by first | exact fun _ h => h | (intro r hr; cases hr; done) | (simp; done) | exact fun _ h => List.mem_append_left _ h | (intro r hr; simp [hr]; done)))
    rintro st ⟨hc, rfl⟩
    have hless : (stM r).2.1.size + bo false < r.1.size + bo f := by
      have e : bo false = 0 := rfl
      rw [e]
      by_cases h0 : 0 < r.1.size
      · have := stM_less hr h0; omega
      · have hf : f = true := by
          cases f with
          | true => rfl
          | false => exact absurd ⟨by omega, by simp⟩ hc
        subst hf
        have e2 : bo true = 1 := rfl
        have := stM_le (r := r)
        omega
    have hri := stM_ri hr
    have hgoS : ((stM r).2.2 ≠ 0 ∧ l = Q.1 ∧ (stM r).2.2 = Q.2) ∨ ((stM r).2.2 = 0 ∧ l ++ ((stM r).1 :: (paA false (stM r).2).1) = Q.1 ∧ (paA false (stM r).2).2 = Q.2) := by
      by_cases he : (stM r).2.2 = 0
      · rw [paA_go hr hc he] at h1 h2
        exact .inr ⟨he, h1, h2⟩
      · rw [paA_err hc he] at h1 h2
        exact .inl ⟨he, by simpa using h1, h2⟩
    clear h1 h2 hc
    unfold stM at hgoS hless hri
    dsimp only at hgoS hless hri
    have s1 := uK_size 1 r
    have b1 := uK1_b r
    have c1 := rU8 g r (by omega)
    have i1 := hr.uK 1
    generalize uK 1 r = y at *
    obtain ⟨a, r1⟩ := y
    dsimp only at *
    have s2 := uK_size 1 r1
    have b2 := uK1_b r1
    have c2 := rU8 g r1 (by omega)
    have i2 := i1.uK 1
    generalize uK 1 r1 = y at *
    obtain ⟨k, r2⟩ := y
    dsimp only at *
    have s3 := hdM_size a k r2
    have i3 := hdM_ri a k i2
    apply wc_block
    apply wc_seq
    apply wc_region
    (repeat (first | ((first | (apply wo_v; rfl) ); (· first | (apply pv_ev; rfl) )) ))
    (refine wo_call (c1) rfl (by (repeat (first | apply sub_nil )); done) (by first | exact fun _ h => h | (intro r hr; cases hr; done) | (simp; done) | exact fun _ h => List.mem_append_left _ h | (intro r hr; simp [hr]; done)) rfl ?_; rintro v L' R' ⟨rfl, rfl, rfl⟩ H' hH RR hR; simp only [List.cons_append, List.nil_append] at hH hR; subst hH; have hR := hR.symm; subst hR)
    (repeat (first | ((first | (apply wo_v; rfl) ); (· first | (apply pv_ev; rfl) )) ))
    (refine wo_call (c2) rfl (by (repeat (first | apply sub_nil )); done) (by first | exact fun _ h => h | (intro r hr; cases hr; done) | (simp; done) | exact fun _ h => List.mem_append_left _ h | (intro r hr; simp [hr]; done)) rfl ?_; rintro v L' R' ⟨rfl, rfl, rfl⟩ H' hH RR hR; simp only [List.cons_append, List.nil_append] at hH hR; subst hH; have hR := hR.symm; subst hR)
    (repeat (first | ((first | (apply wo_v; rfl) ); (· first | (apply pv_ev; rfl) )) | apply wo_nil))
    apply wc_seq
    refine wc_join0 (fun st => st = ⟨[(4, .pointer (some ⟨g, 0, none⟩)), (5, .slice ao l.length c), (6, .int .u8 a), (7, .int .u8 k)], [rdO g (hdM a k r2).1 (hdM a k r2).2, pksO ao l.length c vs], R⟩) ?_ ?_
    · have e6 := x6 b1
      unfold hdM
      have hd : (r2.2 ≠ 0 ∧ True) ∨ (r2.2 = 0 ∧ a / 64 ≠ 2 ∧ True) ∨ (r2.2 = 0 ∧ a / 64 = 2 ∧ k < 192 ∧ True) ∨ (r2.2 = 0 ∧ a / 64 = 2 ∧ ¬ k < 192 ∧ 223 < k ∧ True) ∨ (r2.2 = 0 ∧ a / 64 = 2 ∧ ¬ k < 192 ∧ ¬ 223 < k) := by
        by_cases q1 : r2.2 = 0
        · by_cases q2 : a / 64 = 2
          · by_cases q3 : k < 192
            · exact .inr (.inr (.inl ⟨q1, q2, q3, trivial⟩))
            · by_cases q4 : 223 < k
              · exact .inr (.inr (.inr (.inl ⟨q1, q2, q3, q4, trivial⟩)))
              · exact .inr (.inr (.inr (.inr ⟨q1, q2, q3, q4⟩)))
          · exact .inr (.inl ⟨q1, q2, trivial⟩)
        · exact .inl ⟨q1, trivial⟩
      rcases hd with ⟨q1, _⟩ | ⟨q1, q2, _⟩ | ⟨q1, q2, q3, _⟩ | ⟨q1, q2, q3, q4, _⟩ | ⟨q1, q2, q3, q4⟩
      · rw [if_neg (by omega)]
        (repeat (first | ((first | (apply wo_v; rfl) ); (· first | (apply pv_ev; rfl) )) | apply wc_seq | apply wc_region ))
        (refine wo_call (octErr g r2.1 r2.2) rfl (by (repeat (first | apply sub_nil )); done) (by first | exact fun _ h => h | (intro r hr; cases hr; done) | (simp; done) | exact fun _ h => List.mem_append_left _ h | (intro r hr; simp [hr]; done)) rfl ?_; rintro v L' R' ⟨rfl, rfl, rfl⟩ H' hH RR hR; simp only [List.cons_append, List.nil_append] at hH hR; subst hH; have hR := hR.symm; subst hR)
        (repeat (first | ((first | (apply wo_v; rfl) ); (· first | (apply pv_ev; rfl) | (apply g_pick; first | (apply pv_pick_t; rfl; rfl) | (apply pv_pick_f; rfl; rfl)) )) | apply wo_nil | apply wc_skip | (apply wc_true; rfl) | (apply wc_false; rfl) | (apply wo_run; rfl; rfl) | (apply wo_skip; rfl; rfl; rfl; rfl) | (apply wo_skip_u; rfl; rfl; rfl) | (apply a_gt; rfl; rfl; (· first | assumption | omega)) | (apply a_gf; rfl; rfl; (· first | assumption | omega)) ))
        exact cut_end rfl (wk_mk (by (repeat (first | apply wkf_nil | (apply wkf_cons; rfl))); done) (by (repeat (first | apply sub_nil )); done) (by first | exact fun _ h => h | (intro r hr; cases hr; done) | (simp; done) | exact fun _ h => List.mem_append_left _ h | (intro r hr; simp [hr]; done)))
      · rw [if_pos (by omega)]
        (repeat (first | ((first | (apply wo_v; rfl) ); (· first | (apply pv_ev; rfl) )) | apply wc_seq | apply wc_region ))
        (refine wo_call (octErr g r2.1 r2.2) rfl (by (repeat (first | apply sub_nil )); done) (by first | exact fun _ h => h | (intro r hr; cases hr; done) | (simp; done) | exact fun _ h => List.mem_append_left _ h | (intro r hr; simp [hr]; done)) rfl ?_; rintro v L' R' ⟨rfl, rfl, rfl⟩ H' hH RR hR; simp only [List.cons_append, List.nil_append] at hH hR; subst hH; have hR := hR.symm; subst hR)
        (repeat (first | ((first | (apply wo_v; rfl) ); (· first | (apply pv_ev; rfl) | (apply g_pick; first | (apply pv_pick_t; rfl; rfl) ) | (apply g_bin; first | (apply a_shr; rfl; rfl; rfl; omega; rfl) ) )) | apply wo_nil | apply wc_region | (apply wc_true; rfl) | (apply wo_run; rfl; rfl) | (apply wo_skip; rfl; rfl; rfl; rfl) | (apply wo_skip_u; rfl; rfl; rfl) | (apply a_gt; rfl; rfl; (· first | assumption | omega)) ))
        (refine wo_call (octFail g r2.1 r2.2 2) rfl (by (repeat (first | apply sub_nil )); done) (by first | exact fun _ h => h | (intro r hr; cases hr; done) | (simp; done) | exact fun _ h => List.mem_append_left _ h | (intro r hr; simp [hr]; done)) rfl ?_; rintro v L' R' ⟨rfl, rfl, rfl⟩ H' hH RR hR; simp only [List.cons_append, List.nil_append] at hH hR; subst hH; have hR := hR.symm; subst hR)
        (repeat (first | apply wo_nil ))
        exact cut_end rfl (wk_mk (by (repeat (first | apply wkf_nil | (apply wkf_cons; rfl))); done) (by (repeat (first | apply sub_nil )); done) (by first | exact fun _ h => h | (intro r hr; cases hr; done) | (simp; done) | exact fun _ h => List.mem_append_left _ h | (intro r hr; simp [hr]; done)))
      · rw [if_pos (by omega)]
        (repeat (first | ((first | (apply wo_v; rfl) ); (· first | (apply pv_ev; rfl) )) | apply wc_seq | apply wc_region ))
        (refine wo_call (octErr g r2.1 r2.2) rfl (by (repeat (first | apply sub_nil )); done) (by first | exact fun _ h => h | (intro r hr; cases hr; done) | (simp; done) | exact fun _ h => List.mem_append_left _ h | (intro r hr; simp [hr]; done)) rfl ?_; rintro v L' R' ⟨rfl, rfl, rfl⟩ H' hH RR hR; simp only [List.cons_append, List.nil_append] at hH hR; subst hH; have hR := hR.symm; subst hR)
        (repeat (first | ((first | (apply wo_v; rfl) ); (· first | (apply pv_ev; rfl) | (apply g_pick; first | (apply pv_pick_t; rfl; rfl) | (apply pv_pick_f; rfl; rfl)) | (apply g_bin; first | (apply a_shr; rfl; rfl; rfl; omega; rfl) ) )) | apply wo_nil | apply wc_region | (apply wc_true; rfl) | (apply wo_run; rfl; rfl) | (apply wo_skip; rfl; rfl; rfl; rfl) | (apply wo_skip_u; rfl; rfl; rfl) | (apply a_gt; rfl; rfl; (· first | assumption | omega)) | (apply a_gf; rfl; rfl; (· first | assumption | omega)) ))
        (refine wo_call (octFail g r2.1 r2.2 2) rfl (by (repeat (first | apply sub_nil )); done) (by first | exact fun _ h => h | (intro r hr; cases hr; done) | (simp; done) | exact fun _ h => List.mem_append_left _ h | (intro r hr; simp [hr]; done)) rfl ?_; rintro v L' R' ⟨rfl, rfl, rfl⟩ H' hH RR hR; simp only [List.cons_append, List.nil_append] at hH hR; subst hH; have hR := hR.symm; subst hR)
        (repeat (first | apply wo_nil ))
        exact cut_end rfl (wk_mk (by (repeat (first | apply wkf_nil | (apply wkf_cons; rfl))); done) (by (repeat (first | apply sub_nil )); done) (by first | exact fun _ h => h | (intro r hr; cases hr; done) | (simp; done) | exact fun _ h => List.mem_append_left _ h | (intro r hr; simp [hr]; done)))
      · rw [if_pos (by omega)]
        (repeat (first | ((first | (apply wo_v; rfl) ); (· first | (apply pv_ev; rfl) )) | apply wc_seq | apply wc_region ))
        (refine wo_call (octErr g r2.1 r2.2) rfl (by (repeat (first | apply sub_nil )); done) (by first | exact fun _ h => h | (intro r hr; cases hr; done) | (simp; done) | exact fun _ h => List.mem_append_left _ h | (intro r hr; simp [hr]; done)) rfl ?_; rintro v L' R' ⟨rfl, rfl, rfl⟩ H' hH RR hR; simp only [List.cons_append, List.nil_append] at hH hR; subst hH; have hR := hR.symm; subst hR)
        (repeat (first | ((first | (apply wo_v; rfl) ); (· first | (apply pv_ev; rfl) | (apply g_pick; first | (apply pv_pick_t; rfl; rfl) | (apply pv_pick_f; rfl; rfl)) | (apply g_bin; first | (apply a_shr; rfl; rfl; rfl; omega; rfl) ) )) | apply wo_nil | apply wc_region | (apply wc_true; rfl) | (apply wc_false; rfl) | (apply a_dec_t; rfl; (· first | assumption | omega)) | (apply wo_run; rfl; rfl) | (apply wo_skip; rfl; rfl; rfl; rfl) | (apply wo_skip_u; rfl; rfl; rfl) | (apply a_gt; rfl; rfl; (· first | assumption | omega)) | (apply a_gf; rfl; rfl; (· first | assumption | omega)) ))
        (refine wo_call (octFail g r2.1 r2.2 2) rfl (by (repeat (first | apply sub_nil )); done) (by first | exact fun _ h => h | (intro r hr; cases hr; done) | (simp; done) | exact fun _ h => List.mem_append_left _ h | (intro r hr; simp [hr]; done)) rfl ?_; rintro v L' R' ⟨rfl, rfl, rfl⟩ H' hH RR hR; simp only [List.cons_append, List.nil_append] at hH hR; subst hH; have hR := hR.symm; subst hR)
        (repeat (first | apply wo_nil ))
        exact cut_end rfl (wk_mk (by (repeat (first | apply wkf_nil | (apply wkf_cons; rfl))); done) (by (repeat (first | apply sub_nil )); done) (by first | exact fun _ h => h | (intro r hr; cases hr; done) | (simp; done) | exact fun _ h => List.mem_append_left _ h | (intro r hr; simp [hr]; done)))
      · rw [if_neg (by omega)]
        (repeat (first | ((first | (apply wo_v; rfl) ); (· first | (apply pv_ev; rfl) )) | apply wc_seq | apply wc_region ))
        (refine wo_call (octErr g r2.1 r2.2) rfl (by (repeat (first | apply sub_nil )); done) (by first | exact fun _ h => h | (intro r hr; cases hr; done) | (simp; done) | exact fun _ h => List.mem_append_left _ h | (intro r hr; simp [hr]; done)) rfl ?_; rintro v L' R' ⟨rfl, rfl, rfl⟩ H' hH RR hR; simp only [List.cons_append, List.nil_append] at hH hR; subst hH; have hR := hR.symm; subst hR)
        (repeat (first | ((first | (apply wo_v; rfl) ); (· first | (apply pv_ev; rfl) | (apply g_pick; first | (apply pv_pick_t; rfl; rfl) | (apply pv_pick_f; rfl; rfl)) | (apply g_bin; first | (apply a_shr; rfl; rfl; rfl; omega; rfl) ) )) | apply wo_nil | apply wc_skip | (apply wc_true; rfl) | (apply wc_false; rfl) | (apply a_dec_t; rfl; (· first | assumption | omega)) | (apply a_dec_f; rfl; (· first | assumption | omega)) | (apply wo_run; rfl; rfl) | (apply wo_skip; rfl; rfl; rfl; rfl) | (apply wo_skip_u; rfl; rfl; rfl) | (apply a_gt; rfl; rfl; (· first | assumption | omega)) | (apply a_gf; rfl; rfl; (· first | assumption | omega)) ))
        exact cut_end rfl (wk_mk (by (repeat (first | apply wkf_nil | (apply wkf_cons; rfl))); done) (by (repeat (first | apply sub_nil )); done) (by first | exact fun _ h => h | (intro r hr; cases hr; done) | (simp; done) | exact fun _ h => List.mem_append_left _ h | (intro r hr; simp [hr]; done)))
    rintro st rfl
    generalize hdM a k r2 = r3 at *
    clear c1 c2
    have x2 : decide (0 < bits .and .u8 a 32) = decide (a / 32 % 2 = 1) := by rw [and8_32 b1]; exact decide_eq_decide.2 (by omega)
    have x3 := and8_31 b1
    have c3 := kBody g r3 (by omega) (decide (a / 32 % 2 = 1))
    have hb : (bdM r3 (decide (a / 32 % 2 = 1))).1.size ≤ 1000000 ∧ (bdM r3 (decide (a / 32 % 2 = 1))).2.1.size ≤ r3.1.size := by
      unfold bdM
      have h1 := bdE_size (decide (a / 32 % 2 = 1)) (rdB (uK 2 r3).2.1 (uK 2 r3).2.2 (4 * (uK 2 r3).1)).1 (rdB (uK 2 r3).2.1 (uK 2 r3).2.2 (4 * (uK 2 r3).1)).2
      have h2 := uK2_b r3
      have h3 := rdB_size (uK 2 r3).2.1 (uK 2 r3).2.2 (4 * (uK 2 r3).1) (by omega)
      have h4 := rdB_size2 (uK 2 r3).2.1 (uK 2 r3).2.2 (4 * (uK 2 r3).1)
      have h5 := uK_size 2 r3
      omega
    generalize bdM r3 (decide (a / 32 % 2 = 1)) = y at *
    obtain ⟨b, r4⟩ := y
    dsimp only at *
    (repeat (first | ((first | (apply wo_v; rfl) ); (· first | (apply pv_ev; rfl) | (apply g_bin; first | (apply pv_and; rfl; rfl) ) )) | apply wc_seq | apply wc_region ))
    rw [x2]
    (refine wo_call (c3) rfl (by (repeat (first | apply sub_nil )); done) (by first | exact fun _ h => h | (intro r hr; cases hr; done) | (simp; done) | exact fun _ h => List.mem_append_left _ h | (intro r hr; simp [hr]; done)) rfl ?_; rintro v L' R' ⟨rfl, rfl, rfl⟩ H' hH RR hR; simp only [List.cons_append, List.nil_append] at hH hR; subst hH; have hR := hR.symm; subst hR)
    (repeat (first | ((first | (apply wo_v; rfl) ); (· first | (apply pv_ev; rfl) )) ))
    (refine wo_call (octRead b) rfl (by (repeat (first | apply sub_nil )); done) (by first | exact fun _ h => h | (intro r hr; cases hr; done) | (simp; done) | exact fun _ h => List.mem_append_left _ h | (intro r hr; simp [hr]; done)) rfl ?_; rintro v L' R' ⟨gb, rfl, rfl, rfl⟩ H' hH RR hR; simp only [List.cons_append, List.nil_append] at hH hR; subst hH; have hR := hR.symm; subst hR)
    (repeat (first | ((first | (apply wo_v; rfl) ); (· first | (apply pv_ev; rfl) )) | apply wo_nil | apply wc_seq | apply wc_region ))
    (refine wo_call (octErr g r4.1 r4.2) rfl (by (repeat (first | apply sub_nil | (apply sub_cons; (· (repeat (first | apply sel_here | apply sel_there)))))); done) (by first | exact fun _ h => h | (intro r hr; cases hr; done) | (simp; done) | exact fun _ h => List.mem_append_left _ h | (intro r hr; simp [hr]; done)) rfl ?_; rintro v L' R' ⟨rfl, rfl, rfl⟩ H' hH RR hR; simp only [List.cons_append, List.nil_append] at hH hR; subst hH; have hR := hR.symm; subst hR)
    unfold stB at hgoS hless hri
    by_cases he4 : r4.2 = 0
    · rw [if_neg (by simp [he4])] at hgoS hless hri
      dsimp only at hgoS hless hri
      have c4 := kTake gb (b, 0) (Ri.start b) hb.1 k (a % 32) (by omega)
      have hri5 : Ri (tkM (b, 0) k (a % 32)).2 := tkM_ri (Ri.start b) k _
      generalize tkM (b, 0) k (a % 32) = y at *
      obtain ⟨p, r5⟩ := y
      dsimp only at *
      have c5 := octEnd gb r5.1 r5.2 hri5
      have c6 := octFail g r4.1 r4.2 (rdE r5.1 r5.2)
      (repeat (first | ((first | (apply wo_v; rfl) ); (· first | (apply pv_ev; rfl) | (apply g_bin; first | (apply pv_and; rfl; rfl) ) )) | apply wo_nil | apply wc_seq | apply wc_region | apply wc_skip | (apply wc_true; rfl) | (apply wc_false; rfl) | (apply a_dec_t; rfl; (· first | assumption | omega)) | (apply a_dec_f; rfl; (· first | assumption | omega)) ))
      rw [x3]
      (refine wo_call (c4) rfl (by (repeat (first | apply sub_nil | (apply sub_cons; (· (repeat (first | apply sel_here | apply sel_there)))))); done) (by first | exact fun _ h => h | (intro r hr; cases hr; done) | (simp; done) | exact fun _ h => List.mem_append_left _ h | (intro r hr; simp [hr]; done)) rfl ?_; rintro v L' R' ⟨hp, rfl⟩ H' hH RR hR; simp only [List.cons_append, List.nil_append] at hH hR; subst hH; have hR := hR.symm; subst hR)
      (repeat (first | ((first | (apply wo_v; rfl) ); (· first | (apply pv_ev; rfl) )) | apply wo_nil | apply wc_seq | apply wc_region ))
      (refine wo_call (c5) rfl (by (repeat (first | apply sub_nil )); done) (by first | exact fun _ h => h | (intro r hr; cases hr; done) | (simp; done) | exact fun _ h => List.mem_append_left _ h | (intro r hr; simp [hr]; done)) rfl ?_; rintro v L' R' ⟨rfl, rfl, rfl⟩ H' hH RR hR; simp only [List.cons_append, List.nil_append] at hH hR; subst hH; have hR := hR.symm; subst hR)
      have ef : (rdF r4.1 r4.2 (rdE r5.1 r5.2)).2 = rdE r5.1 r5.2 := by
        unfold rdF
        split
        · rfl
        · rename_i hh; show r4.2 = _; rw [he4]
          by_cases h9 : rdE r5.1 r5.2 = 0
          · exact h9.symm
          · exact absurd ⟨he4, h9⟩ hh
      rw [ef] at hgoS
      by_cases he5 : rdE r5.1 r5.2 = 0
      · have ef2 : rdF r4.1 r4.2 (rdE r5.1 r5.2) = r4 := by unfold rdF; rw [if_neg (fun h => h.2 he5)]
        rw [ef2] at hgoS hless hri
        obtain ⟨_, h1, h2⟩ := hgoS.resolve_left (fun h => h.1 he5)
        have h1v := hp.one
        (repeat (first | ((first | (apply wo_v; rfl) ); (· first | (apply pv_ev; rfl) )) | apply wo_nil | apply wc_seq | apply wc_region | apply wc_skip | (apply wc_true; rfl) | (apply wc_false; rfl) | (apply a_dec_t; rfl; (· first | assumption | omega)) | (apply a_dec_f; rfl; (· first | assumption | omega)) | (apply wo_bsl; (· (repeat (first | (apply Rws'.one; rfl; rfl; rfl) | (apply Rws'.agg; rfl; rfl; rfl)))); rfl; rfl; rfl; rfl; intro bx) ))
        refine wo_bsl (xs := [[v]]) (Rws'.one rfl h1v rfl .nil) rfl rfl rfl rfl (fun bx => ?_)
        refine wo_app rfl rfl (by (repeat (first | apply sel_here | apply sel_there)); done) (by (repeat (first | apply sel_here )); done) (by unfold maxLen; omega) (by omega) rfl (fun ao2 c2 => ?_)
        (repeat (first | ((first | (apply wo_v; rfl) ); (· first | (apply pv_ev; rfl) )) | apply wo_nil ))
        exact loop_end ⟨false, l ++ [p], vs ++ [v], ao2, c2, r4, R' ++ R, rfl, by simp, hri, by have e : bo false = 0 := rfl; rw [List.length_append, List.length_singleton, e]; have := bo_le f; omega, by rw [List.append_assoc]; exact h1, h2, (hV.mono (fun r hr => List.mem_append_right _ hr)).snoc (hp.mono (fun r hr => List.mem_append_left _ hr)), by rw [List.length_append, List.length_singleton, pksO_snoc]⟩ hless (wk_mk (by (repeat (first | apply wkf_nil | (apply wkf_cons; rfl))); done) (by (repeat (first | apply sub_nil | (apply sub_cons; (· (repeat (first | apply sel_here | apply sel_there)))))); done) (by first | exact fun _ h => h | (intro r hr; cases hr; done) | (simp; done) | exact fun _ h => List.mem_append_left _ h | (intro r hr; simp [hr]; done)))
      · obtain ⟨_, h1, h2⟩ := hgoS.resolve_right (fun h => he5 h.1)
        (repeat (first | ((first | (apply wo_v; rfl) ); (· first | (apply pv_ev; rfl) )) | apply wo_nil | apply wc_seq | apply wc_region | (apply wc_true; rfl) | (apply wc_false; rfl) | (apply a_dec_t; rfl; (· first | assumption | omega)) ))
        (refine wo_call (c6) rfl (by (repeat (first | apply sub_nil | (apply sub_cons; (· (repeat (first | apply sel_here | apply sel_there)))))); done) (by first | exact fun _ h => h | (intro r hr; cases hr; done) | (simp; done) | exact fun _ h => List.mem_append_left _ h | (intro r hr; simp [hr]; done)) rfl ?_; rintro v L' R' ⟨rfl, rfl, rfl⟩ H' hH RR hR; simp only [List.cons_append, List.nil_append] at hH hR; subst hH; have hR := hR.symm; subst hR)
        (repeat (first | apply wo_nil | (apply wc_exit; rfl) ))
        exact cut_end ⟨l, vs, ao, c, _, R' ++ R, ef.trans h2, fun _ => h1, hV.mono (fun r hr => List.mem_append_right _ hr), rfl⟩ (wk_mk (by (repeat (first | apply wkf_nil | (apply wkf_cons; rfl))); done) (by (repeat (first | apply sub_nil | (apply sub_cons; (· (repeat (first | apply sel_here | apply sel_there)))))); done) (by first | exact fun _ h => h | (intro r hr; cases hr; done) | (simp; done) | exact fun _ h => List.mem_append_left _ h | (intro r hr; simp [hr]; done)))
    · rw [if_pos he4] at hgoS hless hri
      obtain ⟨_, h1, h2⟩ := hgoS.resolve_right (fun h => he4 h.1)
      (repeat (first | ((first | (apply wo_v; rfl) ); (· first | (apply pv_ev; rfl) )) | apply wo_nil | (apply wc_exit; rfl) | (apply wc_true; rfl) | (apply wc_false; rfl) | (apply a_dec_t; rfl; (· first | assumption | omega)) ))
      exact cut_end ⟨l, vs, ao, c, r4, R, h2, fun _ => h1, hV, rfl⟩ (wk_mk (by (repeat (first | apply wkf_nil | (apply wkf_cons; rfl))); done) (by (repeat (first | apply sub_nil | (apply sub_cons; (· (repeat (first | apply sel_here | apply sel_there)))))); done) (by first | exact fun _ h => h | (intro r hr; cases hr; done) | (simp; done) | exact fun _ h => List.mem_append_left _ h | (intro r hr; simp [hr]; done)))
  rintro st ⟨l, vs, ao, c, r, R, h1, h2, hV, rfl⟩
  (repeat (first | ((first | (apply wo_v; rfl) ); (· first | (apply pv_ev; rfl) )) | apply wc_seq | apply wc_region ))
  (refine wo_call (octErr g r.1 r.2) rfl (by (repeat (first | apply sub_nil )); done) (by first | exact fun _ h => h | (intro r hr; cases hr; done) | (simp; done) | exact fun _ h => List.mem_append_left _ h | (intro r hr; simp [hr]; done)) rfl ?_; rintro v L' R' ⟨rfl, rfl, rfl⟩ H' hH RR hR; simp only [List.cons_append, List.nil_append] at hH hR; subst hH; have hR := hR.symm; subst hR)
  rw [h1]
  by_cases he : Q.2 = 0
  · rw [if_neg (by simp [he])]
    have h2 := h2 he
    subst h2
    refine wo_still (ao := ao) (n := Q.1.length) (c := c) (by (repeat (first | apply sel_here | apply sel_there)); done) (fun R1 hS1 => ?_)
    (repeat (first | ((first | (apply wo_v; rfl) ); (· first | (apply pv_ev; rfl) )) | apply wo_nil | apply wc_seq | apply wc_region | apply wc_skip | apply wc_ret | (apply wc_true; rfl) | (apply wc_false; rfl) | (apply a_dec_t; rfl; (· first | assumption | omega)) | (apply a_dec_f; rfl; (· first | assumption | omega)) ))
    exact ret2 rfl rfl rfl ⟨ao, c, vs, rfl, hS1.sq, hV.mono (fun r hr => List.mem_append_right _ hr), fun h => absurd rfl h, rfl⟩ (by (repeat (first | apply sub_nil )); done) (by first | exact fun _ h => h | (intro r hr; cases hr; done) | (simp; done) | exact fun _ h => List.mem_append_left _ h | (intro r hr; simp [hr]; done))
  · rw [if_pos he]
    (repeat (first | ((first | (apply wo_v; rfl) ); (· first | (apply pv_ev; rfl) )) | apply wo_nil | apply wc_seq | apply wc_region | apply wc_ret | (apply wc_true; rfl) | (apply wc_false; rfl) | (apply a_dec_t; rfl; (· first | assumption | omega)) ))
    exact ret2 rfl rfl rfl ⟨none, 0, [], rfl, SQ.nil _ _ _ _, PksV.nil _, fun _ => ⟨rfl, rfl⟩, rfl⟩ (by (repeat (first | apply sub_nil )); done) (by first | exact fun _ h => h | (intro r hr; cases hr; done) | (simp; done) | exact fun _ h => List.mem_append_left _ h | (intro r hr; simp [hr]; done))
end Go.Proofs.Yteaccbbmphcmnaa
