/-
  Texts of this proof, laid together (part 7 of 7).
-/
import Derived.Test.YteaccbbmphcmnaaB6
import Derived.Deep.Slices
/-
  Layer 5's document: blocks, chunks.
-/
namespace Go.Proofs.Yteaccbbmphcmnaa
set_option linter.unusedSimpArgs false
set_option linter.unusedVariables false
open Go.RowKit
attribute [local irreducible] Pv WO WC Fn
set_option maxRecDepth 100000
attribute [local irreducible] ByteArray.extract

theorem numsS4 (k : Nat) (a b c d : Int) : numsS k [a, b, c, d] = numS k a ++ (numS k b ++ (numS k c ++ numS k d)) := by
  show numS k a ++ (numS k b ++ (numS k c ++ (numS k d ++ E0))) = _
  rw [append_E0]
theorem numsS2 (k : Nat) (a b : Int) : numsS k [a, b] = numS k a ++ numS k b := by
  show numS k a ++ (numS k b ++ E0) = _
  rw [append_E0]
theorem bkT_eq (b : Bk) : bkT b = numS 4 b.ss ++ numS 1 b.lo ++ numS 3 b.tt ++ numS 4 b.la ++ numS 4 b.ji ++ numS 4 b.ls ++ numS 4 b.dl := by
  unfold bkT
  rw [numsS4, numsS_one, numsS_one, numsS_one]
  simp only [ByteArray.append_assoc]
theorem eBlocks (l : List Bk) (A : Option Addr) (n c : Nat) (R : List Ro) (hS : SQ R 7 A n c (blkV l)) (hb : ∀ b ∈ l, b.ok) (hl : l.length ≤ 100000) : Fn Try.prog 72 #[.slice A n c] [] R (fun v L' R' => v = .string (bksT l) ∧ L' = [] ∧ R' = []) := by
  have hn : n = l.length := by rw [← hS.len, blkV_len]
  subst hn
  refine fn_intro Try.func72 rfl Try.ntmps72 rfl (fun E => ?_)
  (repeat (first | ((first | (apply wo_v; rfl) ); (· first | (apply pv_ev; rfl) | (apply g_bi; first | (apply pv_len_sl; rfl) ) )) | apply wo_nil | apply wc_seq | apply wc_region ))
  refine wc_block ?_
  refine wc_loop' (fun q st => ∃ (i : Nat) (S : ByteArray), q = l.length - i ∧ i ≤ l.length ∧ S = bksT (l.take i) ∧ st = ⟨[(3, .string S), (6, .slice A l.length c), (7, .int .i64 l.length), (8, .int .i64 i)], [], R⟩) ⟨0, E0, rfl, Nat.zero_le _, rfl, rfl⟩ (wk_mk (by (repeat (first | apply wkf_nil | (apply wkf_cons; rfl))); done) (by (repeat (first | apply sub_nil )); done) (by first | exact fun _ h => h | (intro r hr; cases hr; done) | (simp; done) | exact fun _ h => List.mem_append_left _ h | (intro r hr; simp [hr]; done))) ?_
  rintro q st ⟨i, S0, rfl, hi, hS0, rfl⟩
  by_cases hlt : i < l.length
  · obtain ⟨x, hx⟩ : ∃ x, l[i]? = some x := ⟨_, List.getElem?_eq_getElem hlt⟩
    have hr := blkV_at hx
    have hz := bksT_size (l.take i)
    rw [List.length_take, Nat.min_eq_left hi] at hz
    have hnx := bksT_take hx
    rw [bkT_eq] at hnx
    obtain ⟨⟨g1, g2⟩, ⟨g3, g4⟩, ⟨g5, g6⟩, k1, k2, k3, k4⟩ := hb x (List.mem_of_getElem? hx)
    obtain ⟨x1, x2, x3, x4, x5, x6, x7⟩ := x
    dsimp only at *
    obtain ⟨b0, o0, rfl, hmem⟩ := hS.pos (by omega)
    rw [← hS0] at hz hnx
    (repeat (first | ((first | (apply wo_v; rfl) ); (· first | (apply pv_ev; rfl) )) | apply wo_nil | apply wc_seq | apply wc_region | apply wc_skip | (apply wc_true; rfl) | (apply wc_false; rfl) | (apply a_dec_t; rfl; (· first | assumption | omega)) ))
    refine wc_block ?_
    (repeat (first | ((first | (apply wo_v; rfl) ); (· first | (apply pv_ev; rfl) | (apply g_load; first | (apply pv_lda; rfl; (· (repeat (first | fail ))); (· (repeat (first | fail )))) | (apply pv_ld_owna; rfl; (· (repeat (first | fail ))); (· assumption)) | (apply pv_ld_roa; rfl; (· (first | assumption )); (· assumption))) | (apply g_idx; first | (apply pv_idx; rfl; rfl; omega) ) )) | apply wo_nil | apply wc_seq | apply wc_region | (apply wo_alloc; rfl; intro bx) | (apply wo_sta; rfl; rfl; rfl; rfl; (· (repeat (first | apply sel_here ))); (· (repeat (first | apply LayAt.nil | apply LayAt.here ))); rfl) ))
    have z1 := numS_size 4 x1
    have z2 := numS_size 1 x2
    have z3 := numS_size 3 x3
    have z4 := numS_size 4 x4
    have z5 := numS_size 4 x5
    have z6 := numS_size 4 x6
    have z7 := numS_size 4 x7
    have y1 : (numS 4 x1 ++ numS 1 x2).size = 5 := by rw [ByteArray.size_append, z1, z2]
    have y2 : (numS 4 x1 ++ numS 1 x2 ++ numS 3 x3).size = 8 := by rw [ByteArray.size_append, y1, z3]
    have y3 : (numS 4 x1 ++ numS 1 x2 ++ numS 3 x3 ++ numS 4 x4).size = 12 := by rw [ByteArray.size_append, y2, z4]
    have y4 : (numS 4 x1 ++ numS 1 x2 ++ numS 3 x3 ++ numS 4 x4 ++ numS 4 x5).size = 16 := by rw [ByteArray.size_append, y3, z5]
    have y5 : (numS 4 x1 ++ numS 1 x2 ++ numS 3 x3 ++ numS 4 x4 ++ numS 4 x5 ++ numS 4 x6).size = 20 := by rw [ByteArray.size_append, y4, z6]
    have y6 : (numS 4 x1 ++ numS 1 x2 ++ numS 3 x3 ++ numS 4 x4 ++ numS 4 x5 ++ numS 4 x6 ++ numS 4 x7).size = 24 := by rw [ByteArray.size_append, y5, z7]
    (refine wc_quiet mixed (by kernel_rfl) ?_; (repeat (first | ((first | (apply hd_v; rfl) ); (· first | (apply pv_ev; rfl) | (apply pv_fld; rfl) | (apply g_load; first | (apply pv_ld; rfl; (· (repeat (first | apply sel_here ))); rfl) ) )) )))
    (refine Hd.call rfl inferInstance (Fn.mono (eNum4 x1 ⟨g1, g2⟩) (fun _ _ _ h => ⟨h.1, h.2.1⟩)) rfl (by (repeat (first | apply sub_nil )); done) (by first | exact fun _ h => h | (intro r hr; cases hr; done) | (simp; done) | exact fun _ h => List.mem_append_left _ h | (intro r hr; simp [hr]; done)) rfl ?_; (repeat (first | ((first | (apply hd_v; rfl) ); (· first | (apply pv_ev; rfl) | (apply pv_fld; rfl) | (apply g_load; first | (apply pv_ld; rfl; (· (repeat (first | apply sel_here ))); rfl) ) | (apply g_conv; first | (apply a_conv; rfl; infer_instance; infer_instance; infer_instance; omega) ) )) )))
    (refine Hd.call rfl inferInstance (Fn.mono (rNum 1 x2 1 rfl (by omega)) (fun _ _ _ h => ⟨h.1, h.2.1⟩)) rfl (by (repeat (first | apply sub_nil )); done) (by first | exact fun _ h => h | (intro r hr; cases hr; done) | (simp; done) | exact fun _ h => List.mem_append_left _ h | (intro r hr; simp [hr]; done)) rfl ?_; (repeat (first | ((first | (apply hd_v; rfl) ); (· first | (apply pv_ev; rfl) | (apply pv_fld; rfl) | (apply g_load; first | (apply pv_ld; rfl; (· (repeat (first | apply sel_here ))); rfl) ) | (apply g_bin; first | (apply a_add; rfl; rfl; infer_instance; omega) | (apply pv_add_s; rfl; rfl; omega) ) | (apply g_conv; first | (apply a_conv; rfl; infer_instance; infer_instance; infer_instance; omega) ) )) )))
    (refine Hd.call rfl inferInstance (Fn.mono (rNum 3 x3 3 rfl (by omega)) (fun _ _ _ h => ⟨h.1, h.2.1⟩)) rfl (by (repeat (first | apply sub_nil )); done) (by first | exact fun _ h => h | (intro r hr; cases hr; done) | (simp; done) | exact fun _ h => List.mem_append_left _ h | (intro r hr; simp [hr]; done)) rfl ?_; (repeat (first | ((first | (apply hd_v; rfl) ); (· first | (apply pv_ev; rfl) | (apply pv_fld; rfl) | (apply g_load; first | (apply pv_ld; rfl; (· (repeat (first | apply sel_here ))); rfl) ) | (apply g_bin; first | (apply a_add; rfl; rfl; infer_instance; omega) | (apply pv_add_s; rfl; rfl; omega) ) )) )))
    (refine Hd.call rfl inferInstance (Fn.mono (eNum4 x4 k1) (fun _ _ _ h => ⟨h.1, h.2.1⟩)) rfl (by (repeat (first | apply sub_nil )); done) (by first | exact fun _ h => h | (intro r hr; cases hr; done) | (simp; done) | exact fun _ h => List.mem_append_left _ h | (intro r hr; simp [hr]; done)) rfl ?_; (repeat (first | ((first | (apply hd_v; rfl) ); (· first | (apply pv_ev; rfl) | (apply pv_fld; rfl) | (apply g_load; first | (apply pv_ld; rfl; (· (repeat (first | apply sel_here ))); rfl) ) | (apply g_bin; first | (apply a_add; rfl; rfl; infer_instance; omega) | (apply pv_add_s; rfl; rfl; omega) ) )) )))
    (refine Hd.call rfl inferInstance (Fn.mono (eNum4 x5 k2) (fun _ _ _ h => ⟨h.1, h.2.1⟩)) rfl (by (repeat (first | apply sub_nil )); done) (by first | exact fun _ h => h | (intro r hr; cases hr; done) | (simp; done) | exact fun _ h => List.mem_append_left _ h | (intro r hr; simp [hr]; done)) rfl ?_; (repeat (first | ((first | (apply hd_v; rfl) ); (· first | (apply pv_ev; rfl) | (apply pv_fld; rfl) | (apply g_load; first | (apply pv_ld; rfl; (· (repeat (first | apply sel_here ))); rfl) ) | (apply g_bin; first | (apply a_add; rfl; rfl; infer_instance; omega) | (apply pv_add_s; rfl; rfl; omega) ) )) )))
    (refine Hd.call rfl inferInstance (Fn.mono (eNum4 x6 k3) (fun _ _ _ h => ⟨h.1, h.2.1⟩)) rfl (by (repeat (first | apply sub_nil )); done) (by first | exact fun _ h => h | (intro r hr; cases hr; done) | (simp; done) | exact fun _ h => List.mem_append_left _ h | (intro r hr; simp [hr]; done)) rfl ?_; (repeat (first | ((first | (apply hd_v; rfl) ); (· first | (apply pv_ev; rfl) | (apply pv_fld; rfl) | (apply g_load; first | (apply pv_ld; rfl; (· (repeat (first | apply sel_here ))); rfl) ) | (apply g_bin; first | (apply a_add; rfl; rfl; infer_instance; omega) | (apply pv_add_s; rfl; rfl; omega) ) )) )))
    (refine Hd.call rfl inferInstance (Fn.mono (eNum4 x7 k4) (fun _ _ _ h => ⟨h.1, h.2.1⟩)) rfl (by (repeat (first | apply sub_nil )); done) (by first | exact fun _ h => h | (intro r hr; cases hr; done) | (simp; done) | exact fun _ h => List.mem_append_left _ h | (intro r hr; simp [hr]; done)) rfl ?_; (repeat (first | ((first | (apply wo_v; rfl) | (apply hd_v; rfl) ); (· first | (apply pv_ev; rfl) | (apply g_bin; first | (apply a_add; rfl; rfl; infer_instance; omega) | (apply pv_add_s; rfl; rfl; omega) ) )) | apply wo_nil | apply Hd.nil | apply wc_region )))
    (repeat (first | fail ))
    exact loop_end ⟨i + 1, _, rfl, by omega, hnx.symm, rfl⟩ (by omega) (wk_mk (by (repeat (first | apply wkf_nil | (apply wkf_cons; rfl))); done) (by (repeat (first | apply sub_nil )); done) (by first | exact fun _ h => h | (intro r hr; cases hr; done) | (simp; done) | exact fun _ h => List.mem_append_left _ h | (intro r hr; simp [hr]; done)))
  · have e : i = l.length := by omega
    subst e
    rw [List.take_length] at hS0
    subst hS0
    (repeat (first | ((first | (apply wo_v; rfl) ); (· first | (apply pv_ev; rfl) )) | apply wo_nil | apply wc_seq | apply wc_region | (apply wc_exit; rfl) | apply wc_ret | (apply wc_true; rfl) | (apply wc_false; rfl) | (apply a_dec_t; rfl; (· first | assumption | omega)) | (apply a_dec_f; rfl; (· first | assumption | omega)) ))
    exact retv rfl (by (repeat (first | apply RV.nil | (apply RV.tmp; rfl) )); done) (⟨rfl, rfl, rfl⟩) (by (repeat (first | apply sub_nil )); done) (by first | exact fun _ h => h | (intro r hr; cases hr; done) | (simp; done) | exact fun _ h => List.mem_append_left _ h | (intro r hr; simp [hr]; done))
theorem itT_eq (x : Int × ByteArray) : itT x = numS 1 x.1 ++ numS 1 (x.2.size : Int) ++ x.2 := by
  unfold itT; rw [numsS2]
theorem itsT_sz {l : List (Int × ByteArray)} (h : ∀ x ∈ l, x.2.size ≤ 1000) : (itsT l).size ≤ 1002 * l.length := by
  induction l with
  | nil => exact Nat.le_refl _
  | cons x l ih =>
    have h1 := h x (.head _)
    have h2 := ih (fun y hy => h y (.tail _ hy))
    show (itT x ++ itsT l).size ≤ _
    unfold itT
    simp only [ByteArray.size_append, numsS_size, List.length_cons, List.length_nil, Nat.mul_add]; omega
theorem chT_sz {c : Ck5} (h : c.2.length ≤ 1000 ∧ ∀ x ∈ c.2, x.2.size ≤ 1000) : (chT c).size ≤ 1003000 := by
  have h1 := itsT_sz h.2
  have h2 := pad4_size (numsS 4 [c.1] ++ itsT c.2 ++ numsS 1 [0])
  unfold chT
  simp only [ByteArray.size_append, numsS_size, List.length_cons, List.length_nil] at h2
  omega
theorem chsT_sz : ∀ {l : List Ck5}, (∀ c ∈ l, c.2.length ≤ 1000 ∧ ∀ x ∈ c.2, x.2.size ≤ 1000) → (chsT l).size ≤ 1003000 * l.length
  | [], _ => Nat.le_refl _
  | c :: l, h => by
    have h1 := chT_sz (h c (.head _))
    have h2 := chsT_sz (fun y hy => h y (.tail _ hy))
    show (chT c ++ chsT l).size ≤ _
    rw [ByteArray.size_append, List.length_cons, Nat.mul_add]; omega
theorem eChunks (l : List Ck5) (rows : List (List Value)) (A : Option Addr) (n c : Nat) (R : List Ro) (hS : SQ R 2 A n c rows) (hV : ChsV R l rows) (hl : l.length ≤ 50) (hb : ∀ c ∈ l, in32 c.1 ∧ c.2.length ≤ 1000 ∧ ∀ x ∈ c.2, in8 x.1 ∧ x.2.size ≤ 1000) :
    Fn Try.prog 73 #[.slice A n c] [] R (fun v L' R' => v = .string (chsT l) ∧ L' = [] ∧ R' = []) := by
  have hn : n = l.length := by rw [← hS.len, hV.1]
  subst hn
  refine fn_intro Try.func73 rfl Try.ntmps73 rfl (fun E => ?_)
  (repeat (first | ((first | (apply wo_v; rfl) ); (· first | (apply pv_ev; rfl) | (apply g_bi; first | (apply pv_len_sl; rfl) ) )) | apply wo_nil | apply wc_seq | apply wc_region ))
  refine wc_block ?_
  refine wc_loop' (fun q st => ∃ (i : Nat) (S : ByteArray), q = l.length - i ∧ i ≤ l.length ∧ S = chsT (l.take i) ∧ st = ⟨[(3, .string S), (8, .slice A l.length c), (9, .int .i64 l.length), (10, .int .i64 i)], [], R⟩) ⟨0, E0, rfl, Nat.zero_le _, rfl, rfl⟩ (wk_mk (by (repeat (first | apply wkf_nil | (apply wkf_cons; rfl))); done) (by (repeat (first | apply sub_nil )); done) (by first | exact fun _ h => h | (intro r hr; cases hr; done) | (simp; done) | exact fun _ h => List.mem_append_left _ h | (intro r hr; simp [hr]; done))) ?_
  rintro q st ⟨i, S0, rfl, hi, hS0, rfl⟩
  by_cases hlt : i < l.length
  · obtain ⟨x, hx⟩ : ∃ x, l[i]? = some x := ⟨_, List.getElem?_eq_getElem hlt⟩
    obtain ⟨row, hr, Ai, ni, ci, rfl, hSi⟩ := hV.2 i x hx
    have hz := chsT_sz (l := l.take i) (fun c hc => by have := hb c (List.mem_of_mem_take hc); exact ⟨this.2.1, fun x hx => (this.2.2 x hx).2⟩)
    rw [List.length_take, Nat.min_eq_left hi] at hz
    have hnx := chsT_take hx
    have hxb := hb x (List.mem_of_getElem? hx)
    obtain ⟨hx1, hx2, hx3⟩ := hxb
    obtain ⟨ss, its⟩ := x
    dsimp only at hr hSi hx1 hx2 hx3
    have hni : ni = its.length := by rw [← hSi.len, itmV_len]
    subst hni
    obtain ⟨b0, o0, rfl, hmem⟩ := hS.pos (by omega)
    have hM := chsT_mod (l.take i)
    rw [← hS0] at hz hnx hM
    have z1 := numS_size 4 ss
    have zs : (S0 ++ numS 4 ss).size = S0.size + 4 := by rw [ByteArray.size_append, z1]
    have hcl : chT (ss, its) = pad4 (numS 4 ss ++ itsT its ++ ⟨#[0]⟩) := by
      unfold chT
      rw [numsS_one, numsS_one]; rfl
    have hfin : chsT (l.take (i + 1)) = pad4 (S0 ++ numS 4 ss ++ itsT its ++ ⟨#[0]⟩) := by
      rw [hnx, hcl, ← pad4_behind hM]
      simp only [ByteArray.append_assoc]
    clear hnx hcl
    (repeat (first | ((first | (apply wo_v; rfl) ); (· first | (apply pv_ev; rfl) )) | apply wo_nil | apply wc_seq | apply wc_region | apply wc_skip | (apply wc_true; rfl) | (apply wc_false; rfl) | (apply a_dec_t; rfl; (· first | assumption | omega)) ))
    refine wc_block ?_
    (repeat (first | ((first | (apply wo_v; rfl) ); (· first | (apply pv_ev; rfl) | (apply pv_fld; rfl) | (apply g_load; first | (apply pv_ld; rfl; (· (repeat (first | apply sel_here ))); rfl) | (apply pv_lda; rfl; (· (repeat (first | fail ))); (· (repeat (first | fail )))) | (apply pv_ld_owna; rfl; (· (repeat (first | fail ))); (· assumption)) | (apply pv_ld_roa; rfl; (· (first | assumption )); (· assumption))) | (apply g_idx; first | (apply pv_idx; rfl; rfl; omega) ) )) | apply wo_nil | apply wc_seq | apply wc_region | (apply wo_alloc; rfl; intro bx) | (apply wo_sta; rfl; rfl; rfl; rfl; (· (repeat (first | apply sel_here ))); (· (repeat (first | apply LayAt.nil | apply LayAt.here ))); rfl) ))
    (refine wo_call (eNum4 ss hx1) rfl (by (repeat (first | apply sub_nil )); done) (by first | exact fun _ h => h | (intro r hr; cases hr; done) | (simp; done) | exact fun _ h => List.mem_append_left _ h | (intro r hr; simp [hr]; done)) rfl ?_; rintro v L' R' ⟨rfl, rfl, rfl⟩ H' hH RR hR; simp only [List.cons_append, List.nil_append] at hH hR; subst hH; have hR := hR.symm; subst hR)
    (repeat (first | ((first | (apply wo_v; rfl) ); (· first | (apply pv_ev; rfl) | (apply pv_fld; rfl) | (apply g_load; first | (apply pv_ld; rfl; (· (repeat (first | apply sel_here ))); rfl) ) | (apply g_bin; first | (apply a_add; rfl; rfl; infer_instance; omega) | (apply pv_add_s; rfl; rfl; omega) ) | (apply g_bi; first | (apply pv_len_sl; rfl) ) )) | apply wo_nil | apply wc_seq | apply wc_region ))
    obtain ⟨S1, hS1⟩ : ∃ S1, S0 ++ numS 4 ss = S1 := ⟨_, rfl⟩
    rw [hS1] at zs hfin ⊢
    have hI0 : S1.size = S1.size + (itsT (its.take 0)).size := by rfl
    have hzI := fun j => itsT_sz (l := its.take j) (fun x hx => (hx3 x (List.mem_of_mem_take hx)).2)
    refine wc_join0 (fun st => st = ⟨[(3, .string (S1 ++ itsT its)), (8, .slice (some ⟨b0, o0, none⟩) l.length c), (9, .int .i64 l.length), (10, .int .i64 i)], [], R⟩) ?_ ?_
    · refine wc_block ?_
      refine wc_loop' (fun q st => ∃ (j : Nat) (S : ByteArray), q = its.length - j ∧ j ≤ its.length ∧ S = S1 ++ itsT (its.take j) ∧ st = ⟨[(3, .string S), (8, .slice (some ⟨b0, o0, none⟩) l.length c), (9, .int .i64 l.length), (10, .int .i64 i), (20, .slice Ai its.length ci), (21, .int .i64 its.length), (22, .int .i64 j)], [], R⟩) ⟨0, S1, rfl, Nat.zero_le _, (append_E0 _).symm, rfl⟩ (wk_mk (by (repeat (first | apply wkf_nil | (apply wkf_cons; rfl))); done) (by (repeat (first | apply sub_nil )); done) (by first | exact fun _ h => h | (intro r hr; cases hr; done) | (simp; done) | exact fun _ h => List.mem_append_left _ h | (intro r hr; simp [hr]; done))) ?_
      rintro q st ⟨j, S2, rfl, hj, hS2, rfl⟩
      by_cases hlj : j < its.length
      · obtain ⟨y, hy⟩ : ∃ y, its[j]? = some y := ⟨_, List.getElem?_eq_getElem hlj⟩
        have hr2 := itmV_at hy
        have hny := itsT_take hy
        rw [itT_eq] at hny
        have hyb := hx3 y (List.mem_of_getElem? hy)
        obtain ⟨⟨y1, y2⟩, y3⟩ := hyb
        have hzj := hzI j
        rw [List.length_take] at hzj
        have hzS : S2.size = S1.size + (itsT (its.take j)).size := by rw [hS2, ByteArray.size_append]
        have hS3 : S1 ++ itsT (its.take (j + 1)) = S2 ++ (numS 1 y.1 ++ numS 1 (y.2.size : Int) ++ y.2) := by rw [hny, hS2]; simp only [ByteArray.append_assoc]
        obtain ⟨k, tx⟩ := y
        dsimp only at hr2 hS3 y1 y2 y3
        obtain ⟨ba, oa, rfl, hmi⟩ := hSi.pos (by omega)
        have z2 := numS_size 1 k
        have z3 := numS_size 1 (tx.size : Int)
        have z4 : (numS 1 k ++ numS 1 (tx.size : Int)).size = 2 := by rw [ByteArray.size_append, z2, z3]
        have z5 : (numS 1 k ++ numS 1 (tx.size : Int) ++ tx).size = 2 + tx.size := by rw [ByteArray.size_append, z4]
        clear hS2 hny
        (repeat (first | ((first | (apply wo_v; rfl) ); (· first | (apply pv_ev; rfl) )) | apply wo_nil | apply wc_seq | apply wc_region | apply wc_skip | (apply wc_true; rfl) | (apply wc_false; rfl) | (apply a_dec_t; rfl; (· first | assumption | omega)) ))
        refine wc_block ?_
        (repeat (first | ((first | (apply wo_v; rfl) ); (· first | (apply pv_ev; rfl) | (apply g_load; first | (apply pv_lda; rfl; (· (repeat (first | fail ))); (· (repeat (first | fail )))) | (apply pv_ld_owna; rfl; (· (repeat (first | fail ))); (· assumption)) | (apply pv_ld_roa; rfl; (· (first | assumption )); (· assumption))) | (apply g_idx; first | (apply pv_idx; rfl; rfl; omega) ) )) | apply wo_nil | apply wc_seq | apply wc_region | (apply wo_alloc; rfl; intro bx) | (apply wo_sta; rfl; rfl; rfl; rfl; (· (repeat (first | apply sel_here ))); (· (repeat (first | apply LayAt.nil | apply LayAt.here ))); rfl) ))
        (refine wc_quiet mixed (by kernel_rfl) ?_; (repeat (first | ((first | (apply hd_v; rfl) ); (· first | (apply pv_ev; rfl) | (apply pv_fld; rfl) | (apply g_load; first | (apply pv_ld; rfl; (· (repeat (first | apply sel_here ))); rfl) ) | (apply g_conv; first | (apply a_conv; rfl; infer_instance; infer_instance; infer_instance; omega) ) )) )))
        (refine Hd.call rfl inferInstance (Fn.mono (rNum 1 k 1 rfl (by omega)) (fun _ _ _ h => ⟨h.1, h.2.1⟩)) rfl (by (repeat (first | apply sub_nil )); done) (by first | exact fun _ h => h | (intro r hr; cases hr; done) | (simp; done) | exact fun _ h => List.mem_append_left _ h | (intro r hr; simp [hr]; done)) rfl ?_; (repeat (first | ((first | (apply hd_v; rfl) ); (· first | (apply pv_ev; rfl) | (apply pv_fld; rfl) | (apply g_load; first | (apply pv_ld; rfl; (· (repeat (first | apply sel_here ))); rfl) ) | (apply g_bi; first | (apply pv_len_str; rfl) ) | (apply g_conv; first | (apply a_conv; rfl; infer_instance; infer_instance; infer_instance; omega) ) )) )))
        (refine Hd.call rfl inferInstance (Fn.mono (rNum 1 (tx.size : Int) 1 rfl (by omega)) (fun _ _ _ h => ⟨h.1, h.2.1⟩)) rfl (by (repeat (first | apply sub_nil )); done) (by first | exact fun _ h => h | (intro r hr; cases hr; done) | (simp; done) | exact fun _ h => List.mem_append_left _ h | (intro r hr; simp [hr]; done)) rfl ?_; (repeat (first | ((first | (apply wo_v; rfl) | (apply hd_v; rfl) ); (· first | (apply pv_ev; rfl) | (apply pv_fld; rfl) | (apply g_load; first | (apply pv_ld; rfl; (· (repeat (first | apply sel_here ))); rfl) ) | (apply g_bin; first | (apply a_add; rfl; rfl; infer_instance; omega) | (apply pv_add_s; rfl; rfl; omega) ) )) | apply wo_nil | apply Hd.nil | apply wc_region )))
        (repeat (first | fail ))
        exact loop_end ⟨j + 1, _, rfl, by omega, hS3.symm, rfl⟩ (by omega) (wk_mk (by (repeat (first | apply wkf_nil | (apply wkf_cons; rfl))); done) (by (repeat (first | apply sub_nil )); done) (by first | exact fun _ h => h | (intro r hr; cases hr; done) | (simp; done) | exact fun _ h => List.mem_append_left _ h | (intro r hr; simp [hr]; done)))
      · have e : j = its.length := by omega
        subst e
        rw [List.take_length] at hS2
        subst hS2
        (repeat (first | ((first | (apply wo_v; rfl) ); (· first | (apply pv_ev; rfl) )) | apply wo_nil | apply wc_seq | apply wc_region | (apply wc_exit; rfl) | (apply wc_true; rfl) | (apply wc_false; rfl) | (apply a_dec_t; rfl; (· first | assumption | omega)) | (apply a_dec_f; rfl; (· first | assumption | omega)) ))
        exact cut_end rfl (wk_mk (by (repeat (first | apply wkf_nil | (apply wkf_cons; rfl))); done) (by (repeat (first | apply sub_nil )); done) (by first | exact fun _ h => h | (intro r hr; cases hr; done) | (simp; done) | exact fun _ h => List.mem_append_left _ h | (intro r hr; simp [hr]; done)))
    rintro st rfl
    have hzl := hzI its.length
    rw [List.take_length] at hzl
    have hz6 : (S1 ++ itsT its).size = S1.size + (itsT its).size := ByteArray.size_append
    have hz7 : (⟨#[0]⟩ : ByteArray).size = 1 := rfl
    have hz8 : (S1 ++ itsT its ++ ⟨#[0]⟩).size = S1.size + (itsT its).size + 1 := by rw [ByteArray.size_append, hz6, hz7]
    (repeat (first | ((first | (apply wo_v; rfl) ); (· first | (apply pv_ev; rfl) | (apply g_bin; first | (apply a_add; rfl; rfl; infer_instance; omega) | (apply pv_add_s; rfl; rfl; omega) ) )) | apply wc_region ))
    (refine wo_call (ePad (S1 ++ itsT its ++ ⟨#[0]⟩) (by omega)) rfl (by (repeat (first | apply sub_nil )); done) (by first | exact fun _ h => h | (intro r hr; cases hr; done) | (simp; done) | exact fun _ h => List.mem_append_left _ h | (intro r hr; simp [hr]; done)) rfl ?_; rintro v L' R' ⟨rfl, rfl, rfl⟩ H' hH RR hR; simp only [List.cons_append, List.nil_append] at hH hR; subst hH; have hR := hR.symm; subst hR)
    (repeat (first | ((first | (apply wo_v; rfl) ); (· first | (apply pv_ev; rfl) | (apply g_bin; first | (apply a_add; rfl; rfl; infer_instance; omega) ) )) | apply wo_nil | apply wc_region ))
    exact loop_end ⟨i + 1, _, rfl, by omega, hfin.symm, rfl⟩ (by omega) (wk_mk (by (repeat (first | apply wkf_nil | (apply wkf_cons; rfl))); done) (by (repeat (first | apply sub_nil )); done) (by first | exact fun _ h => h | (intro r hr; cases hr; done) | (simp; done) | exact fun _ h => List.mem_append_left _ h | (intro r hr; simp [hr]; done)))
  · have e : i = l.length := by omega
    subst e
    rw [List.take_length] at hS0
    subst hS0
    (repeat (first | ((first | (apply wo_v; rfl) ); (· first | (apply pv_ev; rfl) )) | apply wo_nil | apply wc_seq | apply wc_region | (apply wc_exit; rfl) | apply wc_ret | (apply wc_true; rfl) | (apply wc_false; rfl) | (apply a_dec_t; rfl; (· first | assumption | omega)) | (apply a_dec_f; rfl; (· first | assumption | omega)) ))
    exact retv rfl (by (repeat (first | apply RV.nil | (apply RV.tmp; rfl) )); done) (⟨rfl, rfl, rfl⟩) (by (repeat (first | apply sub_nil )); done) (by first | exact fun _ h => h | (intro r hr; cases hr; done) | (simp; done) | exact fun _ h => List.mem_append_left _ h | (intro r hr; simp [hr]; done))
end Go.Proofs.Yteaccbbmphcmnaa

/-
  Layer 5's document: feedback.
-/
namespace Go.Proofs.Yteaccbbmphcmnaa
set_option linter.unusedSimpArgs false
set_option linter.unusedVariables false
open Go.RowKit
attribute [local irreducible] Pv WO WC Fn
set_option maxRecDepth 100000
attribute [local irreducible] ByteArray.extract

theorem orT_eq (x : Int × Int) : orT x = numS 4 x.1 ++ numS 1 x.2 ++ ⟨#[0, 0, 0]⟩ := by
  unfold orT
  rw [numsS4, numsS_one, show numS 1 0 ++ (numS 1 0 ++ numS 1 0) = ⟨#[0, 0, 0]⟩ from by decide +kernel, ByteArray.append_assoc]
abbrev FbC (R : List Ro) (w : Value) (tx : ByteArray) : Prop := Fn Try.prog 75 #[w] [] R (fun v L' R' => v = .string tx ∧ L' = [] ∧ R' = [])
theorem fPli (R : List Ro) (fm to : Int) (h1 : in32 fm) (h2 : in32 to) : FbC R (rfA (rfL 206 1 fm to 0 0 0 0 nilS nilS nilS E0 nilS nilS 0)) (txK (.pli fm to)) := by
  have z1 := numS_size 4 fm
  have z2 := numS_size 4 to
  simp only [txK, numsS2]
  refine fn_intro Try.func75 rfl Try.ntmps75 rfl (fun E => ?_)
  (repeat (first | ((first | (apply wo_v; rfl) ); (· first | (apply pv_ev; rfl) )) | apply wo_nil | apply wc_seq | apply wc_region | (apply wo_box1; rfl; rfl; rfl; intro bx) | (apply wo_boxa; rfl; rfl; intro bx) ))
  (refine wc_quiet mixed (by kernel_rfl) ?_; (repeat (first | ((first | (apply hd_v; rfl) ); (· first | (apply pv_ev; rfl) | (apply pv_fld; rfl) | (apply g_load; first | (apply pv_ld; rfl; (· (repeat (first | apply sel_here ))); rfl) ) )) )))
  (refine Hd.call rfl inferInstance (Fn.mono (eNum4 fm h1) (fun _ _ _ h => ⟨h.1, h.2.1⟩)) rfl (by (repeat (first | apply sub_nil )); done) (by first | exact fun _ h => h | (intro r hr; cases hr; done) | (simp; done) | exact fun _ h => List.mem_append_left _ h | (intro r hr; simp [hr]; done)) rfl ?_; (repeat (first | ((first | (apply hd_v; rfl) ); (· first | (apply pv_ev; rfl) | (apply pv_fld; rfl) | (apply g_load; first | (apply pv_ld; rfl; (· (repeat (first | apply sel_here ))); rfl) ) )) )))
  (refine Hd.call rfl inferInstance (Fn.mono (eNum4 to h2) (fun _ _ _ h => ⟨h.1, h.2.1⟩)) rfl (by (repeat (first | apply sub_nil )); done) (by first | exact fun _ h => h | (intro r hr; cases hr; done) | (simp; done) | exact fun _ h => List.mem_append_left _ h | (intro r hr; simp [hr]; done)) rfl ?_; (repeat (first | ((first | (apply wo_v; rfl) | (apply hd_v; rfl) ); (· first | (apply pv_ev; rfl) | (apply pv_fld; rfl) | (apply g_load; first | (apply pv_ld; rfl; (· (repeat (first | apply sel_here ))); rfl) ) | (apply g_pick; first | (apply pv_pick_t; rfl; rfl) ) | (apply g_bin; first | (apply a_add; rfl; rfl; infer_instance; omega) | (apply pv_add_s; rfl; rfl; omega) ) )) | apply wo_nil | apply Hd.nil | apply wc_seq | apply wc_region | apply wc_skip | apply wc_ret | (apply wc_true; rfl) | (apply wc_false; rfl) | (apply wo_run; rfl; rfl) )))
  (repeat (first | fail ))
  exact retv rfl (by (repeat (first | apply RV.nil | (apply RV.tmp; rfl) )); done) (⟨rfl, rfl, rfl⟩) (by (repeat (first | apply sub_nil )); done) (by first | exact fun _ h => h | (intro r hr; cases hr; done) | (simp; done) | exact fun _ h => List.mem_append_left _ h | (intro r hr; simp [hr]; done))
theorem fNack (R : List Ro) (fm to : Int) (l : List (Int × Int)) (A : Option Addr) (n c : Nat) (hS : SQ R 2 A n c (pairV l)) (hl : l.length ≤ 10000) (h1 : in32 fm) (h2 : in32 to) (hb : ∀ x ∈ l, in16 x.1 ∧ in16 x.2) : FbC R (rfA (rfL 205 1 fm to 0 0 0 0 nilS nilS nilS E0 (.slice A n c) nilS 0)) (txK (.nack fm to l)) := by
  have hn : n = l.length := by rw [← hS.len]; simp [pairV]
  subst hn
  have z1 := numS_size 4 fm
  have z2 := numS_size 4 to
  have z0 : (numS 4 fm ++ numS 4 to).size = 8 := by rw [ByteArray.size_append, z1, z2]
  simp only [txK, numsS2]
  refine fn_intro Try.func75 rfl Try.ntmps75 rfl (fun E => ?_)
  (repeat (first | ((first | (apply wo_v; rfl) ); (· first | (apply pv_ev; rfl) )) | apply wo_nil | apply wc_seq | apply wc_region | (apply wo_box1; rfl; rfl; rfl; intro bx) | (apply wo_boxa; rfl; rfl; intro bx) ))
  obtain ⟨g, hg⟩ : ∃ g, g = bx := ⟨_, rfl⟩
  subst hg
  (refine wc_quiet mixed (by kernel_rfl) ?_; (repeat (first | ((first | (apply hd_v; rfl) ); (· first | (apply pv_ev; rfl) | (apply pv_fld; rfl) | (apply g_load; first | (apply pv_ld; rfl; (· (repeat (first | apply sel_here ))); rfl) ) )) )))
  (refine Hd.call rfl inferInstance (Fn.mono (eNum4 fm h1) (fun _ _ _ h => ⟨h.1, h.2.1⟩)) rfl (by (repeat (first | apply sub_nil )); done) (by first | exact fun _ h => h | (intro r hr; cases hr; done) | (simp; done) | exact fun _ h => List.mem_append_left _ h | (intro r hr; simp [hr]; done)) rfl ?_; (repeat (first | ((first | (apply hd_v; rfl) ); (· first | (apply pv_ev; rfl) | (apply pv_fld; rfl) | (apply g_load; first | (apply pv_ld; rfl; (· (repeat (first | apply sel_here ))); rfl) ) )) )))
  (refine Hd.call rfl inferInstance (Fn.mono (eNum4 to h2) (fun _ _ _ h => ⟨h.1, h.2.1⟩)) rfl (by (repeat (first | apply sub_nil )); done) (by first | exact fun _ h => h | (intro r hr; cases hr; done) | (simp; done) | exact fun _ h => List.mem_append_left _ h | (intro r hr; simp [hr]; done)) rfl ?_; (repeat (first | ((first | (apply wo_v; rfl) | (apply hd_v; rfl) ); (· first | (apply pv_ev; rfl) | (apply pv_fld; rfl) | (apply g_load; first | (apply pv_ld; rfl; (· (repeat (first | apply sel_here ))); rfl) ) | (apply g_bin; first | (apply a_add; rfl; rfl; infer_instance; omega) | (apply pv_add_s; rfl; rfl; omega) ) | (apply g_bi; first | (apply pv_len_sl; rfl) ) )) | apply wo_nil | apply Hd.nil | apply wc_seq | apply wc_region | apply wc_block | (apply wc_true; rfl) )))
  (repeat (first | fail ))
  generalize numS 4 fm ++ numS 4 to = S0 at *
  refine wc_loop' (fun q st => ∃ (i : Nat) (S : ByteArray), q = l.length - i ∧ i ≤ l.length ∧ S = S0 ++ prsT (l.take i) ∧ st = ⟨[(1, .pointer (some ⟨g, 0, none⟩)), (3, .string S), (20, .slice A l.length c), (21, .int .i64 l.length), (22, .int .i64 i)], [rfO g (rfL 205 1 fm to 0 0 0 0 nilS nilS nilS E0 (.slice A l.length c) nilS 0)], R⟩) ⟨0, S0, rfl, Nat.zero_le _, (append_E0 _).symm, rfl⟩ (wk_mk (by (repeat (first | apply wkf_nil | (apply wkf_cons; rfl))); done) (by (repeat (first | apply sub_nil )); done) (by first | exact fun _ h => h | (intro r hr; cases hr; done) | (simp; done) | exact fun _ h => List.mem_append_left _ h | (intro r hr; simp [hr]; done))) ?_
  rintro q st ⟨i, S, rfl, hi, hS2, rfl⟩
  have hzS : S.size = 8 + 4 * i := by rw [hS2, ByteArray.size_append, z0, prsT_size, List.length_take, Nat.min_eq_left hi]
  by_cases hlt : i < l.length
  · obtain ⟨x, hx⟩ : ∃ x, l[i]? = some x := ⟨_, List.getElem?_eq_getElem hlt⟩
    have hr := pairV_at hx
    have hfin : S0 ++ prsT (l.take (i + 1)) = S ++ (numS 2 x.1 ++ numS 2 x.2) := by rw [prsT_take hx, hS2, numsS2]; simp only [ByteArray.append_assoc]
    obtain ⟨⟨g1, g2⟩, ⟨g3, g4⟩⟩ := hb x (List.mem_of_getElem? hx)
    obtain ⟨x1, x2⟩ := x
    dsimp only at hr hfin g1 g2 g3 g4
    obtain ⟨b0, o0, rfl, hmem⟩ := hS.pos (by omega)
    have y1 := numS_size 2 x1
    have y2 := numS_size 2 x2
    have y3 : (numS 2 x1 ++ numS 2 x2).size = 4 := by rw [ByteArray.size_append, y1, y2]
    clear hS2
    (repeat (first | ((first | (apply wo_v; rfl) ); (· first | (apply pv_ev; rfl) )) | apply wo_nil | apply wc_seq | apply wc_region | apply wc_skip | (apply wc_true; rfl) | (apply wc_false; rfl) | (apply a_dec_t; rfl; (· first | assumption | omega)) ))
    refine wc_block ?_
    (repeat (first | ((first | (apply wo_v; rfl) ); (· first | (apply pv_ev; rfl) | (apply g_load; first | (apply pv_lda; rfl; (· (repeat (first | apply sel_there))); (· (repeat (first | fail )))) | (apply pv_ld_owna; rfl; (· (repeat (first | apply sel_there))); (· assumption)) | (apply pv_ld_roa; rfl; (· (first | assumption )); (· assumption))) | (apply g_idx; first | (apply pv_idx; rfl; rfl; omega) ) )) | apply wo_nil | apply wc_seq | apply wc_region | (apply wo_alloc; rfl; intro bx) | (apply wo_sta; rfl; rfl; rfl; rfl; (· (repeat (first | apply sel_here ))); (· (repeat (first | apply LayAt.nil | apply LayAt.here ))); rfl) ))
    (refine wc_quiet mixed (by kernel_rfl) ?_; (repeat (first | ((first | (apply hd_v; rfl) ); (· first | (apply pv_ev; rfl) | (apply pv_fld; rfl) | (apply g_load; first | (apply pv_ld; rfl; (· (repeat (first | apply sel_here ))); rfl) ) | (apply g_conv; first | (apply a_conv; rfl; infer_instance; infer_instance; infer_instance; omega) ) )) )))
    (refine Hd.call rfl inferInstance (Fn.mono (rNum 2 x1 2 rfl (by omega)) (fun _ _ _ h => ⟨h.1, h.2.1⟩)) rfl (by (repeat (first | apply sub_nil )); done) (by first | exact fun _ h => h | (intro r hr; cases hr; done) | (simp; done) | exact fun _ h => List.mem_append_left _ h | (intro r hr; simp [hr]; done)) rfl ?_; (repeat (first | ((first | (apply hd_v; rfl) ); (· first | (apply pv_ev; rfl) | (apply pv_fld; rfl) | (apply g_load; first | (apply pv_ld; rfl; (· (repeat (first | apply sel_here ))); rfl) ) | (apply g_conv; first | (apply a_conv; rfl; infer_instance; infer_instance; infer_instance; omega) ) )) )))
    (refine Hd.call rfl inferInstance (Fn.mono (rNum 2 x2 2 rfl (by omega)) (fun _ _ _ h => ⟨h.1, h.2.1⟩)) rfl (by (repeat (first | apply sub_nil )); done) (by first | exact fun _ h => h | (intro r hr; cases hr; done) | (simp; done) | exact fun _ h => List.mem_append_left _ h | (intro r hr; simp [hr]; done)) rfl ?_; (repeat (first | ((first | (apply wo_v; rfl) | (apply hd_v; rfl) ); (· first | (apply pv_ev; rfl) | (apply g_bin; first | (apply a_add; rfl; rfl; infer_instance; omega) | (apply pv_add_s; rfl; rfl; omega) ) )) | apply wo_nil | apply Hd.nil | apply wc_region )))
    (repeat (first | fail ))
    exact loop_end ⟨i + 1, _, rfl, by omega, hfin.symm, rfl⟩ (by omega) (wk_mk (by (repeat (first | apply wkf_nil | (apply wkf_cons; rfl))); done) (by (repeat (first | apply sub_nil | (apply sub_cons; (· (repeat (first | apply sel_here | apply sel_there)))))); done) (by first | exact fun _ h => h | (intro r hr; cases hr; done) | (simp; done) | exact fun _ h => List.mem_append_left _ h | (intro r hr; simp [hr]; done)))
  · have e : i = l.length := by omega
    subst e
    rw [List.take_length] at hS2
    subst hS2
    (repeat (first | ((first | (apply wo_v; rfl) ); (· first | (apply pv_ev; rfl) | (apply pv_fld; rfl) | (apply g_load; first | (apply pv_ld; rfl; (· (repeat (first | apply sel_here ))); rfl) ) | (apply g_pick; first | (apply pv_pick_t; rfl; rfl) | (apply pv_pick_f; rfl; rfl)) )) | apply wo_nil | apply wc_seq | apply wc_region | apply wc_skip | (apply wc_exit; rfl) | apply wc_ret | (apply wc_true; rfl) | (apply wc_false; rfl) | (apply a_dec_t; rfl; (· first | assumption | omega)) | (apply a_dec_f; rfl; (· first | assumption | omega)) | (apply wo_run; rfl; rfl) | (apply wo_skip; rfl; rfl; rfl; rfl) ))
    exact retv rfl (by (repeat (first | apply RV.nil | (apply RV.tmp; rfl) )); done) (⟨rfl, rfl, rfl⟩) (by (repeat (first | apply sub_nil )); done) (by first | exact fun _ h => h | (intro r hr; cases hr; done) | (simp; done) | exact fun _ h => List.mem_append_left _ h | (intro r hr; simp [hr]; done))
theorem fFir (R : List Ro) (fm : Int) (l : List (Int × Int)) (A : Option Addr) (n c : Nat) (hS : SQ R 2 A n c (ordV l)) (hl : l.length ≤ 10000) (h1 : in32 fm) (hb : ∀ x ∈ l, in32 x.1 ∧ in8 x.2) : FbC R (rfA (rfL 206 4 fm 0 0 0 0 0 nilS nilS nilS E0 nilS (.slice A n c) 0)) (txK (.fir fm l)) := by
  have hn : n = l.length := by rw [← hS.len]; simp [ordV]
  subst hn
  have z1 := numS_size 4 fm
  have z2 := numS_size 4 0
  have z0 : (numS 4 fm ++ numS 4 0).size = 8 := by rw [ByteArray.size_append, z1, z2]
  simp only [txK, numsS2]
  refine fn_intro Try.func75 rfl Try.ntmps75 rfl (fun E => ?_)
  (repeat (first | ((first | (apply wo_v; rfl) ); (· first | (apply pv_ev; rfl) )) | apply wo_nil | apply wc_seq | apply wc_region | (apply wo_box1; rfl; rfl; rfl; intro bx) | (apply wo_boxa; rfl; rfl; intro bx) ))
  obtain ⟨g, hg⟩ : ∃ g, g = bx := ⟨_, rfl⟩
  subst hg
  (refine wc_quiet mixed (by kernel_rfl) ?_; (repeat (first | ((first | (apply hd_v; rfl) ); (· first | (apply pv_ev; rfl) | (apply pv_fld; rfl) | (apply g_load; first | (apply pv_ld; rfl; (· (repeat (first | apply sel_here ))); rfl) ) )) )))
  (refine Hd.call rfl inferInstance (Fn.mono (eNum4 fm h1) (fun _ _ _ h => ⟨h.1, h.2.1⟩)) rfl (by (repeat (first | apply sub_nil )); done) (by first | exact fun _ h => h | (intro r hr; cases hr; done) | (simp; done) | exact fun _ h => List.mem_append_left _ h | (intro r hr; simp [hr]; done)) rfl ?_; (repeat (first | ((first | (apply hd_v; rfl) ); (· first | (apply pv_ev; rfl) | (apply pv_fld; rfl) | (apply g_load; first | (apply pv_ld; rfl; (· (repeat (first | apply sel_here ))); rfl) ) )) )))
  (refine Hd.call rfl inferInstance (Fn.mono (eNum4 0 in32_0) (fun _ _ _ h => ⟨h.1, h.2.1⟩)) rfl (by (repeat (first | apply sub_nil )); done) (by first | exact fun _ h => h | (intro r hr; cases hr; done) | (simp; done) | exact fun _ h => List.mem_append_left _ h | (intro r hr; simp [hr]; done)) rfl ?_; (repeat (first | ((first | (apply wo_v; rfl) | (apply hd_v; rfl) ); (· first | (apply pv_ev; rfl) | (apply pv_fld; rfl) | (apply g_load; first | (apply pv_ld; rfl; (· (repeat (first | apply sel_here ))); rfl) ) | (apply g_pick; first | (apply pv_pick_t; rfl; rfl) ) | (apply g_bin; first | (apply a_add; rfl; rfl; infer_instance; omega) | (apply pv_add_s; rfl; rfl; omega) ) | (apply g_bi; first | (apply pv_len_sl; rfl) ) )) | apply wo_nil | apply Hd.nil | apply wc_seq | apply wc_region | apply wc_block | apply wc_skip | (apply wc_true; rfl) | (apply wc_false; rfl) | (apply wo_run; rfl; rfl) )))
  (repeat (first | fail ))
  generalize numS 4 fm ++ numS 4 0 = S0 at *
  refine wc_loop' (fun q st => ∃ (i : Nat) (S : ByteArray), q = l.length - i ∧ i ≤ l.length ∧ S = S0 ++ orsT (l.take i) ∧ st = ⟨[(1, .pointer (some ⟨g, 0, none⟩)), (3, .string S), (47, .slice A l.length c), (48, .int .i64 l.length), (49, .int .i64 i)], [rfO g (rfL 206 4 fm 0 0 0 0 0 nilS nilS nilS E0 nilS (.slice A l.length c) 0)], R⟩) ⟨0, S0, rfl, Nat.zero_le _, (append_E0 _).symm, rfl⟩ (wk_mk (by (repeat (first | apply wkf_nil | (apply wkf_cons; rfl))); done) (by (repeat (first | apply sub_nil )); done) (by first | exact fun _ h => h | (intro r hr; cases hr; done) | (simp; done) | exact fun _ h => List.mem_append_left _ h | (intro r hr; simp [hr]; done))) ?_
  rintro q st ⟨i, S, rfl, hi, hS2, rfl⟩
  have hzS : S.size = 8 + 8 * i := by rw [hS2, ByteArray.size_append, z0, orsT_size, List.length_take, Nat.min_eq_left hi]
  by_cases hlt : i < l.length
  · obtain ⟨x, hx⟩ : ∃ x, l[i]? = some x := ⟨_, List.getElem?_eq_getElem hlt⟩
    have hr := ordV_at hx
    have hfin : S0 ++ orsT (l.take (i + 1)) = S ++ (numS 4 x.1 ++ numS 1 x.2 ++ ⟨#[0, 0, 0]⟩) := by rw [orsT_take hx, hS2, orT_eq]; simp only [ByteArray.append_assoc]
    obtain ⟨⟨g1, g2⟩, ⟨g3, g4⟩⟩ := hb x (List.mem_of_getElem? hx)
    obtain ⟨x1, x2⟩ := x
    dsimp only at hr hfin g1 g2 g3 g4
    obtain ⟨b0, o0, rfl, hmem⟩ := hS.pos (by omega)
    have y1 := numS_size 4 x1
    have y2 := numS_size 1 x2
    have y3 : (numS 4 x1 ++ numS 1 x2).size = 5 := by rw [ByteArray.size_append, y1, y2]
    have y4 : (⟨#[0, 0, 0]⟩ : ByteArray).size = 3 := rfl
    have y5 : (numS 4 x1 ++ numS 1 x2 ++ ⟨#[0, 0, 0]⟩).size = 8 := by rw [ByteArray.size_append, y3, y4]
    clear hS2
    (repeat (first | ((first | (apply wo_v; rfl) ); (· first | (apply pv_ev; rfl) )) | apply wo_nil | apply wc_seq | apply wc_region | apply wc_skip | (apply wc_true; rfl) | (apply wc_false; rfl) | (apply a_dec_t; rfl; (· first | assumption | omega)) ))
    refine wc_block ?_
    (repeat (first | ((first | (apply wo_v; rfl) ); (· first | (apply pv_ev; rfl) | (apply g_load; first | (apply pv_lda; rfl; (· (repeat (first | apply sel_there))); (· (repeat (first | fail )))) | (apply pv_ld_owna; rfl; (· (repeat (first | apply sel_there))); (· assumption)) | (apply pv_ld_roa; rfl; (· (first | assumption )); (· assumption))) | (apply g_idx; first | (apply pv_idx; rfl; rfl; omega) ) )) | apply wo_nil | apply wc_seq | apply wc_region | (apply wo_alloc; rfl; intro bx) | (apply wo_sta; rfl; rfl; rfl; rfl; (· (repeat (first | apply sel_here ))); (· (repeat (first | apply LayAt.nil | apply LayAt.here ))); rfl) ))
    (refine wc_quiet mixed (by kernel_rfl) ?_; (repeat (first | ((first | (apply hd_v; rfl) ); (· first | (apply pv_ev; rfl) | (apply pv_fld; rfl) | (apply g_load; first | (apply pv_ld; rfl; (· (repeat (first | apply sel_here ))); rfl) ) )) )))
    (refine Hd.call rfl inferInstance (Fn.mono (eNum4 x1 ⟨g1, g2⟩) (fun _ _ _ h => ⟨h.1, h.2.1⟩)) rfl (by (repeat (first | apply sub_nil )); done) (by first | exact fun _ h => h | (intro r hr; cases hr; done) | (simp; done) | exact fun _ h => List.mem_append_left _ h | (intro r hr; simp [hr]; done)) rfl ?_; (repeat (first | ((first | (apply hd_v; rfl) ); (· first | (apply pv_ev; rfl) | (apply pv_fld; rfl) | (apply g_load; first | (apply pv_ld; rfl; (· (repeat (first | apply sel_here ))); rfl) ) | (apply g_conv; first | (apply a_conv; rfl; infer_instance; infer_instance; infer_instance; omega) ) )) )))
    (refine Hd.call rfl inferInstance (Fn.mono (rNum 1 x2 1 rfl (by omega)) (fun _ _ _ h => ⟨h.1, h.2.1⟩)) rfl (by (repeat (first | apply sub_nil )); done) (by first | exact fun _ h => h | (intro r hr; cases hr; done) | (simp; done) | exact fun _ h => List.mem_append_left _ h | (intro r hr; simp [hr]; done)) rfl ?_; (repeat (first | ((first | (apply wo_v; rfl) | (apply hd_v; rfl) ); (· first | (apply pv_ev; rfl) | (apply g_bin; first | (apply a_add; rfl; rfl; infer_instance; omega) | (apply pv_add_s; rfl; rfl; omega) ) )) | apply wo_nil | apply Hd.nil | apply wc_region )))
    (repeat (first | fail ))
    exact loop_end ⟨i + 1, _, rfl, by omega, hfin.symm, rfl⟩ (by omega) (wk_mk (by (repeat (first | apply wkf_nil | (apply wkf_cons; rfl))); done) (by (repeat (first | apply sub_nil | (apply sub_cons; (· (repeat (first | apply sel_here | apply sel_there)))))); done) (by first | exact fun _ h => h | (intro r hr; cases hr; done) | (simp; done) | exact fun _ h => List.mem_append_left _ h | (intro r hr; simp [hr]; done)))
  · have e : i = l.length := by omega
    subst e
    rw [List.take_length] at hS2
    subst hS2
    (repeat (first | ((first | (apply wo_v; rfl) ); (· first | (apply pv_ev; rfl) | (apply pv_fld; rfl) | (apply g_load; first | (apply pv_ld; rfl; (· (repeat (first | apply sel_here ))); rfl) ) | (apply g_pick; first | (apply pv_pick_t; rfl; rfl) ) )) | apply wo_nil | apply wc_seq | apply wc_region | apply wc_skip | (apply wc_exit; rfl) | apply wc_ret | (apply wc_true; rfl) | (apply wc_false; rfl) | (apply a_dec_t; rfl; (· first | assumption | omega)) | (apply a_dec_f; rfl; (· first | assumption | omega)) | (apply wo_run; rfl; rfl) ))
    exact retv rfl (by (repeat (first | apply RV.nil | (apply RV.tmp; rfl) )); done) (⟨rfl, rfl, rfl⟩) (by (repeat (first | apply sub_nil )); done) (by first | exact fun _ h => h | (intro r hr; cases hr; done) | (simp; done) | exact fun _ h => List.mem_append_left _ h | (intro r hr; simp [hr]; done))
theorem fRemb (R : List Ro) (fm rt : Int) (l : List Int) (A : Option Addr) (n c : Nat) (hS : SQ R 1 A n c (c32 l)) (hl : l.length ≤ 255) (h1 : in32 fm) (h2 : in64 rt) (hb : ∀ x ∈ l, in32 x) : FbC R (rfA (rfL 206 15 fm 0 0 0 0 0 nilS nilS (.slice A n c) E0 nilS nilS rt)) (txK (.remb fm rt l)) := by
  have hn : n = l.length := by rw [← hS.len, c32_len]
  subst hn
  have z1 := numS_size 4 fm
  have z2 := numS_size 4 0
  have z0 : (numS 4 fm ++ numS 4 0).size = 8 := by rw [ByteArray.size_append, z1, z2]
  have z3 := numS_size 1 (l.length : Int)
  have z4 := numS_size 3 (remV rt)
  have z5 := numsS_size 4 l
  have z6 : (⟨#[82, 69, 77, 66]⟩ : ByteArray).size = 4 := rfl
  have z7 : ((⟨#[82, 69, 77, 66]⟩ : ByteArray) ++ numS 1 (l.length : Int)).size = 5 := by rw [ByteArray.size_append, z6, z3]
  have z8 : ((⟨#[82, 69, 77, 66]⟩ : ByteArray) ++ numS 1 (l.length : Int) ++ numS 3 (remV rt)).size = 8 := by rw [ByteArray.size_append, z7, z4]
  have z9 : ((⟨#[82, 69, 77, 66]⟩ : ByteArray) ++ numS 1 (l.length : Int) ++ numS 3 (remV rt) ++ numsS 4 l).size = 8 + 4 * l.length := by rw [ByteArray.size_append, z8, z5]
  have he := exM_le h2
  have hq := exM_q h2
  have hV := remV_b h2
  have qp := ePow (exM rt) (by omega)
  have qs := eShift rt h2
  have h0 : 0 ≤ rt ∧ rt ≤ 18446744073709551615 := h2
  have hp : (0 : Int) < 2 ^ exM rt := Int.pow_pos (by omega)
  have hd : rt.tdiv (2 ^ exM rt) = rt / 2 ^ exM rt := Int.tdiv_eq_ediv_of_nonneg h0.1
  have hfin : numsS 4 [fm, 0] ++ (⟨#[82, 69, 77, 66]⟩ : ByteArray) ++ numsS 1 [(l.length : Int)] ++ numsS 3 [remV rt] ++ numsS 4 l = (numS 4 fm ++ numS 4 0) ++ ((⟨#[82, 69, 77, 66]⟩ : ByteArray) ++ numS 1 (l.length : Int) ++ numS 3 (remV rt) ++ numsS 4 l) := by
    rw [numsS2, numsS_one, numsS_one]; simp only [ByteArray.append_assoc]
  have qn := rNum 3 (remV rt) 3 rfl (by omega)
  have hR : remV rt = exM rt * 262144 + rt / 2 ^ exM rt := rfl
  simp only [txK, remT]
  show Fn _ _ _ _ _ (fun v L' R' => v = .string (numsS 4 [fm, 0] ++ (⟨#[82, 69, 77, 66]⟩ : ByteArray) ++ numsS 1 [(l.length : Int)] ++ numsS 3 [remV rt] ++ numsS 4 l) ∧ L' = [] ∧ R' = [])
  rw [hfin]
  clear hfin
  generalize remV rt = V at *
  generalize exM rt = e at *
  generalize (2 : Int) ^ e = P at *
  subst hR
  refine fn_intro Try.func75 rfl Try.ntmps75 rfl (fun E => ?_)
  (repeat (first | ((first | (apply wo_v; rfl) ); (· first | (apply pv_ev; rfl) )) | apply wo_nil | apply wc_seq | apply wc_region | (apply wo_box1; rfl; rfl; rfl; intro bx) | (apply wo_boxa; rfl; rfl; intro bx) ))
  obtain ⟨g, hg⟩ : ∃ g, g = bx := ⟨_, rfl⟩
  subst hg
  (refine wc_quiet mixed (by kernel_rfl) ?_; (repeat (first | ((first | (apply hd_v; rfl) ); (· first | (apply pv_ev; rfl) | (apply pv_fld; rfl) | (apply g_load; first | (apply pv_ld; rfl; (· (repeat (first | apply sel_here ))); rfl) ) )) )))
  (refine Hd.call rfl inferInstance (Fn.mono (eNum4 fm h1) (fun _ _ _ h => ⟨h.1, h.2.1⟩)) rfl (by (repeat (first | apply sub_nil )); done) (by first | exact fun _ h => h | (intro r hr; cases hr; done) | (simp; done) | exact fun _ h => List.mem_append_left _ h | (intro r hr; simp [hr]; done)) rfl ?_; (repeat (first | ((first | (apply hd_v; rfl) ); (· first | (apply pv_ev; rfl) | (apply pv_fld; rfl) | (apply g_load; first | (apply pv_ld; rfl; (· (repeat (first | apply sel_here ))); rfl) ) )) )))
  (refine Hd.call rfl inferInstance (Fn.mono (eNum4 0 in32_0) (fun _ _ _ h => ⟨h.1, h.2.1⟩)) rfl (by (repeat (first | apply sub_nil )); done) (by first | exact fun _ h => h | (intro r hr; cases hr; done) | (simp; done) | exact fun _ h => List.mem_append_left _ h | (intro r hr; simp [hr]; done)) rfl ?_; (repeat (first | ((first | (apply wo_v; rfl) | (apply hd_v; rfl) ); (· first | (apply pv_ev; rfl) | (apply pv_fld; rfl) | (apply g_load; first | (apply pv_ld; rfl; (· (repeat (first | apply sel_here ))); rfl) ) | (apply g_pick; first | (apply pv_pick_t; rfl; rfl) ) | (apply g_bin; first | (apply a_add; rfl; rfl; infer_instance; omega) | (apply pv_add_s; rfl; rfl; omega) ) )) | apply wo_nil | apply Hd.nil | apply wc_seq | apply wc_region | apply wc_skip | (apply wc_true; rfl) | (apply wc_false; rfl) | (apply wo_run; rfl; rfl) )))
  (repeat (first | ((first | (apply wo_v; rfl) ); (· first | (apply pv_ev; rfl) )) ))
  generalize numS 4 fm ++ numS 4 0 = S0 at *
  (refine wo_call (qs) rfl (by (repeat (first | apply sub_nil )); done) (by first | exact fun _ h => h | (intro r hr; cases hr; done) | (simp; done) | exact fun _ h => List.mem_append_left _ h | (intro r hr; simp [hr]; done)) rfl ?_; rintro v L' R' ⟨rfl, rfl, rfl⟩ H' hH RR hR; simp only [List.cons_append, List.nil_append] at hH hR; subst hH; have hR := hR.symm; subst hR)
  (repeat (first | ((first | (apply wo_v; rfl) ); (· first | (apply pv_ev; rfl) )) | apply wo_nil ))
  (refine wc_quiet mixed (by kernel_rfl) ?_; (repeat (first | ((first | (apply hd_v; rfl) ); (· first | (apply pv_ev; rfl) | (apply pv_fld; rfl) | (apply g_load; first | (apply pv_ld; rfl; (· (repeat (first | apply sel_here ))); rfl) ) | (apply g_bi; first | (apply pv_len_sl; rfl) ) | (apply g_conv; first | (apply a_conv; rfl; infer_instance; infer_instance; infer_instance; omega) ) )) )))
  (refine Hd.call rfl inferInstance (Fn.mono (rNum 1 (l.length : Int) 1 rfl (by omega)) (fun _ _ _ h => ⟨h.1, h.2.1⟩)) rfl (by (repeat (first | apply sub_nil )); done) (by first | exact fun _ h => h | (intro r hr; cases hr; done) | (simp; done) | exact fun _ h => List.mem_append_left _ h | (intro r hr; simp [hr]; done)) rfl ?_; (repeat (first | ((first | (apply hd_v; rfl) ); (· first | (apply pv_ev; rfl) | (apply pv_fld; rfl) | (apply g_load; first | (apply pv_ld; rfl; (· (repeat (first | apply sel_here ))); rfl) ) | (apply g_bin; first | (apply a_add; rfl; rfl; infer_instance; omega) | (apply a_mul; rfl; rfl; infer_instance; omega) | (apply pv_add_s; rfl; rfl; omega) ) | (apply g_conv; first | (apply a_conv; rfl; infer_instance; infer_instance; infer_instance; omega) ) )) )))
  (refine Hd.call rfl inferInstance (Fn.mono (qp) (fun _ _ _ h => ⟨h.1, h.2.1⟩)) rfl (by (repeat (first | apply sub_nil )); done) (by first | exact fun _ h => h | (intro r hr; cases hr; done) | (simp; done) | exact fun _ h => List.mem_append_left _ h | (intro r hr; simp [hr]; done)) rfl ?_; (repeat (first | ((first | (apply hd_v; rfl) ); (· first | (apply pv_ev; rfl) | (apply g_bin; first | (apply a_add; rfl; rfl; infer_instance; omega) | (apply a_quo; rfl; rfl; infer_instance; omega) ) )) )))
  (refine Hd.call rfl inferInstance (Fn.mono (qn) (fun _ _ _ h => ⟨h.1, h.2.1⟩)) rfl (by (repeat (first | apply sub_nil )); done) (by first | exact fun _ h => h | (intro r hr; cases hr; done) | (simp; done) | exact fun _ h => List.mem_append_left _ h | (intro r hr; simp [hr]; done)) rfl ?_; (repeat (first | ((first | (apply hd_v; rfl) ); (· first | (apply pv_ev; rfl) | (apply pv_fld; rfl) | (apply g_load; first | (apply pv_ld; rfl; (· (repeat (first | apply sel_here ))); rfl) ) | (apply g_bin; first | (apply a_add; rfl; rfl; infer_instance; omega) | (apply pv_add_s; rfl; rfl; omega) ) )) )))
  (refine Hd.call rfl inferInstance (Fn.mono (eNums l A _ c R hS hb (by omega)) (fun _ _ _ h => ⟨h.1, h.2.1⟩)) rfl (by (repeat (first | apply sub_nil )); done) (by first | exact fun _ h => h | (intro r hr; cases hr; done) | (simp; done) | exact fun _ h => List.mem_append_left _ h | (intro r hr; simp [hr]; done)) rfl ?_; (repeat (first | ((first | (apply wo_v; rfl) | (apply hd_v; rfl) ); (· first | (apply pv_ev; rfl) | (apply g_bin; first | (apply a_add; rfl; rfl; infer_instance; omega) | (apply pv_add_s; rfl; rfl; omega) ) )) | apply wo_nil | apply Hd.nil | apply wc_seq | apply wc_region | apply wc_ret )))
  (repeat (first | fail ))
  exact retv rfl (by (repeat (first | apply RV.nil | (apply RV.tmp; rfl) )); done) (⟨rfl, rfl, rfl⟩) (by (repeat (first | apply sub_nil )); done) (by first | exact fun _ h => h | (intro r hr; cases hr; done) | (simp; done) | exact fun _ h => List.mem_append_left _ h | (intro r hr; simp [hr]; done))
end Go.Proofs.Yteaccbbmphcmnaa

/-
  Layer 5's document: a packet's bytes, and those of several.
-/
namespace Go.Proofs.Yteaccbbmphcmnaa
set_option linter.unusedSimpArgs false
set_option linter.unusedVariables false
open Go.RowKit
attribute [local irreducible] Pv WO WC Fn
set_option maxRecDepth 100000
attribute [local irreducible] ByteArray.extract

abbrev BdC (R : List Ro) (w : Value) (tx : ByteArray) : Prop := Fn Try.prog 42 #[w] [] R (fun v L' R' => v = .string tx ∧ L' = [] ∧ R' = [])
theorem gFb (R : List Ro) (kd ct ss to ntp t pk oc : Int) (A1 : Option Addr) (n1 c1 : Nat) (A2 : Option Addr) (n2 c2 : Nat) (A3 : Option Addr) (n3 c3 : Nat) (tx : ByteArray) (A4 : Option Addr) (n4 c4 : Nat) (A5 : Option Addr) (n5 c5 : Nat) (rt : Int) (T : ByteArray) (hk : knB kd ct = true) (h203 : 203 < kd)
    (h : FbC R (rfA (rfL kd ct ss to ntp t pk oc (.slice A1 n1 c1) (.slice A2 n2 c2) (.slice A3 n3 c3) tx (.slice A4 n4 c4) (.slice A5 n5 c5) rt)) T) : BdC R (rfA (rfL kd ct ss to ntp t pk oc (.slice A1 n1 c1) (.slice A2 n2 c2) (.slice A3 n3 c3) tx (.slice A4 n4 c4) (.slice A5 n5 c5) rt)) T := by
  have qk := eKnown kd ct
  rw [hk] at qk
  refine fn_intro Try.func42 rfl Try.ntmps42 rfl (fun E => ?_)
  (repeat (first | ((first | (apply wo_v; rfl) ); (· first | (apply pv_ev; rfl) | (apply pv_fld; rfl) | (apply g_load; first | (apply pv_ld; rfl; (· (repeat (first | apply sel_here ))); rfl) ) )) | apply wo_nil | apply wc_seq | apply wc_region | (apply wo_box1; rfl; rfl; rfl; intro bx) | (apply wo_boxa; rfl; rfl; intro bx) ))
  (refine wo_call (qk) rfl (by (repeat (first | apply sub_nil )); done) (by first | exact fun _ h => h | (intro r hr; cases hr; done) | (simp; done) | exact fun _ h => List.mem_append_left _ h | (intro r hr; simp [hr]; done)) rfl ?_; rintro v L' R' ⟨rfl, rfl, rfl⟩ H' hH RR hR; simp only [List.cons_append, List.nil_append] at hH hR; subst hH; have hR := hR.symm; subst hR)
  (repeat (first | ((first | (apply wo_v; rfl) ); (· first | (apply pv_ev; rfl) | (apply pv_fld; rfl) | (apply g_load; first | (apply pv_ld; rfl; (· (repeat (first | apply sel_here ))); rfl) | (apply pv_lda; rfl; (· (repeat (first | apply sel_here ))); (· (repeat (first | apply Cut.here0 | apply Cut.here )))) ) | (apply g_un; first | (apply pv_not_t; rfl) ) )) | apply wo_nil | apply wc_seq | apply wc_region | apply wc_block | apply wc_skip | (apply wc_true; rfl) | (apply wc_false; rfl) | (apply a_dec_t; rfl; (· first | assumption | omega)) | (apply a_dec_f; rfl; (· first | assumption | omega)) ))
  (refine wo_call (h) rfl (by (repeat (first | apply sub_nil )); done) (by first | exact fun _ h => h | (intro r hr; cases hr; done) | (simp; done) | exact fun _ h => List.mem_append_left _ h | (intro r hr; simp [hr]; done)) rfl ?_; rintro v L' R' ⟨rfl, rfl, rfl⟩ H' hH RR hR; simp only [List.cons_append, List.nil_append] at hH hR; subst hH; have hR := hR.symm; subst hR)
  (repeat (first | ((first | (apply wo_v; rfl) ); (· first | (apply pv_ev; rfl) )) | apply wo_nil | apply wc_ret ))
  exact retv rfl (by (repeat (first | apply RV.nil | (apply RV.tmp; rfl) )); done) (⟨rfl, rfl, rfl⟩) (by (repeat (first | apply sub_nil )); done) (by first | exact fun _ h => h | (intro r hr; cases hr; done) | (simp; done) | exact fun _ h => List.mem_append_left _ h | (intro r hr; simp [hr]; done))
theorem gOther (R : List Ro) (kd ct : Int) (bd : ByteArray) (hk : knB kd ct = false) : BdC R (rfA (rfL kd ct 0 0 0 0 0 0 nilS nilS nilS bd nilS nilS 0)) bd := by
  have qk := eKnown kd ct
  rw [hk] at qk
  refine fn_intro Try.func42 rfl Try.ntmps42 rfl (fun E => ?_)
  (repeat (first | ((first | (apply wo_v; rfl) ); (· first | (apply pv_ev; rfl) | (apply pv_fld; rfl) | (apply g_load; first | (apply pv_ld; rfl; (· (repeat (first | apply sel_here ))); rfl) ) )) | apply wo_nil | apply wc_seq | apply wc_region | (apply wo_box1; rfl; rfl; rfl; intro bx) | (apply wo_boxa; rfl; rfl; intro bx) ))
  (refine wo_call (qk) rfl (by (repeat (first | apply sub_nil )); done) (by first | exact fun _ h => h | (intro r hr; cases hr; done) | (simp; done) | exact fun _ h => List.mem_append_left _ h | (intro r hr; simp [hr]; done)) rfl ?_; rintro v L' R' ⟨rfl, rfl, rfl⟩ H' hH RR hR; simp only [List.cons_append, List.nil_append] at hH hR; subst hH; have hR := hR.symm; subst hR)
  (repeat (first | ((first | (apply wo_v; rfl) ); (· first | (apply pv_ev; rfl) | (apply pv_fld; rfl) | (apply g_load; first | (apply pv_ld; rfl; (· (repeat (first | apply sel_here ))); rfl) ) | (apply g_un; first | (apply pv_not_t; rfl) | (apply pv_not_f; rfl) ) )) | apply wo_nil | apply wc_seq | apply wc_region | apply wc_ret | (apply wc_true; rfl) ))
  exact retv rfl (by (repeat (first | apply RV.nil | (apply RV.tmp; rfl) )); done) (⟨rfl, rfl, rfl⟩) (by (repeat (first | apply sub_nil )); done) (by first | exact fun _ h => h | (intro r hr; cases hr; done) | (simp; done) | exact fun _ h => List.mem_append_left _ h | (intro r hr; simp [hr]; done))
theorem kn_lo {kd ct : Int} (h : 200 ≤ kd ∧ kd ≤ 203) : knB kd ct = true := knB_iff.2 (.inl h)
theorem gSender (R : List Ro) (ss ntp t pk oc : Int) (l : List Bk) (A : Option Addr) (n c : Nat) (hS : SQ R 7 A n c (blkV l)) (hl : l.length ≤ 31) (hb : ∀ b ∈ l, b.ok) (h1 : in32 ss) (h2 : in64 ntp) (h3 : in32 t) (h4 : in32 pk) (h5 : in32 oc) : BdC R (rfA (rfL 200 l.length ss 0 ntp t pk oc (.slice A n c) nilS nilS E0 nilS nilS 0)) (txK (.sender ss ntp t pk oc l)) := by
  have qk := eKnown 200 l.length
  rw [kn_lo (by omega)] at qk
  have n0 : 0 ≤ ntp ∧ ntp ≤ 18446744073709551615 := h2
  have z1 := numS_size 4 ss
  have z2 := numS_size 8 ntp
  have z3 := numS_size 4 t
  have z4 := numS_size 4 pk
  have z5 := numS_size 4 oc
  have z6 := bksT_size l
  have y1 : (numS 4 ss ++ numS 8 ntp).size = 12 := by rw [ByteArray.size_append, z1, z2]
  have y2 : (numS 4 ss ++ numS 8 ntp ++ numS 4 t).size = 16 := by rw [ByteArray.size_append, y1, z3]
  have y3 : (numS 4 ss ++ numS 8 ntp ++ numS 4 t ++ numS 4 pk).size = 20 := by rw [ByteArray.size_append, y2, z4]
  have y4 : (numS 4 ss ++ numS 8 ntp ++ numS 4 t ++ numS 4 pk ++ numS 4 oc).size = 24 := by rw [ByteArray.size_append, y3, z5]
  have e : txK (.sender ss ntp t pk oc l) = numS 4 ss ++ numS 8 ntp ++ numS 4 t ++ numS 4 pk ++ numS 4 oc ++ bksT l := by
    simp only [txK, numsS_one]
    show _ ++ (numS 4 t ++ (numS 4 pk ++ (numS 4 oc ++ E0))) ++ _ = _
    rw [append_E0]; simp only [ByteArray.append_assoc]
  rw [e]
  clear e
  refine fn_intro Try.func42 rfl Try.ntmps42 rfl (fun E => ?_)
  (repeat (first | ((first | (apply wo_v; rfl) ); (· first | (apply pv_ev; rfl) | (apply pv_fld; rfl) | (apply g_load; first | (apply pv_ld; rfl; (· (repeat (first | apply sel_here ))); rfl) ) )) | apply wo_nil | apply wc_seq | apply wc_region | (apply wo_box1; rfl; rfl; rfl; intro bx) | (apply wo_boxa; rfl; rfl; intro bx) ))
  (refine wo_call (qk) rfl (by (repeat (first | apply sub_nil )); done) (by first | exact fun _ h => h | (intro r hr; cases hr; done) | (simp; done) | exact fun _ h => List.mem_append_left _ h | (intro r hr; simp [hr]; done)) rfl ?_; rintro v L' R' ⟨rfl, rfl, rfl⟩ H' hH RR hR; simp only [List.cons_append, List.nil_append] at hH hR; subst hH; have hR := hR.symm; subst hR)
  (repeat (first | ((first | (apply wo_v; rfl) ); (· first | (apply pv_ev; rfl) | (apply pv_fld; rfl) | (apply g_load; first | (apply pv_ld; rfl; (· (repeat (first | apply sel_here ))); rfl) ) | (apply g_un; first | (apply pv_not_t; rfl) ) )) | apply wo_nil | apply wc_seq | apply wc_region | apply wc_block | apply wc_skip | (apply wc_true; rfl) | (apply wc_false; rfl) ))
  (refine wc_quiet mixed (by kernel_rfl) ?_; (repeat (first | ((first | (apply hd_v; rfl) ); (· first | (apply pv_ev; rfl) | (apply pv_fld; rfl) | (apply g_load; first | (apply pv_ld; rfl; (· (repeat (first | apply sel_here ))); rfl) ) )) )))
  (refine Hd.call rfl inferInstance (Fn.mono (eNum4 ss h1) (fun _ _ _ h => ⟨h.1, h.2.1⟩)) rfl (by (repeat (first | apply sub_nil )); done) (by first | exact fun _ h => h | (intro r hr; cases hr; done) | (simp; done) | exact fun _ h => List.mem_append_left _ h | (intro r hr; simp [hr]; done)) rfl ?_; (repeat (first | ((first | (apply hd_v; rfl) ); (· first | (apply pv_ev; rfl) | (apply pv_fld; rfl) | (apply g_load; first | (apply pv_ld; rfl; (· (repeat (first | apply sel_here ))); rfl) ) )) )))
  (refine Hd.call rfl inferInstance (Fn.mono (rNum 8 ntp 8 rfl n0) (fun _ _ _ h => ⟨h.1, h.2.1⟩)) rfl (by (repeat (first | apply sub_nil )); done) (by first | exact fun _ h => h | (intro r hr; cases hr; done) | (simp; done) | exact fun _ h => List.mem_append_left _ h | (intro r hr; simp [hr]; done)) rfl ?_; (repeat (first | ((first | (apply hd_v; rfl) ); (· first | (apply pv_ev; rfl) | (apply pv_fld; rfl) | (apply g_load; first | (apply pv_ld; rfl; (· (repeat (first | apply sel_here ))); rfl) ) | (apply g_bin; first | (apply a_add; rfl; rfl; infer_instance; omega) | (apply pv_add_s; rfl; rfl; omega) ) )) )))
  (refine Hd.call rfl inferInstance (Fn.mono (eNum4 t h3) (fun _ _ _ h => ⟨h.1, h.2.1⟩)) rfl (by (repeat (first | apply sub_nil )); done) (by first | exact fun _ h => h | (intro r hr; cases hr; done) | (simp; done) | exact fun _ h => List.mem_append_left _ h | (intro r hr; simp [hr]; done)) rfl ?_; (repeat (first | ((first | (apply hd_v; rfl) ); (· first | (apply pv_ev; rfl) | (apply pv_fld; rfl) | (apply g_load; first | (apply pv_ld; rfl; (· (repeat (first | apply sel_here ))); rfl) ) | (apply g_bin; first | (apply a_add; rfl; rfl; infer_instance; omega) | (apply pv_add_s; rfl; rfl; omega) ) )) )))
  (refine Hd.call rfl inferInstance (Fn.mono (eNum4 pk h4) (fun _ _ _ h => ⟨h.1, h.2.1⟩)) rfl (by (repeat (first | apply sub_nil )); done) (by first | exact fun _ h => h | (intro r hr; cases hr; done) | (simp; done) | exact fun _ h => List.mem_append_left _ h | (intro r hr; simp [hr]; done)) rfl ?_; (repeat (first | ((first | (apply hd_v; rfl) ); (· first | (apply pv_ev; rfl) | (apply pv_fld; rfl) | (apply g_load; first | (apply pv_ld; rfl; (· (repeat (first | apply sel_here ))); rfl) ) | (apply g_bin; first | (apply a_add; rfl; rfl; infer_instance; omega) | (apply pv_add_s; rfl; rfl; omega) ) )) )))
  (refine Hd.call rfl inferInstance (Fn.mono (eNum4 oc h5) (fun _ _ _ h => ⟨h.1, h.2.1⟩)) rfl (by (repeat (first | apply sub_nil )); done) (by first | exact fun _ h => h | (intro r hr; cases hr; done) | (simp; done) | exact fun _ h => List.mem_append_left _ h | (intro r hr; simp [hr]; done)) rfl ?_; (repeat (first | ((first | (apply hd_v; rfl) ); (· first | (apply pv_ev; rfl) | (apply pv_fld; rfl) | (apply g_load; first | (apply pv_ld; rfl; (· (repeat (first | apply sel_here ))); rfl) ) | (apply g_bin; first | (apply a_add; rfl; rfl; infer_instance; omega) | (apply pv_add_s; rfl; rfl; omega) ) )) )))
  (refine Hd.call rfl inferInstance (Fn.mono (eBlocks l A n c R hS hb (by omega)) (fun _ _ _ h => ⟨h.1, h.2.1⟩)) rfl (by (repeat (first | apply sub_nil )); done) (by first | exact fun _ h => h | (intro r hr; cases hr; done) | (simp; done) | exact fun _ h => List.mem_append_left _ h | (intro r hr; simp [hr]; done)) rfl ?_; (repeat (first | ((first | (apply hd_v; rfl) ); (· first | (apply pv_ev; rfl) | (apply g_bin; first | (apply a_add; rfl; rfl; infer_instance; omega) | (apply pv_add_s; rfl; rfl; omega) ) )) | apply Hd.nil | apply wc_ret )))
  (repeat (first | fail ))
  exact retv rfl (by (repeat (first | apply RV.nil | (apply RV.tmp; rfl) )); done) (⟨rfl, rfl, rfl⟩) (by (repeat (first | apply sub_nil )); done) (by first | exact fun _ h => h | (intro r hr; cases hr; done) | (simp; done) | exact fun _ h => List.mem_append_left _ h | (intro r hr; simp [hr]; done))
theorem gReceiver (R : List Ro) (ss : Int) (l : List Bk) (A : Option Addr) (n c : Nat) (hS : SQ R 7 A n c (blkV l)) (hl : l.length ≤ 31) (hb : ∀ b ∈ l, b.ok) (h1 : in32 ss) : BdC R (rfA (rfL 201 l.length ss 0 0 0 0 0 (.slice A n c) nilS nilS E0 nilS nilS 0)) (txK (.receiver ss l)) := by
  have qk := eKnown 201 l.length
  rw [kn_lo (by omega)] at qk
  have z1 := numS_size 4 ss
  have z6 := bksT_size l
  simp only [txK, numsS_one]
  refine fn_intro Try.func42 rfl Try.ntmps42 rfl (fun E => ?_)
  (repeat (first | ((first | (apply wo_v; rfl) ); (· first | (apply pv_ev; rfl) | (apply pv_fld; rfl) | (apply g_load; first | (apply pv_ld; rfl; (· (repeat (first | apply sel_here ))); rfl) ) )) | apply wo_nil | apply wc_seq | apply wc_region | (apply wo_box1; rfl; rfl; rfl; intro bx) | (apply wo_boxa; rfl; rfl; intro bx) ))
  (refine wo_call (qk) rfl (by (repeat (first | apply sub_nil )); done) (by first | exact fun _ h => h | (intro r hr; cases hr; done) | (simp; done) | exact fun _ h => List.mem_append_left _ h | (intro r hr; simp [hr]; done)) rfl ?_; rintro v L' R' ⟨rfl, rfl, rfl⟩ H' hH RR hR; simp only [List.cons_append, List.nil_append] at hH hR; subst hH; have hR := hR.symm; subst hR)
  (repeat (first | ((first | (apply wo_v; rfl) ); (· first | (apply pv_ev; rfl) | (apply pv_fld; rfl) | (apply g_load; first | (apply pv_ld; rfl; (· (repeat (first | apply sel_here ))); rfl) ) | (apply g_un; first | (apply pv_not_t; rfl) ) )) | apply wo_nil | apply wc_seq | apply wc_region | apply wc_block | apply wc_skip | (apply wc_true; rfl) | (apply wc_false; rfl) ))
  (refine wc_quiet mixed (by kernel_rfl) ?_; (repeat (first | ((first | (apply hd_v; rfl) ); (· first | (apply pv_ev; rfl) | (apply pv_fld; rfl) | (apply g_load; first | (apply pv_ld; rfl; (· (repeat (first | apply sel_here ))); rfl) ) )) )))
  (refine Hd.call rfl inferInstance (Fn.mono (eNum4 ss h1) (fun _ _ _ h => ⟨h.1, h.2.1⟩)) rfl (by (repeat (first | apply sub_nil )); done) (by first | exact fun _ h => h | (intro r hr; cases hr; done) | (simp; done) | exact fun _ h => List.mem_append_left _ h | (intro r hr; simp [hr]; done)) rfl ?_; (repeat (first | ((first | (apply hd_v; rfl) ); (· first | (apply pv_ev; rfl) | (apply pv_fld; rfl) | (apply g_load; first | (apply pv_ld; rfl; (· (repeat (first | apply sel_here ))); rfl) ) )) )))
  (refine Hd.call rfl inferInstance (Fn.mono (eBlocks l A n c R hS hb (by omega)) (fun _ _ _ h => ⟨h.1, h.2.1⟩)) rfl (by (repeat (first | apply sub_nil )); done) (by first | exact fun _ h => h | (intro r hr; cases hr; done) | (simp; done) | exact fun _ h => List.mem_append_left _ h | (intro r hr; simp [hr]; done)) rfl ?_; (repeat (first | ((first | (apply hd_v; rfl) ); (· first | (apply pv_ev; rfl) | (apply g_bin; first | (apply a_add; rfl; rfl; infer_instance; omega) | (apply pv_add_s; rfl; rfl; omega) ) )) | apply Hd.nil | apply wc_ret )))
  (repeat (first | fail ))
  exact retv rfl (by (repeat (first | apply RV.nil | (apply RV.tmp; rfl) )); done) (⟨rfl, rfl, rfl⟩) (by (repeat (first | apply sub_nil )); done) (by first | exact fun _ h => h | (intro r hr; cases hr; done) | (simp; done) | exact fun _ h => List.mem_append_left _ h | (intro r hr; simp [hr]; done))
theorem gSdes (R : List Ro) (l : List Ck5) (rows : List (List Value)) (A : Option Addr) (n c : Nat) (hS : SQ R 2 A n c rows) (hV : ChsV R l rows) (hl : l.length ≤ 31) (hb : ∀ c ∈ l, in32 c.1 ∧ c.2.length ≤ 1000 ∧ ∀ x ∈ c.2, in8 x.1 ∧ x.2.size ≤ 1000) : BdC R (rfA (rfL 202 l.length 0 0 0 0 0 0 nilS (.slice A n c) nilS E0 nilS nilS 0)) (txK (.sdes l)) := by
  have qk := eKnown 202 l.length
  rw [kn_lo (by omega)] at qk
  refine fn_intro Try.func42 rfl Try.ntmps42 rfl (fun E => ?_)
  (repeat (first | ((first | (apply wo_v; rfl) ); (· first | (apply pv_ev; rfl) | (apply pv_fld; rfl) | (apply g_load; first | (apply pv_ld; rfl; (· (repeat (first | apply sel_here ))); rfl) ) )) | apply wo_nil | apply wc_seq | apply wc_region | (apply wo_box1; rfl; rfl; rfl; intro bx) | (apply wo_boxa; rfl; rfl; intro bx) ))
  (refine wo_call (qk) rfl (by (repeat (first | apply sub_nil )); done) (by first | exact fun _ h => h | (intro r hr; cases hr; done) | (simp; done) | exact fun _ h => List.mem_append_left _ h | (intro r hr; simp [hr]; done)) rfl ?_; rintro v L' R' ⟨rfl, rfl, rfl⟩ H' hH RR hR; simp only [List.cons_append, List.nil_append] at hH hR; subst hH; have hR := hR.symm; subst hR)
  (repeat (first | ((first | (apply wo_v; rfl) ); (· first | (apply pv_ev; rfl) | (apply pv_fld; rfl) | (apply g_load; first | (apply pv_ld; rfl; (· (repeat (first | apply sel_here ))); rfl) ) | (apply g_un; first | (apply pv_not_t; rfl) ) )) | apply wo_nil | apply wc_seq | apply wc_region | apply wc_block | apply wc_skip | (apply wc_true; rfl) | (apply wc_false; rfl) ))
  (refine wo_call (eChunks l rows A n c R hS hV (by omega) hb) rfl (by (repeat (first | apply sub_nil )); done) (by first | exact fun _ h => h | (intro r hr; cases hr; done) | (simp; done) | exact fun _ h => List.mem_append_left _ h | (intro r hr; simp [hr]; done)) rfl ?_; rintro v L' R' ⟨rfl, rfl, rfl⟩ H' hH RR hR; simp only [List.cons_append, List.nil_append] at hH hR; subst hH; have hR := hR.symm; subst hR)
  (repeat (first | ((first | (apply wo_v; rfl) ); (· first | (apply pv_ev; rfl) )) | apply wo_nil | apply wc_ret ))
  exact retv rfl (by (repeat (first | apply RV.nil | (apply RV.tmp; rfl) )); done) (⟨rfl, rfl, rfl⟩) (by (repeat (first | apply sub_nil )); done) (by first | exact fun _ h => h | (intro r hr; cases hr; done) | (simp; done) | exact fun _ h => List.mem_append_left _ h | (intro r hr; simp [hr]; done))
theorem gBye (R : List Ro) (l : List Int) (rs : ByteArray) (A : Option Addr) (n c : Nat) (hS : SQ R 1 A n c (c32 l)) (hl : l.length ≤ 31) (hb : ∀ x ∈ l, in32 x) (hrs : rs.size ≤ 255) : BdC R (rfA (rfL 203 l.length 0 0 0 0 0 0 nilS nilS (.slice A n c) rs nilS nilS 0)) (txK (.bye l rs)) := by
  have qk := eKnown 203 l.length
  rw [kn_lo (by omega)] at qk
  have z1 := numsS_size 4 l
  have z2 := numS_size 1 (rs.size : Int)
  have z3 : (numsS 4 l ++ numS 1 (rs.size : Int)).size = 4 * l.length + 1 := by rw [ByteArray.size_append, z1, z2]
  have z4 : (numsS 4 l ++ numS 1 (rs.size : Int) ++ rs).size = 4 * l.length + 1 + rs.size := by rw [ByteArray.size_append, z3]
  simp only [txK, byT, numsS_one]
  by_cases h0 : rs = E0
  · rw [if_pos h0]
    subst h0
    refine fn_intro Try.func42 rfl Try.ntmps42 rfl (fun E => ?_)
    (repeat (first | ((first | (apply wo_v; rfl) ); (· first | (apply pv_ev; rfl) | (apply pv_fld; rfl) | (apply g_load; first | (apply pv_ld; rfl; (· (repeat (first | apply sel_here ))); rfl) ) )) | apply wo_nil | apply wc_seq | apply wc_region | (apply wo_box1; rfl; rfl; rfl; intro bx) | (apply wo_boxa; rfl; rfl; intro bx) ))
    (refine wo_call (qk) rfl (by (repeat (first | apply sub_nil )); done) (by first | exact fun _ h => h | (intro r hr; cases hr; done) | (simp; done) | exact fun _ h => List.mem_append_left _ h | (intro r hr; simp [hr]; done)) rfl ?_; rintro v L' R' ⟨rfl, rfl, rfl⟩ H' hH RR hR; simp only [List.cons_append, List.nil_append] at hH hR; subst hH; have hR := hR.symm; subst hR)
    (repeat (first | ((first | (apply wo_v; rfl) ); (· first | (apply pv_ev; rfl) | (apply pv_fld; rfl) | (apply g_load; first | (apply pv_ld; rfl; (· (repeat (first | apply sel_here ))); rfl) ) | (apply g_un; first | (apply pv_not_t; rfl) ) )) | apply wo_nil | apply wc_seq | apply wc_region | apply wc_block | apply wc_skip | (apply wc_true; rfl) | (apply wc_false; rfl) ))
    (refine wo_call (eNums l A n c R hS hb (by omega)) rfl (by (repeat (first | apply sub_nil )); done) (by first | exact fun _ h => h | (intro r hr; cases hr; done) | (simp; done) | exact fun _ h => List.mem_append_left _ h | (intro r hr; simp [hr]; done)) rfl ?_; rintro v L' R' ⟨rfl, rfl, rfl⟩ H' hH RR hR; simp only [List.cons_append, List.nil_append] at hH hR; subst hH; have hR := hR.symm; subst hR)
    (repeat (first | ((first | (apply wo_v; rfl) ); (· first | (apply pv_ev; rfl) | (apply pv_fld; rfl) | (apply g_load; first | (apply pv_ld; rfl; (· (repeat (first | apply sel_here ))); rfl) ) | (apply g_bin; first | (apply pv_neq_s; rfl; rfl) ) )) | apply wo_nil | apply wc_seq | apply wc_region | apply wc_skip | apply wc_ret | (apply wc_true; rfl) | (apply wc_false; rfl) ))
    exact retv rfl (by (repeat (first | apply RV.nil | (apply RV.tmp; rfl) )); done) (⟨rfl, rfl, rfl⟩) (by (repeat (first | apply sub_nil )); done) (by first | exact fun _ h => h | (intro r hr; cases hr; done) | (simp; done) | exact fun _ h => List.mem_append_left _ h | (intro r hr; simp [hr]; done))
  · rw [if_neg h0]
    refine fn_intro Try.func42 rfl Try.ntmps42 rfl (fun E => ?_)
    (repeat (first | ((first | (apply wo_v; rfl) ); (· first | (apply pv_ev; rfl) | (apply pv_fld; rfl) | (apply g_load; first | (apply pv_ld; rfl; (· (repeat (first | apply sel_here ))); rfl) ) )) | apply wo_nil | apply wc_seq | apply wc_region | (apply wo_box1; rfl; rfl; rfl; intro bx) | (apply wo_boxa; rfl; rfl; intro bx) ))
    (refine wo_call (qk) rfl (by (repeat (first | apply sub_nil )); done) (by first | exact fun _ h => h | (intro r hr; cases hr; done) | (simp; done) | exact fun _ h => List.mem_append_left _ h | (intro r hr; simp [hr]; done)) rfl ?_; rintro v L' R' ⟨rfl, rfl, rfl⟩ H' hH RR hR; simp only [List.cons_append, List.nil_append] at hH hR; subst hH; have hR := hR.symm; subst hR)
    (repeat (first | ((first | (apply wo_v; rfl) ); (· first | (apply pv_ev; rfl) | (apply pv_fld; rfl) | (apply g_load; first | (apply pv_ld; rfl; (· (repeat (first | apply sel_here ))); rfl) ) | (apply g_un; first | (apply pv_not_t; rfl) ) )) | apply wo_nil | apply wc_seq | apply wc_region | apply wc_block | apply wc_skip | (apply wc_true; rfl) | (apply wc_false; rfl) ))
    (refine wo_call (eNums l A n c R hS hb (by omega)) rfl (by (repeat (first | apply sub_nil )); done) (by first | exact fun _ h => h | (intro r hr; cases hr; done) | (simp; done) | exact fun _ h => List.mem_append_left _ h | (intro r hr; simp [hr]; done)) rfl ?_; rintro v L' R' ⟨rfl, rfl, rfl⟩ H' hH RR hR; simp only [List.cons_append, List.nil_append] at hH hR; subst hH; have hR := hR.symm; subst hR)
    (repeat (first | ((first | (apply wo_v; rfl) ); (· first | (apply pv_ev; rfl) | (apply pv_fld; rfl) | (apply g_load; first | (apply pv_ld; rfl; (· (repeat (first | apply sel_here ))); rfl) ) | (apply g_bin; first | (apply pv_neq_s; rfl; rfl) ) )) | apply wo_nil | apply wc_seq | apply wc_region | (apply wc_true; rfl) | (apply wc_false; rfl) | (apply a_dec_t; rfl; (· first | assumption | omega)) ))
    (refine wc_quiet mixed (by kernel_rfl) ?_; (repeat (first | ((first | (apply hd_v; rfl) ); (· first | (apply pv_ev; rfl) | (apply pv_fld; rfl) | (apply g_load; first | (apply pv_ld; rfl; (· (repeat (first | apply sel_here ))); rfl) ) | (apply g_bi; first | (apply pv_len_str; rfl) ) | (apply g_conv; first | (apply a_conv; rfl; infer_instance; infer_instance; infer_instance; omega) ) )) )))
    (refine Hd.call rfl inferInstance (Fn.mono (rNum 1 (rs.size : Int) 1 rfl (by omega)) (fun _ _ _ h => ⟨h.1, h.2.1⟩)) rfl (by (repeat (first | apply sub_nil )); done) (by first | exact fun _ h => h | (intro r hr; cases hr; done) | (simp; done) | exact fun _ h => List.mem_append_left _ h | (intro r hr; simp [hr]; done)) rfl ?_; (repeat (first | ((first | (apply hd_v; rfl) ); (· first | (apply pv_ev; rfl) | (apply pv_fld; rfl) | (apply g_load; first | (apply pv_ld; rfl; (· (repeat (first | apply sel_here ))); rfl) ) | (apply g_bin; first | (apply a_add; rfl; rfl; infer_instance; omega) | (apply pv_add_s; rfl; rfl; omega) ) )) )))
    (refine Hd.call rfl inferInstance (Fn.mono (ePad (numsS 4 l ++ numS 1 (rs.size : Int) ++ rs) (by omega)) (fun _ _ _ h => ⟨h.1, h.2.1⟩)) rfl (by (repeat (first | apply sub_nil )); done) (by first | exact fun _ h => h | (intro r hr; cases hr; done) | (simp; done) | exact fun _ h => List.mem_append_left _ h | (intro r hr; simp [hr]; done)) rfl ?_; (repeat (first | ((first | (apply wo_v; rfl) | (apply hd_v; rfl) ); (· first | (apply pv_ev; rfl) )) | apply wo_nil | apply Hd.nil | apply wc_seq | apply wc_region | apply wc_ret )))
    (repeat (first | fail ))
    exact retv rfl (by (repeat (first | apply RV.nil | (apply RV.tmp; rfl) )); done) (⟨rfl, rfl, rfl⟩) (by (repeat (first | apply sub_nil )); done) (by first | exact fun _ h => h | (intro r hr; cases hr; done) | (simp; done) | exact fun _ h => List.mem_append_left _ h | (intro r hr; simp [hr]; done))
theorem eBody {R : List Ro} : ∀ {p : Pkt} {w : Value}, okK p → RefV R p w → BdC R w (txK p)
  | .sender ss ntp t pk oc bl, w, h, hw => by
    obtain ⟨A, n, c, rfl, hS⟩ := hw
    obtain ⟨h1, h2, h3, h4, h5, h6, h7⟩ := h
    exact gSender R ss ntp t pk oc bl A n c hS h6 (fun b hb => (h7 b hb).1) h1 h2 h3 h4 h5
  | .receiver ss bl, w, h, hw => by
    obtain ⟨A, n, c, rfl, hS⟩ := hw
    obtain ⟨h1, h6, h7⟩ := h
    exact gReceiver R ss bl A n c hS h6 (fun b hb => (h7 b hb).1) h1
  | .sdes ch, w, h, hw => by
    obtain ⟨A, n, c, rows, rfl, hS, hV⟩ := hw
    obtain ⟨h1, h2⟩ := h
    exact gSdes R ch rows A n c hS hV h1 (fun c hc => ⟨(h2 c hc).1, (h2 c hc).2.1, fun x hx => ⟨((h2 c hc).2.2 x hx).1, by have := ((h2 c hc).2.2 x hx).2.2; omega⟩⟩)
  | .bye ss rs, w, h, hw => by
    obtain ⟨A, n, c, rfl, hS⟩ := hw
    obtain ⟨h1, h2, h3⟩ := h
    exact gBye R ss rs A n c hS h1 h2 h3
  | .nack fm to ps, w, h, hw => by
    obtain ⟨A, n, c, rfl, hS⟩ := hw
    obtain ⟨h1, h2, h3, h4⟩ := h
    exact gFb R _ _ _ _ _ _ _ _ _ _ _ _ _ _ _ _ _ _ _ _ _ _ _ _ _ _ (knB_iff.2 (by unfold knK; omega)) (by omega) (fNack R fm to ps A n c hS h3 h1 h2 h4)
  | .pli fm to, w, h, hw => by
    obtain rfl := hw
    exact gFb R _ _ _ _ _ _ _ _ _ _ _ _ _ _ _ _ _ _ _ _ _ _ _ _ _ _ (knB_iff.2 (by unfold knK; omega)) (by omega) (fPli R fm to h.1 h.2)
  | .fir fm os, w, h, hw => by
    obtain ⟨A, n, c, rfl, hS⟩ := hw
    obtain ⟨h1, h2, h3⟩ := h
    exact gFb R _ _ _ _ _ _ _ _ _ _ _ _ _ _ _ _ _ _ _ _ _ _ _ _ _ _ (knB_iff.2 (by unfold knK; omega)) (by omega) (fFir R fm os A n c hS h2 h1 h3)
  | .remb fm rt ss, w, h, hw => by
    obtain ⟨A, n, c, rfl, hS⟩ := hw
    obtain ⟨h1, h2, _, h3, h4⟩ := h
    exact gFb R _ _ _ _ _ _ _ _ _ _ _ _ _ _ _ _ _ _ _ _ _ _ _ _ _ _ (knB_iff.2 (by unfold knK; omega)) (by omega) (fRemb R fm rt ss A n c hS h3 h1 h2 h4)
  | .other kd ct bd, w, h, hw => by
    obtain rfl := hw
    obtain ⟨_, _, _, _, _, h6, h7⟩ := h
    exact gOther R kd ct bd (by cases hk : knB kd ct; rfl; exact absurd (knB_iff.1 hk) h7)
/-- rows of records -/
def RfsV (R : List Ro) (l : List Pkt) (rows : List (List Value)) : Prop := rows.length = l.length ∧ ∀ (i : Nat) p, l[i]? = some p → ∃ row, rows[i]? = some row ∧ RefV R p (rfA row)
theorem ref_hd {R : List Ro} : ∀ {p : Pkt} {w : Value}, RefV R p w → ∃ ss to ntp t pk oc A1 n1 c1 A2 n2 c2 A3 n3 c3 tx A4 n4 c4 A5 n5 c5 rt, w = rfA (rfL (hdK p).1 (hdK p).2 ss to ntp t pk oc (.slice A1 n1 c1) (.slice A2 n2 c2) (.slice A3 n3 c3) tx (.slice A4 n4 c4) (.slice A5 n5 c5) rt)
  | .sender .., _, h => by obtain ⟨A, n, c, rfl, _⟩ := h; exact ⟨_, _, _, _, _, _, _, _, _, _, _, _, _, _, _, _, _, _, _, _, _, _, _, rfl⟩
  | .receiver .., _, h => by obtain ⟨A, n, c, rfl, _⟩ := h; exact ⟨_, _, _, _, _, _, _, _, _, _, _, _, _, _, _, _, _, _, _, _, _, _, _, rfl⟩
  | .sdes .., _, h => by obtain ⟨A, n, c, _, rfl, _⟩ := h; exact ⟨_, _, _, _, _, _, _, _, _, _, _, _, _, _, _, _, _, _, _, _, _, _, _, rfl⟩
  | .bye .., _, h => by obtain ⟨A, n, c, rfl, _⟩ := h; exact ⟨_, _, _, _, _, _, _, _, _, _, _, _, _, _, _, _, _, _, _, _, _, _, _, rfl⟩
  | .nack .., _, h => by obtain ⟨A, n, c, rfl, _⟩ := h; exact ⟨_, _, _, _, _, _, _, _, _, _, _, _, _, _, _, _, _, _, _, _, _, _, _, rfl⟩
  | .pli .., _, h => by obtain rfl := h; exact ⟨_, _, _, _, _, _, _, _, _, _, _, _, _, _, _, _, _, _, _, _, _, _, _, rfl⟩
  | .fir .., _, h => by obtain ⟨A, n, c, rfl, _⟩ := h; exact ⟨_, _, _, _, _, _, _, _, _, _, _, _, _, _, _, _, _, _, _, _, _, _, _, rfl⟩
  | .remb .., _, h => by obtain ⟨A, n, c, rfl, _⟩ := h; exact ⟨_, _, _, _, _, _, _, _, _, _, _, _, _, _, _, _, _, _, _, _, _, _, _, rfl⟩
  | .other .., _, h => by obtain rfl := h; exact ⟨_, _, _, _, _, _, _, _, _, _, _, _, _, _, _, _, _, _, _, _, _, _, _, rfl⟩
theorem txs_take {l : List Pkt} {i : Nat} {p : Pkt} (h : l[i]? = some p) : txs (l.take (i + 1)) = txs (l.take i) ++ one4 ((hdK p).1, (hdK p).2, txK p) := by
  unfold txs
  rw [List.map_take, List.map_take]
  exact all4_take (by rw [List.getElem?_map, h]; rfl)
theorem numS1 {x : Int} (h : 0 ≤ x ∧ x ≤ 255) : numS 1 x = b1 x := by
  have e : numS 1 x = b1 (x % 256) := by
    show E0 ++ b1 (x % 256) = b1 (x % 256)
    rw [E0_append]
  rw [e]; congr 1; omega
theorem one4_eq (k ct : Int) (T : ByteArray) (hk : 0 ≤ k ∧ k ≤ 255) (hc : 0 ≤ ct ∧ ct ≤ 31) : one4 (k, ct, T) = numS 1 (128 + ct % 32) ++ numS 1 k ++ numS 2 (((pad4 T).size : Int) / 4) ++ pad4 T := by
  unfold one4 hd4
  dsimp only
  rw [numS1 (by omega), numS1 hk, show (((pad4 T).size / 4 : Nat) : Int) = ((pad4 T).size : Int) / 4 by omega]
theorem txs_sz {l : List Pkt} (hz : ∀ p ∈ l, (txK p).size ≤ 20000) : (txs l).size ≤ 20007 * l.length := by
  have := all4_size (l := l.map fun p => ((hdK p).1, (hdK p).2, txK p)) (m := 20000) (fun x hx => by obtain ⟨p, hp, rfl⟩ := List.mem_map.1 hx; exact hz p hp)
  rw [List.length_map] at this
  exact this
set_option maxHeartbeats 4000000 in
theorem eText (l : List Pkt) (rows : List (List Value)) (A : Option Addr) (n c : Nat) (R : List Ro) (hS : SQ R 15 A n c rows) (hV : RfsV R l rows) (hk : ∀ p ∈ l, okK p) (hl : l.length ≤ 100) (hz : ∀ p ∈ l, (txK p).size ≤ 20000) :
    Fn Try.prog 17 #[.slice A n c] [] R (fun v L' R' => v = .string (txs l) ∧ L' = [] ∧ R' = []) := by
  have hn : n = l.length := by rw [← hS.len, hV.1]
  subst hn
  refine fn_intro Try.func17 rfl Try.ntmps17 rfl (fun E => ?_)
  (repeat (first | ((first | (apply wo_v; rfl) ); (· first | (apply pv_ev; rfl) | (apply g_bi; first | (apply pv_len_sl; rfl) ) )) | apply wo_nil | apply wc_seq | apply wc_region ))
  refine wc_block ?_
  refine wc_loop' (fun q st => ∃ (i : Nat) (S : ByteArray), q = l.length - i ∧ i ≤ l.length ∧ S = txs (l.take i) ∧ st = ⟨[(3, .string S), (7, .slice A l.length c), (8, .int .i64 l.length), (9, .int .i64 i)], [], R⟩) ⟨0, E0, rfl, Nat.zero_le _, rfl, rfl⟩ (wk_mk (by (repeat (first | apply wkf_nil | (apply wkf_cons; rfl))); done) (by (repeat (first | apply sub_nil )); done) (by first | exact fun _ h => h | (intro r hr; cases hr; done) | (simp; done) | exact fun _ h => List.mem_append_left _ h | (intro r hr; simp [hr]; done))) ?_
  rintro q st ⟨i, S, rfl, hi, hS0, rfl⟩
  by_cases hlt : i < l.length
  · obtain ⟨p, hx⟩ : ∃ x, l[i]? = some x := ⟨_, List.getElem?_eq_getElem hlt⟩
    have hpm := List.mem_of_getElem? hx
    obtain ⟨row, hr, hw⟩ := hV.2 i p hx
    have hsz : S.size ≤ 20007 * i := by
      have := txs_sz (l := l.take i) (fun x hx => hz x (List.mem_of_mem_take hx))
      rw [List.length_take, Nat.min_eq_left hi] at this
      rw [hS0]; exact this
    have hnx := txs_take hx
    rw [← hS0] at hnx
    obtain ⟨i1, i2, i3, i4, i5⟩ := hdK_in (hk p hpm)
    rw [one4_eq _ _ _ i1 ⟨i2, i3⟩] at hnx
    have qb := eBody (hk p hpm) hw
    have hzp := hz p hpm
    have hpad := pad4_size (txK p)
    have qpd := ePad (txK p) (by omega)
    obtain ⟨ss, to, ntp, t, pk, oc, A1, n1, c1, A2, n2, c2, A3, n3, c3, tx, A4, n4, c4, A5, n5, c5, rt, he⟩ := ref_hd hw
    obtain rfl : row = rfL (hdK p).1 (hdK p).2 ss to ntp t pk oc (.slice A1 n1 c1) (.slice A2 n2 c2) (.slice A3 n3 c3) tx (.slice A4 n4 c4) (.slice A5 n5 c5) rt := by
      injection he with h1
      exact congrArg Array.toList h1
    clear hw he hS0
    have i1 : 0 ≤ (hdK p).1 ∧ (hdK p).1 ≤ 255 := i1
    generalize (hdK p).1 = kd at *
    generalize (hdK p).2 = ct at *
    generalize txK p = T at *
    obtain ⟨b0, o0, rfl, hmem⟩ := hS.pos (by omega)
    (repeat (first | ((first | (apply wo_v; rfl) ); (· first | (apply pv_ev; rfl) )) | apply wo_nil | apply wc_seq | apply wc_region | apply wc_skip | (apply wc_true; rfl) | (apply wc_false; rfl) | (apply a_dec_t; rfl; (· first | assumption | omega)) ))
    refine wc_block ?_
    (repeat (first | ((first | (apply wo_v; rfl) ); (· first | (apply pv_ev; rfl) | (apply g_load; first | (apply pv_lda; rfl; (· (repeat (first | apply sel_here ))); (· (repeat (first | apply Cut.here0 | apply Cut.here )))) | (apply pv_ld_owna; rfl; (· (repeat (first | fail ))); (· assumption)) | (apply pv_ld_roa; rfl; (· (first | assumption )); (· assumption))) | (apply g_idx; first | (apply pv_idx; rfl; rfl; omega) ) )) | apply wo_nil | apply wc_seq | apply wc_region | (apply wo_alloc; rfl; intro bx) | (apply wo_sta; rfl; rfl; rfl; rfl; (· (repeat (first | apply sel_here ))); (· (repeat (first | apply LayAt.nil | apply LayAt.here ))); rfl) ))
    (refine wo_call (qb) rfl (by (repeat (first | apply sub_nil )); done) (by first | exact fun _ h => h | (intro r hr; cases hr; done) | (simp; done) | exact fun _ h => List.mem_append_left _ h | (intro r hr; simp [hr]; done)) rfl ?_; rintro v L' R' ⟨rfl, rfl, rfl⟩ H' hH RR hR; simp only [List.cons_append, List.nil_append] at hH hR; subst hH; have hR := hR.symm; subst hR)
    (repeat (first | ((first | (apply wo_v; rfl) ); (· first | (apply pv_ev; rfl) )) ))
    (refine wo_call (qpd) rfl (by (repeat (first | apply sub_nil )); done) (by first | exact fun _ h => h | (intro r hr; cases hr; done) | (simp; done) | exact fun _ h => List.mem_append_left _ h | (intro r hr; simp [hr]; done)) rfl ?_; rintro v L' R' ⟨rfl, rfl, rfl⟩ H' hH RR hR; simp only [List.cons_append, List.nil_append] at hH hR; subst hH; have hR := hR.symm; subst hR)
    (repeat (first | ((first | (apply wo_v; rfl) ); (· first | (apply pv_ev; rfl) )) | apply wo_nil ))
    generalize pad4 T = B at *
    have z1 := numS_size 1 (128 + ct % 32)
    have z2 := numS_size 1 kd
    have z3 := numS_size 2 ((B.size : Int) / 4)
    have y1 : (numS 1 (128 + ct % 32) ++ numS 1 kd).size = 2 := by rw [ByteArray.size_append, z1, z2]
    have y2 : (numS 1 (128 + ct % 32) ++ numS 1 kd ++ numS 2 ((B.size : Int) / 4)).size = 4 := by rw [ByteArray.size_append, y1, z3]
    have y3 : (numS 1 (128 + ct % 32) ++ numS 1 kd ++ numS 2 ((B.size : Int) / 4) ++ B).size = 4 + B.size := by rw [ByteArray.size_append, y2]
    (refine wc_quiet mixed (by kernel_rfl) ?_; (repeat (first | ((first | (apply hd_v; rfl) ); (· first | (apply pv_ev; rfl) | (apply pv_fld; rfl) | (apply g_load; first | (apply pv_ld; rfl; (· (repeat (first | apply sel_here ))); rfl) ) | (apply g_bin; first | (apply a_add; rfl; rfl; infer_instance; omega) | (apply pv_rem; rfl; rfl; omega) ) | (apply g_conv; first | (apply a_conv; rfl; infer_instance; infer_instance; infer_instance; omega) ) )) )))
    (refine Hd.call rfl inferInstance (Fn.mono (rNum 1 (128 + ct % 32) 1 rfl (by omega)) (fun _ _ _ h => ⟨h.1, h.2.1⟩)) rfl (by (repeat (first | apply sub_nil )); done) (by first | exact fun _ h => h | (intro r hr; cases hr; done) | (simp; done) | exact fun _ h => List.mem_append_left _ h | (intro r hr; simp [hr]; done)) rfl ?_; (repeat (first | ((first | (apply hd_v; rfl) ); (· first | (apply pv_ev; rfl) | (apply pv_fld; rfl) | (apply g_load; first | (apply pv_ld; rfl; (· (repeat (first | apply sel_here ))); rfl) ) | (apply g_conv; first | (apply a_conv; rfl; infer_instance; infer_instance; infer_instance; omega) ) )) )))
    (refine Hd.call rfl inferInstance (Fn.mono (rNum 1 kd 1 rfl (by omega)) (fun _ _ _ h => ⟨h.1, h.2.1⟩)) rfl (by (repeat (first | apply sub_nil )); done) (by first | exact fun _ h => h | (intro r hr; cases hr; done) | (simp; done) | exact fun _ h => List.mem_append_left _ h | (intro r hr; simp [hr]; done)) rfl ?_; (repeat (first | ((first | (apply hd_v; rfl) ); (· first | (apply pv_ev; rfl) | (apply g_bin; first | (apply a_add; rfl; rfl; infer_instance; omega) | (apply a_quo; rfl; rfl; infer_instance; omega) | (apply pv_add_s; rfl; rfl; omega) ) | (apply g_bi; first | (apply pv_len_str; rfl) ) | (apply g_conv; first | (apply a_conv; rfl; infer_instance; infer_instance; infer_instance; omega) ) )) )))
    (refine Hd.call rfl inferInstance (Fn.mono (rNum 2 ((B.size : Int) / 4) 2 rfl (by omega)) (fun _ _ _ h => ⟨h.1, h.2.1⟩)) rfl (by (repeat (first | apply sub_nil )); done) (by first | exact fun _ h => h | (intro r hr; cases hr; done) | (simp; done) | exact fun _ h => List.mem_append_left _ h | (intro r hr; simp [hr]; done)) rfl ?_; (repeat (first | ((first | (apply wo_v; rfl) | (apply hd_v; rfl) ); (· first | (apply pv_ev; rfl) | (apply g_bin; first | (apply a_add; rfl; rfl; infer_instance; omega) | (apply pv_add_s; rfl; rfl; omega) ) )) | apply wo_nil | apply Hd.nil | apply wc_region )))
    (repeat (first | fail ))
    exact loop_end ⟨i + 1, _, rfl, by omega, hnx.symm, rfl⟩ (by omega) (wk_mk (by (repeat (first | apply wkf_nil | (apply wkf_cons; rfl))); done) (by (repeat (first | apply sub_nil )); done) (by first | exact fun _ h => h | (intro r hr; cases hr; done) | (simp; done) | exact fun _ h => List.mem_append_left _ h | (intro r hr; simp [hr]; done)))
  · have e : i = l.length := by omega
    subst e
    rw [List.take_length] at hS0
    subst hS0
    (repeat (first | ((first | (apply wo_v; rfl) ); (· first | (apply pv_ev; rfl) )) | apply wo_nil | apply wc_seq | apply wc_region | (apply wc_exit; rfl) | apply wc_ret | (apply wc_true; rfl) | (apply wc_false; rfl) | (apply a_dec_t; rfl; (· first | assumption | omega)) | (apply a_dec_f; rfl; (· first | assumption | omega)) ))
    exact retv rfl (by (repeat (first | apply RV.nil | (apply RV.tmp; rfl) )); done) (⟨rfl, rfl, rfl⟩) (by (repeat (first | apply sub_nil )); done) (by first | exact fun _ h => h | (intro r hr; cases hr; done) | (simp; done) | exact fun _ h => List.mem_append_left _ h | (intro r hr; simp [hr]; done))
end Go.Proofs.Yteaccbbmphcmnaa

/-
  Arguments that hold slices in structures, structures by value, slices of slices: what stands in the memory at the call. No program in sight.
-/
namespace Go.Proofs.Yteaccbbmphcmnaa
set_option linter.unusedSimpArgs false
set_option linter.unusedVariables false
open Go.ChangeShapes Go.WideShapes Go.ChangeAt Go.RowKit Go.Deep

inductive Fd1 where
  | one (k : TypeDesc)
  | sl (ks : List TypeDesc)
def FV1 (R : List Ro) : Fd1 → Value → Prop
  | .one k, v => FKok k v
  | .sl ks, v => ∃ (A : Option Addr) (n c : Nat) (V : Nat → Nat → Value), v = .slice A n c ∧ n ≤ c ∧ c ≤ maxLen ∧ (∀ i j k, i < n → ks[j]? = some k → FKok k (V i j)) ∧ (0 < n → ∃ b o, A = some ⟨b, o, none⟩ ∧ ⟨b, o, ks.length, rowsOf ks V n⟩ ∈ R)
def FV1s (R : List Ro) (fs : List Fd1) (row : List Value) : Prop := row.length = fs.length ∧ ∀ (j : Nat) f, fs[j]? = some f → ∃ v, row[j]? = some v ∧ FV1 R f v
theorem FV1.mono {R R' : List Ro} (h : ∀ r ∈ R, r ∈ R') {f : Fd1} {v : Value} (hv : FV1 R f v) : FV1 R' f v := by
  cases f with
  | one k => exact hv
  | sl ks =>
    obtain ⟨A, n, c, V, h1, h2, h3, h4, h5⟩ := hv
    exact ⟨A, n, c, V, h1, h2, h3, h4, fun hn => by obtain ⟨b, o, h6, h7⟩ := h5 hn; exact ⟨b, o, h6, h _ h7⟩⟩
theorem FV1s.mono {R R' : List Ro} (h : ∀ r ∈ R, r ∈ R') {fs : List Fd1} {row : List Value} (hv : FV1s R fs row) : FV1s R' fs row :=
  ⟨hv.1, fun j f hf => by obtain ⟨v, h1, h2⟩ := hv.2 j f hf; exact ⟨v, h1, h2.mono h⟩⟩
theorem FV1.one_ {R : List Ro} {f : Fd1} {v : Value} (h : FV1 R f v) : v.oneCell' = true := by
  cases f with
  | one k => exact fk_one h
  | sl ks => obtain ⟨A, n, c, V, rfl, _⟩ := h; rfl
def kindB (P : Program) (t : TypeId) (k : TypeDesc) : Bool := match P.underlying t, k with
  | some .bool, .bool => true
  | some .string, .string => true
  | some (.int q), .int q' => decide (q = q')
  | _, _ => false
theorem kindB_spec {P : Program} {t : TypeId} {k : TypeDesc} (h : kindB P t k = true) : P.underlying t = some k ∧ plainKinds [k] = true := by
  unfold kindB at h
  split at h <;> first | (rename_i h1; exact ⟨h1, rfl⟩) | (rename_i h1; have := of_decide_eq_true h; subst this; exact ⟨h1, rfl⟩) | cases h
def kindsB (P : Program) : List TypeId → List TypeDesc → Bool
  | [], [] => true
  | t :: ts, k :: ks => kindB P t k && kindsB P ts ks
  | _, _ => false
theorem kindsB_spec {P : Program} : ∀ {ts : List TypeId} {ks : List TypeDesc}, kindsB P ts ks = true → ts.map P.underlying = ks.map some ∧ plainKinds ks = true
  | [], [], _ => ⟨rfl, rfl⟩
  | t :: ts, k :: ks, h => by
    simp only [kindsB, Bool.and_eq_true] at h
    obtain ⟨h1, h2⟩ := kindB_spec h.1
    obtain ⟨h3, h4⟩ := kindsB_spec h.2
    refine ⟨by simp [h1, h3], ?_⟩
    simp only [plainKinds, List.all_cons, List.all_nil, Bool.and_true] at h2 h4 ⊢
    rw [h2, h4]; rfl
  | [], _ :: _, h => by cases h
  | _ :: _, [], h => by cases h
def fit1B (P : Program) (t : TypeId) : Fd1 → Bool
  | .one k => kindB P t k
  | .sl ks => match P.underlying t with
    | some (.slice e) => match P.underlying e with
      | some (.struct fs) => oneCellFields P fs && (P.cellsOf e == fs.size) && kindsB P (fs.toList.map (·.type)) ks && !ks.isEmpty
      | _ => (match ks with
        | [k] => kindB P e k && P.cellsOf e == 1
        | _ => false)
    | _ => false
def fit1sB (P : Program) : List TypeId → List Fd1 → Bool
  | [], [] => true
  | t :: ts, f :: fs => fit1B P t f && fit1sB P ts fs
  | _, _ => false
theorem fit1sB_at {P : Program} : ∀ {ts : List TypeId} {fs : List Fd1}, fit1sB P ts fs = true → ts.length = fs.length ∧ ∀ (j : Nat) f, fs[j]? = some f → ∃ t, ts[j]? = some t ∧ fit1B P t f = true
  | [], [], _ => ⟨rfl, fun j f h => by simp at h⟩
  | t :: ts, f :: fs, h => by
    simp only [fit1sB, Bool.and_eq_true] at h
    obtain ⟨h1, h2⟩ := fit1sB_at h.2
    refine ⟨by simp [h1], fun j g hg => ?_⟩
    cases j with
    | zero => simp at hg; subst hg; exact ⟨t, rfl, h.1⟩
    | succ j => simpa using h2 j g (by simpa using hg)
  | [], _ :: _, h => by cases h
  | _ :: _, [], h => by cases h
section
variable {H : Type} {enc : TypeId × Value → H} {P : Program} {W : World} {t e : TypeId} {a : Option Addr} {len cap : Nat} {d : DataW H} {p : List MemPlace}
theorem fv1_of {f : Fd1} {v : Value} {n : Nat} {y : DataW H × List MemPlace} (hf : fit1B P t f = true) (h : DataW.trod enc P W 0 (fun _ => true) true n t [v] = some y) : ∃ R : List Ro, (∀ r ∈ R, r.sat W) ∧ FV1 R f v := by
  cases f with
  | one k =>
    obtain ⟨h1, h2⟩ := kindB_spec hf
    exact ⟨[], (by intro r hr; cases hr), fk_of h1 (plain_of h2 (j := 0) rfl) h⟩
  | sl ks =>
    simp only [fit1B] at hf
    split at hf
    · rename_i e he
      obtain ⟨A, ln, cp, rfl⟩ : ∃ A ln cp, v = .slice A ln cp := by
        rcases open_slice he h with ⟨hcs, _⟩ | ⟨x, l, c, m, n, D, Pl, hcs, _⟩
        · simp at hcs; exact ⟨_, _, _, hcs⟩
        · simp at hcs; exact ⟨_, _, _, hcs⟩
      have hT : DataW.Trod enc P W 0 (fun _ => true) true t (.slice A ln cp) y.1 y.2 := ⟨n, h⟩
      have key : ∃ V, Rws ks W A ln cp V := by
        split at hf
        · rename_i fs hfs
          simp only [Bool.and_eq_true, beq_iff_eq, Bool.not_eq_true'] at hf
          obtain ⟨⟨⟨h1, h2⟩, h3⟩, h4⟩ := hf
          obtain ⟨h5, h6⟩ := kindsB_spec h3
          exact open_rws_struct he hfs h1 h2 ⟨by rw [← h5, List.map_map]; rfl, h6, by cases ks with | nil => simp at h4 | cons => simp⟩ hT
        · split at hf
          · rename_i k
            simp only [Bool.and_eq_true, beq_iff_eq] at hf
            exact open_rws_one he (kindB_spec hf.1) hf.2 hT
          · cases hf
      obtain ⟨V, hV⟩ := key
      have hk0 : 0 < ks.length := by
        cases ks with
        | cons => simp
        | nil =>
          split at hf
          · simp at hf
          · cases hf
      obtain ⟨R, h1, h2⟩ := rws_ro hV hk0
      exact ⟨R, h1, A, ln, cp, V, rfl, hV.1, hV.2.1, hV.2.2.2, h2⟩
    · cases hf
theorem fv1s_of {fs : List Fd1} {ts : List TypeId} {row : List Value} (hfit : fit1sB P ts fs = true) (hl : row.length = ts.length)
    (h : ∀ (j : Nat) t v, ts[j]? = some t → row[j]? = some v → ∃ n y, DataW.trod enc P W 0 (fun _ => true) true n t [v] = some y) : ∃ R : List Ro, (∀ r ∈ R, r.sat W) ∧ FV1s R fs row := by
  induction fs generalizing ts row with
  | nil =>
    cases ts with
    | nil => exact ⟨[], (by intro r hr; cases hr), by simpa using hl, fun j f hf => by simp at hf⟩
    | cons => cases hfit
  | cons f fs ih =>
    cases ts with
    | nil => cases hfit
    | cons t ts =>
      cases row with
      | nil => simp at hl
      | cons v row =>
        simp only [fit1sB, Bool.and_eq_true] at hfit
        obtain ⟨n, y, h0⟩ := h 0 t v rfl rfl
        obtain ⟨R1, g1, g2⟩ := fv1_of hfit.1 h0
        obtain ⟨R2, k1, k2, k3⟩ := ih hfit.2 (by simpa using hl) (fun j t v ht hv => h (j + 1) t v (by simpa using ht) (by simpa using hv))
        refine ⟨R1 ++ R2, fun r hr => ?_, by simp [k2], fun j g hg => ?_⟩
        · rcases List.mem_append.1 hr with hr | hr
          · exact g1 r hr
          · exact k1 r hr
        · cases j with
          | zero => simp at hg; subst hg; exact ⟨v, rfl, g2.mono fun r hr => List.mem_append_left _ hr⟩
          | succ j =>
            obtain ⟨u, h1, h2⟩ := k3 j g (by simpa using hg)
            exact ⟨u, by simpa using h1, h2.mono fun r hr => List.mem_append_right _ hr⟩
/-- a structure by value -/
theorem open_agg_deep {r : Reach} {b0 : Nat} {fs : Array Field} {Fs : List Fd1} {v : Value} (hs : P.underlying t = some (.struct fs)) (hone : oneCellFields P fs = true) (hC : P.cellsOf t = fs.size) (hfit : fit1sB P (fs.toList.map (·.type)) Fs = true)
    (hv : Value.okWide P W r b0 t v) (h : DataW.Trod enc P W 0 (fun _ => true) true t v d p) : ∃ (row : List Value) (R : List Ro), v = .agg row.toArray ∧ (∀ r ∈ R, r.sat W) ∧ FV1s R Fs row := by
  obtain ⟨cs, rfl, hsz⟩ := okWide_struct hs hv
  obtain ⟨fuel, hf⟩ := h
  obtain ⟨xs, n, _, _, hlen, hxl, hff⟩ := DataW.trod_struct hs hf
  have hcs : cs.toList.length = fs.size := by simp [hsz, hC]
  obtain ⟨R, h1, h2⟩ := fv1s_of (enc := enc) (W := W) (row := cs.toList) hfit (by simp [hsz, hC]) (fun j t' v ht hv => by
    have hj : j < fs.size := by have := (List.getElem?_eq_some_iff.1 hv).1; omega
    have hfj : fs[j]? = some fs[j] := Array.getElem?_eq_getElem hj
    obtain ⟨ho, hkc⟩ := hone_of hone j _ hfj
    have h3 := hff j _ hfj
    rw [ho, hkc] at h3
    have hd1 : ((Value.agg cs).cells.toList.drop j).take 1 = [v] := by
      have e : (Value.agg cs).cells.toList = cs.toList := rfl
      rw [e, List.drop_eq_getElem_cons (by omega)]
      have := (List.getElem?_eq_some_iff.1 hv).2
      simp [this]
    rw [hd1] at h3
    have ht2 : t' = fs[j].type := by simp [hfj] at ht; exact ht.symm
    subst ht2
    exact ⟨n, xs[j]'(by omega), h3.trans (List.getElem?_eq_getElem _)⟩)
  exact ⟨cs.toList, R, by simp, h1, h2⟩
theorem comb {Fs : List Fd1} {x : Addr} {sz : Nat} (hz : sz = Fs.length) (h0 : 0 < sz)
    (h : ∀ i, i < len → ∃ (row : List Value) (R : List Ro), (∀ r ∈ R, r.sat W) ∧ FV1s R Fs row ∧ ∀ j, j < sz → W.cell? (x.add (i * sz + j)) = row[j]?) :
    ∃ (rows : List (List Value)) (R : List Ro), (∀ r ∈ R, r.sat W) ∧ rows.length = len ∧ (∀ row ∈ rows, FV1s R Fs row) ∧ (0 < len → ∃ b o, (some x : Option Addr) = some ⟨b, o, none⟩ ∧ ⟨b, o, sz, rows⟩ ∈ R) := by
  classical
  let rowf (i : Nat) : List Value := if hi : i < len then Classical.choose (h i hi) else []
  let Rf (i : Nat) : List Ro := if hi : i < len then Classical.choose (Classical.choose_spec (h i hi)) else []
  have hspec : ∀ i, i < len → (∀ r ∈ Rf i, r.sat W) ∧ FV1s (Rf i) Fs (rowf i) ∧ ∀ j, j < sz → W.cell? (x.add (i * sz + j)) = (rowf i)[j]? := fun i hi => by
    have := Classical.choose_spec (Classical.choose_spec (h i hi))
    simp only [rowf, Rf, dif_pos hi]
    exact this
  let rows := (List.range len).map rowf
  let R0 := (List.range len).flatMap Rf
  have hR0 : ∀ r ∈ R0, r.sat W := fun r hr => by
    obtain ⟨i, hi, hr⟩ := List.mem_flatMap.1 hr
    exact (hspec i (List.mem_range.1 hi)).1 r hr
  have hrows : ∀ row ∈ rows, FV1s R0 Fs row := fun row hrow => by
    obtain ⟨i, hi, rfl⟩ := List.mem_map.1 hrow
    exact (hspec i (List.mem_range.1 hi)).2.1.mono fun r hr => List.mem_flatMap.2 ⟨i, hi, hr⟩
  rcases Nat.eq_zero_or_pos len with hl | hl
  · exact ⟨rows, R0, hR0, by simp [rows], hrows, fun h => by omega⟩
  · have hrl : ∀ i, i < len → (rowf i).length = sz := fun i hi => (hspec i hi).2.1.1.trans hz.symm
    have h00 : W.cell? (x.add (0 * sz + 0)) = some ((rowf 0)[0]'(by rw [hrl 0 hl]; exact h0)) := by
      rw [(hspec 0 hl).2.2 0 h0]; exact List.getElem?_eq_getElem _
    have hs : x.spot = none := World.cell?_spot (by simpa [Addr.add] using h00)
    obtain ⟨b, o, s⟩ := x
    simp only at hs
    subst hs
    have hadd : ∀ k, (⟨b, o, none⟩ : Addr).add k = ⟨b, o + k, none⟩ := fun k => by
      unfold Addr.add; split
      · rename_i h; simp [h]
      · rfl
    simp only [hadd] at hspec h00
    obtain ⟨cur, tt, fz, hb, _⟩ := block_of_cell h00
    have hok : RowsOk sz rows := fun row hrow => by
      obtain ⟨i, hi, rfl⟩ := List.mem_map.1 hrow
      have hi := List.mem_range.1 hi
      refine ⟨hrl i hi, fun u hu => ?_⟩
      obtain ⟨j, hj⟩ := List.mem_iff_getElem?.1 hu
      have hjl : j < Fs.length := by have := (List.getElem?_eq_some_iff.1 hj).1; rw [hrl i hi, hz] at this; exact this
      obtain ⟨v, h1, h2⟩ := (hspec i hi).2.1.2 j Fs[j] (List.getElem?_eq_getElem hjl)
      rw [hj] at h1
      obtain rfl := Option.some.inj h1
      exact h2.one_
    have hseg : Ro.sat W ⟨b, o, sz, rows⟩ := by
      refine ⟨hok, cur, tt, fz, hb, (seg_iff hok.lens).2 ?_⟩
      intro i row hi j u hj
      have hil : i < len := by have := (List.getElem?_eq_some_iff.1 hi).1; simpa [rows] using this
      have e : row = rowf i := by simp [rows, hil] at hi; exact hi.symm
      subst e
      have hjl : j < sz := by have := (List.getElem?_eq_some_iff.1 hj).1; rw [hrl i hil] at this; exact this
      have := (hspec i hil).2.2 j hjl
      rw [hj] at this
      unfold World.cell? at this
      rw [hb] at this
      simpa using this
    refine ⟨rows, ⟨b, o, sz, rows⟩ :: R0, fun r hr => ?_, by simp [rows], fun row hrow => (hrows row hrow).mono fun r hr => .tail _ hr, fun _ => ⟨b, o, rfl, .head _⟩⟩
    rcases List.mem_cons.1 hr with rfl | hr
    · exact hseg
    · exact hR0 r hr
/-- what a slice with such rows is -/
def Deep (R : List Ro) (Fs : List Fd1) (A : Option Addr) (n c : Nat) (rows : List (List Value)) : Prop :=
  n ≤ c ∧ c ≤ maxLen ∧ rows.length = n ∧ (∀ row ∈ rows, FV1s R Fs row) ∧ (0 < n → ∃ b o, A = some ⟨b, o, none⟩ ∧ ⟨b, o, Fs.length, rows⟩ ∈ R)
/-- a slice of structures -/
theorem open_sl_deep {fs : Array Field} {Fs : List Fd1} (ht : P.underlying t = some (.slice e)) (he : P.underlying e = some (.struct fs)) (hone : oneCellFields P fs = true) (hC : P.cellsOf e = fs.size) (hfit : fit1sB P (fs.toList.map (·.type)) Fs = true) (h0 : 0 < Fs.length)
    (h : DataW.Trod enc P W 0 (fun _ => true) true t (.slice a len cap) d p) : ∃ (rows : List (List Value)) (R : List Ro), (∀ r ∈ R, r.sat W) ∧ Deep R Fs a len cap rows := by
  have hsz : fs.size = Fs.length := by simpa using (fit1sB_at hfit).1
  obtain ⟨fuel, hf⟩ := h
  rcases open_slice ht hf with ⟨hcs, _⟩ | ⟨x, l, c, m, n, D, Pl, hcs, _, hl, hm, hmm, _, hi⟩
  · simp [Value.cells] at hcs
    obtain ⟨rfl, rfl, rfl⟩ := hcs
    exact ⟨[], [], (by intro r hr; cases hr), Nat.le_refl _, by simp [maxLen], rfl, (by intro row hr; cases hr), fun h => by omega⟩
  · simp [Value.cells] at hcs
    obtain ⟨rfl, rfl, rfl⟩ := hcs
    obtain ⟨rows, R, h1, h2, h3, h4⟩ := comb (W := W) (len := len) (x := x) (sz := Fs.length) rfl h0 (fun i hil => by
      obtain ⟨cs', hc, ht'⟩ := hi i (by simp at hmm; omega)
      obtain ⟨ys, n', _, _, hlen, hyl, hff⟩ := DataW.trod_struct he ht'
      obtain ⟨_, hcl, hat⟩ := World.cells?_some hc
      rw [hC, hsz] at hcl hat
      obtain ⟨R, h1, h2⟩ := fv1s_of (enc := enc) (W := W) (row := cs') hfit (by simp [hcl, hsz]) (fun j t' v ht hv => by
        have hj : j < fs.size := by have := (List.getElem?_eq_some_iff.1 hv).1; omega
        have hfj : fs[j]? = some fs[j] := Array.getElem?_eq_getElem hj
        obtain ⟨ho, hkc⟩ := hone_of hone j _ hfj
        have h3 := hff j _ hfj
        rw [ho, hkc] at h3
        have hd1 : (cs'.drop j).take 1 = [v] := by
          rw [List.drop_eq_getElem_cons (by omega)]
          have := (List.getElem?_eq_some_iff.1 hv).2
          simp [this]
        rw [hd1] at h3
        have ht2 : t' = fs[j].type := by simp [hfj] at ht; exact ht.symm
        subst ht2
        exact ⟨n', ys[j]'(by omega), h3.trans (List.getElem?_eq_getElem _)⟩)
      refine ⟨cs', R, h1, h2, fun j hj => ?_⟩
      have hadd : x.add (i * Fs.length + j) = (x.add (i * Fs.length)).add j := by rw [Go.Deep.add_add]
      rw [hadd]; exact hat j hj)
    exact ⟨rows, R, h1, hl, hm, h2, h3, h4⟩
/-- a slice of slices -/
theorem open_sls_deep {f : Fd1} (ht : P.underlying t = some (.slice e)) (hC : P.cellsOf e = 1) (hfit : fit1B P e f = true)
    (h : DataW.Trod enc P W 0 (fun _ => true) true t (.slice a len cap) d p) : ∃ (rows : List (List Value)) (R : List Ro), (∀ r ∈ R, r.sat W) ∧ Deep R [f] a len cap rows := by
  obtain ⟨fuel, hf⟩ := h
  rcases open_slice1 ht hC hf with ⟨hcs, _⟩ | ⟨x, l, c, m, n, V, D, Pl, hcs, _, hl, hm, hmm, _, hi⟩
  · simp [Value.cells] at hcs
    obtain ⟨rfl, rfl, rfl⟩ := hcs
    exact ⟨[], [], (by intro r hr; cases hr), Nat.le_refl _, by simp [maxLen], rfl, (by intro row hr; cases hr), fun h => by omega⟩
  · simp [Value.cells] at hcs
    obtain ⟨rfl, rfl, rfl⟩ := hcs
    obtain ⟨rows, R, h1, h2, h3, h4⟩ := comb (W := W) (len := len) (x := x) (Fs := [f]) (sz := 1) rfl (by omega) (fun i hil => by
      obtain ⟨h1, h2⟩ := hi i (by simp at hmm; omega)
      obtain ⟨R, h3, h4⟩ := fv1_of hfit h2
      refine ⟨[V i], R, h3, ⟨rfl, fun j g hg => ?_⟩, fun j hj => ?_⟩
      · cases j with
        | zero => simp at hg; subst hg; exact ⟨V i, rfl, h4⟩
        | succ j => simp at hg
      · have : j = 0 := by omega
        subst this
        simpa using h1)
    exact ⟨rows, R, h1, hl, hm, h2, h3, h4⟩
end
end Go.Proofs.Yteaccbbmphcmnaa

/-
  Layer 5, plain: a beginning of a packet's bytes; what comes as an argument.
-/
namespace Go.Proofs.Yteaccbbmphcmnaa
set_option linter.unusedSimpArgs false
set_option linter.unusedVariables false
open Go.ChangeShapes Go.WideShapes Go.ChangeAt Go.RowKit Go.Deep
set_option maxRecDepth 100000
attribute [local irreducible] ByteArray.extract

theorem ext_app (a b : ByteArray) (k : Nat) : (a ++ b).extract 0 (a.size + k) = a ++ b.extract 0 k := by
  rw [ByteArray.extract_append]
  congr 1
  · apply ByteArray.ext
    rw [ByteArray.data_extract]
    apply Array.ext
    · simp
    · intro i h1 h2
      simp
  · rw [show 0 - a.size = 0 by omega, show a.size + k - a.size = k by omega]
theorem uK_keep {r : Rs} (k : Int) (h : r.2 ≠ 0) : (uK k r).2 = r := by
  obtain ⟨s, e⟩ := r
  show (rdB s e k).2 = _
  unfold rdB
  rw [if_pos h]
theorem rdB_keep {r : Rs} (k : Int) (h : r.2 ≠ 0) : (rdB r.1 r.2 k).2 = r := uK_keep k h
theorem rdB_short {s : ByteArray} {n : Int} (h0 : 0 ≤ n) (h : (s.size : Int) < n) : (rdB s 0 n).2 = (E0, 1) := by
  unfold rdB
  rw [if_neg (by simp), if_neg (by omega), if_pos h]
theorem bdM_err {r : Rs} (pa : Bool) (h : r.2 = 1) : (bdM r pa).2.2 = 1 := by
  unfold bdM
  have h1 : (uK 2 r).2 = r := uK_keep 2 (by omega)
  rw [h1]
  have h2 : (rdB r.1 r.2 (4 * (uK 2 r).1)).2 = r := rdB_keep _ (by omega)
  unfold bdE
  rw [h2, if_pos (.inr (by omega))]
  exact h
theorem stB_err {k ct : Int} {b : ByteArray} {r : Rs} (h : r.2 = 1) : (stB k ct b r).2.2 = 1 := by
  unfold stB
  rw [if_pos (by omega)]
  exact h
theorem hdM_keep {a k : Int} {r : Rs} (h : r.2 ≠ 0) : hdM a k r = r := by
  unfold hdM
  rw [if_neg (fun h2 => h h2.1)]
/-- a beginning of a packet -/
theorem stM_cut {kd ct : Int} {tx : ByteArray} (hk : 192 ≤ kd ∧ kd ≤ 223) (hc : 0 ≤ ct ∧ ct ≤ 255) (hz : (pad4 tx).size / 4 ≤ 65535) {n : Nat} (hn : 1 ≤ n ∧ n < (one4 (kd, ct, tx)).size) : (stM ((one4 (kd, ct, tx)).extract 0 n, 0)).2.2 = 1 := by
  have e1 : one4 (kd, ct, tx) = b1 (128 + ct % 32) ++ (b1 kd ++ (numS 2 ((pad4 tx).size / 4 : Nat) ++ pad4 tx)) := by
    unfold one4 hd4
    simp only [ByteArray.append_assoc]
  rw [one4_size] at hn
  dsimp only at hn
  have hm := pad4_mod tx
  have hct : in8 (128 + ct % 32) := ⟨by omega, by omega⟩
  have hkd : in8 kd := ⟨by omega, by omega⟩
  rw [e1]
  have x1 : (b1 (128 + ct % 32) ++ (b1 kd ++ (numS 2 ((pad4 tx).size / 4 : Nat) ++ pad4 tx))).extract 0 n = b1 (128 + ct % 32) ++ (b1 kd ++ (numS 2 ((pad4 tx).size / 4 : Nat) ++ pad4 tx)).extract 0 (n - 1) := by
    have := ext_app (b1 (128 + ct % 32)) (b1 kd ++ (numS 2 ((pad4 tx).size / 4 : Nat) ++ pad4 tx)) (n - 1)
    rwa [b1_size, show 1 + (n - 1) = n by omega] at this
  rw [x1]
  unfold stM
  rw [uK1_f hct]
  dsimp only
  rcases Nat.lt_or_ge 1 n with h2 | h2
  · have x2 : (b1 kd ++ (numS 2 ((pad4 tx).size / 4 : Nat) ++ pad4 tx)).extract 0 (n - 1) = b1 kd ++ (numS 2 ((pad4 tx).size / 4 : Nat) ++ pad4 tx).extract 0 (n - 2) := by
      have := ext_app (b1 kd) (numS 2 ((pad4 tx).size / 4 : Nat) ++ pad4 tx) (n - 2)
      rwa [b1_size, show 1 + (n - 2) = n - 1 by omega] at this
    rw [x2, uK1_f hkd]
    dsimp only
    have e2 : ∀ z, hdM (128 + ct % 32) kd (z, 0) = (z, 0) := fun z => by
      unfold hdM
      rw [if_neg (by dsimp only; omega)]
    rw [e2]
    refine stB_err ?_
    have zs : (numS 2 ((pad4 tx).size / 4 : Nat) ++ pad4 tx).size = 2 + (pad4 tx).size := by rw [ByteArray.size_append, numS_size]
    rcases Nat.lt_or_ge n 4 with h4 | h4
    · have hsz : ((numS 2 ((pad4 tx).size / 4 : Nat) ++ pad4 tx).extract 0 (n - 2)).size = n - 2 := by simp only [ByteArray.size_extract]; omega
      generalize (numS 2 ((pad4 tx).size / 4 : Nat) ++ pad4 tx).extract 0 (n - 2) = w at *
      unfold bdM
      have h5 : (uK 2 (w, 0)).2 = (E0, 1) := rdB_short (by omega) (by show (w.size : Int) < 2; omega)
      rw [h5]
      have h6 : (rdB E0 1 (4 * (uK 2 (w, 0)).1)).2 = (E0, 1) := rdB_keep (r := (E0, 1)) _ (by simp)
      unfold bdE
      rw [h6, if_pos (.inr (by simp))]
    · have x3 : (numS 2 ((pad4 tx).size / 4 : Nat) ++ pad4 tx).extract 0 (n - 2) = numS 2 ((pad4 tx).size / 4 : Nat) ++ (pad4 tx).extract 0 (n - 4) := by
        have := ext_app (numS 2 ((pad4 tx).size / 4 : Nat)) (pad4 tx) (n - 4)
        rwa [numS_size, show 2 + (n - 4) = n - 2 by omega] at this
      have hsz : ((pad4 tx).extract 0 (n - 4)).size = n - 4 := by simp only [ByteArray.size_extract]; omega
      rw [x3]
      generalize (pad4 tx).extract 0 (n - 4) = w at *
      unfold bdM
      rw [uK2_f ⟨by omega, by omega⟩]
      dsimp only
      have h6 : (rdB w 0 (4 * ((pad4 tx).size / 4 : Nat))).2 = (E0, 1) := rdB_short (by omega) (by omega)
      unfold bdE
      rw [h6, if_pos (.inr (by simp))]
  · obtain rfl : n = 1 := by omega
    have e0 : (b1 kd ++ (numS 2 ((pad4 tx).size / 4 : Nat) ++ pad4 tx)).extract 0 (1 - 1) = E0 := size_zero (by simp only [ByteArray.size_extract]; omega)
    rw [e0]
    have h5 : (uK 1 (E0, 0)).2 = (E0, 1) := rdB_short (by omega) (by decide)
    rw [h5, hdM_keep (by simp)]
    exact stB_err (bdM_err _ rfl)
theorem pk_cut5 {p : Pkt} (h : okK p) (hs : (txs [p]).size ≤ 1500) {n : Nat} (hn : 1 ≤ n ∧ n < (txs [p]).size) : pkM ((txs [p]).extract 0 n) = ([], 1) := by
  have e : txs [p] = one4 ((hdK p).1, (hdK p).2, txK p) := append_E0 _
  rw [e] at hs hn ⊢
  obtain ⟨h1, h2, h3, h4, h5⟩ := hdK_in h
  have hp := pad4_id (txK_mod h)
  have hz : (pad4 (txK p)).size / 4 ≤ 65535 := by rw [one4_size] at hs; dsimp only at hs; omega
  have hc := stM_cut (kd := (hdK p).1) (ct := (hdK p).2) (tx := txK p) ⟨h4, h5⟩ ⟨h2, by omega⟩ hz hn
  have hsz : ((one4 ((hdK p).1, (hdK p).2, txK p)).extract 0 n).size = n := by simp only [ByteArray.size_extract]; omega
  generalize (one4 ((hdK p).1, (hdK p).2, txK p)).extract 0 n = z at *
  unfold pkM
  rw [if_neg (by omega)]
  have h6 : paM (z.size + 1) true (z, 0) = ([], 1) := by
    rw [paM, if_neg (by dsimp only; omega), if_pos (by rw [hc]; decide), hc]
  rw [h6, if_pos (by decide)]
abbrev mdFd : List Fd1 := [.one (.int .i64), .one (.int .u32), .one (.int .u32), .one (.int .u64), .sl [.int .u32], .sl [.string], .one (.int .u8), .one (.int .u8), .one (.int .u8)]
theorem nums_of {R : List Ro} {v : Value} (h : FV1 R (.sl [.int .u32]) v) : ∃ A n c l, v = .slice A n c ∧ n ≤ c ∧ c ≤ maxLen ∧ SQ R 1 A n c (c32 l) ∧ ∀ x ∈ l, in32 x := by
  obtain ⟨A, n, c, V, rfl, h1, h2, h3, h4⟩ := h
  refine ⟨A, n, c, (List.range n).map fun i => match V i 0 with | .int _ z => z | _ => 0, rfl, h1, h2, ⟨by simp [c32], fun hn => ?_⟩, fun x hx => ?_⟩
  · obtain ⟨b, o, hA, hm⟩ := h4 hn
    refine ⟨b, o, hA, ?_⟩
    have e : rowsOf [.int .u32] V n = c32 ((List.range n).map fun i => match V i 0 with | .int _ z => z | _ => 0) := by
      unfold rowsOf c32
      rw [List.map_map]
      refine List.map_congr_left fun i hi => ?_
      obtain ⟨z0, hz0, _⟩ := h3 i 0 _ (List.mem_range.1 hi) rfl
      simp [hz0]
    rw [← e]; exact hm
  · obtain ⟨i, hi, rfl⟩ := List.mem_map.1 hx
    obtain ⟨z0, hz0, hw⟩ := h3 i 0 _ (List.mem_range.1 hi) rfl
    simp only [hz0]; exact bd_u32 hw
theorem strs_of {R : List Ro} {v : Value} (h : FV1 R (.sl [.string]) v) : ∃ A n c l, v = .slice A n c ∧ n ≤ c ∧ c ≤ maxLen ∧ SQ R 1 A n c (cST l) := by
  obtain ⟨A, n, c, V, rfl, h1, h2, h3, h4⟩ := h
  refine ⟨A, n, c, (List.range n).map fun i => match V i 0 with | .string s => s | _ => E0, rfl, h1, h2, ⟨by simp [cST], fun hn => ?_⟩⟩
  obtain ⟨b, o, hA, hm⟩ := h4 hn
  refine ⟨b, o, hA, ?_⟩
  have e : rowsOf [.string] V n = cST ((List.range n).map fun i => match V i 0 with | .string s => s | _ => E0) := by
    unfold rowsOf cST
    rw [List.map_map]
    refine List.map_congr_left fun i hi => ?_
    obtain ⟨s0, hs0, _⟩ := h3 i 0 _ (List.mem_range.1 hi) rfl
    simp [hs0]
  rw [← e]; exact hm
theorem row_md {R : List Ro} {row : List Value} (h : FV1s R mdFd row) : ∃ (m : Md) (A : Option Addr) (n c : Nat) (A2 : Option Addr) (n2 c2 : Nat), row = mdL m.so m.a m.b m.wide (.slice A n c) (.slice A2 n2 c2) m.sm m.ct m.kd ∧ m.ok ∧ SQ R 1 A n c (c32 m.nums) ∧ n ≤ c ∧ SQ R 1 A2 n2 c2 (cST m.tx) := by
  obtain ⟨hl, h⟩ := h
  obtain ⟨v0, e0, so, rfl, g0⟩ := h 0 _ rfl
  obtain ⟨v1, e1, a, rfl, g1⟩ := h 1 _ rfl
  obtain ⟨v2, e2, b, rfl, g2⟩ := h 2 _ rfl
  obtain ⟨v3, e3, wd, rfl, g3⟩ := h 3 _ rfl
  obtain ⟨v4, e4, h4⟩ := h 4 _ rfl
  obtain ⟨v5, e5, h5⟩ := h 5 _ rfl
  obtain ⟨v6, e6, sm, rfl, g6⟩ := h 6 _ rfl
  obtain ⟨v7, e7, ct, rfl, g7⟩ := h 7 _ rfl
  obtain ⟨v8, e8, kd, rfl, g8⟩ := h 8 _ rfl
  obtain ⟨A, n, c, l, rfl, k1, k2, k3, k4⟩ := nums_of h4
  obtain ⟨A2, n2, c2, l2, rfl, j1, j2, j3⟩ := strs_of h5
  have hn := k3.len
  have hn2 := j3.len
  rw [c32_len] at hn
  rw [cST_len] at hn2
  unfold maxLen at k2 j2
  refine ⟨⟨so, a, b, wd, l, l2, sm, ct, kd⟩, A, n, c, A2, n2, c2, ?_, ⟨bd_u32 g1, bd_u32 g2, bd_u64 g3, k4, bd_u8 g6, bd_u8 g7, bd_u8 g8, by show l.length ≤ 9223372036854775807; omega, by show l2.length ≤ 9223372036854775807; omega⟩, k3, k1, j3⟩
  match row, hl with
  | [w0, w1, w2, w3, w4, w5, w6, w7, w8], _ => simp_all
end Go.Proofs.Yteaccbbmphcmnaa

/-
  RtcpChecks, plain: which packets may be.
-/
namespace Go.Proofs.Yteaccbbmphcmnaa
set_option linter.unusedSimpArgs false
set_option linter.unusedVariables false
open Go.RowKit
set_option maxRecDepth 100000
attribute [local irreducible] ByteArray.extract

def rcBl : Pkt → List Bk
  | .sender _ _ _ _ _ bl => bl
  | .receiver _ bl => bl
  | _ => []
def rcCh : Pkt → List Ck5
  | .sdes ch => ch
  | _ => []
def rcSr : Pkt → List Int
  | .bye ss _ => ss
  | .remb _ _ ss => ss
  | _ => []
def rcTx : Pkt → ByteArray
  | .bye _ rs => rs
  | .other _ _ bd => bd
  | _ => E0
def rcRt : Pkt → Int
  | .remb _ rt _ => rt
  | _ => 0
def isO : Pkt → Bool
  | .other .. => true
  | _ => false
theorem e0z : E0.size = 0 := rfl
theorem sq_nil (R : List Ro) (sz : Nat) : SQ R sz none 0 0 [] := ⟨rfl, fun h => absurd h (by omega)⟩
theorem ref_rc {R : List Ro} : ∀ {p : Pkt} {w : Value}, RefV R p w → ∃ ss to ntp t pk oc A1 n1 c1 A2 n2 c2 rows A3 n3 c3 A4 n4 c4 A5 n5 c5, w = rfA (rfL (hdK p).1 (hdK p).2 ss to ntp t pk oc (.slice A1 n1 c1) (.slice A2 n2 c2) (.slice A3 n3 c3) (rcTx p) (.slice A4 n4 c4) (.slice A5 n5 c5) (rcRt p)) ∧ SQ R 7 A1 n1 c1 (blkV (rcBl p)) ∧ SQ R 2 A2 n2 c2 rows ∧ ChsV R (rcCh p) rows ∧ n3 = (rcSr p).length
  | .sender .., _, h => by obtain ⟨A, n, c, rfl, h1⟩ := h; exact ⟨_, _, _, _, _, _, _, _, _, _, _, _, _, _, _, _, _, _, _, _, _, _, rfl, h1, sq_nil _ _, ChsV.nil _, rfl⟩
  | .receiver .., _, h => by obtain ⟨A, n, c, rfl, h1⟩ := h; exact ⟨_, _, _, _, _, _, _, _, _, _, _, _, _, _, _, _, _, _, _, _, _, _, rfl, h1, sq_nil _ _, ChsV.nil _, rfl⟩
  | .sdes .., _, h => by obtain ⟨A, n, c, rows, rfl, h1, h2⟩ := h; exact ⟨_, _, _, _, _, _, _, _, _, _, _, _, _, _, _, _, _, _, _, _, _, _, rfl, sq_nil _ _, h1, h2, rfl⟩
  | .bye .., _, h => by obtain ⟨A, n, c, rfl, h1⟩ := h; exact ⟨_, _, _, _, _, _, _, _, _, _, _, _, _, _, _, _, _, _, _, _, _, _, rfl, sq_nil _ _, sq_nil _ _, ChsV.nil _, by rw [← h1.len, c32_len]; rfl⟩
  | .nack .., _, h => by obtain ⟨A, n, c, rfl, _⟩ := h; exact ⟨_, _, _, _, _, _, _, _, _, _, _, _, _, _, _, _, _, _, _, _, _, _, rfl, sq_nil _ _, sq_nil _ _, ChsV.nil _, rfl⟩
  | .pli .., _, h => by obtain rfl := h; exact ⟨_, _, _, _, _, _, _, _, _, _, _, _, _, _, _, _, _, _, _, _, _, _, rfl, sq_nil _ _, sq_nil _ _, ChsV.nil _, rfl⟩
  | .fir .., _, h => by obtain ⟨A, n, c, rfl, _⟩ := h; exact ⟨_, _, _, _, _, _, _, _, _, _, _, _, _, _, _, _, _, _, _, _, _, _, rfl, sq_nil _ _, sq_nil _ _, ChsV.nil _, rfl⟩
  | .remb .., _, h => by obtain ⟨A, n, c, rfl, h1⟩ := h; exact ⟨_, _, _, _, _, _, _, _, _, _, _, _, _, _, _, _, _, _, _, _, _, _, rfl, sq_nil _ _, sq_nil _ _, ChsV.nil _, by rw [← h1.len, c32_len]; rfl⟩
  | .other .., _, h => by obtain rfl := h; exact ⟨_, _, _, _, _, _, _, _, _, _, _, _, _, _, _, _, _, _, _, _, _, _, rfl, sq_nil _ _, sq_nil _ _, ChsV.nil _, rfl⟩
theorem refV_mono {R R' : List Ro} (hR : ∀ r ∈ R, r ∈ R') : ∀ {p : Pkt} {w : Value}, RefV R p w → RefV R' p w
  | .sender .., _, h => by obtain ⟨A, n, c, h0, h1⟩ := h; exact ⟨A, n, c, h0, h1.mono hR⟩
  | .receiver .., _, h => by obtain ⟨A, n, c, h0, h1⟩ := h; exact ⟨A, n, c, h0, h1.mono hR⟩
  | .sdes .., _, h => by obtain ⟨A, n, c, rows, h0, h1, h2⟩ := h; exact ⟨A, n, c, rows, h0, h1.mono hR, h2.mono hR⟩
  | .bye .., _, h => by obtain ⟨A, n, c, h0, h1⟩ := h; exact ⟨A, n, c, h0, h1.mono hR⟩
  | .nack .., _, h => by obtain ⟨A, n, c, h0, h1⟩ := h; exact ⟨A, n, c, h0, h1.mono hR⟩
  | .pli .., _, h => h
  | .fir .., _, h => by obtain ⟨A, n, c, h0, h1⟩ := h; exact ⟨A, n, c, h0, h1.mono hR⟩
  | .remb .., _, h => by obtain ⟨A, n, c, h0, h1⟩ := h; exact ⟨A, n, c, h0, h1.mono hR⟩
  | .other .., _, h => h
/-- items of kind nought -/
def z0I (l : List (Int × ByteArray)) (k : Nat) : Nat := l.foldl (fun k x => if x.1 = 0 then k + 1 else k) k
def z0C (l : List Ck5) (k : Nat) : Nat := l.foldl (fun k c => z0I c.2 k) k
theorem z0I_take {l : List (Int × ByteArray)} {j : Nat} {x : Int × ByteArray} (m : Nat) (h : l[j]? = some x) : z0I (l.take (j + 1)) m = if x.1 = 0 then z0I (l.take j) m + 1 else z0I (l.take j) m := by
  unfold z0I
  rw [List.take_add_one, h, List.foldl_append]; rfl
theorem z0C_take {l : List Ck5} {j : Nat} {x : Ck5} (m : Nat) (h : l[j]? = some x) : z0C (l.take (j + 1)) m = z0I x.2 (z0C (l.take j) m) := by
  unfold z0C
  rw [List.take_add_one, h, List.foldl_append]; rfl
theorem z0I_le : ∀ (l : List (Int × ByteArray)) (m : Nat), m ≤ z0I l m ∧ z0I l m ≤ m + l.length
  | [], m => ⟨Nat.le_refl _, Nat.le_refl _⟩
  | x :: l, m => by
    have e : z0I (x :: l) m = z0I l (if x.1 = 0 then m + 1 else m) := rfl
    have h := z0I_le l (if x.1 = 0 then m + 1 else m)
    rw [e, List.length_cons]
    split at h <;> split <;> omega
theorem z0I_any : ∀ (l : List (Int × ByteArray)) (m : Nat), (m < z0I l m) ↔ (l.any fun x => decide (x.1 = 0)) = true
  | [], m => by simp [z0I]
  | x :: l, m => by
    have e : z0I (x :: l) m = z0I l (if x.1 = 0 then m + 1 else m) := rfl
    rw [e, List.any_cons]
    by_cases h : x.1 = 0
    · rw [if_pos h]
      have := (z0I_le l (m + 1)).1
      simp [h]; omega
    · rw [if_neg h, z0I_any l m]
      simp [h]
theorem z0C_le : ∀ (l : List Ck5) (m : Nat), m ≤ z0C l m
  | [], m => Nat.le_refl _
  | c :: l, m => by
    have e : z0C (c :: l) m = z0C l (z0I c.2 m) := rfl
    rw [e]
    exact Nat.le_trans (z0I_le c.2 m).1 (z0C_le l _)
theorem z0C_any : ∀ (l : List Ck5) (m : Nat), (m < z0C l m) ↔ (l.any fun c => c.2.any fun x => decide (x.1 = 0)) = true
  | [], m => by simp [z0C]
  | c :: l, m => by
    have e : z0C (c :: l) m = z0C l (z0I c.2 m) := rfl
    rw [e, List.any_cons, Bool.or_eq_true, ← z0I_any c.2 m]
    have h1 := (z0I_le c.2 m).1
    have h2 := z0C_le l (z0I c.2 m)
    by_cases h : m < z0I c.2 m
    · exact ⟨fun _ => .inl h, fun _ => by omega⟩
    · rw [show z0I c.2 m = m by omega, z0C_any l m]
      exact ⟨fun h => .inr h, fun h => h.resolve_left (by omega)⟩
theorem z0C_sz : ∀ {l : List Ck5} {m : Nat}, (∀ c ∈ l, c.2.length ≤ 1000) → z0C l m ≤ m + 1000 * l.length
  | [], m, _ => Nat.le_refl _
  | c :: l, m, h => by
    have e : z0C (c :: l) m = z0C l (z0I c.2 m) := rfl
    have h1 := (z0I_le c.2 m).2
    have h2 := h c (.head _)
    have h3 := z0C_sz (l := l) (m := z0I c.2 m) (fun x hx => h x (.tail _ hx))
    rw [e, List.length_cons]; omega
/-- what the statement wants -/
def wc1 (p : Pkt) : Prop := isO p = false ∧ (31 < (rcBl p).length ∨ 255 < mxC (rcCh p) ((rcTx p).size : Int) ∨ ((hdK p).1 = 203 ∧ 31 < (rcSr p).length))
def wc2 (p : Pkt) : Prop := (∃ b, (rcBl p)[0]? = some b ∧ 16777216 ≤ b.tt) ∨ 0 < z0C (rcCh p) 0
def wc3 (p : Pkt) : Prop := (hdK p).1 = 206 ∧ (hdK p).2 = 15 ∧ isO p = false ∧ rcRt p / 2 ^ exM (rcRt p) * 2 ^ exM (rcRt p) ≠ rcRt p
def wc4 (p : Pkt) : Prop := isO p = true ∧ ((hdK p).1 < 192 ∨ 223 < (hdK p).1 ∨ 31 < (hdK p).2 ∨ (rcTx p).size % 4 ≠ 0 ∨ knB (hdK p).1 (hdK p).2 = true)
def wc5 (p : Pkt) : Prop := isO p = false ∧ 1500 < (txs [p]).size
/-- made packets -/
def mkP (p : Pkt) : Prop := rgK p ∧ (txK p).size ≤ 20000 ∧ (∀ b ∈ rcBl p, ∀ d ∈ rcBl p, b.tt = d.tt) ∧ (rcSr p).length ≤ 40 ∧ (rcCh p).length ≤ 2 ∧ (rcBl p).length ≤ 33 ∧ (isO p = true → (rcTx p).size ≤ 60) ∧ (rcTx p).size ≤ 257
theorem any_first {bl : List Bk} (h : ∀ b ∈ bl, ∀ d ∈ bl, b.tt = d.tt) : (bl.any fun b => decide (16777216 ≤ b.tt)) = true ↔ ∃ b, bl[0]? = some b ∧ 16777216 ≤ b.tt := by
  cases bl with
  | nil => simp
  | cons b l =>
    rw [List.any_eq_true]
    refine ⟨fun ⟨x, hx, h2⟩ => ⟨b, rfl, ?_⟩, fun ⟨x, hx, h2⟩ => ⟨b, .head _, ?_⟩⟩
    · have := h b (.head _) x hx
      have := of_decide_eq_true h2
      omega
    · obtain rfl : b = x := by simpa using hx
      exact decide_eq_true h2
theorem wc1_iff {p : Pkt} (h : mkP p) : wc1 p ↔ (31 < (lsK p).1 ∨ 255 < (lsK p).2) := by
  obtain ⟨h1, h2, h3, h4, h5, h6, h7, h8⟩ := h
  unfold wc1
  cases p <;> simp only [isO, rcBl, rcCh, rcSr, rcTx, hdK, lsK, mxC, mxI, List.foldl_nil, List.length_nil, e0z] at * <;> simp <;> try omega
theorem wc2_iff {p : Pkt} (h : mkP p) (ho : isO p = false) (h1 : ¬ wc1 p) : (wc2 p ∨ wc3 p) ↔ sdK p = false := by
  obtain ⟨_, _, h3, h4, h5, h6, _, _⟩ := h
  unfold wc2 wc3
  cases p with
  | sender ss ntp t pk oc bl =>
    have := any_first h3
    simp only [isO, rcBl, rcCh, rcSr, rcTx, rcRt, hdK, sdK, z0C, List.foldl_nil] at *
    rw [← this]; simp
  | receiver ss bl =>
    have := any_first h3
    simp only [isO, rcBl, rcCh, rcSr, rcTx, rcRt, hdK, sdK, z0C, List.foldl_nil] at *
    rw [← this]; simp
  | sdes ch =>
    have := z0C_any ch 0
    simp only [isO, rcBl, rcCh, rcSr, rcTx, rcRt, hdK, sdK] at *
    rw [this]; simp
  | remb fm rt ss =>
    simp only [isO, rcBl, rcCh, rcSr, rcTx, rcRt, hdK, sdK, z0C, List.foldl_nil] at *
    simp; omega
  | other kd ct bd => cases ho
  | _ => simp [isO, rcBl, rcCh, rcSr, rcTx, rcRt, hdK, sdK, z0C]
theorem wc_ok {p : Pkt} (h : mkP p) (ho : isO p = false) (h1 : ¬ wc1 p) (h2 : ¬ wc2 p) (h3 : ¬ wc3 p) : okK p := by
  have i1 := wc1_iff h
  have i2 := wc2_iff h ho h1
  refine okK_of h.1 (by rw [i1] at h1; omega) (by rw [i1] at h1; omega) ?_
  cases hs : sdK p with
  | true => rfl
  | false => exact absurd (i2.2 hs) (by rintro (h | h); exact h2 h; exact h3 h)
open Classical in
noncomputable def wantP (p : Pkt) : Int := if wc1 p then 4 else if wc2 p then 5 else if wc3 p then 5 else if wc4 p then 5 else if wc5 p then 4 else 0
theorem wantP_eq {p : Pkt} (h : mkP p) : wantP p = ckK p := by
  have i1 := wc1_iff h
  unfold wantP ckK
  by_cases c1 : wc1 p
  · rw [if_pos c1, if_pos (i1.1 c1)]
  rw [if_neg c1, if_neg (fun hh => c1 (i1.2 hh))]
  cases ho : isO p with
  | false =>
    have i2 := wc2_iff h ho c1
    have n4 : ¬ wc4 p := fun hh => absurd hh.1 (by rw [ho]; simp)
    by_cases c2 : wc2 p
    · rw [if_pos c2, if_pos (i2.1 (.inl c2))]
    rw [if_neg c2]
    by_cases c3 : wc3 p
    · rw [if_pos c3, if_pos (i2.1 (.inr c3))]
    have ns : ¬ sdK p = false := fun hh => by rcases i2.2 hh with hh | hh; exact c2 hh; exact c3 hh
    rw [if_neg c3, if_neg n4, if_neg ns]
    by_cases c5 : wc5 p
    · rw [if_pos c5, if_pos c5.2]
    · rw [if_neg c5, if_neg (fun hh => c5 ⟨ho, hh⟩)]
  | true =>
    obtain ⟨h1, h2, h3, h4, h5, h6, h7, h8⟩ := h
    have n5 : ¬ wc5 p := fun hh => absurd hh.1 (by rw [ho]; simp)
    have n3 : ¬ wc3 p := fun hh => absurd hh.2.2.1 (by rw [ho]; simp)
    cases p with
    | other kd ct bd =>
      have n2 : ¬ wc2 (.other kd ct bd) := by unfold wc2; simp [rcBl, rcCh, z0C]
      have hb := h7 rfl
      have hz : ¬ 1500 < (txs [.other kd ct bd]).size := by
        have : txs [.other kd ct bd] = one4 (kd, ct, bd) := append_E0 _
        rw [this, one4_size]
        have := pad4_size bd
        simp only [rcTx] at hb
        dsimp only; omega
      rw [if_neg n2, if_neg n3, if_neg n5, if_neg hz]
      have i4 : wc4 (.other kd ct bd) ↔ sdK (.other kd ct bd) = false := by
        unfold wc4
        simp only [isO, hdK, rcTx, sdK]
        cases hk : knB kd ct
        · simp; omega
        · simp
      by_cases c4 : wc4 (.other kd ct bd)
      · rw [if_pos c4, if_pos (i4.1 c4)]
      · rw [if_neg c4, if_neg (fun hh => c4 (i4.2 hh))]
    | _ => cases ho
theorem mk_mkP {m : Md} (hm : m.ok) : mkP (mkM m) ∧ isO (mkM m) = decide ((bits .and .i64 m.so 255).tmod 9 = 8) := by
  have hr := mk_rg hm
  have hb := bks_ok hm
  have hl : (m.nums.take 40).length ≤ 40 := by rw [List.length_take]; omega
  have f1 := fsM_le m.tx 60
  have f2 := fsM_le m.tx 257
  have f3 : E0.size = 0 := rfl
  have hu : ∀ b ∈ bksM m.sm m.a m.b m.nums, ∀ d ∈ bksM m.sm m.a m.b m.nums, b.tt = d.tt := fun b hb d hd => by
    obtain ⟨x, _, rfl⟩ := List.mem_map.1 hb
    obtain ⟨y, _, rfl⟩ := List.mem_map.1 hd
    rfl
  unfold mkP
  refine ⟨⟨hr.1, hr.2, ?_⟩, ?_⟩
  · unfold mkM
    dsimp only
    split
    · simp [rcBl, rcCh, rcSr, rcTx, isO, e0z]
    split
    · simp [rcBl, rcCh, rcSr, rcTx, isO, e0z]
    split
    · simp [rcBl, rcCh, rcSr, rcTx, isO, e0z]
    split
    · simp [rcBl, rcCh, rcSr, rcTx, isO, e0z]; omega
    split
    · simp [rcBl, rcCh, rcSr, rcTx, isO, e0z]; omega
    split
    · refine ⟨hu, Nat.zero_le _, Nat.zero_le _, hb.2, (fun h => by cases h), Nat.zero_le _⟩
    split
    · refine ⟨hu, Nat.zero_le _, Nat.zero_le _, hb.2, (fun h => by cases h), Nat.zero_le _⟩
    split
    · simp [rcBl, rcCh, rcSr, rcTx, isO, e0z]
    · simp [rcBl, rcCh, rcSr, rcTx, isO, e0z]; omega
  · unfold mkM
    dsimp only
    split
    · rename_i h; rw [h]; rfl
    split
    · rename_i h; rw [h]; rfl
    split
    · rename_i h; rw [h]; rfl
    split
    · rename_i h; rw [h]; rfl
    split
    · rename_i h; rw [h]; rfl
    all_goals
      rename_i h8
      rw [decide_eq_false (by assumption)]
      repeat' split
      all_goals rfl
end Go.Proofs.Yteaccbbmphcmnaa

/-
  RtcpChecks: which packets may be.
-/
namespace Go.Proofs.Yteaccbbmphcmnaa
set_option linter.unusedSimpArgs false
set_option linter.unusedVariables false
open Go.RowKit
attribute [local irreducible] Pv WO WC Fn
set_option maxRecDepth 100000
attribute [local irreducible] ByteArray.extract

theorem bo_f {B : Bool} {P : Prop} (h : B = true ↔ P) (hn : ¬ P) : B = false := by cases B; rfl; exact absurd (h.1 rfl) hn
set_option maxHeartbeats 16000000 in
theorem rtcpChecks_fn (so a b wide : Int) (A : Option Addr) (n c : Nat) (A2 : Option Addr) (n2 c2 : Nat) (sm ct kd : Int) (R : List Ro) (p : Pkt) (y0 : MkC R (mdL so a b wide (.slice A n c) (.slice A2 n2 c2) sm ct kd) p) (hp : mkP p) (ho : isO p = decide ((bits .and .i64 so 255).tmod 9 = 8)) :
    Fn Try.prog 6 #[.agg (mdL so a b wide (.slice A n c) (.slice A2 n2 c2) sm ct kd).toArray] [] R (fun v _ _ => v = .bool true) := by
  have kp := fun v R' (hv : PkV R' p v) => cCheck (R := R') hp.1 hv (fun _ => by have := hp.2.1; omega)
  rw [← wantP_eq hp] at kp
  refine fn_intro Try.func6 rfl Try.ntmps6 rfl (fun E => ?_)
  (repeat (first | ((first | (apply wo_v; rfl) ); (· first | (apply pv_ev; rfl) )) | apply wo_nil | apply wc_seq | apply wc_region | (apply wo_box1; rfl; rfl; rfl; intro bx) | (apply wo_boxa; rfl; rfl; intro bx) ))
  obtain ⟨g0, hg0⟩ : ∃ g, g = bx := ⟨_, rfl⟩
  subst hg0
  (refine wo_call (awake05) rfl (by (repeat (first | apply sub_nil )); done) (by first | exact fun _ h => h | (intro r hr; cases hr; done) | (simp; done) | exact fun _ h => List.mem_append_left _ h | (intro r hr; simp [hr]; done)) rfl ?_; rintro v L' R' ⟨rfl, rfl, rfl⟩ H' hH RR hR; simp only [List.cons_append, List.nil_append] at hH hR; subst hH; have hR := hR.symm; subst hR)
  (repeat (first | ((first | (apply wo_v; rfl) ); (· first | (apply pv_ev; rfl) | (apply g_load; first | (apply pv_lda; rfl; (· (repeat (first | apply sel_here ))); (· (repeat (first | apply Cut.here0 | apply Cut.here )))) ) | (apply g_un; first | (apply pv_not_t; rfl) ) )) | apply wo_nil | apply wc_seq | apply wc_region | apply wc_skip | (apply wc_true; rfl) | (apply wc_false; rfl) ))
  (refine wo_call (y0) rfl (by (repeat (first | apply sub_nil )); done) (by first | exact fun _ h => h | (intro r hr; cases hr; done) | (simp; done) | exact fun _ h => List.mem_append_left _ h | (intro r hr; simp [hr]; done)) rfl ?_; rintro v L' R' ⟨u, w, rfl, hP, hQ, rfl⟩ H' hH RR hR; simp only [List.cons_append, List.nil_append] at hH hR; subst hH; have hR := hR.symm; subst hR)
  obtain ⟨ss, to, ntp, t, pk, oc, A1, n1, c1, A3, n3, c3, rows, A4, n4, c4, A5, n5, c5, A6, n6, c6, rfl, hS1, hS3, hV3, rfl⟩ := ref_rc hQ
  clear y0
  have hone := hP.one
  have mR : ∀ r, r ∈ R' → r ∈ R' ++ R := fun r hr => List.mem_append_left _ hr
  have hP := hP.mono mR
  have hS1 := hS1.mono mR
  have hS3 := hS3.mono mR
  have hV3 := hV3.mono mR
  clear mR
  have hl1 := hS1.len
  rw [blkV_len] at hl1
  have hl3 := hS3.len
  rw [hV3.1] at hl3
  have hT : okK p → ∀ A7 R7, SQ (R7 ++ (R' ++ R)) 15 A7 1 1 [rfL (hdK p).1 (hdK p).2 ss to ntp t pk oc (.slice A1 n1 c1) (.slice A3 n3 c3) (.slice A4 (rcSr p).length c4) (rcTx p) (.slice A5 n5 c5) (.slice A6 n6 c6) (rcRt p)] → Fn Try.prog 17 #[.slice A7 1 1] [] (R7 ++ (R' ++ R)) (fun v L' R' => v = .string (txs [p]) ∧ L' = [] ∧ R' = []) := fun hk A7 R7 hS7 =>
    eText [p] _ A7 1 1 _ hS7 ⟨rfl, fun i q hq => by
      cases i with
      | zero => obtain rfl : p = q := by simpa using hq
                exact ⟨_, rfl, refV_mono (fun r hr => List.mem_append_right _ (List.mem_append_left _ hr)) hQ⟩
      | succ i => simp at hq⟩ (fun q hq => by rcases List.mem_singleton.1 hq with rfl; exact hk) (by simp) (fun q hq => by rcases List.mem_singleton.1 hq with rfl; exact hp.2.1)
  clear hQ
  obtain ⟨q1, q2, q3, q4, q5, q6, q7, q8⟩ := hp
  have hW := wc_ok ⟨q1, q2, q3, q4, q5, q6, q7, q8⟩
  have hin := rg_in q1
  generalize R' ++ R = RG at *
  (repeat (first | ((first | (apply wo_v; rfl) ); (· first | (apply pv_ev; rfl) | (apply pv_fld; rfl) | (apply g_load; first | (apply pv_ld; rfl; (· (repeat (first | apply sel_here ))); rfl) ) | (apply g_bi; first | (apply pv_len_sl; rfl) | (apply pv_len_str; rfl) ) )) | apply wo_nil | apply wc_seq | apply wc_region | (apply wo_alloc; rfl; intro bx) | (apply wo_sta; rfl; rfl; rfl; rfl; (· (repeat (first | apply sel_here ))); (· (repeat (first | apply LayAt.nil | apply LayAt.here ))); rfl) ))
  obtain ⟨g4, hg4⟩ : ∃ g, g = bx := ⟨_, rfl⟩
  subst hg4
  have gch : ∀ c ∈ rcCh p, c.2.length ≤ 1000 := by
    intro c hc
    cases p with
    | sdes ch => exact (q1.2 c hc).2.1
    | _ => cases hc
  refine wc_join0 (fun st => st = ⟨[(1, .pointer (some ⟨g0, 0, none⟩)), (3, u), (4, .pointer (some ⟨g4, 0, none⟩)), (5, .int .i64 (mxC (rcCh p) ((rcTx p).size : Int))), (6, .int .i64 (z0C (rcCh p) 0))], [rfO g4 (rfL (hdK p).1 (hdK p).2 ss to ntp t pk oc (.slice A1 n1 c1) (.slice A3 n3 c3) (.slice A4 (rcSr p).length c4) (rcTx p) (.slice A5 n5 c5) (.slice A6 n6 c6) (rcRt p)), mdB g0 so a b wide (.slice A n c) (.slice A2 n2 c2) sm ct kd], RG⟩) ?_ ?_
  · refine wc_block ?_
    have hl := rcCh p
    generalize rcCh p = l at hl3 hV3 q5 gch ⊢
    generalize ((rcTx p).size : Int) = M0 at *
    generalize rcTx p = TX at *
    generalize (hdK p).1 = k1 at *
    generalize (hdK p).2 = k2 at *
    generalize (rcSr p).length = n4 at *
    generalize rcRt p = rt at *
    subst hl3
    refine wc_loop' (fun q st => ∃ (i : Nat) (M : Int) (Z : Nat), q = l.length - i ∧ i ≤ l.length ∧ M = mxC (l.take i) M0 ∧ Z = z0C (l.take i) 0 ∧ st = ⟨[(1, .pointer (some ⟨g0, 0, none⟩)), (3, u), (4, .pointer (some ⟨g4, 0, none⟩)), (5, .int .i64 M), (6, .int .i64 Z), (24, .slice A3 l.length c3), (25, .int .i64 l.length), (26, .int .i64 i)], [rfO g4 (rfL k1 k2 ss to ntp t pk oc (.slice A1 n1 c1) (.slice A3 l.length c3) (.slice A4 n4 c4) TX (.slice A5 n5 c5) (.slice A6 n6 c6) rt), mdB g0 so a b wide (.slice A n c) (.slice A2 n2 c2) sm ct kd], RG⟩) ⟨0, M0, 0, rfl, Nat.zero_le _, rfl, rfl, rfl⟩ (wk_mk (by (repeat (first | apply wkf_nil | (apply wkf_cons; rfl))); done) (by (repeat (first | apply sub_nil )); done) (by first | exact fun _ h => h | (intro r hr; cases hr; done) | (simp; done) | exact fun _ h => List.mem_append_left _ h | (intro r hr; simp [hr]; done))) ?_
    rintro q st ⟨i, M, Z, rfl, hi, hM, hZ, rfl⟩
    by_cases hlt : i < l.length
    · obtain ⟨x, hx⟩ : ∃ x, l[i]? = some x := ⟨_, List.getElem?_eq_getElem hlt⟩
      obtain ⟨row, hr, Ai, ni, ci, rfl, hSi⟩ := hV3.2 i x hx
      have hil := gch x (List.mem_of_getElem? hx)
      obtain ⟨a0, o0, rfl, hmem⟩ := hS3.pos (by omega)
      have hnM := mxC_take M0 hx
      have hnZ := z0C_take 0 hx
      have hZ2 := z0C_sz (l := l.take i) (m := 0) (fun c hc => gch c (List.mem_of_mem_take hc))
      rw [List.length_take, Nat.min_eq_left hi, ← hZ] at hZ2
      rw [← hM] at hnM
      rw [← hZ] at hnZ
      clear hM hZ
      obtain ⟨s0, its⟩ := x
      dsimp only at hr hSi hnM hnZ hil
      have hni : ni = its.length := by rw [← hSi.len, itmV_len]
      subst hni
      (repeat (first | ((first | (apply wo_v; rfl) ); (· first | (apply pv_ev; rfl) )) | apply wo_nil | apply wc_seq | apply wc_region | apply wc_skip | (apply wc_true; rfl) | (apply wc_false; rfl) | (apply a_dec_t; rfl; (· first | assumption | omega)) ))
      refine wc_block ?_
      (repeat (first | ((first | (apply wo_v; rfl) ); (· first | (apply pv_ev; rfl) | (apply pv_fld; rfl) | (apply g_load; first | (apply pv_ld; rfl; (· (repeat (first | apply sel_here ))); rfl) | (apply pv_lda; rfl; (· (repeat (first | apply sel_there))); (· (repeat (first | fail )))) | (apply pv_ld_owna; rfl; (· (repeat (first | apply sel_there))); (· assumption)) | (apply pv_ld_roa; rfl; (· (first | assumption )); (· assumption))) | (apply g_bi; first | (apply pv_len_sl; rfl) ) | (apply g_idx; first | (apply pv_idx; rfl; rfl; omega) ) )) | apply wo_nil | apply wc_seq | apply wc_region | (apply wo_alloc; rfl; intro bx) | (apply wo_sta; rfl; rfl; rfl; rfl; (· (repeat (first | apply sel_here ))); (· (repeat (first | apply LayAt.nil | apply LayAt.here ))); rfl) ))
      refine wc_join0 (fun st => st = ⟨[(1, .pointer (some ⟨g0, 0, none⟩)), (3, u), (4, .pointer (some ⟨g4, 0, none⟩)), (5, .int .i64 (mxI its M)), (6, .int .i64 (z0I its Z)), (24, .slice (some ⟨a0, o0, none⟩) l.length c3), (25, .int .i64 l.length), (26, .int .i64 i)], [rfO g4 (rfL k1 k2 ss to ntp t pk oc (.slice A1 n1 c1) (.slice (some ⟨a0, o0, none⟩) l.length c3) (.slice A4 n4 c4) TX (.slice A5 n5 c5) (.slice A6 n6 c6) rt), mdB g0 so a b wide (.slice A n c) (.slice A2 n2 c2) sm ct kd], RG⟩) ?_ ?_
      · refine wc_block ?_
        refine wc_loop' (fun q st => ∃ (j : Nat) (M' : Int) (Z' : Nat), q = its.length - j ∧ j ≤ its.length ∧ M' = mxI (its.take j) M ∧ Z' = z0I (its.take j) Z ∧ st = ⟨[(1, .pointer (some ⟨g0, 0, none⟩)), (3, u), (4, .pointer (some ⟨g4, 0, none⟩)), (5, .int .i64 M'), (6, .int .i64 Z'), (24, .slice (some ⟨a0, o0, none⟩) l.length c3), (25, .int .i64 l.length), (26, .int .i64 i), (31, .slice Ai its.length ci), (32, .int .i64 its.length), (33, .int .i64 j)], [rfO g4 (rfL k1 k2 ss to ntp t pk oc (.slice A1 n1 c1) (.slice (some ⟨a0, o0, none⟩) l.length c3) (.slice A4 n4 c4) TX (.slice A5 n5 c5) (.slice A6 n6 c6) rt), mdB g0 so a b wide (.slice A n c) (.slice A2 n2 c2) sm ct kd], RG⟩) ⟨0, M, Z, rfl, Nat.zero_le _, rfl, rfl, rfl⟩ (wk_mk (by (repeat (first | apply wkf_nil | (apply wkf_cons; rfl))); done) (by (repeat (first | apply sub_nil | (apply sub_cons; (· (repeat (first | apply sel_here | apply sel_there)))))); done) (by first | exact fun _ h => h | (intro r hr; cases hr; done) | (simp; done) | exact fun _ h => List.mem_append_left _ h | (intro r hr; simp [hr]; done))) ?_
        rintro q st ⟨j, M', Z', rfl, hj, hM, hZ, rfl⟩
        by_cases hlj : j < its.length
        · obtain ⟨y, hy⟩ : ∃ y, its[j]? = some y := ⟨_, List.getElem?_eq_getElem hlj⟩
          have hr2 := itmV_at hy
          have hnM2 := mxI_take M hy
          have hnZ2 := z0I_take Z hy
          have hZ3 := (z0I_le (its.take j) Z).2
          rw [List.length_take, Nat.min_eq_left hj, ← hZ] at hZ3
          rw [← hM] at hnM2
          rw [← hZ] at hnZ2
          clear hM hZ
          obtain ⟨k, tx⟩ := y
          dsimp only at hr2 hnM2 hnZ2
          obtain ⟨ba, oa, rfl, hmi⟩ := hSi.pos (by omega)
          (repeat (first | ((first | (apply wo_v; rfl) ); (· first | (apply pv_ev; rfl) )) | apply wo_nil | apply wc_seq | apply wc_region | apply wc_skip | (apply wc_true; rfl) | (apply wc_false; rfl) | (apply a_dec_t; rfl; (· first | assumption | omega)) ))
          refine wc_block ?_
          by_cases hk : k = 0
          · rw [if_pos hk] at hnZ2
            (repeat (first | ((first | (apply wo_v; rfl) ); (· first | (apply pv_ev; rfl) | (apply pv_fld; rfl) | (apply g_load; first | (apply pv_ld; rfl; (· (repeat (first | apply sel_here ))); rfl) | (apply pv_lda; rfl; (· (repeat (first | apply sel_there))); (· (repeat (first | fail )))) | (apply pv_ld_owna; rfl; (· (repeat (first | apply sel_there))); (· assumption)) | (apply pv_ld_roa; rfl; (· (first | assumption )); (· assumption))) | (apply g_bin; first | (apply a_add; rfl; rfl; infer_instance; omega) ) | (apply g_bi; first | (apply pv_len_str; rfl) | (apply pv_max; rfl; rfl)) | (apply g_idx; first | (apply pv_idx; rfl; rfl; omega) ) )) | apply wo_nil | apply wc_seq | apply wc_region | (apply wc_true; rfl) | (apply wc_false; rfl) | (apply a_dec_t; rfl; (· first | assumption | omega)) | (apply wo_alloc; rfl; intro bx) | (apply wo_sta; rfl; rfl; rfl; rfl; (· (repeat (first | apply sel_here ))); (· (repeat (first | apply LayAt.nil | apply LayAt.here ))); rfl) ))
            exact loop_end ⟨j + 1, _, _, rfl, by omega, hnM2.symm, hnZ2.symm, rfl⟩ (by omega) (wk_mk (by (repeat (first | apply wkf_nil | (apply wkf_cons; rfl))); done) (by (repeat (first | apply sub_nil | (apply sub_cons; (· (repeat (first | apply sel_here | apply sel_there)))))); done) (by first | exact fun _ h => h | (intro r hr; cases hr; done) | (simp; done) | exact fun _ h => List.mem_append_left _ h | (intro r hr; simp [hr]; done)))
          · rw [if_neg hk] at hnZ2
            (repeat (first | ((first | (apply wo_v; rfl) ); (· first | (apply pv_ev; rfl) | (apply pv_fld; rfl) | (apply g_load; first | (apply pv_ld; rfl; (· (repeat (first | apply sel_here ))); rfl) | (apply pv_lda; rfl; (· (repeat (first | apply sel_there))); (· (repeat (first | fail )))) | (apply pv_ld_owna; rfl; (· (repeat (first | apply sel_there))); (· assumption)) | (apply pv_ld_roa; rfl; (· (first | assumption )); (· assumption))) | (apply g_bin; first | (apply a_add; rfl; rfl; infer_instance; omega) ) | (apply g_bi; first | (apply pv_len_str; rfl) | (apply pv_max; rfl; rfl)) | (apply g_idx; first | (apply pv_idx; rfl; rfl; omega) ) )) | apply wo_nil | apply wc_seq | apply wc_region | apply wc_skip | (apply wc_true; rfl) | (apply wc_false; rfl) | (apply a_dec_t; rfl; (· first | assumption | omega)) | (apply a_dec_f; rfl; (· first | assumption | omega)) | (apply wo_alloc; rfl; intro bx) | (apply wo_sta; rfl; rfl; rfl; rfl; (· (repeat (first | apply sel_here ))); (· (repeat (first | apply LayAt.nil | apply LayAt.here ))); rfl) ))
            exact loop_end ⟨j + 1, _, _, rfl, by omega, hnM2.symm, hnZ2.symm, rfl⟩ (by omega) (wk_mk (by (repeat (first | apply wkf_nil | (apply wkf_cons; rfl))); done) (by (repeat (first | apply sub_nil | (apply sub_cons; (· (repeat (first | apply sel_here | apply sel_there)))))); done) (by first | exact fun _ h => h | (intro r hr; cases hr; done) | (simp; done) | exact fun _ h => List.mem_append_left _ h | (intro r hr; simp [hr]; done)))
        · have e : j = its.length := by omega
          subst e
          rw [List.take_length] at hM hZ
          subst hM hZ
          (repeat (first | ((first | (apply wo_v; rfl) ); (· first | (apply pv_ev; rfl) )) | apply wo_nil | apply wc_seq | apply wc_region | (apply wc_exit; rfl) | (apply wc_true; rfl) | (apply wc_false; rfl) | (apply a_dec_t; rfl; (· first | assumption | omega)) | (apply a_dec_f; rfl; (· first | assumption | omega)) ))
          exact cut_end rfl (wk_mk (by (repeat (first | apply wkf_nil | (apply wkf_cons; rfl))); done) (by (repeat (first | apply sub_nil )); done) (by first | exact fun _ h => h | (intro r hr; cases hr; done) | (simp; done) | exact fun _ h => List.mem_append_left _ h | (intro r hr; simp [hr]; done)))
      rintro st rfl
      (repeat (first | ((first | (apply wo_v; rfl) ); (· first | (apply pv_ev; rfl) | (apply g_bin; first | (apply a_add; rfl; rfl; infer_instance; omega) ) )) | apply wo_nil | apply wc_region ))
      exact loop_end ⟨i + 1, _, _, rfl, by omega, hnM.symm, hnZ.symm, rfl⟩ (by omega) (wk_mk (by (repeat (first | apply wkf_nil | (apply wkf_cons; rfl))); done) (by (repeat (first | apply sub_nil )); done) (by first | exact fun _ h => h | (intro r hr; cases hr; done) | (simp; done) | exact fun _ h => List.mem_append_left _ h | (intro r hr; simp [hr]; done)))
    · have e : i = l.length := by omega
      subst e
      rw [List.take_length] at hM hZ
      subst hM hZ
      (repeat (first | ((first | (apply wo_v; rfl) ); (· first | (apply pv_ev; rfl) )) | apply wo_nil | apply wc_seq | apply wc_region | (apply wc_exit; rfl) | (apply wc_true; rfl) | (apply wc_false; rfl) | (apply a_dec_t; rfl; (· first | assumption | omega)) | (apply a_dec_f; rfl; (· first | assumption | omega)) ))
      exact cut_end rfl (wk_mk (by (repeat (first | apply wkf_nil | (apply wkf_cons; rfl))); done) (by (repeat (first | apply sub_nil )); done) (by first | exact fun _ h => h | (intro r hr; cases hr; done) | (simp; done) | exact fun _ h => List.mem_append_left _ h | (intro r hr; simp [hr]; done)))
  rintro st rfl
  have hl4 : (rcSr p).length ≤ 40 := q4
  have w1 : wc1 p ↔ (isO p = false ∧ (31 < (rcBl p).length ∨ 255 < mxC (rcCh p) ((rcTx p).size : Int) ∨ ((hdK p).1 = 203 ∧ 31 < (rcSr p).length))) := Iff.rfl
  have w2 : wc2 p ↔ ((∃ b, (rcBl p)[0]? = some b ∧ 16777216 ≤ b.tt) ∨ 0 < z0C (rcCh p) 0) := Iff.rfl
  have w3 : wc3 p ↔ ((hdK p).1 = 206 ∧ (hdK p).2 = 15 ∧ isO p = false ∧ rcRt p / 2 ^ exM (rcRt p) * 2 ^ exM (rcRt p) ≠ rcRt p) := Iff.rfl
  have w4 : wc4 p ↔ (isO p = true ∧ ((hdK p).1 < 192 ∨ 223 < (hdK p).1 ∨ 31 < (hdK p).2 ∨ (rcTx p).size % 4 ≠ 0 ∨ knB (hdK p).1 (hdK p).2 = true)) := Iff.rfl
  have w5 : wc5 p ↔ (isO p = false ∧ 1500 < (txs [p]).size) := Iff.rfl
  have hrt : in64 (rcRt p) := by
    cases p with
    | remb fm rt ss => exact hin
    | _ => exact ⟨Int.le_refl _, by show (0 : Int) ≤ 18446744073709551615; omega⟩
  have qk := eKnown (hdK p).1 (hdK p).2
  have hbl : ∀ b, (rcBl p)[0]? = some b → (blkV (rcBl p))[0]? = some [.int .u32 b.ss, .int .u8 b.lo, .int .u32 b.tt, .int .u32 b.la, .int .u32 b.ji, .int .u32 b.ls, .int .u32 b.dl] := fun b hb => blkV_at hb
  have q8 : (rcTx p).size ≤ 257 := q8
  rw [hl1] at w1
  have hx0 : ∀ b, (rcBl p)[0]? = some b → 0 < n1 := fun b hb => by
    have := List.getElem?_eq_some_iff.1 hb
    obtain ⟨h, _⟩ := this; omega
  have hx1 : 0 < n1 → ∃ b, (rcBl p)[0]? = some b := fun h => ⟨_, List.getElem?_eq_getElem (by omega)⟩
  obtain ⟨B1, hB1⟩ : ∃ B : Bool, (B = true ↔ wc1 p) := by classical exact ⟨decide (wc1 p), by simp⟩
  obtain ⟨B2, hB2⟩ : ∃ B : Bool, (B = true ↔ wc2 p) := by classical exact ⟨decide (wc2 p), by simp⟩
  obtain ⟨B3, hB3⟩ : ∃ B : Bool, (B = true ↔ wc3 p) := by classical exact ⟨decide (wc3 p), by simp⟩
  obtain ⟨B4, hB4⟩ : ∃ B : Bool, (B = true ↔ wc4 p) := by classical exact ⟨decide (wc4 p), by simp⟩
  obtain ⟨B5, hB5⟩ : ∃ B : Bool, (B = true ↔ wc5 p) := by classical exact ⟨decide (wc5 p), by simp⟩
  have hwP : wantP p = if B1 = true then 4 else if B2 = true then 5 else if B3 = true then 5 else if B4 = true then 5 else if B5 = true then 4 else 0 := by
    unfold wantP
    by_cases c1 : wc1 p
    · rw [if_pos c1, if_pos (hB1.2 c1)]
    rw [if_neg c1, if_neg (fun h => c1 (hB1.1 h))]
    by_cases c2 : wc2 p
    · rw [if_pos c2, if_pos (hB2.2 c2)]
    rw [if_neg c2, if_neg (fun h => c2 (hB2.1 h))]
    by_cases c3 : wc3 p
    · rw [if_pos c3, if_pos (hB3.2 c3)]
    rw [if_neg c3, if_neg (fun h => c3 (hB3.1 h))]
    by_cases c4 : wc4 p
    · rw [if_pos c4, if_pos (hB4.2 c4)]
    rw [if_neg c4, if_neg (fun h => c4 (hB4.1 h))]
    by_cases c5 : wc5 p
    · rw [if_pos c5, if_pos (hB5.2 c5)]
    rw [if_neg c5, if_neg (fun h => c5 (hB5.1 h))]
  rw [← hB1] at w1 hW
  rw [← hB2] at w2 hW
  rw [← hB3] at w3 hW
  rw [← hB4] at w4
  rw [← hB5] at w5
  generalize wantP p = WP at *
  generalize mxC (rcCh p) ((rcTx p).size : Int) = M at *
  generalize z0C (rcCh p) 0 = Z at *
  generalize rcTx p = TX at *
  generalize (hdK p).1 = k1 at *
  generalize (hdK p).2 = k2 at *
  generalize (rcSr p).length = n4 at *
  generalize rcRt p = rt at *
  generalize rcBl p = bl at *
  (repeat (first | ((first | (apply wo_v; rfl) ); (· first | (apply pv_ev; rfl) | (apply pv_fld; rfl) | (apply g_load; first | (apply pv_ld; rfl; (· (repeat (first | apply sel_here | apply sel_there))); rfl) ) | (apply g_bin; first | (apply pv_rem; rfl; rfl; omega) | (apply pv_rem_t; rfl; rfl; omega) | (apply pv_and; rfl; rfl) ) )) | apply wo_nil | apply wc_seq | apply wc_region ))
  rw [← ho]
  generalize isO p = O at *
  refine wc_join0 (fun st => st = ⟨[(3, u), (11, .int .i64 WP)], [], RG⟩) ?_ ?_
  · refine wc_block ?_
    apply wc_seq
    refine wc_join0 (fun st => ∃ x, x = B1 ∧ st = ⟨[(3, u), (4, .pointer (some ⟨g4, 0, none⟩)), (5, .int .i64 M), (6, .int .i64 Z), (11, .int .i64 0), (12, .bool O), (54, .bool x)], [rfO g4 (rfL k1 k2 ss to ntp t pk oc (.slice A1 n1 c1) (.slice A3 n3 c3) (.slice A4 n4 c4) TX (.slice A5 n5 c5) (.slice A6 n6 c6) rt)], RG⟩) ?_ ?_
    · cases O with
      | true =>
        obtain rfl : B1 = false := bo_f w1 (fun h => absurd h.1 (by simp))
        (repeat (first | ((first | (apply wo_v; rfl) ); (· first | (apply pv_ev; rfl) | (apply g_pick; first | (apply pv_pick_t; rfl; rfl) | (apply pv_pick_f; rfl; rfl)) | (apply g_un; first | (apply pv_not_t; rfl) ) )) | apply wo_nil | apply wc_region | (apply wo_run; rfl; rfl) | (apply wo_skip; rfl; rfl; rfl; rfl) | (apply wo_skip_u; rfl; rfl; rfl) ))
        refine cut_end ⟨_, ?_, rfl⟩ (wk_mk (by (repeat (first | apply wkf_nil | (apply wkf_cons; rfl))); done) (by (repeat (first | apply sub_nil )); done) (by first | exact fun _ h => h | (intro r hr; cases hr; done) | (simp; done) | exact fun _ h => List.mem_append_left _ h | (intro r hr; simp [hr]; done)))
        first | rfl | exact decide_eq_true (by omega) | exact decide_eq_false (by omega)
      | false =>
        by_cases a1 : 31 < n1
        · obtain rfl : B1 = true := w1.2 ⟨rfl, .inl a1⟩
          (repeat (first | ((first | (apply wo_v; rfl) ); (· first | (apply pv_ev; rfl) | (apply pv_fld; rfl) | (apply g_load; first | (apply pv_ld; rfl; (· (repeat (first | apply sel_here ))); rfl) ) | (apply g_pick; first | (apply pv_pick_t; rfl; rfl) ) | (apply g_bi; first | (apply pv_len_sl; rfl) ) | (apply g_un; first | (apply pv_not_t; rfl) | (apply pv_not_f; rfl) ) )) | apply wo_nil | apply wc_region | (apply wo_run; rfl; rfl) | (apply wo_skip; rfl; rfl; rfl; rfl) | (apply wo_skip_u; rfl; rfl; rfl) | (apply a_gt; rfl; rfl; (· first | assumption | omega)) ))
          refine cut_end ⟨_, ?_, rfl⟩ (wk_mk (by (repeat (first | apply wkf_nil | (apply wkf_cons; rfl))); done) (by (repeat (first | apply sub_nil )); done) (by first | exact fun _ h => h | (intro r hr; cases hr; done) | (simp; done) | exact fun _ h => List.mem_append_left _ h | (intro r hr; simp [hr]; done)))
          first | rfl | exact decide_eq_true (by omega) | exact decide_eq_false (by omega)
        by_cases a2 : 255 < M
        · obtain rfl : B1 = true := w1.2 ⟨rfl, .inr (.inl a2)⟩
          (repeat (first | ((first | (apply wo_v; rfl) ); (· first | (apply pv_ev; rfl) | (apply pv_fld; rfl) | (apply g_load; first | (apply pv_ld; rfl; (· (repeat (first | apply sel_here ))); rfl) ) | (apply g_pick; first | (apply pv_pick_t; rfl; rfl) | (apply pv_pick_f; rfl; rfl)) | (apply g_bi; first | (apply pv_len_sl; rfl) ) | (apply g_un; first | (apply pv_not_t; rfl) | (apply pv_not_f; rfl) ) )) | apply wo_nil | apply wc_region | (apply wo_run; rfl; rfl) | (apply wo_skip; rfl; rfl; rfl; rfl) | (apply wo_skip_u; rfl; rfl; rfl) | (apply a_gt; rfl; rfl; (· first | assumption | omega)) | (apply a_gf; rfl; rfl; (· first | assumption | omega)) ))
          refine cut_end ⟨_, ?_, rfl⟩ (wk_mk (by (repeat (first | apply wkf_nil | (apply wkf_cons; rfl))); done) (by (repeat (first | apply sub_nil )); done) (by first | exact fun _ h => h | (intro r hr; cases hr; done) | (simp; done) | exact fun _ h => List.mem_append_left _ h | (intro r hr; simp [hr]; done)))
          first | rfl | exact decide_eq_true (by omega) | exact decide_eq_false (by omega)
        by_cases a3 : k1 = 203
        · by_cases a4 : 31 < n4
          · obtain rfl : B1 = true := w1.2 ⟨rfl, .inr (.inr ⟨a3, a4⟩)⟩
            (repeat (first | ((first | (apply wo_v; rfl) ); (· first | (apply pv_ev; rfl) | (apply pv_fld; rfl) | (apply g_load; first | (apply pv_ld; rfl; (· (repeat (first | apply sel_here ))); rfl) ) | (apply g_pick; first | (apply pv_pick_t; rfl; rfl) | (apply pv_pick_f; rfl; rfl)) | (apply g_bi; first | (apply pv_len_sl; rfl) ) | (apply g_un; first | (apply pv_not_t; rfl) | (apply pv_not_f; rfl) ) )) | apply wo_nil | apply wc_region | (apply wo_run; rfl; rfl) | (apply wo_skip; rfl; rfl; rfl; rfl) | (apply wo_skip_u; rfl; rfl; rfl) | (apply a_gt; rfl; rfl; (· first | assumption | omega)) | (apply a_gf; rfl; rfl; (· first | assumption | omega)) ))
            refine cut_end ⟨_, ?_, rfl⟩ (wk_mk (by (repeat (first | apply wkf_nil | (apply wkf_cons; rfl))); done) (by (repeat (first | apply sub_nil )); done) (by first | exact fun _ h => h | (intro r hr; cases hr; done) | (simp; done) | exact fun _ h => List.mem_append_left _ h | (intro r hr; simp [hr]; done)))
            first | rfl | exact decide_eq_true (by omega) | exact decide_eq_false (by omega)
          · obtain rfl : B1 = false := bo_f w1 (fun h => by rcases h.2 with h | h | h; exact a1 h; exact a2 h; exact a4 h.2)
            (repeat (first | ((first | (apply wo_v; rfl) ); (· first | (apply pv_ev; rfl) | (apply pv_fld; rfl) | (apply g_load; first | (apply pv_ld; rfl; (· (repeat (first | apply sel_here ))); rfl) ) | (apply g_pick; first | (apply pv_pick_t; rfl; rfl) | (apply pv_pick_f; rfl; rfl)) | (apply g_bi; first | (apply pv_len_sl; rfl) ) | (apply g_un; first | (apply pv_not_t; rfl) | (apply pv_not_f; rfl) ) )) | apply wo_nil | apply wc_region | (apply wo_run; rfl; rfl) | (apply wo_skip; rfl; rfl; rfl; rfl) | (apply wo_skip_u; rfl; rfl; rfl) | (apply a_gt; rfl; rfl; (· first | assumption | omega)) | (apply a_gf; rfl; rfl; (· first | assumption | omega)) ))
            refine cut_end ⟨_, ?_, rfl⟩ (wk_mk (by (repeat (first | apply wkf_nil | (apply wkf_cons; rfl))); done) (by (repeat (first | apply sub_nil )); done) (by first | exact fun _ h => h | (intro r hr; cases hr; done) | (simp; done) | exact fun _ h => List.mem_append_left _ h | (intro r hr; simp [hr]; done)))
            first | rfl | exact decide_eq_true (by omega) | exact decide_eq_false (by omega)
        · obtain rfl : B1 = false := bo_f w1 (fun h => by rcases h.2 with h | h | h; exact a1 h; exact a2 h; exact a3 h.1)
          (repeat (first | ((first | (apply wo_v; rfl) ); (· first | (apply pv_ev; rfl) | (apply pv_fld; rfl) | (apply g_load; first | (apply pv_ld; rfl; (· (repeat (first | apply sel_here ))); rfl) ) | (apply g_pick; first | (apply pv_pick_t; rfl; rfl) | (apply pv_pick_f; rfl; rfl)) | (apply g_bi; first | (apply pv_len_sl; rfl) ) | (apply g_un; first | (apply pv_not_t; rfl) | (apply pv_not_f; rfl) ) )) | apply wo_nil | apply wc_region | (apply wo_run; rfl; rfl) | (apply wo_skip; rfl; rfl; rfl; rfl) | (apply wo_skip_u; rfl; rfl; rfl) | (apply a_gt; rfl; rfl; (· first | assumption | omega)) | (apply a_gf; rfl; rfl; (· first | assumption | omega)) ))
          refine cut_end ⟨_, ?_, rfl⟩ (wk_mk (by (repeat (first | apply wkf_nil | (apply wkf_cons; rfl))); done) (by (repeat (first | apply sub_nil )); done) (by first | exact fun _ h => h | (intro r hr; cases hr; done) | (simp; done) | exact fun _ h => List.mem_append_left _ h | (intro r hr; simp [hr]; done)))
          first | rfl | exact decide_eq_true (by omega) | exact decide_eq_false (by omega)
    rintro st ⟨x, rfl, rfl⟩
    cases x with
    | true =>
      rw [if_pos rfl] at hwP
      subst hwP
      (repeat (first | ((first | (apply wo_v; rfl) ); (· first | (apply pv_ev; rfl) )) | apply wo_nil | apply wc_region | (apply wc_true; rfl) ))
      exact cut_end rfl (wk_mk (by (repeat (first | apply wkf_nil | (apply wkf_cons; rfl))); done) (by (repeat (first | apply sub_nil )); done) (by first | exact fun _ h => h | (intro r hr; cases hr; done) | (simp; done) | exact fun _ h => List.mem_append_left _ h | (intro r hr; simp [hr]; done)))
    | false =>
    rw [if_neg (by simp)] at hwP
    apply wc_false
    · rfl
    apply wc_seq
    refine wc_join0 (fun st => ∃ x, x = B2 ∧ st = ⟨[(3, u), (4, .pointer (some ⟨g4, 0, none⟩)), (5, .int .i64 M), (6, .int .i64 Z), (11, .int .i64 0), (12, .bool O), (78, .bool x)], [rfO g4 (rfL k1 k2 ss to ntp t pk oc (.slice A1 n1 c1) (.slice A3 n3 c3) (.slice A4 n4 c4) TX (.slice A5 n5 c5) (.slice A6 n6 c6) rt)], RG⟩) ?_ ?_
    · by_cases a0 : 0 < n1
      · obtain ⟨b0, hb0⟩ := hx1 a0
        have hr := hbl b0 hb0
        obtain ⟨a9, o9, rfl, hmem⟩ := hS1.pos (by omega)
        by_cases a1 : 16777216 ≤ b0.tt
        · obtain rfl : B2 = true := w2.2 (.inl ⟨b0, hb0, a1⟩)
          obtain ⟨x1, x2, x3, x4, x5, x6, x7⟩ := b0
          dsimp only at hr a1
          (repeat (first | ((first | (apply wo_v; rfl) ); (· first | (apply pv_ev; rfl) | (apply pv_fld; rfl) | (apply g_load; first | (apply pv_ld; rfl; (· (repeat (first | apply sel_here | apply sel_there))); rfl) | (apply pv_ld_ownf; rfl; (· (repeat (first | apply sel_there))); (· assumption); rfl) | (apply pv_ld_own1; rfl; (· (repeat (first | fail ))); (· assumption)) | (apply pv_ld_rof; rfl; (· (first | assumption )); (· assumption); rfl) ) | (apply g_pick; first | (apply pv_pick_t; rfl; rfl) ) | (apply g_bi; first | (apply pv_len_sl; rfl) ) | (apply g_idx; first | (apply pv_idx; rfl; rfl; omega) ) )) | apply wo_nil | apply wc_region | (apply wo_run; rfl; rfl) | (apply wo_skip; rfl; rfl; rfl; rfl) | (apply wo_skip_u; rfl; rfl; rfl) | (apply a_gt; rfl; rfl; (· first | assumption | omega)) ))
          refine cut_end ⟨_, ?_, rfl⟩ (wk_mk (by (repeat (first | apply wkf_nil | (apply wkf_cons; rfl))); done) (by (repeat (first | apply sub_nil )); done) (by first | exact fun _ h => h | (intro r hr; cases hr; done) | (simp; done) | exact fun _ h => List.mem_append_left _ h | (intro r hr; simp [hr]; done)))
          first | rfl | exact decide_eq_true (by omega) | exact decide_eq_false (by omega)
        have hnb : ¬ ∃ b, bl[0]? = some b ∧ 16777216 ≤ b.tt := fun ⟨b, h1, h2⟩ => by rw [hb0] at h1; injection h1 with h1; subst h1; exact a1 h2
        by_cases a2 : 0 < Z
        · obtain rfl : B2 = true := w2.2 (.inr a2)
          obtain ⟨x1, x2, x3, x4, x5, x6, x7⟩ := b0
          dsimp only at hr a1
          (repeat (first | ((first | (apply wo_v; rfl) ); (· first | (apply pv_ev; rfl) | (apply pv_fld; rfl) | (apply g_load; first | (apply pv_ld; rfl; (· (repeat (first | apply sel_here | apply sel_there))); rfl) | (apply pv_ld_ownf; rfl; (· (repeat (first | apply sel_there))); (· assumption); rfl) | (apply pv_ld_own1; rfl; (· (repeat (first | fail ))); (· assumption)) | (apply pv_ld_rof; rfl; (· (first | assumption )); (· assumption); rfl) ) | (apply g_pick; first | (apply pv_pick_t; rfl; rfl) | (apply pv_pick_f; rfl; rfl)) | (apply g_bi; first | (apply pv_len_sl; rfl) ) | (apply g_idx; first | (apply pv_idx; rfl; rfl; omega) ) )) | apply wo_nil | apply wc_region | (apply wo_run; rfl; rfl) | (apply wo_skip; rfl; rfl; rfl; rfl) | (apply wo_skip_u; rfl; rfl; rfl) | (apply a_gt; rfl; rfl; (· first | assumption | omega)) | (apply a_gf; rfl; rfl; (· first | assumption | omega)) ))
          refine cut_end ⟨_, ?_, rfl⟩ (wk_mk (by (repeat (first | apply wkf_nil | (apply wkf_cons; rfl))); done) (by (repeat (first | apply sub_nil )); done) (by first | exact fun _ h => h | (intro r hr; cases hr; done) | (simp; done) | exact fun _ h => List.mem_append_left _ h | (intro r hr; simp [hr]; done)))
          first | rfl | exact decide_eq_true (by omega) | exact decide_eq_false (by omega)
        · obtain rfl : B2 = false := bo_f w2 (fun h => by rcases h with h | h; exact hnb h; exact a2 h)
          obtain ⟨x1, x2, x3, x4, x5, x6, x7⟩ := b0
          dsimp only at hr a1
          (repeat (first | ((first | (apply wo_v; rfl) ); (· first | (apply pv_ev; rfl) | (apply pv_fld; rfl) | (apply g_load; first | (apply pv_ld; rfl; (· (repeat (first | apply sel_here | apply sel_there))); rfl) | (apply pv_ld_ownf; rfl; (· (repeat (first | apply sel_there))); (· assumption); rfl) | (apply pv_ld_own1; rfl; (· (repeat (first | fail ))); (· assumption)) | (apply pv_ld_rof; rfl; (· (first | assumption )); (· assumption); rfl) ) | (apply g_pick; first | (apply pv_pick_t; rfl; rfl) | (apply pv_pick_f; rfl; rfl)) | (apply g_bi; first | (apply pv_len_sl; rfl) ) | (apply g_idx; first | (apply pv_idx; rfl; rfl; omega) ) )) | apply wo_nil | apply wc_region | (apply wo_run; rfl; rfl) | (apply wo_skip; rfl; rfl; rfl; rfl) | (apply wo_skip_u; rfl; rfl; rfl) | (apply a_gt; rfl; rfl; (· first | assumption | omega)) | (apply a_gf; rfl; rfl; (· first | assumption | omega)) ))
          refine cut_end ⟨_, ?_, rfl⟩ (wk_mk (by (repeat (first | apply wkf_nil | (apply wkf_cons; rfl))); done) (by (repeat (first | apply sub_nil )); done) (by first | exact fun _ h => h | (intro r hr; cases hr; done) | (simp; done) | exact fun _ h => List.mem_append_left _ h | (intro r hr; simp [hr]; done)))
          first | rfl | exact decide_eq_true (by omega) | exact decide_eq_false (by omega)
      · have hnb : ¬ ∃ b, bl[0]? = some b ∧ 16777216 ≤ b.tt := fun ⟨b, h1, _⟩ => a0 (hx0 b h1)
        by_cases a2 : 0 < Z
        · obtain rfl : B2 = true := w2.2 (.inr a2)
          (repeat (first | ((first | (apply wo_v; rfl) ); (· first | (apply pv_ev; rfl) | (apply pv_fld; rfl) | (apply g_load; first | (apply pv_ld; rfl; (· (repeat (first | apply sel_here ))); rfl) ) | (apply g_pick; first | (apply pv_pick_t; rfl; rfl) | (apply pv_pick_f; rfl; rfl)) | (apply g_bi; first | (apply pv_len_sl; rfl) ) )) | apply wo_nil | apply wc_region | (apply wo_run; rfl; rfl) | (apply wo_skip; rfl; rfl; rfl; rfl) | (apply wo_skip_u; rfl; rfl; rfl) | (apply a_gt; rfl; rfl; (· first | assumption | omega)) | (apply a_gf; rfl; rfl; (· first | assumption | omega)) ))
          refine cut_end ⟨_, ?_, rfl⟩ (wk_mk (by (repeat (first | apply wkf_nil | (apply wkf_cons; rfl))); done) (by (repeat (first | apply sub_nil )); done) (by first | exact fun _ h => h | (intro r hr; cases hr; done) | (simp; done) | exact fun _ h => List.mem_append_left _ h | (intro r hr; simp [hr]; done)))
          first | rfl | exact decide_eq_true (by omega) | exact decide_eq_false (by omega)
        · obtain rfl : B2 = false := bo_f w2 (fun h => by rcases h with h | h; exact hnb h; exact a2 h)
          (repeat (first | ((first | (apply wo_v; rfl) ); (· first | (apply pv_ev; rfl) | (apply pv_fld; rfl) | (apply g_load; first | (apply pv_ld; rfl; (· (repeat (first | apply sel_here ))); rfl) ) | (apply g_pick; first | (apply pv_pick_t; rfl; rfl) | (apply pv_pick_f; rfl; rfl)) | (apply g_bi; first | (apply pv_len_sl; rfl) ) )) | apply wo_nil | apply wc_region | (apply wo_run; rfl; rfl) | (apply wo_skip; rfl; rfl; rfl; rfl) | (apply wo_skip_u; rfl; rfl; rfl) | (apply a_gt; rfl; rfl; (· first | assumption | omega)) | (apply a_gf; rfl; rfl; (· first | assumption | omega)) ))
          refine cut_end ⟨_, ?_, rfl⟩ (wk_mk (by (repeat (first | apply wkf_nil | (apply wkf_cons; rfl))); done) (by (repeat (first | apply sub_nil )); done) (by first | exact fun _ h => h | (intro r hr; cases hr; done) | (simp; done) | exact fun _ h => List.mem_append_left _ h | (intro r hr; simp [hr]; done)))
          first | rfl | exact decide_eq_true (by omega) | exact decide_eq_false (by omega)
    rintro st ⟨x, rfl, rfl⟩
    cases x with
    | true =>
      rw [if_pos rfl] at hwP
      subst hwP
      (repeat (first | ((first | (apply wo_v; rfl) ); (· first | (apply pv_ev; rfl) )) | apply wo_nil | apply wc_region | (apply wc_true; rfl) ))
      exact cut_end rfl (wk_mk (by (repeat (first | apply wkf_nil | (apply wkf_cons; rfl))); done) (by (repeat (first | apply sub_nil )); done) (by first | exact fun _ h => h | (intro r hr; cases hr; done) | (simp; done) | exact fun _ h => List.mem_append_left _ h | (intro r hr; simp [hr]; done)))
    | false =>
    rw [if_neg (by simp)] at hwP
    apply wc_false
    · rfl
    apply wc_seq
    refine wc_join0 (fun st => ∃ x, x = B3 ∧ st = ⟨[(3, u), (4, .pointer (some ⟨g4, 0, none⟩)), (5, .int .i64 M), (6, .int .i64 Z), (11, .int .i64 0), (12, .bool O), (95, .bool x)], [rfO g4 (rfL k1 k2 ss to ntp t pk oc (.slice A1 n1 c1) (.slice A3 n3 c3) (.slice A4 n4 c4) TX (.slice A5 n5 c5) (.slice A6 n6 c6) rt)], RG⟩) ?_ ?_
    · by_cases a1 : k1 = 206
      · by_cases a2 : k2 = 15
        · cases O with
          | true =>
            obtain rfl : B3 = false := bo_f w3 (fun h => absurd h.2.2.1 (by simp))
            (repeat (first | fail ))
            (refine wc_quiet mixed (by kernel_rfl) ?_; (repeat (first | ((first | (apply hd_v; rfl) ); (· first | (apply pv_ev; rfl) | (apply pv_fld; rfl) | (apply g_load; first | (apply pv_ld; rfl; (· (repeat (first | apply sel_here ))); rfl) ) | (apply g_pick; first | (apply pv_pick_t; rfl; rfl) | (apply pv_pick_f; rfl; rfl)) | (apply g_un; first | (apply pv_not_t; rfl) ) )) | apply Hd.nil | (apply Hd.run; rfl; rfl) | (apply Hd.skip; rfl; rfl; rfl; rfl) | (apply Hd.skipu; rfl; rfl; rfl) | (apply ah_gt; rfl; rfl; (· first | assumption | omega)) )))
            refine cut_end ⟨_, ?_, rfl⟩ (wk_mk (by (repeat (first | apply wkf_nil | (apply wkf_cons; rfl))); done) (by (repeat (first | apply sub_nil )); done) (by first | exact fun _ h => h | (intro r hr; cases hr; done) | (simp; done) | exact fun _ h => List.mem_append_left _ h | (intro r hr; simp [hr]; done)))
            first | rfl | exact decide_eq_true (by omega) | exact decide_eq_false (by omega)
          | false =>
            have hx := exM_le hrt
            have qe := eShift rt hrt
            have hrt2 : 0 ≤ rt ∧ rt ≤ 18446744073709551615 := hrt
            obtain ⟨e, he⟩ : ∃ e, exM rt = e := ⟨_, rfl⟩
            rw [he] at hx qe w3
            have hp : (0 : Int) < 2 ^ e := Int.pow_pos (by omega)
            have hmin : min (e : Int).toNat IntKind.u64.bits = e := by show min e 64 = e; omega
            have hq : rt / 2 ^ e * 2 ^ e ≤ rt := Int.ediv_mul_le rt (show (2 : Int) ^ e ≠ 0 by omega)
            have hq0 : 0 ≤ rt / 2 ^ e * 2 ^ e := Int.mul_nonneg (Int.ediv_nonneg hrt2.1 (by omega)) (by omega)
            have hraw : IntKind.u64.wrap (rt.fdiv (2 ^ (min (e : Int).toNat IntKind.u64.bits)) * 2 ^ (min (e : Int).toNat IntKind.u64.bits)) = rt / 2 ^ e * 2 ^ e := by
              rw [hmin, Int.fdiv_eq_ediv_of_nonneg _ (by omega), IntKind.wrap_u64]
              generalize rt / 2 ^ e * 2 ^ e = z at *
              omega
            (repeat (first | fail ))
            (refine wc_quiet mixed (by kernel_rfl) ?_; (repeat (first | ((first | (apply hd_v; rfl) ); (· first | (apply pv_ev; rfl) | (apply pv_fld; rfl) | (apply g_load; first | (apply pv_ld; rfl; (· (repeat (first | apply sel_here ))); rfl) ) | (apply g_pick; first | (apply pv_pick_t; rfl; rfl) ) | (apply g_un; first | (apply pv_not_t; rfl) | (apply pv_not_f; rfl) ) )) | (apply Hd.run; rfl; rfl) | (apply Hd.skip; rfl; rfl; rfl; rfl) | (apply Hd.skipu; rfl; rfl; rfl) | (apply ah_gt; rfl; rfl; (· first | assumption | omega)) )))
            (refine Hd.call rfl inferInstance (Fn.mono (qe) (fun _ _ _ h => ⟨h.1, h.2.1⟩)) rfl (by (repeat (first | apply sub_nil )); done) (by first | exact fun _ h => h | (intro r hr; cases hr; done) | (simp; done) | exact fun _ h => List.mem_append_left _ h | (intro r hr; simp [hr]; done)) rfl ?_; (repeat (first | ((first | (apply hd_v; rfl) ); (· first | (apply pv_ev; rfl) | (apply pv_fld; rfl) | (apply g_load; first | (apply pv_ld; rfl; (· (repeat (first | apply sel_here ))); rfl) ) | (apply g_bin; first | (apply a_shr; rfl; rfl; rfl; omega; rfl) | (apply pv_shr; rfl; rfl; omega) ) )) | (apply Hd.run; rfl; rfl) )))
            (refine Hd.call rfl inferInstance (Fn.mono (qe) (fun _ _ _ h => ⟨h.1, h.2.1⟩)) rfl (by (repeat (first | apply sub_nil )); done) (by first | exact fun _ h => h | (intro r hr; cases hr; done) | (simp; done) | exact fun _ h => List.mem_append_left _ h | (intro r hr; simp [hr]; done)) rfl ?_; (repeat (first | ((first | (apply hd_v; rfl) ); (· first | (apply pv_ev; rfl) | (apply pv_fld; rfl) | (apply g_load; first | (apply pv_ld; rfl; (· (repeat (first | apply sel_here ))); rfl) ) | (apply g_pick; first | (apply pv_pick_t; rfl; rfl) ) | (apply g_bin; first | (apply a_shl; rfl; rfl; rfl; omega; rfl; infer_instance; omega) | (apply a_shl_u; rfl; rfl; rfl; omega; rfl; infer_instance) | (apply pv_shl; rfl; rfl; omega) ) )) | apply Hd.nil | (apply Hd.run; rfl; rfl) )))
            rw [hraw]
            by_cases a5 : rt / 2 ^ e * 2 ^ e = rt
            · obtain rfl : B3 = false := bo_f w3 (fun h => h.2.2.2 a5)
              (repeat (first | fail ))
              refine cut_end ⟨_, ?_, rfl⟩ (wk_mk (by (repeat (first | apply wkf_nil | (apply wkf_cons; rfl))); done) (by (repeat (first | apply sub_nil )); done) (by first | exact fun _ h => h | (intro r hr; cases hr; done) | (simp; done) | exact fun _ h => List.mem_append_left _ h | (intro r hr; simp [hr]; done)))
              simp [a5]
            · obtain rfl : B3 = true := w3.2 ⟨a1, a2, rfl, a5⟩
              (repeat (first | fail ))
              refine cut_end ⟨_, ?_, rfl⟩ (wk_mk (by (repeat (first | apply wkf_nil | (apply wkf_cons; rfl))); done) (by (repeat (first | apply sub_nil )); done) (by first | exact fun _ h => h | (intro r hr; cases hr; done) | (simp; done) | exact fun _ h => List.mem_append_left _ h | (intro r hr; simp [hr]; done)))
              simp [a5]
        · obtain rfl : B3 = false := bo_f w3 (fun h => a2 h.2.1)
          (repeat (first | fail ))
          (refine wc_quiet mixed (by kernel_rfl) ?_; (repeat (first | ((first | (apply hd_v; rfl) ); (· first | (apply pv_ev; rfl) | (apply pv_fld; rfl) | (apply g_load; first | (apply pv_ld; rfl; (· (repeat (first | apply sel_here ))); rfl) ) | (apply g_pick; first | (apply pv_pick_t; rfl; rfl) | (apply pv_pick_f; rfl; rfl)) )) | apply Hd.nil | (apply Hd.run; rfl; rfl) | (apply Hd.skip; rfl; rfl; rfl; rfl) | (apply Hd.skipu; rfl; rfl; rfl) | (apply ah_gt; rfl; rfl; (· first | assumption | omega)) | (apply ah_gf; rfl; rfl; (· first | assumption | omega)) )))
          refine cut_end ⟨_, ?_, rfl⟩ (wk_mk (by (repeat (first | apply wkf_nil | (apply wkf_cons; rfl))); done) (by (repeat (first | apply sub_nil )); done) (by first | exact fun _ h => h | (intro r hr; cases hr; done) | (simp; done) | exact fun _ h => List.mem_append_left _ h | (intro r hr; simp [hr]; done)))
          first | rfl | exact decide_eq_true (by omega) | exact decide_eq_false (by omega)
      · obtain rfl : B3 = false := bo_f w3 (fun h => a1 h.1)
        (repeat (first | fail ))
        (refine wc_quiet mixed (by kernel_rfl) ?_; (repeat (first | ((first | (apply hd_v; rfl) ); (· first | (apply pv_ev; rfl) | (apply pv_fld; rfl) | (apply g_load; first | (apply pv_ld; rfl; (· (repeat (first | apply sel_here ))); rfl) ) | (apply g_pick; first | (apply pv_pick_t; rfl; rfl) | (apply pv_pick_f; rfl; rfl)) )) | apply Hd.nil | (apply Hd.run; rfl; rfl) | (apply Hd.skip; rfl; rfl; rfl; rfl) | (apply Hd.skipu; rfl; rfl; rfl) | (apply ah_gt; rfl; rfl; (· first | assumption | omega)) | (apply ah_gf; rfl; rfl; (· first | assumption | omega)) )))
        refine cut_end ⟨_, ?_, rfl⟩ (wk_mk (by (repeat (first | apply wkf_nil | (apply wkf_cons; rfl))); done) (by (repeat (first | apply sub_nil )); done) (by first | exact fun _ h => h | (intro r hr; cases hr; done) | (simp; done) | exact fun _ h => List.mem_append_left _ h | (intro r hr; simp [hr]; done)))
        first | rfl | exact decide_eq_true (by omega) | exact decide_eq_false (by omega)
    rintro st ⟨x, rfl, rfl⟩
    cases x with
    | true =>
      rw [if_pos rfl] at hwP
      subst hwP
      (repeat (first | ((first | (apply wo_v; rfl) ); (· first | (apply pv_ev; rfl) )) | apply wo_nil | apply wc_region | (apply wc_true; rfl) ))
      exact cut_end rfl (wk_mk (by (repeat (first | apply wkf_nil | (apply wkf_cons; rfl))); done) (by (repeat (first | apply sub_nil )); done) (by first | exact fun _ h => h | (intro r hr; cases hr; done) | (simp; done) | exact fun _ h => List.mem_append_left _ h | (intro r hr; simp [hr]; done)))
    | false =>
    rw [if_neg (by simp)] at hwP
    apply wc_false
    · rfl
    apply wc_seq
    refine wc_join0 (fun st => ∃ x, x = B4 ∧ st = ⟨[(3, u), (4, .pointer (some ⟨g4, 0, none⟩)), (5, .int .i64 M), (6, .int .i64 Z), (11, .int .i64 0), (12, .bool O), (123, .bool x)], [rfO g4 (rfL k1 k2 ss to ntp t pk oc (.slice A1 n1 c1) (.slice A3 n3 c3) (.slice A4 n4 c4) TX (.slice A5 n5 c5) (.slice A6 n6 c6) rt)], RG⟩) ?_ ?_
    · cases O with
      | false =>
        obtain rfl : B4 = false := bo_f w4 (fun h => absurd h.1 (by simp))
        (repeat (first | ((first | (apply wo_v; rfl) ); (· first | (apply pv_ev; rfl) | (apply g_pick; first | (apply pv_pick_t; rfl; rfl) | (apply pv_pick_f; rfl; rfl)) )) | apply wo_nil | apply wc_region | (apply wo_run; rfl; rfl) | (apply wo_skip; rfl; rfl; rfl; rfl) | (apply wo_skip_u; rfl; rfl; rfl) ))
        refine cut_end ⟨_, ?_, rfl⟩ (wk_mk (by (repeat (first | apply wkf_nil | (apply wkf_cons; rfl))); done) (by (repeat (first | apply sub_nil )); done) (by first | exact fun _ h => h | (intro r hr; cases hr; done) | (simp; done) | exact fun _ h => List.mem_append_left _ h | (intro r hr; simp [hr]; done)))
        first | rfl | exact decide_eq_true (by omega) | exact decide_eq_false (by omega)
      | true =>
        have m4 : (TX.size : Int).tmod 4 = (TX.size : Int) % 4 := Int.tmod_eq_emod_of_nonneg (by omega)
        by_cases a1 : k1 < 192
        · obtain rfl : B4 = true := w4.2 ⟨rfl, .inl a1⟩
          (repeat (first | ((first | (apply wo_v; rfl) ); (· first | (apply pv_ev; rfl) | (apply pv_fld; rfl) | (apply g_load; first | (apply pv_ld; rfl; (· (repeat (first | apply sel_here ))); rfl) ) | (apply g_pick; first | (apply pv_pick_t; rfl; rfl) ) )) | apply wo_nil | apply wc_region | (apply wo_run; rfl; rfl) | (apply wo_skip; rfl; rfl; rfl; rfl) | (apply wo_skip_u; rfl; rfl; rfl) | (apply a_gt; rfl; rfl; (· first | assumption | omega)) ))
          refine cut_end ⟨_, ?_, rfl⟩ (wk_mk (by (repeat (first | apply wkf_nil | (apply wkf_cons; rfl))); done) (by (repeat (first | apply sub_nil )); done) (by first | exact fun _ h => h | (intro r hr; cases hr; done) | (simp; done) | exact fun _ h => List.mem_append_left _ h | (intro r hr; simp [hr]; done)))
          first | rfl | exact decide_eq_true (by omega) | exact decide_eq_false (by omega)
        by_cases a2 : 223 < k1
        · obtain rfl : B4 = true := w4.2 ⟨rfl, .inr (.inl a2)⟩
          (repeat (first | ((first | (apply wo_v; rfl) ); (· first | (apply pv_ev; rfl) | (apply pv_fld; rfl) | (apply g_load; first | (apply pv_ld; rfl; (· (repeat (first | apply sel_here ))); rfl) ) | (apply g_pick; first | (apply pv_pick_t; rfl; rfl) | (apply pv_pick_f; rfl; rfl)) )) | apply wo_nil | apply wc_region | (apply wo_run; rfl; rfl) | (apply wo_skip; rfl; rfl; rfl; rfl) | (apply wo_skip_u; rfl; rfl; rfl) | (apply a_gt; rfl; rfl; (· first | assumption | omega)) | (apply a_gf; rfl; rfl; (· first | assumption | omega)) ))
          refine cut_end ⟨_, ?_, rfl⟩ (wk_mk (by (repeat (first | apply wkf_nil | (apply wkf_cons; rfl))); done) (by (repeat (first | apply sub_nil )); done) (by first | exact fun _ h => h | (intro r hr; cases hr; done) | (simp; done) | exact fun _ h => List.mem_append_left _ h | (intro r hr; simp [hr]; done)))
          first | rfl | exact decide_eq_true (by omega) | exact decide_eq_false (by omega)
        by_cases a3 : 31 < k2
        · obtain rfl : B4 = true := w4.2 ⟨rfl, .inr (.inr (.inl a3))⟩
          (repeat (first | ((first | (apply wo_v; rfl) ); (· first | (apply pv_ev; rfl) | (apply pv_fld; rfl) | (apply g_load; first | (apply pv_ld; rfl; (· (repeat (first | apply sel_here ))); rfl) ) | (apply g_pick; first | (apply pv_pick_t; rfl; rfl) | (apply pv_pick_f; rfl; rfl)) )) | apply wo_nil | apply wc_region | (apply wo_run; rfl; rfl) | (apply wo_skip; rfl; rfl; rfl; rfl) | (apply wo_skip_u; rfl; rfl; rfl) | (apply a_gt; rfl; rfl; (· first | assumption | omega)) | (apply a_gf; rfl; rfl; (· first | assumption | omega)) ))
          refine cut_end ⟨_, ?_, rfl⟩ (wk_mk (by (repeat (first | apply wkf_nil | (apply wkf_cons; rfl))); done) (by (repeat (first | apply sub_nil )); done) (by first | exact fun _ h => h | (intro r hr; cases hr; done) | (simp; done) | exact fun _ h => List.mem_append_left _ h | (intro r hr; simp [hr]; done)))
          first | rfl | exact decide_eq_true (by omega) | exact decide_eq_false (by omega)
        by_cases a4 : (TX.size : Int) % 4 = 0
        · have a4' : ¬ TX.size % 4 ≠ 0 := by omega
          cases hk : knB k1 k2 with
          | true =>
            obtain rfl : B4 = true := w4.2 ⟨rfl, .inr (.inr (.inr (.inr hk)))⟩
            rw [hk] at qk
            (repeat (first | ((first | (apply wo_v; rfl) ); (· first | (apply pv_ev; rfl) | (apply pv_fld; rfl) | (apply g_load; first | (apply pv_ld; rfl; (· (repeat (first | apply sel_here ))); rfl) ) | (apply g_pick; first | (apply pv_pick_t; rfl; rfl) | (apply pv_pick_f; rfl; rfl)) | (apply g_bin; first | (apply pv_rem; rfl; rfl; omega) ) | (apply g_bi; first | (apply pv_len_str; rfl) ) )) | apply wc_region | (apply wo_run; rfl; rfl) | (apply wo_skip; rfl; rfl; rfl; rfl) | (apply wo_skip_u; rfl; rfl; rfl) | (apply a_gt; rfl; rfl; (· first | assumption | omega)) | (apply a_gf; rfl; rfl; (· first | assumption | omega)) ))
            (refine wo_call (qk) rfl (by (repeat (first | apply sub_nil )); done) (by first | exact fun _ h => h | (intro r hr; cases hr; done) | (simp; done) | exact fun _ h => List.mem_append_left _ h | (intro r hr; simp [hr]; done)) rfl ?_; rintro v L' R' ⟨rfl, rfl, rfl⟩ H' hH RR hR; simp only [List.cons_append, List.nil_append] at hH hR; subst hH; have hR := hR.symm; subst hR)
            (repeat (first | ((first | (apply wo_v; rfl) ); (· first | (apply pv_ev; rfl) | (apply g_pick; first | (apply pv_pick_t; rfl; rfl) | (apply pv_pick_f; rfl; rfl)) )) | apply wo_nil | (apply wo_run; rfl; rfl) ))
            refine cut_end ⟨_, ?_, rfl⟩ (wk_mk (by (repeat (first | apply wkf_nil | (apply wkf_cons; rfl))); done) (by (repeat (first | apply sub_nil )); done) (by first | exact fun _ h => h | (intro r hr; cases hr; done) | (simp; done) | exact fun _ h => List.mem_append_left _ h | (intro r hr; simp [hr]; done)))
            first | rfl | exact decide_eq_true (by omega) | exact decide_eq_false (by omega)
          | false =>
            obtain rfl : B4 = false := bo_f w4 (fun h => by rcases h.2 with h | h | h | h | h; exact a1 h; exact a2 h; exact a3 h; exact a4' h; rw [hk] at h; cases h)
            rw [hk] at qk
            (repeat (first | ((first | (apply wo_v; rfl) ); (· first | (apply pv_ev; rfl) | (apply pv_fld; rfl) | (apply g_load; first | (apply pv_ld; rfl; (· (repeat (first | apply sel_here ))); rfl) ) | (apply g_pick; first | (apply pv_pick_t; rfl; rfl) | (apply pv_pick_f; rfl; rfl)) | (apply g_bin; first | (apply pv_rem; rfl; rfl; omega) ) | (apply g_bi; first | (apply pv_len_str; rfl) ) )) | apply wc_region | (apply wo_run; rfl; rfl) | (apply wo_skip; rfl; rfl; rfl; rfl) | (apply wo_skip_u; rfl; rfl; rfl) | (apply a_gt; rfl; rfl; (· first | assumption | omega)) | (apply a_gf; rfl; rfl; (· first | assumption | omega)) ))
            (refine wo_call (qk) rfl (by (repeat (first | apply sub_nil )); done) (by first | exact fun _ h => h | (intro r hr; cases hr; done) | (simp; done) | exact fun _ h => List.mem_append_left _ h | (intro r hr; simp [hr]; done)) rfl ?_; rintro v L' R' ⟨rfl, rfl, rfl⟩ H' hH RR hR; simp only [List.cons_append, List.nil_append] at hH hR; subst hH; have hR := hR.symm; subst hR)
            (repeat (first | ((first | (apply wo_v; rfl) ); (· first | (apply pv_ev; rfl) | (apply g_pick; first | (apply pv_pick_t; rfl; rfl) | (apply pv_pick_f; rfl; rfl)) )) | apply wo_nil | (apply wo_run; rfl; rfl) ))
            refine cut_end ⟨_, ?_, rfl⟩ (wk_mk (by (repeat (first | apply wkf_nil | (apply wkf_cons; rfl))); done) (by (repeat (first | apply sub_nil )); done) (by first | exact fun _ h => h | (intro r hr; cases hr; done) | (simp; done) | exact fun _ h => List.mem_append_left _ h | (intro r hr; simp [hr]; done)))
            first | rfl | exact decide_eq_true (by omega) | exact decide_eq_false (by omega)
        · obtain rfl : B4 = true := w4.2 ⟨rfl, .inr (.inr (.inr (.inl (by omega))))⟩
          (repeat (first | ((first | (apply wo_v; rfl) ); (· first | (apply pv_ev; rfl) | (apply pv_fld; rfl) | (apply g_load; first | (apply pv_ld; rfl; (· (repeat (first | apply sel_here ))); rfl) ) | (apply g_pick; first | (apply pv_pick_t; rfl; rfl) | (apply pv_pick_f; rfl; rfl)) | (apply g_bin; first | (apply pv_rem; rfl; rfl; omega) ) | (apply g_bi; first | (apply pv_len_str; rfl) ) )) | apply wo_nil | apply wc_region | (apply wo_run; rfl; rfl) | (apply wo_skip; rfl; rfl; rfl; rfl) | (apply wo_skip_u; rfl; rfl; rfl) | (apply a_gt; rfl; rfl; (· first | assumption | omega)) | (apply a_gf; rfl; rfl; (· first | assumption | omega)) ))
          refine cut_end ⟨_, ?_, rfl⟩ (wk_mk (by (repeat (first | apply wkf_nil | (apply wkf_cons; rfl))); done) (by (repeat (first | apply sub_nil )); done) (by first | exact fun _ h => h | (intro r hr; cases hr; done) | (simp; done) | exact fun _ h => List.mem_append_left _ h | (intro r hr; simp [hr]; done)))
          first | rfl | exact decide_eq_true (by omega) | exact decide_eq_false (by omega)
    rintro st ⟨x, rfl, rfl⟩
    cases x with
    | true =>
      rw [if_pos rfl] at hwP
      subst hwP
      (repeat (first | ((first | (apply wo_v; rfl) ); (· first | (apply pv_ev; rfl) )) | apply wo_nil | apply wc_region | (apply wc_true; rfl) ))
      exact cut_end rfl (wk_mk (by (repeat (first | apply wkf_nil | (apply wkf_cons; rfl))); done) (by (repeat (first | apply sub_nil )); done) (by first | exact fun _ h => h | (intro r hr; cases hr; done) | (simp; done) | exact fun _ h => List.mem_append_left _ h | (intro r hr; simp [hr]; done)))
    | false =>
    rw [if_neg (by simp)] at hwP
    apply wc_false
    · rfl
    apply wc_seq
    refine wc_join0 (fun st => ∃ x, x = B5 ∧ st = ⟨[(3, u), (11, .int .i64 0), (154, .bool x)], [], RG⟩) ?_ ?_
    · cases O with
      | true =>
        obtain rfl : B5 = false := bo_f w5 (fun h => absurd h.1 (by simp))
        (repeat (first | ((first | (apply wo_v; rfl) ); (· first | (apply pv_ev; rfl) | (apply g_pick; first | (apply pv_pick_t; rfl; rfl) | (apply pv_pick_f; rfl; rfl)) | (apply g_un; first | (apply pv_not_t; rfl) ) )) | apply wo_nil | apply wc_region | (apply wo_run; rfl; rfl) | (apply wo_skip; rfl; rfl; rfl; rfl) ))
        refine cut_end ⟨_, ?_, rfl⟩ (wk_mk (by (repeat (first | apply wkf_nil | (apply wkf_cons; rfl))); done) (by (repeat (first | apply sub_nil )); done) (by first | exact fun _ h => h | (intro r hr; cases hr; done) | (simp; done) | exact fun _ h => List.mem_append_left _ h | (intro r hr; simp [hr]; done)))
        first | rfl | exact decide_eq_true (by omega) | exact decide_eq_false (by omega)
      | false =>
        have hT := hT (hW rfl (by simp) (by simp) (by simp))
        (repeat (first | ((first | (apply wo_v; rfl) ); (· first | (apply pv_ev; rfl) | (apply g_load; first | (apply pv_lda; rfl; (· (repeat (first | apply sel_here ))); (· (repeat (first | apply Cut.here0 | apply Cut.here )))) ) | (apply g_un; first | (apply pv_not_t; rfl) | (apply pv_not_f; rfl) ) )) | apply wc_region | (apply wo_run; rfl; rfl) | (apply wo_bsl; (· (repeat (first | apply Rws'.nil | (apply Rws'.one; rfl; rfl; rfl) | (apply Rws'.agg; rfl; rfl; rfl)))); rfl; rfl; rfl; rfl; intro bx) ))
        refine wo_still (ao := some ⟨bx, 0, none⟩) (n := 1) (c := 1) (by (repeat (first | apply sel_here )); done) (fun R1 hS1 => ?_)
        (repeat (first | ((first | (apply wo_v; rfl) ); (· first | (apply pv_ev; rfl) )) ))
        (refine wo_call (hT _ _ hS1.sq) rfl (by (repeat (first | apply sub_nil )); done) (by first | exact fun _ h => h | (intro r hr; cases hr; done) | (simp; done) | exact fun _ h => List.mem_append_left _ h | (intro r hr; simp [hr]; done)) rfl ?_; rintro v L' R' ⟨rfl, rfl, rfl⟩ H' hH RR hR; simp only [List.cons_append, List.nil_append] at hH hR; subst hH; have hR := hR.symm; subst hR)
        by_cases a5 : 1500 < (txs [p]).size
        · obtain rfl : B5 = true := w5.2 ⟨rfl, a5⟩
          (repeat (first | ((first | (apply wo_v; rfl) ); (· first | (apply pv_ev; rfl) | (apply g_pick; first | (apply pv_pick_t; rfl; rfl) ) | (apply g_bi; first | (apply pv_len_str; rfl) ) )) | apply wo_nil | (apply wo_run; rfl; rfl) ))
          refine cut_end ⟨_, ?_, rfl⟩ (wk_mk (by (repeat (first | apply wkf_nil | (apply wkf_cons; rfl))); done) (by (repeat (first | apply sub_nil )); done) (by first | exact fun _ h => h | (intro r hr; cases hr; done) | (simp; done) | exact fun _ h => List.mem_append_left _ h | (intro r hr; simp [hr]; done)))
          first | rfl | exact decide_eq_true (by omega) | exact decide_eq_false (by omega)
        · obtain rfl : B5 = false := bo_f w5 (fun h => a5 h.2)
          (repeat (first | ((first | (apply wo_v; rfl) ); (· first | (apply pv_ev; rfl) | (apply g_pick; first | (apply pv_pick_t; rfl; rfl) ) | (apply g_bi; first | (apply pv_len_str; rfl) ) )) | apply wo_nil | (apply wo_run; rfl; rfl) ))
          refine cut_end ⟨_, ?_, rfl⟩ (wk_mk (by (repeat (first | apply wkf_nil | (apply wkf_cons; rfl))); done) (by (repeat (first | apply sub_nil )); done) (by first | exact fun _ h => h | (intro r hr; cases hr; done) | (simp; done) | exact fun _ h => List.mem_append_left _ h | (intro r hr; simp [hr]; done)))
          first | rfl | exact decide_eq_true (by omega) | exact decide_eq_false (by omega)
    rintro st ⟨x, rfl, rfl⟩
    cases x with
    | true =>
      rw [if_pos rfl] at hwP
      subst hwP
      (repeat (first | ((first | (apply wo_v; rfl) ); (· first | (apply pv_ev; rfl) )) | apply wo_nil | apply wc_region | (apply wc_true; rfl) ))
      exact cut_end rfl (wk_mk (by (repeat (first | apply wkf_nil | (apply wkf_cons; rfl))); done) (by (repeat (first | apply sub_nil )); done) (by first | exact fun _ h => h | (intro r hr; cases hr; done) | (simp; done) | exact fun _ h => List.mem_append_left _ h | (intro r hr; simp [hr]; done)))
    | false =>
      rw [if_neg (by simp)] at hwP
      subst hwP
      (repeat (first | apply wc_skip | (apply wc_true; rfl) | (apply wc_false; rfl) ))
      exact cut_end rfl (wk_mk (by (repeat (first | apply wkf_nil | (apply wkf_cons; rfl))); done) (by (repeat (first | apply sub_nil )); done) (by first | exact fun _ h => h | (intro r hr; cases hr; done) | (simp; done) | exact fun _ h => List.mem_append_left _ h | (intro r hr; simp [hr]; done)))
  · rintro st rfl
    (repeat (first | ((first | (apply wo_v; rfl) ); (· first | (apply pv_ev; rfl) )) | apply wc_seq | apply wc_region ))
    (refine wo_call (kp u RG hP) rfl (by (repeat (first | apply sub_nil )); done) (by first | exact fun _ h => h | (intro r hr; cases hr; done) | (simp; done) | exact fun _ h => List.mem_append_left _ h | (intro r hr; simp [hr]; done)) rfl ?_; rintro v L' R' ⟨rfl, rfl, rfl⟩ H' hH RR hR; simp only [List.cons_append, List.nil_append] at hH hR; subst hH; have hR := hR.symm; subst hR)
    (repeat (first | ((first | (apply wo_v; rfl) ); (· first | (apply pv_ev; rfl) )) | apply wo_nil | apply wc_ret ))
    exact ret1 rfl rfl (by simp) ((by (repeat (first | apply sub_nil )); done) : List.Perm _ ([] ++ _)) (by first | exact fun _ h => h | (intro r hr; cases hr; done) | (simp; done) | exact fun _ h => List.mem_append_left _ h | (intro r hr; simp [hr]; done))
theorem rtcpChecks_walk {w : World} (row : List Value) (R : List Ro) (hR : ∀ r ∈ R, r.sat w) (h : FV1s R mdFd row) :
    Calls Try.prog 6 #[.agg row.toArray] w fun e w' => e = .returned (.bool true) ∧ Below w.heap.size w w' := by
  obtain ⟨m, A, n, c, A2, n2, c2, rfl, hm, hS, hc, hT⟩ := row_md h
  have hk := mk_mkP hm
  exact walk_of (rtcpChecks_fn _ _ _ _ _ _ _ _ _ _ _ _ _ R _ (yMake m hm A n c A2 n2 c2 _ hS hc hT) hk.1 hk.2) hR
end Go.Proofs.Yteaccbbmphcmnaa
