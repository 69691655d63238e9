/-
  Texts of this proof, laid together (part 7 of 7).
-/
import Derived.Test.YteaccbbmphcmnaaB6
import Derived.Deep.Slices
/-
  Layer 5's document: blocks, chunks.
-/
namespace Go.Proofs.Yteaccbbmphcmnaa
set_option linter.unusedSimpArgs false
set_option linter.unusedVariables false
open Go.RowKit
attribute [local irreducible] Pv WO WC Fn
set_option maxRecDepth 100000
attribute [local irreducible] ByteArray.extract

theorem numsS4 (k : Nat) (a b c d : Int) : numsS k [a, b, c, d] = numS k a ++ (numS k b ++ (numS k c ++ numS k d)) := by
  show numS k a ++ (numS k b ++ (numS k c ++ (numS k d ++ E0))) = _
  rw [append_E0]
theorem numsS2 (k : Nat) (a b : Int) : numsS k [a, b] = numS k a ++ numS k b := by
  show numS k a ++ (numS k b ++ E0) = _
  rw [append_E0]
theorem bkT_eq (b : Bk) : bkT b = numS 4 b.ss ++ numS 1 b.lo ++ numS 3 b.tt ++ numS 4 b.la ++ numS 4 b.ji ++ numS 4 b.ls ++ numS 4 b.dl := by
  unfold bkT
  rw [numsS4, numsS_one, numsS_one, numsS_one]
  simp only [ByteArray.append_assoc]
theorem eBlocks (l : List Bk) (A : Option Addr) (n c : Nat) (R : List Ro) (hS : SQ R 7 A n c (blkV l)) (hb : ∀ b ∈ l, b.ok) (hl : l.length ≤ 100000) : Fn Try.prog 72 #[.slice A n c] [] R (fun v L' R' => v = .string (bksT l) ∧ L' = [] ∧ R' = []) := by
  have hn : n = l.length := by rw [← hS.len, blkV_len]
  subst hn
  refine fn_intro Try.func72 rfl Try.ntmps72 rfl (fun E => ?_)
  (repeat (first | ((first | (apply wo_v; rfl) ); (· first | (apply pv_ev; rfl) | (apply g_bi; first | (apply pv_len_sl; rfl) ) )) | apply wo_nil | apply wc_seq | apply wc_region ))
  refine wc_block ?_
  refine wc_loop' (fun q st => ∃ (i : Nat) (S : ByteArray), q = l.length - i ∧ i ≤ l.length ∧ S = bksT (l.take i) ∧ st = ⟨[(3, .string S), (6, .slice A l.length c), (7, .int .i64 l.length), (8, .int .i64 i)], [], R⟩) ⟨0, E0, rfl, Nat.zero_le _, rfl, rfl⟩ (wk_mk (by (repeat (first | apply wkf_nil | (apply wkf_cons; rfl))); done) (by (repeat (first | apply sub_nil )); done) (by first | exact fun _ h => h | (intro r hr; cases hr; done) | (simp; done) | exact fun _ h => List.mem_append_left _ h | (intro r hr; simp [hr]; done))) ?_
  rintro q st ⟨i, S0, rfl, hi, hS0, rfl⟩
  by_cases hlt : i < l.length
  · obtain ⟨x, hx⟩ : ∃ x, l[i]? = some x := ⟨_, List.getElem?_eq_getElem hlt⟩
    have hr := blkV_at hx
    have hz := bksT_size (l.take i)
    rw [List.length_take, Nat.min_eq_left hi] at hz
    have hnx := bksT_take hx
    rw [bkT_eq] at hnx
    obtain ⟨⟨g1, g2⟩, ⟨g3, g4⟩, ⟨g5, g6⟩, k1, k2, k3, k4⟩ := hb x (List.mem_of_getElem? hx)
    obtain ⟨x1, x2, x3, x4, x5, x6, x7⟩ := x
    dsimp only at *
    obtain ⟨b0, o0, rfl, hmem⟩ := hS.pos (by omega)
    rw [← hS0] at hz hnx
    (repeat (first | ((first | (apply wo_v; rfl) ); (· first | (apply pv_ev; rfl) )) | apply wo_nil | apply wc_seq | apply wc_region | apply wc_skip | (apply wc_true; rfl) | (apply wc_false; rfl) | (apply a_dec_t; rfl; (· first | assumption | omega)) ))
    refine wc_block ?_
    (repeat (first | ((first | (apply wo_v; rfl) ); (· first | (apply pv_ev; rfl) | (apply g_load; first | (apply pv_lda; rfl; (· (repeat (first | fail ))); (· (repeat (first | fail )))) | (apply pv_ld_owna; rfl; (· (repeat (first | fail ))); (· assumption)) | (apply pv_ld_roa; rfl; (· (first | assumption )); (· assumption))) | (apply g_idx; first | (apply pv_idx; rfl; rfl; omega) ) )) | apply wo_nil | apply wc_seq | apply wc_region | (apply wo_alloc; rfl; intro bx) | (apply wo_sta; rfl; rfl; rfl; rfl; (· (repeat (first | apply sel_here ))); (· (repeat (first | apply LayAt.nil | apply LayAt.here ))); rfl) ))
    have z1 := numS_size 4 x1
    have z2 := numS_size 1 x2
    have z3 := numS_size 3 x3
    have z4 := numS_size 4 x4
    have z5 := numS_size 4 x5
    have z6 := numS_size 4 x6
    have z7 := numS_size 4 x7
    have y1 : (numS 4 x1 ++ numS 1 x2).size = 5 := by rw [ByteArray.size_append, z1, z2]
    have y2 : (numS 4 x1 ++ numS 1 x2 ++ numS 3 x3).size = 8 := by rw [ByteArray.size_append, y1, z3]
    have y3 : (numS 4 x1 ++ numS 1 x2 ++ numS 3 x3 ++ numS 4 x4).size = 12 := by rw [ByteArray.size_append, y2, z4]
    have y4 : (numS 4 x1 ++ numS 1 x2 ++ numS 3 x3 ++ numS 4 x4 ++ numS 4 x5).size = 16 := by rw [ByteArray.size_append, y3, z5]
    have y5 : (numS 4 x1 ++ numS 1 x2 ++ numS 3 x3 ++ numS 4 x4 ++ numS 4 x5 ++ numS 4 x6).size = 20 := by rw [ByteArray.size_append, y4, z6]
    have y6 : (numS 4 x1 ++ numS 1 x2 ++ numS 3 x3 ++ numS 4 x4 ++ numS 4 x5 ++ numS 4 x6 ++ numS 4 x7).size = 24 := by rw [ByteArray.size_append, y5, z7]
    (refine wc_quiet mixed (by kernel_rfl) ?_; (repeat (first | ((first | (apply hd_v; rfl) ); (· first | (apply pv_ev; rfl) | (apply pv_fld; rfl) | (apply g_load; first | (apply pv_ld; rfl; (· (repeat (first | apply sel_here ))); rfl) ) )) )))
    (refine Hd.call rfl inferInstance (Fn.mono (eNum4 x1 ⟨g1, g2⟩) (fun _ _ _ h => ⟨h.1, h.2.1⟩)) rfl (by (repeat (first | apply sub_nil )); done) (by first | exact fun _ h => h | (intro r hr; cases hr; done) | (simp; done) | exact fun _ h => List.mem_append_left _ h | (intro r hr; simp [hr]; done)) rfl ?_; (repeat (first | ((first | (apply hd_v; rfl) ); (· first | (apply pv_ev; rfl) | (apply pv_fld; rfl) | (apply g_load; first | (apply pv_ld; rfl; (· (repeat (first | apply sel_here ))); rfl) ) | (apply g_conv; first | (apply a_conv; rfl; infer_instance; infer_instance; infer_instance; omega) ) )) )))
    (refine Hd.call rfl inferInstance (Fn.mono (rNum 1 x2 1 rfl (by omega)) (fun _ _ _ h => ⟨h.1, h.2.1⟩)) rfl (by (repeat (first | apply sub_nil )); done) (by first | exact fun _ h => h | (intro r hr; cases hr; done) | (simp; done) | exact fun _ h => List.mem_append_left _ h | (intro r hr; simp [hr]; done)) rfl ?_; (repeat (first | ((first | (apply hd_v; rfl) ); (· first | (apply pv_ev; rfl) | (apply pv_fld; rfl) | (apply g_load; first | (apply pv_ld; rfl; (· (repeat (first | apply sel_here ))); rfl) ) | (apply g_bin; first | (apply a_add; rfl; rfl; infer_instance; omega) | (apply pv_add_s; rfl; rfl; omega) ) | (apply g_conv; first | (apply a_conv; rfl; infer_instance; infer_instance; infer_instance; omega) ) )) )))
    (refine Hd.call rfl inferInstance (Fn.mono (rNum 3 x3 3 rfl (by omega)) (fun _ _ _ h => ⟨h.1, h.2.1⟩)) rfl (by (repeat (first | apply sub_nil )); done) (by first | exact fun _ h => h | (intro r hr; cases hr; done) | (simp; done) | exact fun _ h => List.mem_append_left _ h | (intro r hr; simp [hr]; done)) rfl ?_; (repeat (first | ((first | (apply hd_v; rfl) ); (· first | (apply pv_ev; rfl) | (apply pv_fld; rfl) | (apply g_load; first | (apply pv_ld; rfl; (· (repeat (first | apply sel_here ))); rfl) ) | (apply g_bin; first | (apply a_add; rfl; rfl; infer_instance; omega) | (apply pv_add_s; rfl; rfl; omega) ) )) )))
    (refine Hd.call rfl inferInstance (Fn.mono (eNum4 x4 k1) (fun _ _ _ h => ⟨h.1, h.2.1⟩)) rfl (by (repeat (first | apply sub_nil )); done) (by first | exact fun _ h => h | (intro r hr; cases hr; done) | (simp; done) | exact fun _ h => List.mem_append_left _ h | (intro r hr; simp [hr]; done)) rfl ?_; (repeat (first | ((first | (apply hd_v; rfl) ); (· first | (apply pv_ev; rfl) | (apply pv_fld; rfl) | (apply g_load; first | (apply pv_ld; rfl; (· (repeat (first | apply sel_here ))); rfl) ) | (apply g_bin; first | (apply a_add; rfl; rfl; infer_instance; omega) | (apply pv_add_s; rfl; rfl; omega) ) )) )))
    (refine Hd.call rfl inferInstance (Fn.mono (eNum4 x5 k2) (fun _ _ _ h => ⟨h.1, h.2.1⟩)) rfl (by (repeat (first | apply sub_nil )); done) (by first | exact fun _ h => h | (intro r hr; cases hr; done) | (simp; done) | exact fun _ h => List.mem_append_left _ h | (intro r hr; simp [hr]; done)) rfl ?_; (repeat (first | ((first | (apply hd_v; rfl) ); (· first | (apply pv_ev; rfl) | (apply pv_fld; rfl) | (apply g_load; first | (apply pv_ld; rfl; (· (repeat (first | apply sel_here ))); rfl) ) | (apply g_bin; first | (apply a_add; rfl; rfl; infer_instance; omega) | (apply pv_add_s; rfl; rfl; omega) ) )) )))
    (refine Hd.call rfl inferInstance (Fn.mono (eNum4 x6 k3) (fun _ _ _ h => ⟨h.1, h.2.1⟩)) rfl (by (repeat (first | apply sub_nil )); done) (by first | exact fun _ h => h | (intro r hr; cases hr; done) | (simp; done) | exact fun _ h => List.mem_append_left _ h | (intro r hr; simp [hr]; done)) rfl ?_; (repeat (first | ((first | (apply hd_v; rfl) ); (· first | (apply pv_ev; rfl) | (apply pv_fld; rfl) | (apply g_load; first | (apply pv_ld; rfl; (· (repeat (first | apply sel_here ))); rfl) ) | (apply g_bin; first | (apply a_add; rfl; rfl; infer_instance; omega) | (apply pv_add_s; rfl; rfl; omega) ) )) )))
    (refine Hd.call rfl inferInstance (Fn.mono (eNum4 x7 k4) (fun _ _ _ h => ⟨h.1, h.2.1⟩)) rfl (by (repeat (first | apply sub_nil )); done) (by first | exact fun _ h => h | (intro r hr; cases hr; done) | (simp; done) | exact fun _ h => List.mem_append_left _ h | (intro r hr; simp [hr]; done)) rfl ?_; (repeat (first | ((first | (apply wo_v; rfl) | (apply hd_v; rfl) ); (· first | (apply pv_ev; rfl) | (apply g_bin; first | (apply a_add; rfl; rfl; infer_instance; omega) | (apply pv_add_s; rfl; rfl; omega) ) )) | apply wo_nil | apply Hd.nil | apply wc_region )))
    (repeat (first | fail ))
    exact loop_end ⟨i + 1, _, rfl, by omega, hnx.symm, rfl⟩ (by omega) (wk_mk (by (repeat (first | apply wkf_nil | (apply wkf_cons; rfl))); done) (by (repeat (first | apply sub_nil )); done) (by first | exact fun _ h => h | (intro r hr; cases hr; done) | (simp; done) | exact fun _ h => List.mem_append_left _ h | (intro r hr; simp [hr]; done)))
  · have e : i = l.length := by omega
    subst e
    rw [List.take_length] at hS0
    subst hS0
    (repeat (first | ((first | (apply wo_v; rfl) ); (· first | (apply pv_ev; rfl) )) | apply wo_nil | apply wc_seq | apply wc_region | (apply wc_exit; rfl) | apply wc_ret | (apply wc_true; rfl) | (apply wc_false; rfl) | (apply a_dec_t; rfl; (· first | assumption | omega)) | (apply a_dec_f; rfl; (· first | assumption | omega)) ))
    exact retv rfl (by (repeat (first | apply RV.nil | (apply RV.tmp; rfl) )); done) (⟨rfl, rfl, rfl⟩) (by (repeat (first | apply sub_nil )); done) (by first | exact fun _ h => h | (intro r hr; cases hr; done) | (simp; done) | exact fun _ h => List.mem_append_left _ h | (intro r hr; simp [hr]; done))
theorem itT_eq (x : Int × ByteArray) : itT x = numS 1 x.1 ++ numS 1 (x.2.size : Int) ++ x.2 := by
  unfold itT; rw [numsS2]
theorem itsT_sz {l : List (Int × ByteArray)} (h : ∀ x ∈ l, x.2.size ≤ 1000) : (itsT l).size ≤ 1002 * l.length := by
  induction l with
  | nil => exact Nat.le_refl _
  | cons x l ih =>
    have h1 := h x (.head _)
    have h2 := ih (fun y hy => h y (.tail _ hy))
    show (itT x ++ itsT l).size ≤ _
    unfold itT
    simp only [ByteArray.size_append, numsS_size, List.length_cons, List.length_nil, Nat.mul_add]; omega
theorem chT_sz {c : Ck5} (h : c.2.length ≤ 1000 ∧ ∀ x ∈ c.2, x.2.size ≤ 1000) : (chT c).size ≤ 1003000 := by
  have h1 := itsT_sz h.2
  have h2 := pad4_size (numsS 4 [c.1] ++ itsT c.2 ++ numsS 1 [0])
  unfold chT
  simp only [ByteArray.size_append, numsS_size, List.length_cons, List.length_nil] at h2
  omega
theorem chsT_sz : ∀ {l : List Ck5}, (∀ c ∈ l, c.2.length ≤ 1000 ∧ ∀ x ∈ c.2, x.2.size ≤ 1000) → (chsT l).size ≤ 1003000 * l.length
  | [], _ => Nat.le_refl _
  | c :: l, h => by
    have h1 := chT_sz (h c (.head _))
    have h2 := chsT_sz (fun y hy => h y (.tail _ hy))
    show (chT c ++ chsT l).size ≤ _
    rw [ByteArray.size_append, List.length_cons, Nat.mul_add]; omega
theorem eChunks (l : List Ck5) (rows : List (List Value)) (A : Option Addr) (n c : Nat) (R : List Ro) (hS : SQ R 2 A n c rows) (hV : ChsV R l rows) (hl : l.length ≤ 50) (hb : ∀ c ∈ l, in32 c.1 ∧ c.2.length ≤ 1000 ∧ ∀ x ∈ c.2, in8 x.1 ∧ x.2.size ≤ 1000) :
    Fn Try.prog 73 #[.slice A n c] [] R (fun v L' R' => v = .string (chsT l) ∧ L' = [] ∧ R' = []) := by
  have hn : n = l.length := by rw [← hS.len, hV.1]
  subst hn
  refine fn_intro Try.func73 rfl Try.ntmps73 rfl (fun E => ?_)
  (repeat (first | ((first | (apply wo_v; rfl) ); (· first | (apply pv_ev; rfl) | (apply g_bi; first | (apply pv_len_sl; rfl) ) )) | apply wo_nil | apply wc_seq | apply wc_region ))
  refine wc_block ?_
  refine wc_loop' (fun q st => ∃ (i : Nat) (S : ByteArray), q = l.length - i ∧ i ≤ l.length ∧ S = chsT (l.take i) ∧ st = ⟨[(3, .string S), (8, .slice A l.length c), (9, .int .i64 l.length), (10, .int .i64 i)], [], R⟩) ⟨0, E0, rfl, Nat.zero_le _, rfl, rfl⟩ (wk_mk (by (repeat (first | apply wkf_nil | (apply wkf_cons; rfl))); done) (by (repeat (first | apply sub_nil )); done) (by first | exact fun _ h => h | (intro r hr; cases hr; done) | (simp; done) | exact fun _ h => List.mem_append_left _ h | (intro r hr; simp [hr]; done))) ?_
  rintro q st ⟨i, S0, rfl, hi, hS0, rfl⟩
  by_cases hlt : i < l.length
  · obtain ⟨x, hx⟩ : ∃ x, l[i]? = some x := ⟨_, List.getElem?_eq_getElem hlt⟩
    obtain ⟨row, hr, Ai, ni, ci, rfl, hSi⟩ := hV.2 i x hx
    have hz := chsT_sz (l := l.take i) (fun c hc => by have := hb c (List.mem_of_mem_take hc); exact ⟨this.2.1, fun x hx => (this.2.2 x hx).2⟩)
    rw [List.length_take, Nat.min_eq_left hi] at hz
    have hnx := chsT_take hx
    have hxb := hb x (List.mem_of_getElem? hx)
    obtain ⟨hx1, hx2, hx3⟩ := hxb
    obtain ⟨ss, its⟩ := x
    dsimp only at hr hSi hx1 hx2 hx3
    have hni : ni = its.length := by rw [← hSi.len, itmV_len]
    subst hni
    obtain ⟨b0, o0, rfl, hmem⟩ := hS.pos (by omega)
    have hM := chsT_mod (l.take i)
    rw [← hS0] at hz hnx hM
    have z1 := numS_size 4 ss
    have zs : (S0 ++ numS 4 ss).size = S0.size + 4 := by rw [ByteArray.size_append, z1]
    have hcl : chT (ss, its) = pad4 (numS 4 ss ++ itsT its ++ ⟨#[0]⟩) := by
      unfold chT
      rw [numsS_one, numsS_one]; rfl
    have hfin : chsT (l.take (i + 1)) = pad4 (S0 ++ numS 4 ss ++ itsT its ++ ⟨#[0]⟩) := by
      rw [hnx, hcl, ← pad4_behind hM]
      simp only [ByteArray.append_assoc]
    clear hnx hcl
    (repeat (first | ((first | (apply wo_v; rfl) ); (· first | (apply pv_ev; rfl) )) | apply wo_nil | apply wc_seq | apply wc_region | apply wc_skip | (apply wc_true; rfl) | (apply wc_false; rfl) | (apply a_dec_t; rfl; (· first | assumption | omega)) ))
    refine wc_block ?_
    (repeat (first | ((first | (apply wo_v; rfl) ); (· first | (apply pv_ev; rfl) | (apply pv_fld; rfl) | (apply g_load; first | (apply pv_ld; rfl; (· (repeat (first | apply sel_here ))); rfl) | (apply pv_lda; rfl; (· (repeat (first | fail ))); (· (repeat (first | fail )))) | (apply pv_ld_owna; rfl; (· (repeat (first | fail ))); (· assumption)) | (apply pv_ld_roa; rfl; (· (first | assumption )); (· assumption))) | (apply g_idx; first | (apply pv_idx; rfl; rfl; omega) ) )) | apply wo_nil | apply wc_seq | apply wc_region | (apply wo_alloc; rfl; intro bx) | (apply wo_sta; rfl; rfl; rfl; rfl; (· (repeat (first | apply sel_here ))); (· (repeat (first | apply LayAt.nil | apply LayAt.here ))); rfl) ))
    (refine wo_call (eNum4 ss hx1) rfl (by (repeat (first | apply sub_nil )); done) (by first | exact fun _ h => h | (intro r hr; cases hr; done) | (simp; done) | exact fun _ h => List.mem_append_left _ h | (intro r hr; simp [hr]; done)) rfl ?_; rintro v L' R' ⟨rfl, rfl, rfl⟩ H' hH RR hR; simp only [List.cons_append, List.nil_append] at hH hR; subst hH; have hR := hR.symm; subst hR)
    (repeat (first | ((first | (apply wo_v; rfl) ); (· first | (apply pv_ev; rfl) | (apply pv_fld; rfl) | (apply g_load; first | (apply pv_ld; rfl; (· (repeat (first | apply sel_here ))); rfl) ) | (apply g_bin; first | (apply a_add; rfl; rfl; infer_instance; omega) | (apply pv_add_s; rfl; rfl; omega) ) | (apply g_bi; first | (apply pv_len_sl; rfl) ) )) | apply wo_nil | apply wc_seq | apply wc_region ))
    obtain ⟨S1, hS1⟩ : ∃ S1, S0 ++ numS 4 ss = S1 := ⟨_, rfl⟩
    rw [hS1] at zs hfin ⊢
    have hI0 : S1.size = S1.size + (itsT (its.take 0)).size := by rfl
    have hzI := fun j => itsT_sz (l := its.take j) (fun x hx => (hx3 x (List.mem_of_mem_take hx)).2)
    refine wc_join0 (fun st => st = ⟨[(3, .string (S1 ++ itsT its)), (8, .slice (some ⟨b0, o0, none⟩) l.length c), (9, .int .i64 l.length), (10, .int .i64 i)], [], R⟩) ?_ ?_
    · refine wc_block ?_
      refine wc_loop' (fun q st => ∃ (j : Nat) (S : ByteArray), q = its.length - j ∧ j ≤ its.length ∧ S = S1 ++ itsT (its.take j) ∧ st = ⟨[(3, .string S), (8, .slice (some ⟨b0, o0, none⟩) l.length c), (9, .int .i64 l.length), (10, .int .i64 i), (20, .slice Ai its.length ci), (21, .int .i64 its.length), (22, .int .i64 j)], [], R⟩) ⟨0, S1, rfl, Nat.zero_le _, (append_E0 _).symm, rfl⟩ (wk_mk (by (repeat (first | apply wkf_nil | (apply wkf_cons; rfl))); done) (by (repeat (first | apply sub_nil )); done) (by first | exact fun _ h => h | (intro r hr; cases hr; done) | (simp; done) | exact fun _ h => List.mem_append_left _ h | (intro r hr; simp [hr]; done))) ?_
      rintro q st ⟨j, S2, rfl, hj, hS2, rfl⟩
      by_cases hlj : j < its.length
      · obtain ⟨y, hy⟩ : ∃ y, its[j]? = some y := ⟨_, List.getElem?_eq_getElem hlj⟩
        have hr2 := itmV_at hy
        have hny := itsT_take hy
        rw [itT_eq] at hny
        have hyb := hx3 y (List.mem_of_getElem? hy)
        obtain ⟨⟨y1, y2⟩, y3⟩ := hyb
        have hzj := hzI j
        rw [List.length_take] at hzj
        have hzS : S2.size = S1.size + (itsT (its.take j)).size := by rw [hS2, ByteArray.size_append]
        have hS3 : S1 ++ itsT (its.take (j + 1)) = S2 ++ (numS 1 y.1 ++ numS 1 (y.2.size : Int) ++ y.2) := by rw [hny, hS2]; simp only [ByteArray.append_assoc]
        obtain ⟨k, tx⟩ := y
        dsimp only at hr2 hS3 y1 y2 y3
        obtain ⟨ba, oa, rfl, hmi⟩ := hSi.pos (by omega)
        have z2 := numS_size 1 k
        have z3 := numS_size 1 (tx.size : Int)
        have z4 : (numS 1 k ++ numS 1 (tx.size : Int)).size = 2 := by rw [ByteArray.size_append, z2, z3]
        have z5 : (numS 1 k ++ numS 1 (tx.size : Int) ++ tx).size = 2 + tx.size := by rw [ByteArray.size_append, z4]
        clear hS2 hny
        (repeat (first | ((first | (apply wo_v; rfl) ); (· first | (apply pv_ev; rfl) )) | apply wo_nil | apply wc_seq | apply wc_region | apply wc_skip | (apply wc_true; rfl) | (apply wc_false; rfl) | (apply a_dec_t; rfl; (· first | assumption | omega)) ))
        refine wc_block ?_
        (repeat (first | ((first | (apply wo_v; rfl) ); (· first | (apply pv_ev; rfl) | (apply g_load; first | (apply pv_lda; rfl; (· (repeat (first | fail ))); (· (repeat (first | fail )))) | (apply pv_ld_owna; rfl; (· (repeat (first | fail ))); (· assumption)) | (apply pv_ld_roa; rfl; (· (first | assumption )); (· assumption))) | (apply g_idx; first | (apply pv_idx; rfl; rfl; omega) ) )) | apply wo_nil | apply wc_seq | apply wc_region | (apply wo_alloc; rfl; intro bx) | (apply wo_sta; rfl; rfl; rfl; rfl; (· (repeat (first | apply sel_here ))); (· (repeat (first | apply LayAt.nil | apply LayAt.here ))); rfl) ))
        (refine wc_quiet mixed (by kernel_rfl) ?_; (repeat (first | ((first | (apply hd_v; rfl) ); (· first | (apply pv_ev; rfl) | (apply pv_fld; rfl) | (apply g_load; first | (apply pv_ld; rfl; (· (repeat (first | apply sel_here ))); rfl) ) | (apply g_conv; first | (apply a_conv; rfl; infer_instance; infer_instance; infer_instance; omega) ) )) )))
        (refine Hd.call rfl inferInstance (Fn.mono (rNum 1 k 1 rfl (by omega)) (fun _ _ _ h => ⟨h.1, h.2.1⟩)) rfl (by (repeat (first | apply sub_nil )); done) (by first | exact fun _ h => h | (intro r hr; cases hr; done) | (simp; done) | exact fun _ h => List.mem_append_left _ h | (intro r hr; simp [hr]; done)) rfl ?_; (repeat (first | ((first | (apply hd_v; rfl) ); (· first | (apply pv_ev; rfl) | (apply pv_fld; rfl) | (apply g_load; first | (apply pv_ld; rfl; (· (repeat (first | apply sel_here ))); rfl) ) | (apply g_bi; first | (apply pv_len_str; rfl) ) | (apply g_conv; first | (apply a_conv; rfl; infer_instance; infer_instance; infer_instance; omega) ) )) )))
        (refine Hd.call rfl inferInstance (Fn.mono (rNum 1 (tx.size : Int) 1 rfl (by omega)) (fun _ _ _ h => ⟨h.1, h.2.1⟩)) rfl (by (repeat (first | apply sub_nil )); done) (by first | exact fun _ h => h | (intro r hr; cases hr; done) | (simp; done) | exact fun _ h => List.mem_append_left _ h | (intro r hr; simp [hr]; done)) rfl ?_; (repeat (first | ((first | (apply wo_v; rfl) | (apply hd_v; rfl) ); (· first | (apply pv_ev; rfl) | (apply pv_fld; rfl) | (apply g_load; first | (apply pv_ld; rfl; (· (repeat (first | apply sel_here ))); rfl) ) | (apply g_bin; first | (apply a_add; rfl; rfl; infer_instance; omega) | (apply pv_add_s; rfl; rfl; omega) ) )) | apply wo_nil | apply Hd.nil | apply wc_region )))
        (repeat (first | fail ))
        exact loop_end ⟨j + 1, _, rfl, by omega, hS3.symm, rfl⟩ (by omega) (wk_mk (by (repeat (first | apply wkf_nil | (apply wkf_cons; rfl))); done) (by (repeat (first | apply sub_nil )); done) (by first | exact fun _ h => h | (intro r hr; cases hr; done) | (simp; done) | exact fun _ h => List.mem_append_left _ h | (intro r hr; simp [hr]; done)))
      · have e : j = its.length := by omega
        subst e
        rw [List.take_length] at hS2
        subst hS2
        (repeat (first | ((first | (apply wo_v; rfl) ); (· first | (apply pv_ev; rfl) )) | apply wo_nil | apply wc_seq | apply wc_region | (apply wc_exit; rfl) | (apply wc_true; rfl) | (apply wc_false; rfl) | (apply a_dec_t; rfl; (· first | assumption | omega)) | (apply a_dec_f; rfl; (· first | assumption | omega)) ))
        exact cut_end rfl (wk_mk (by (repeat (first | apply wkf_nil | (apply wkf_cons; rfl))); done) (by (repeat (first | apply sub_nil )); done) (by first | exact fun _ h => h | (intro r hr; cases hr; done) | (simp; done) | exact fun _ h => List.mem_append_left _ h | (intro r hr; simp [hr]; done)))
    rintro st rfl
    have hzl := hzI its.length
    rw [List.take_length] at hzl
    have hz6 : (S1 ++ itsT its).size = S1.size + (itsT its).size := ByteArray.size_append
    have hz7 : (⟨#[0]⟩ : ByteArray).size = 1 := rfl
    have hz8 : (S1 ++ itsT its ++ ⟨#[0]⟩).size = S1.size + (itsT its).size + 1 := by rw [ByteArray.size_append, hz6, hz7]
    (repeat (first | ((first | (apply wo_v; rfl) ); (· first | (apply pv_ev; rfl) | (apply g_bin; first | (apply a_add; rfl; rfl; infer_instance; omega) | (apply pv_add_s; rfl; rfl; omega) ) )) | apply wc_region ))
    (refine wo_call (ePad (S1 ++ itsT its ++ ⟨#[0]⟩) (by omega)) rfl (by (repeat (first | apply sub_nil )); done) (by first | exact fun _ h => h | (intro r hr; cases hr; done) | (simp; done) | exact fun _ h => List.mem_append_left _ h | (intro r hr; simp [hr]; done)) rfl ?_; rintro v L' R' ⟨rfl, rfl, rfl⟩ H' hH RR hR; simp only [List.cons_append, List.nil_append] at hH hR; subst hH; have hR := hR.symm; subst hR)
    (repeat (first | ((first | (apply wo_v; rfl) ); (· first | (apply pv_ev; rfl) | (apply g_bin; first | (apply a_add; rfl; rfl; infer_instance; omega) ) )) | apply wo_nil | apply wc_region ))
    exact loop_end ⟨i + 1, _, rfl, by omega, hfin.symm, rfl⟩ (by omega) (wk_mk (by (repeat (first | apply wkf_nil | (apply wkf_cons; rfl))); done) (by (repeat (first | apply sub_nil )); done) (by first | exact fun _ h => h | (intro r hr; cases hr; done) | (simp; done) | exact fun _ h => List.mem_append_left _ h | (intro r hr; simp [hr]; done)))
  · have e : i = l.length := by omega
    subst e
    rw [List.take_length] at hS0
    subst hS0
    (repeat (first | ((first | (apply wo_v; rfl) ); (· first | (apply pv_ev; rfl) )) | apply wo_nil | apply wc_seq | apply wc_region | (apply wc_exit; rfl) | apply wc_ret | (apply wc_true; rfl) | (apply wc_false; rfl) | (apply a_dec_t; rfl; (· first | assumption | omega)) | (apply a_dec_f; rfl; (· first | assumption | omega)) ))
    exact retv rfl (by (repeat (first | apply RV.nil | (apply RV.tmp; rfl) )); done) (⟨rfl, rfl, rfl⟩) (by (repeat (first | apply sub_nil )); done) (by first | exact fun _ h => h | (intro r hr; cases hr; done) | (simp; done) | exact fun _ h => List.mem_append_left _ h | (intro r hr; simp [hr]; done))
end Go.Proofs.Yteaccbbmphcmnaa

/-
  Layer 5's document: feedback.
-/
namespace Go.Proofs.Yteaccbbmphcmnaa
set_option linter.unusedSimpArgs false
set_option linter.unusedVariables false
open Go.RowKit
attribute [local irreducible] Pv WO WC Fn
set_option maxRecDepth 100000
attribute [local irreducible] ByteArray.extract

theorem orT_eq (x : Int × Int) : orT x = numS 4 x.1 ++ numS 1 x.2 ++ ⟨#[0, 0, 0]⟩ := by
  unfold orT
  rw [numsS4, numsS_one, show numS 1 0 ++ (numS 1 0 ++ numS 1 0) = ⟨#[0, 0, 0]⟩ from by decide +kernel, ByteArray.append_assoc]
abbrev FbC (R : List Ro) (w : Value) (tx : ByteArray) : Prop := Fn Try.prog 75 #[w] [] R (fun v L' R' => v = .string tx ∧ L' = [] ∧ R' = [])
theorem fPli (R : List Ro) (fm to : Int) (h1 : in32 fm) (h2 : in32 to) : FbC R (rfA (rfL 206 1 fm to 0 0 0 0 nilS nilS nilS E0 nilS nilS 0)) (txK (.pli fm to)) := by
  have z1 := numS_size 4 fm
  have z2 := numS_size 4 to
  simp only [txK, numsS2]
  refine fn_intro Try.func75 rfl Try.ntmps75 rfl (fun E => ?_)
  (repeat (first | ((first | (apply wo_v; rfl) ); (· first | (apply pv_ev; rfl) )) | apply wo_nil | apply wc_seq | apply wc_region | (apply wo_box1; rfl; rfl; rfl; intro bx) | (apply wo_boxa; rfl; rfl; intro bx) ))
  (refine wc_quiet mixed (by kernel_rfl) ?_; (repeat (first | ((first | (apply hd_v; rfl) ); (· first | (apply pv_ev; rfl) | (apply pv_fld; rfl) | (apply g_load; first | (apply pv_ld; rfl; (· (repeat (first | apply sel_here ))); rfl) ) )) )))
  (refine Hd.call rfl inferInstance (Fn.mono (eNum4 fm h1) (fun _ _ _ h => ⟨h.1, h.2.1⟩)) rfl (by (repeat (first | apply sub_nil )); done) (by first | exact fun _ h => h | (intro r hr; cases hr; done) | (simp; done) | exact fun _ h => List.mem_append_left _ h | (intro r hr; simp [hr]; done)) rfl ?_; (repeat (first | ((first | (apply hd_v; rfl) ); (· first | (apply pv_ev; rfl) | (apply pv_fld; rfl) | (apply g_load; first | (apply pv_ld; rfl; (· (repeat (first | apply sel_here ))); rfl) ) )) )))
  (refine Hd.call rfl inferInstance (Fn.mono (eNum4 to h2) (fun _ _ _ h => ⟨h.1, h.2.1⟩)) rfl (by (repeat (first | apply sub_nil )); done) (by first | exact fun _ h => h | (intro r hr; cases hr; done) | (simp; done) | exact fun _ h => List.mem_append_left _ h | (intro r hr; simp [hr]; done)) rfl ?_; (repeat (first | ((first | (apply wo_v; rfl) | (apply hd_v; rfl) ); (· first | (apply pv_ev; rfl) | (apply pv_fld; rfl) | (apply g_load; first | (apply pv_ld; rfl; (· (repeat (first | apply sel_here ))); rfl) ) | (apply g_pick; first | (apply pv_pick_t; rfl; rfl) ) | (apply g_bin; first | (apply a_add; rfl; rfl; infer_instance; omega) | (apply pv_add_s; rfl; rfl; omega) ) )) | apply wo_nil | apply Hd.nil | apply wc_seq | apply wc_region | apply wc_skip | apply wc_ret | (apply wc_true; rfl) | (apply wc_false; rfl) | (apply wo_run; rfl; rfl) )))
  (repeat (first | fail ))
  exact retv rfl (by (repeat (first | apply RV.nil | (apply RV.tmp; rfl) )); done) (⟨rfl, rfl, rfl⟩) (by (repeat (first | apply sub_nil )); done) (by first | exact fun _ h => h | (intro r hr; cases hr; done) | (simp; done) | exact fun _ h => List.mem_append_left _ h | (intro r hr; simp [hr]; done))
theorem fNack (R : List Ro) (fm to : Int) (l : List (Int × Int)) (A : Option Addr) (n c : Nat) (hS : SQ R 2 A n c (pairV l)) (hl : l.length ≤ 10000) (h1 : in32 fm) (h2 : in32 to) (hb : ∀ x ∈ l, in16 x.1 ∧ in16 x.2) : FbC R (rfA (rfL 205 1 fm to 0 0 0 0 nilS nilS nilS E0 (.slice A n c) nilS 0)) (txK (.nack fm to l)) := by
  have hn : n = l.length := by rw [← hS.len]; simp [pairV]
  subst hn
  have z1 := numS_size 4 fm
  have z2 := numS_size 4 to
  have z0 : (numS 4 fm ++ numS 4 to).size = 8 := by rw [ByteArray.size_append, z1, z2]
  simp only [txK, numsS2]
  refine fn_intro Try.func75 rfl Try.ntmps75 rfl (fun E => ?_)
  (repeat (first | ((first | (apply wo_v; rfl) ); (· first | (apply pv_ev; rfl) )) | apply wo_nil | apply wc_seq | apply wc_region | (apply wo_box1; rfl; rfl; rfl; intro bx) | (apply wo_boxa; rfl; rfl; intro bx) ))
  obtain ⟨g, hg⟩ : ∃ g, g = bx := ⟨_, rfl⟩
  subst hg
  (refine wc_quiet mixed (by kernel_rfl) ?_; (repeat (first | ((first | (apply hd_v; rfl) ); (· first | (apply pv_ev; rfl) | (apply pv_fld; rfl) | (apply g_load; first | (apply pv_ld; rfl; (· (repeat (first | apply sel_here ))); rfl) ) )) )))
  (refine Hd.call rfl inferInstance (Fn.mono (eNum4 fm h1) (fun _ _ _ h => ⟨h.1, h.2.1⟩)) rfl (by (repeat (first | apply sub_nil )); done) (by first | exact fun _ h => h | (intro r hr; cases hr; done) | (simp; done) | exact fun _ h => List.mem_append_left _ h | (intro r hr; simp [hr]; done)) rfl ?_; (repeat (first | ((first | (apply hd_v; rfl) ); (· first | (apply pv_ev; rfl) | (apply pv_fld; rfl) | (apply g_load; first | (apply pv_ld; rfl; (· (repeat (first | apply sel_here ))); rfl) ) )) )))
  (refine Hd.call rfl inferInstance (Fn.mono (eNum4 to h2) (fun _ _ _ h => ⟨h.1, h.2.1⟩)) rfl (by (repeat (first | apply sub_nil )); done) (by first | exact fun _ h => h | (intro r hr; cases hr; done) | (simp; done) | exact fun _ h => List.mem_append_left _ h | (intro r hr; simp [hr]; done)) rfl ?_; (repeat (first | ((first | (apply wo_v; rfl) | (apply hd_v; rfl) ); (· first | (apply pv_ev; rfl) | (apply pv_fld; rfl) | (apply g_load; first | (apply pv_ld; rfl; (· (repeat (first | apply sel_here ))); rfl) ) | (apply g_bin; first | (apply a_add; rfl; rfl; infer_instance; omega) | (apply pv_add_s; rfl; rfl; omega) ) | (apply g_bi; first | (apply pv_len_sl; rfl) ) )) | apply wo_nil | apply Hd.nil | apply wc_seq | apply wc_region | apply wc_block | (apply wc_true; rfl) )))
  (repeat (first | fail ))
  generalize numS 4 fm ++ numS 4 to = S0 at *
  refine wc_loop' (fun q st => ∃ (i : Nat) (S : ByteArray), q = l.length - i ∧ i ≤ l.length ∧ S = S0 ++ prsT (l.take i) ∧ st = ⟨[(1, .pointer (some ⟨g, 0, none⟩)), (3, .string S), (20, .slice A l.length c), (21, .int .i64 l.length), (22, .int .i64 i)], [rfO g (rfL 205 1 fm to 0 0 0 0 nilS nilS nilS E0 (.slice A l.length c) nilS 0)], R⟩) ⟨0, S0, rfl, Nat.zero_le _, (append_E0 _).symm, rfl⟩ (wk_mk (by (repeat (first | apply wkf_nil | (apply wkf_cons; rfl))); done) (by (repeat (first | apply sub_nil )); done) (by first | exact fun _ h => h | (intro r hr; cases hr; done) | (simp; done) | exact fun _ h => List.mem_append_left _ h | (intro r hr; simp [hr]; done))) ?_
  rintro q st ⟨i, S, rfl, hi, hS2, rfl⟩
  have hzS : S.size = 8 + 4 * i := by rw [hS2, ByteArray.size_append, z0, prsT_size, List.length_take, Nat.min_eq_left hi]
  by_cases hlt : i < l.length
  · obtain ⟨x, hx⟩ : ∃ x, l[i]? = some x := ⟨_, List.getElem?_eq_getElem hlt⟩
    have hr := pairV_at hx
    have hfin : S0 ++ prsT (l.take (i + 1)) = S ++ (numS 2 x.1 ++ numS 2 x.2) := by rw [prsT_take hx, hS2, numsS2]; simp only [ByteArray.append_assoc]
    obtain ⟨⟨g1, g2⟩, ⟨g3, g4⟩⟩ := hb x (List.mem_of_getElem? hx)
    obtain ⟨x1, x2⟩ := x
    dsimp only at hr hfin g1 g2 g3 g4
    obtain ⟨b0, o0, rfl, hmem⟩ := hS.pos (by omega)
    have y1 := numS_size 2 x1
    have y2 := numS_size 2 x2
    have y3 : (numS 2 x1 ++ numS 2 x2).size = 4 := by rw [ByteArray.size_append, y1, y2]
    clear hS2
    (repeat (first | ((first | (apply wo_v; rfl) ); (· first | (apply pv_ev; rfl) )) | apply wo_nil | apply wc_seq | apply wc_region | apply wc_skip | (apply wc_true; rfl) | (apply wc_false; rfl) | (apply a_dec_t; rfl; (· first | assumption | omega)) ))
    refine wc_block ?_
    (repeat (first | ((first | (apply wo_v; rfl) ); (· first | (apply pv_ev; rfl) | (apply g_load; first | (apply pv_lda; rfl; (· (repeat (first | apply sel_there))); (· (repeat (first | fail )))) | (apply pv_ld_owna; rfl; (· (repeat (first | apply sel_there))); (· assumption)) | (apply pv_ld_roa; rfl; (· (first | assumption )); (· assumption))) | (apply g_idx; first | (apply pv_idx; rfl; rfl; omega) ) )) | apply wo_nil | apply wc_seq | apply wc_region | (apply wo_alloc; rfl; intro bx) | (apply wo_sta; rfl; rfl; rfl; rfl; (· (repeat (first | apply sel_here ))); (· (repeat (first | apply LayAt.nil | apply LayAt.here ))); rfl) ))
    (refine wc_quiet mixed (by kernel_rfl) ?_; (repeat (first | ((first | (apply hd_v; rfl) ); (· first | (apply pv_ev; rfl) | (apply pv_fld; rfl) | (apply g_load; first | (apply pv_ld; rfl; (· (repeat (first | apply sel_here ))); rfl) ) | (apply g_conv; first | (apply a_conv; rfl; infer_instance; infer_instance; infer_instance; omega) ) )) )))
    (refine Hd.call rfl inferInstance (Fn.mono (rNum 2 x1 2 rfl (by omega)) (fun _ _ _ h => ⟨h.1, h.2.1⟩)) rfl (by (repeat (first | apply sub_nil )); done) (by first | exact fun _ h => h | (intro r hr; cases hr; done) | (simp; done) | exact fun _ h => List.mem_append_left _ h | (intro r hr; simp [hr]; done)) rfl ?_; (repeat (first | ((first | (apply hd_v; rfl) ); (· first | (apply pv_ev; rfl) | (apply pv_fld; rfl) | (apply g_load; first | (apply pv_ld; rfl; (· (repeat (first | apply sel_here ))); rfl) ) | (apply g_conv; first | (apply a_conv; rfl; infer_instance; infer_instance; infer_instance; omega) ) )) )))
    (refine Hd.call rfl inferInstance (Fn.mono (rNum 2 x2 2 rfl (by omega)) (fun _ _ _ h => ⟨h.1, h.2.1⟩)) rfl (by (repeat (first | apply sub_nil )); done) (by first | exact fun _ h => h | (intro r hr; cases hr; done) | (simp; done) | exact fun _ h => List.mem_append_left _ h | (intro r hr; simp [hr]; done)) rfl ?_; (repeat (first | ((first | (apply wo_v; rfl) | (apply hd_v; rfl) ); (· first | (apply pv_ev; rfl) | (apply g_bin; first | (apply a_add; rfl; rfl; infer_instance; omega) | (apply pv_add_s; rfl; rfl; omega) ) )) | apply wo_nil | apply Hd.nil | apply wc_region )))
    (repeat (first | fail ))
    exact loop_end ⟨i + 1, _, rfl, by omega, hfin.symm, rfl⟩ (by omega) (wk_mk (by (repeat (first | apply wkf_nil | (apply wkf_cons; rfl))); done) (by (repeat (first | apply sub_nil | (apply sub_cons; (· (repeat (first | apply sel_here | apply sel_there)))))); done) (by first | exact fun _ h => h | (intro r hr; cases hr; done) | (simp; done) | exact fun _ h => List.mem_append_left _ h | (intro r hr; simp [hr]; done)))
  · have e : i = l.length := by omega
    subst e
    rw [List.take_length] at hS2
    subst hS2
    (repeat (first | ((first | (apply wo_v; rfl) ); (· first | (apply pv_ev; rfl) | (apply pv_fld; rfl) | (apply g_load; first | (apply pv_ld; rfl; (· (repeat (first | apply sel_here ))); rfl) ) | (apply g_pick; first | (apply pv_pick_t; rfl; rfl) | (apply pv_pick_f; rfl; rfl)) )) | apply wo_nil | apply wc_seq | apply wc_region | apply wc_skip | (apply wc_exit; rfl) | apply wc_ret | (apply wc_true; rfl) | (apply wc_false; rfl) | (apply a_dec_t; rfl; (· first | assumption | omega)) | (apply a_dec_f; rfl; (· first | assumption | omega)) | (apply wo_run; rfl; rfl) | (apply wo_skip; rfl; rfl; rfl; rfl) ))
    exact retv rfl (by (repeat (first | apply RV.nil | (apply RV.tmp; rfl) )); done) (⟨rfl, rfl, rfl⟩) (by (repeat (first | apply sub_nil )); done) (by first | exact fun _ h => h | (intro r hr; cases hr; done) | (simp; done) | exact fun _ h => List.mem_append_left _ h | (intro r hr; simp [hr]; done))
theorem fFir (R : List Ro) (fm : Int) (l : List (Int × Int)) (A : Option Addr) (n c : Nat) (hS : SQ R 2 A n c (ordV l)) (hl : l.length ≤ 10000) (h1 : in32 fm) (hb : ∀ x ∈ l, in32 x.1 ∧ in8 x.2) : FbC R (rfA (rfL 206 4 fm 0 0 0 0 0 nilS nilS nilS E0 nilS (.slice A n c) 0)) (txK (.fir fm l)) := by
  have hn : n = l.length := by rw [← hS.len]; simp [ordV]
  subst hn
  have z1 := numS_size 4 fm
  have z2 := numS_size 4 0
  have z0 : (numS 4 fm ++ numS 4 0).size = 8 := by rw [ByteArray.size_append, z1, z2]
  simp only [txK, numsS2]
  refine fn_intro Try.func75 rfl Try.ntmps75 rfl (fun E => ?_)
  (repeat (first | ((first | (apply wo_v; rfl) ); (· first | (apply pv_ev; rfl) )) | apply wo_nil | apply wc_seq | apply wc_region | (apply wo_box1; rfl; rfl; rfl; intro bx) | (apply wo_boxa; rfl; rfl; intro bx) ))
  obtain ⟨g, hg⟩ : ∃ g, g = bx := ⟨_, rfl⟩
  subst hg
  (refine wc_quiet mixed (by kernel_rfl) ?_; (repeat (first | ((first | (apply hd_v; rfl) ); (· first | (apply pv_ev; rfl) | (apply pv_fld; rfl) | (apply g_load; first | (apply pv_ld; rfl; (· (repeat (first | apply sel_here ))); rfl) ) )) )))
  (refine Hd.call rfl inferInstance (Fn.mono (eNum4 fm h1) (fun _ _ _ h => ⟨h.1, h.2.1⟩)) rfl (by (repeat (first | apply sub_nil )); done) (by first | exact fun _ h => h | (intro r hr; cases hr; done) | (simp; done) | exact fun _ h => List.mem_append_left _ h | (intro r hr; simp [hr]; done)) rfl ?_; (repeat (first | ((first | (apply hd_v; rfl) ); (· first | (apply pv_ev; rfl) | (apply pv_fld; rfl) | (apply g_load; first | (apply pv_ld; rfl; (· (repeat (first | apply sel_here ))); rfl) ) )) )))
  (refine Hd.call rfl inferInstance (Fn.mono (eNum4 0 in32_0) (fun _ _ _ h => ⟨h.1, h.2.1⟩)) rfl (by (repeat (first | apply sub_nil )); done) (by first | exact fun _ h => h | (intro r hr; cases hr; done) | (simp; done) | exact fun _ h => List.mem_append_left _ h | (intro r hr; simp [hr]; done)) rfl ?_; (repeat (first | ((first | (apply wo_v; rfl) | (apply hd_v; rfl) ); (· first | (apply pv_ev; rfl) | (apply pv_fld; rfl) | (apply g_load; first | (apply pv_ld; rfl; (· (repeat (first | apply sel_here ))); rfl) ) | (apply g_pick; first | (apply pv_pick_t; rfl; rfl) ) | (apply g_bin; first | (apply a_add; rfl; rfl; infer_instance; omega) | (apply pv_add_s; rfl; rfl; omega) ) | (apply g_bi; first | (apply pv_len_sl; rfl) ) )) | apply wo_nil | apply Hd.nil | apply wc_seq | apply wc_region | apply wc_block | apply wc_skip | (apply wc_true; rfl) | (apply wc_false; rfl) | (apply wo_run; rfl; rfl) )))
  (repeat (first | fail ))
  generalize numS 4 fm ++ numS 4 0 = S0 at *
  refine wc_loop' (fun q st => ∃ (i : Nat) (S : ByteArray), q = l.length - i ∧ i ≤ l.length ∧ S = S0 ++ orsT (l.take i) ∧ st = ⟨[(1, .pointer (some ⟨g, 0, none⟩)), (3, .string S), (47, .slice A l.length c), (48, .int .i64 l.length), (49, .int .i64 i)], [rfO g (rfL 206 4 fm 0 0 0 0 0 nilS nilS nilS E0 nilS (.slice A l.length c) 0)], R⟩) ⟨0, S0, rfl, Nat.zero_le _, (append_E0 _).symm, rfl⟩ (wk_mk (by (repeat (first | apply wkf_nil | (apply wkf_cons; rfl))); done) (by (repeat (first | apply sub_nil )); done) (by first | exact fun _ h => h | (intro r hr; cases hr; done) | (simp; done) | exact fun _ h => List.mem_append_left _ h | (intro r hr; simp [hr]; done))) ?_
  rintro q st ⟨i, S, rfl, hi, hS2, rfl⟩
  have hzS : S.size = 8 + 8 * i := by rw [hS2, ByteArray.size_append, z0, orsT_size, List.length_take, Nat.min_eq_left hi]
  by_cases hlt : i < l.length
  · obtain ⟨x, hx⟩ : ∃ x, l[i]? = some x := ⟨_, List.getElem?_eq_getElem hlt⟩
    have hr := ordV_at hx
    have hfin : S0 ++ orsT (l.take (i + 1)) = S ++ (numS 4 x.1 ++ numS 1 x.2 ++ ⟨#[0, 0, 0]⟩) := by rw [orsT_take hx, hS2, orT_eq]; simp only [ByteArray.append_assoc]
    obtain ⟨⟨g1, g2⟩, ⟨g3, g4⟩⟩ := hb x (List.mem_of_getElem? hx)
    obtain ⟨x1, x2⟩ := x
    dsimp only at hr hfin g1 g2 g3 g4
    obtain ⟨b0, o0, rfl, hmem⟩ := hS.pos (by omega)
    have y1 := numS_size 4 x1
    have y2 := numS_size 1 x2
    have y3 : (numS 4 x1 ++ numS 1 x2).size = 5 := by rw [ByteArray.size_append, y1, y2]
    have y4 : (⟨#[0, 0, 0]⟩ : ByteArray).size = 3 := rfl
    have y5 : (numS 4 x1 ++ numS 1 x2 ++ ⟨#[0, 0, 0]⟩).size = 8 := by rw [ByteArray.size_append, y3, y4]
    clear hS2
    (repeat (first | ((first | (apply wo_v; rfl) ); (· first | (apply pv_ev; rfl) )) | apply wo_nil | apply wc_seq | apply wc_region | apply wc_skip | (apply wc_true; rfl) | (apply wc_false; rfl) | (apply a_dec_t; rfl; (· first | assumption | omega)) ))
    refine wc_block ?_
    (repeat (first | ((first | (apply wo_v; rfl) ); (· first | (apply pv_ev; rfl) | (apply g_load; first | (apply pv_lda; rfl; (· (repeat (first | apply sel_there))); (· (repeat (first | fail )))) | (apply pv_ld_owna; rfl; (· (repeat (first | apply sel_there))); (· assumption)) | (apply pv_ld_roa; rfl; (· (first | assumption )); (· assumption))) | (apply g_idx; first | (apply pv_idx; rfl; rfl; omega) ) )) | apply wo_nil | apply wc_seq | apply wc_region | (apply wo_alloc; rfl; intro bx) | (apply wo_sta; rfl; rfl; rfl; rfl; (· (repeat (first | apply sel_here ))); (· (repeat (first | apply LayAt.nil | apply LayAt.here ))); rfl) ))
    (refine wc_quiet mixed (by kernel_rfl) ?_; (repeat (first | ((first | (apply hd_v; rfl) ); (· first | (apply pv_ev; rfl) | (apply pv_fld; rfl) | (apply g_load; first | (apply pv_ld; rfl; (· (repeat (first | apply sel_here ))); rfl) ) )) )))
    (refine Hd.call rfl inferInstance (Fn.mono (eNum4 x1 ⟨g1, g2⟩) (fun _ _ _ h => ⟨h.1, h.2.1⟩)) rfl (by (repeat (first | apply sub_nil )); done) (by first | exact fun _ h => h | (intro r hr; cases hr; done) | (simp; done) | exact fun _ h => List.mem_append_left _ h | (intro r hr; simp [hr]; done)) rfl ?_; (repeat (first | ((first | (apply hd_v; rfl) ); (· first | (apply pv_ev; rfl) | (apply pv_fld; rfl) | (apply g_load; first | (apply pv_ld; rfl; (· (repeat (first | apply sel_here ))); rfl) ) | (apply g_conv; first | (apply a_conv; rfl; infer_instance; infer_instance; infer_instance; omega) ) )) )))
    (refine Hd.call rfl inferInstance (Fn.mono (rNum 1 x2 1 rfl (by omega)) (fun _ _ _ h => ⟨h.1, h.2.1⟩)) rfl (by (repeat (first | apply sub_nil )); done) (by first | exact fun _ h => h | (intro r hr; cases hr; done) | (simp; done) | exact fun _ h => List.mem_append_left _ h | (intro r hr; simp [hr]; done)) rfl ?_; (repeat (first | ((first | (apply wo_v; rfl) | (apply hd_v; rfl) ); (· first | (apply pv_ev; rfl) | (apply g_bin; first | (apply a_add; rfl; rfl; infer_instance; omega) | (apply pv_add_s; rfl; rfl; omega) ) )) | apply wo_nil | apply Hd.nil | apply wc_region )))
    (repeat (first | fail ))
    exact loop_end ⟨i + 1, _, rfl, by omega, hfin.symm, rfl⟩ (by omega) (wk_mk (by (repeat (first | apply wkf_nil | (apply wkf_cons; rfl))); done) (by (repeat (first | apply sub_nil | (apply sub_cons; (· (repeat (first | apply sel_here | apply sel_there)))))); done) (by first | exact fun _ h => h | (intro r hr; cases hr; done) | (simp; done) | exact fun _ h => List.mem_append_left _ h | (intro r hr; simp [hr]; done)))
  · have e : i = l.length := by omega
    subst e
    rw [List.take_length] at hS2
    subst hS2
    (repeat (first | ((first | (apply wo_v; rfl) ); (· first | (apply pv_ev; rfl) | (apply pv_fld; rfl) | (apply g_load; first | (apply pv_ld; rfl; (· (repeat (first | apply sel_here ))); rfl) ) | (apply g_pick; first | (apply pv_pick_t; rfl; rfl) ) )) | apply wo_nil | apply wc_seq | apply wc_region | apply wc_skip | (apply wc_exit; rfl) | apply wc_ret | (apply wc_true; rfl) | (apply wc_false; rfl) | (apply a_dec_t; rfl; (· first | assumption | omega)) | (apply a_dec_f; rfl; (· first | assumption | omega)) | (apply wo_run; rfl; rfl) ))
    exact retv rfl (by (repeat (first | apply RV.nil | (apply RV.tmp; rfl) )); done) (⟨rfl, rfl, rfl⟩) (by (repeat (first | apply sub_nil )); done) (by first | exact fun _ h => h | (intro r hr; cases hr; done) | (simp; done) | exact fun _ h => List.mem_append_left _ h | (intro r hr; simp [hr]; done))
theorem fRemb (R : List Ro) (fm rt : Int) (l : List Int) (A : Option Addr) (n c : Nat) (hS : SQ R 1 A n c (c32 l)) (hl : l.length ≤ 255) (h1 : in32 fm) (h2 : in64 rt) (hb : ∀ x ∈ l, in32 x) : FbC R (rfA (rfL 206 15 fm 0 0 0 0 0 nilS nilS (.slice A n c) E0 nilS nilS rt)) (txK (.remb fm rt l)) := by
  have hn : n = l.length := by rw [← hS.len, c32_len]
  subst hn
  have z1 := numS_size 4 fm
  have z2 := numS_size 4 0
  have z0 : (numS 4 fm ++ numS 4 0).size = 8 := by rw [ByteArray.size_append, z1, z2]
  have z3 := numS_size 1 (l.length : Int)
  have z4 := numS_size 3 (remV rt)
  have z5 := numsS_size 4 l
  have z6 : (⟨#[82, 69, 77, 66]⟩ : ByteArray).size = 4 := rfl
  have z7 : ((⟨#[82, 69, 77, 66]⟩ : ByteArray) ++ numS 1 (l.length : Int)).size = 5 := by rw [ByteArray.size_append, z6, z3]
  have z8 : ((⟨#[82, 69, 77, 66]⟩ : ByteArray) ++ numS 1 (l.length : Int) ++ numS 3 (remV rt)).size = 8 := by rw [ByteArray.size_append, z7, z4]
  have z9 : ((⟨#[82, 69, 77, 66]⟩ : ByteArray) ++ numS 1 (l.length : Int) ++ numS 3 (remV rt) ++ numsS 4 l).size = 8 + 4 * l.length := by rw [ByteArray.size_append, z8, z5]
  have he := exM_le h2
  have hq := exM_q h2
  have hV := remV_b h2
  have qp := ePow (exM rt) (by omega)
  have qs := eShift rt h2
  have h0 : 0 ≤ rt ∧ rt ≤ 18446744073709551615 := h2
  have hp : (0 : Int) < 2 ^ exM rt := Int.pow_pos (by omega)
  have hd : rt.tdiv (2 ^ exM rt) = rt / 2 ^ exM rt := Int.tdiv_eq_ediv_of_nonneg h0.1
  have hfin : numsS 4 [fm, 0] ++ (⟨#[82, 69, 77, 66]⟩ : ByteArray) ++ numsS 1 [(l.length : Int)] ++ numsS 3 [remV rt] ++ numsS 4 l = (numS 4 fm ++ numS 4 0) ++ ((⟨#[82, 69, 77, 66]⟩ : ByteArray) ++ numS 1 (l.length : Int) ++ numS 3 (remV rt) ++ numsS 4 l) := by
    rw [numsS2, numsS_one, numsS_one]; simp only [ByteArray.append_assoc]
  have qn := rNum 3 (remV rt) 3 rfl (by omega)
  have hR : remV rt = exM rt * 262144 + rt / 2 ^ exM rt := rfl
  simp only [txK, remT]
  show Fn _ _ _ _ _ (fun v L' R' => v = .string (numsS 4 [fm, 0] ++ (⟨#[82, 69, 77, 66]⟩ : ByteArray) ++ numsS 1 [(l.length : Int)] ++ numsS 3 [remV rt] ++ numsS 4 l) ∧ L' = [] ∧ R' = [])
  rw [hfin]
  clear hfin
  generalize remV rt = V at *
  generalize exM rt = e at *
  generalize (2 : Int) ^ e = P at *
  subst hR
  refine fn_intro Try.func75 rfl Try.ntmps75 rfl (fun E => ?_)
  (repeat (first | ((first | (apply wo_v; rfl) ); (· first | (apply pv_ev; rfl) )) | apply wo_nil | apply wc_seq | apply wc_region | (apply wo_box1; rfl; rfl; rfl; intro bx) | (apply wo_boxa; rfl; rfl; intro bx) ))
  obtain ⟨g, hg⟩ : ∃ g, g = bx := ⟨_, rfl⟩
  subst hg
  (refine wc_quiet mixed (by kernel_rfl) ?_; (repeat (first | ((first | (apply hd_v; rfl) ); (· first | (apply pv_ev; rfl) | (apply pv_fld; rfl) | (apply g_load; first | (apply pv_ld; rfl; (· (repeat (first | apply sel_here ))); rfl) ) )) )))
  (refine Hd.call rfl inferInstance (Fn.mono (eNum4 fm h1) (fun _ _ _ h => ⟨h.1, h.2.1⟩)) rfl (by (repeat (first | apply sub_nil )); done) (by first | exact fun _ h => h | (intro r hr; cases hr; done) | (simp; done) | exact fun _ h => List.mem_append_left _ h | (intro r hr; simp [hr]; done)) rfl ?_; (repeat (first | ((first | (apply hd_v; rfl) ); (· first | (apply pv_ev; rfl) | (apply pv_fld; rfl) | (apply g_load; first | (apply pv_ld; rfl; (· (repeat (first | apply sel_here ))); rfl) ) )) )))
  (refine Hd.call rfl inferInstance (Fn.mono (eNum4 0 in32_0) (fun _ _ _ h => ⟨h.1, h.2.1⟩)) rfl (by (repeat (first | apply sub_nil )); done) (by first | exact fun _ h => h | (intro r hr; cases hr; done) | (simp; done) | exact fun _ h => List.mem_append_left _ h | (intro r hr; simp [hr]; done)) rfl ?_; (repeat (first | ((first | (apply wo_v; rfl) | (apply hd_v; rfl) ); (· first | (apply pv_ev; rfl) | (apply pv_fld; rfl) | (apply g_load; first | (apply pv_ld; rfl; (· (repeat (first | apply sel_here ))); rfl) ) | (apply g_pick; first | (apply pv_pick_t; rfl; rfl) ) | (apply g_bin; first | (apply a_add; rfl; rfl; infer_instance; omega) | (apply pv_add_s; rfl; rfl; omega) ) )) | apply wo_nil | apply Hd.nil | apply wc_seq | apply wc_region | apply wc_skip | (apply wc_true; rfl) | (apply wc_false; rfl) | (apply wo_run; rfl; rfl) )))
  (repeat (first | ((first | (apply wo_v; rfl) ); (· first | (apply pv_ev; rfl) )) ))
  generalize numS 4 fm ++ numS 4 0 = S0 at *
  (refine wo_call (qs) rfl (by (repeat (first | apply sub_nil )); done) (by first | exact fun _ h => h | (intro r hr; cases hr; done) | (simp; done) | exact fun _ h => List.mem_append_left _ h | (intro r hr; simp [hr]; done)) rfl ?_; rintro v L' R' ⟨rfl, rfl, rfl⟩ H' hH RR hR; simp only [List.cons_append, List.nil_append] at hH hR; subst hH; have hR := hR.symm; subst hR)
  (repeat (first | ((first | (apply wo_v; rfl) ); (· first | (apply pv_ev; rfl) )) | apply wo_nil ))
  (refine wc_quiet mixed (by kernel_rfl) ?_; (repeat (first | ((first | (apply hd_v; rfl) ); (· first | (apply pv_ev; rfl) | (apply pv_fld; rfl) | (apply g_load; first | (apply pv_ld; rfl; (· (repeat (first | apply sel_here ))); rfl) ) | (apply g_bi; first | (apply pv_len_sl; rfl) ) | (apply g_conv; first | (apply a_conv; rfl; infer_instance; infer_instance; infer_instance; omega) ) )) )))
  (refine Hd.call rfl inferInstance (Fn.mono (rNum 1 (l.length : Int) 1 rfl (by omega)) (fun _ _ _ h => ⟨h.1, h.2.1⟩)) rfl (by (repeat (first | apply sub_nil )); done) (by first | exact fun _ h => h | (intro r hr; cases hr; done) | (simp; done) | exact fun _ h => List.mem_append_left _ h | (intro r hr; simp [hr]; done)) rfl ?_; (repeat (first | ((first | (apply hd_v; rfl) ); (· first | (apply pv_ev; rfl) | (apply pv_fld; rfl) | (apply g_load; first | (apply pv_ld; rfl; (· (repeat (first | apply sel_here ))); rfl) ) | (apply g_bin; first | (apply a_add; rfl; rfl; infer_instance; omega) | (apply a_mul; rfl; rfl; infer_instance; omega) | (apply pv_add_s; rfl; rfl; omega) ) | (apply g_conv; first | (apply a_conv; rfl; infer_instance; infer_instance; infer_instance; omega) ) )) )))
  (refine Hd.call rfl inferInstance (Fn.mono (qp) (fun _ _ _ h => ⟨h.1, h.2.1⟩)) rfl (by (repeat (first | apply sub_nil )); done) (by first | exact fun _ h => h | (intro r hr; cases hr; done) | (simp; done) | exact fun _ h => List.mem_append_left _ h | (intro r hr; simp [hr]; done)) rfl ?_; (repeat (first | ((first | (apply hd_v; rfl) ); (· first | (apply pv_ev; rfl) | (apply g_bin; first | (apply a_add; rfl; rfl; infer_instance; omega) | (apply a_quo; rfl; rfl; infer_instance; omega) ) )) )))
  (refine Hd.call rfl inferInstance (Fn.mono (qn) (fun _ _ _ h => ⟨h.1, h.2.1⟩)) rfl (by (repeat (first | apply sub_nil )); done) (by first | exact fun _ h => h | (intro r hr; cases hr; done) | (simp; done) | exact fun _ h => List.mem_append_left _ h | (intro r hr; simp [hr]; done)) rfl ?_; (repeat (first | ((first | (apply hd_v; rfl) ); (· first | (apply pv_ev; rfl) | (apply pv_fld; rfl) | (apply g_load; first | (apply pv_ld; rfl; (· (repeat (first | apply sel_here ))); rfl) ) | (apply g_bin; first | (apply a_add; rfl; rfl; infer_instance; omega) | (apply pv_add_s; rfl; rfl; omega) ) )) )))
  (refine Hd.call rfl inferInstance (Fn.mono (eNums l A _ c R hS hb (by omega)) (fun _ _ _ h => ⟨h.1, h.2.1⟩)) rfl (by (repeat (first | apply sub_nil )); done) (by first | exact fun _ h => h | (intro r hr; cases hr; done) | (simp; done) | exact fun _ h => List.mem_append_left _ h | (intro r hr; simp [hr]; done)) rfl ?_; (repeat (first | ((first | (apply wo_v; rfl) | (apply hd_v; rfl) ); (· first | (apply pv_ev; rfl) | (apply g_bin; first | (apply a_add; rfl; rfl; infer_instance; omega) | (apply pv_add_s; rfl; rfl; omega) ) )) | apply wo_nil | apply Hd.nil | apply wc_seq | apply wc_region | apply wc_ret )))
  (repeat (first | fail ))
  exact retv rfl (by (repeat (first | apply RV.nil | (apply RV.tmp; rfl) )); done) (⟨rfl, rfl, rfl⟩) (by (repeat (first | apply sub_nil )); done) (by first | exact fun _ h => h | (intro r hr; cases hr; done) | (simp; done) | exact fun _ h => List.mem_append_left _ h | (intro r hr; simp [hr]; done))
end Go.Proofs.Yteaccbbmphcmnaa

/-
  Layer 5's document: a packet's bytes, and those of several.
-/
namespace Go.Proofs.Yteaccbbmphcmnaa
set_option linter.unusedSimpArgs false
set_option linter.unusedVariables false
open Go.RowKit
attribute [local irreducible] Pv WO WC Fn
set_option maxRecDepth 100000
attribute [local irreducible] ByteArray.extract

abbrev BdC (R : List Ro) (w : Value) (tx : ByteArray) : Prop := Fn Try.prog 42 #[w] [] R (fun v L' R' => v = .string tx ∧ L' = [] ∧ R' = [])
theorem gFb (R : List Ro) (kd ct ss to ntp t pk oc : Int) (A1 : Option Addr) (n1 c1 : Nat) (A2 : Option Addr) (n2 c2 : Nat) (A3 : Option Addr) (n3 c3 : Nat) (tx : ByteArray) (A4 : Option Addr) (n4 c4 : Nat) (A5 : Option Addr) (n5 c5 : Nat) (rt : Int) (T : ByteArray) (hk : knB kd ct = true) (h203 : 203 < kd)
    (h : FbC R (rfA (rfL kd ct ss to ntp t pk oc (.slice A1 n1 c1) (.slice A2 n2 c2) (.slice A3 n3 c3) tx (.slice A4 n4 c4) (.slice A5 n5 c5) rt)) T) : BdC R (rfA (rfL kd ct ss to ntp t pk oc (.slice A1 n1 c1) (.slice A2 n2 c2) (.slice A3 n3 c3) tx (.slice A4 n4 c4) (.slice A5 n5 c5) rt)) T := by
  have qk := eKnown kd ct
  rw [hk] at qk
  refine fn_intro Try.func42 rfl Try.ntmps42 rfl (fun E => ?_)
  (repeat (first | ((first | (apply wo_v; rfl) ); (· first | (apply pv_ev; rfl) | (apply pv_fld; rfl) | (apply g_load; first | (apply pv_ld; rfl; (· (repeat (first | apply sel_here ))); rfl) ) )) | apply wo_nil | apply wc_seq | apply wc_region | (apply wo_box1; rfl; rfl; rfl; intro bx) | (apply wo_boxa; rfl; rfl; intro bx) ))
  (refine wo_call (qk) rfl (by (repeat (first | apply sub_nil )); done) (by first | exact fun _ h => h | (intro r hr; cases hr; done) | (simp; done) | exact fun _ h => List.mem_append_left _ h | (intro r hr; simp [hr]; done)) rfl ?_; rintro v L' R' ⟨rfl, rfl, rfl⟩ H' hH RR hR; simp only [List.cons_append, List.nil_append] at hH hR; subst hH; have hR := hR.symm; subst hR)
  (repeat (first | ((first | (apply wo_v; rfl) ); (· first | (apply pv_ev; rfl) | (apply pv_fld; rfl) | (apply g_load; first | (apply pv_ld; rfl; (· (repeat (first | apply sel_here ))); rfl) | (apply pv_lda; rfl; (· (repeat (first | apply sel_here ))); (· (repeat (first | apply Cut.here0 | apply Cut.here )))) ) | (apply g_un; first | (apply pv_not_t; rfl) ) )) | apply wo_nil | apply wc_seq | apply wc_region | apply wc_block | apply wc_skip | (apply wc_true; rfl) | (apply wc_false; rfl) | (apply a_dec_t; rfl; (· first | assumption | omega)) | (apply a_dec_f; rfl; (· first | assumption | omega)) ))
  (refine wo_call (h) rfl (by (repeat (first | apply sub_nil )); done) (by first | exact fun _ h => h | (intro r hr; cases hr; done) | (simp; done) | exact fun _ h => List.mem_append_left _ h | (intro r hr; simp [hr]; done)) rfl ?_; rintro v L' R' ⟨rfl, rfl, rfl⟩ H' hH RR hR; simp only [List.cons_append, List.nil_append] at hH hR; subst hH; have hR := hR.symm; subst hR)
  (repeat (first | ((first | (apply wo_v; rfl) ); (· first | (apply pv_ev; rfl) )) | apply wo_nil | apply wc_ret ))
  exact retv rfl (by (repeat (first | apply RV.nil | (apply RV.tmp; rfl) )); done) (⟨rfl, rfl, rfl⟩) (by (repeat (first | apply sub_nil )); done) (by first | exact fun _ h => h | (intro r hr; cases hr; done) | (simp; done) | exact fun _ h => List.mem_append_left _ h | (intro r hr; simp [hr]; done))
theorem gOther (R : List Ro) (kd ct : Int) (bd : ByteArray) (hk : knB kd ct = false) : BdC R (rfA (rfL kd ct 0 0 0 0 0 0 nilS nilS nilS bd nilS nilS 0)) bd := by
  have qk := eKnown kd ct
  rw [hk] at qk
  refine fn_intro Try.func42 rfl Try.ntmps42 rfl (fun E => ?_)
  (repeat (first | ((first | (apply wo_v; rfl) ); (· first | (apply pv_ev; rfl) | (apply pv_fld; rfl) | (apply g_load; first | (apply pv_ld; rfl; (· (repeat (first | apply sel_here ))); rfl) ) )) | apply wo_nil | apply wc_seq | apply wc_region | (apply wo_box1; rfl; rfl; rfl; intro bx) | (apply wo_boxa; rfl; rfl; intro bx) ))
  (refine wo_call (qk) rfl (by (repeat (first | apply sub_nil )); done) (by first | exact fun _ h => h | (intro r hr; cases hr; done) | (simp; done) | exact fun _ h => List.mem_append_left _ h | (intro r hr; simp [hr]; done)) rfl ?_; rintro v L' R' ⟨rfl, rfl, rfl⟩ H' hH RR hR; simp only [List.cons_append, List.nil_append] at hH hR; subst hH; have hR := hR.symm; subst hR)
  (repeat (first | ((first | (apply wo_v; rfl) ); (· first | (apply pv_ev; rfl) | (apply pv_fld; rfl) | (apply g_load; first | (apply pv_ld; rfl; (· (repeat (first | apply sel_here ))); rfl) ) | (apply g_un; first | (apply pv_not_t; rfl) | (apply pv_not_f; rfl) ) )) | apply wo_nil | apply wc_seq | apply wc_region | apply wc_ret | (apply wc_true; rfl) ))
  exact retv rfl (by (repeat (first | apply RV.nil | (apply RV.tmp; rfl) )); done) (⟨rfl, rfl, rfl⟩) (by (repeat (first | apply sub_nil )); done) (by first | exact fun _ h => h | (intro r hr; cases hr; done) | (simp; done) | exact fun _ h => List.mem_append_left _ h | (intro r hr; simp [hr]; done))
theorem kn_lo {kd ct : Int} (h : 200 ≤ kd ∧ kd ≤ 203) : knB kd ct = true := knB_iff.2 (.inl h)
theorem gSender (R : List Ro) (ss ntp t pk oc : Int) (l : List Bk) (A : Option Addr) (n c : Nat) (hS : SQ R 7 A n c (blkV l)) (hl : l.length ≤ 31) (hb : ∀ b ∈ l, b.ok) (h1 : in32 ss) (h2 : in64 ntp) (h3 : in32 t) (h4 : in32 pk) (h5 : in32 oc) : BdC R (rfA (rfL 200 l.length ss 0 ntp t pk oc (.slice A n c) nilS nilS E0 nilS nilS 0)) (txK (.sender ss ntp t pk oc l)) := by
  have qk := eKnown 200 l.length
  rw [kn_lo (by omega)] at qk
  have n0 : 0 ≤ ntp ∧ ntp ≤ 18446744073709551615 := h2
  have z1 := numS_size 4 ss
  have z2 := numS_size 8 ntp
  have z3 := numS_size 4 t
  have z4 := numS_size 4 pk
  have z5 := numS_size 4 oc
  have z6 := bksT_size l
  have y1 : (numS 4 ss ++ numS 8 ntp).size = 12 := by rw [ByteArray.size_append, z1, z2]
  have y2 : (numS 4 ss ++ numS 8 ntp ++ numS 4 t).size = 16 := by rw [ByteArray.size_append, y1, z3]
  have y3 : (numS 4 ss ++ numS 8 ntp ++ numS 4 t ++ numS 4 pk).size = 20 := by rw [ByteArray.size_append, y2, z4]
  have y4 : (numS 4 ss ++ numS 8 ntp ++ numS 4 t ++ numS 4 pk ++ numS 4 oc).size = 24 := by rw [ByteArray.size_append, y3, z5]
  have e : txK (.sender ss ntp t pk oc l) = numS 4 ss ++ numS 8 ntp ++ numS 4 t ++ numS 4 pk ++ numS 4 oc ++ bksT l := by
    simp only [txK, numsS_one]
    show _ ++ (numS 4 t ++ (numS 4 pk ++ (numS 4 oc ++ E0))) ++ _ = _
    rw [append_E0]; simp only [ByteArray.append_assoc]
  rw [e]
  clear e
  refine fn_intro Try.func42 rfl Try.ntmps42 rfl (fun E => ?_)
  (repeat (first | ((first | (apply wo_v; rfl) ); (· first | (apply pv_ev; rfl) | (apply pv_fld; rfl) | (apply g_load; first | (apply pv_ld; rfl; (· (repeat (first | apply sel_here ))); rfl) ) )) | apply wo_nil | apply wc_seq | apply wc_region | (apply wo_box1; rfl; rfl; rfl; intro bx) | (apply wo_boxa; rfl; rfl; intro bx) ))
  (refine wo_call (qk) rfl (by (repeat (first | apply sub_nil )); done) (by first | exact fun _ h => h | (intro r hr; cases hr; done) | (simp; done) | exact fun _ h => List.mem_append_left _ h | (intro r hr; simp [hr]; done)) rfl ?_; rintro v L' R' ⟨rfl, rfl, rfl⟩ H' hH RR hR; simp only [List.cons_append, List.nil_append] at hH hR; subst hH; have hR := hR.symm; subst hR)
  (repeat (first | ((first | (apply wo_v; rfl) ); (· first | (apply pv_ev; rfl) | (apply pv_fld; rfl) | (apply g_load; first | (apply pv_ld; rfl; (· (repeat (first | apply sel_here ))); rfl) ) | (apply g_un; first | (apply pv_not_t; rfl) ) )) | apply wo_nil | apply wc_seq | apply wc_region | apply wc_block | apply wc_skip | (apply wc_true; rfl) | (apply wc_false; rfl) ))
  (refine wc_quiet mixed (by kernel_rfl) ?_; (repeat (first | ((first | (apply hd_v; rfl) ); (· first | (apply pv_ev; rfl) | (apply pv_fld; rfl) | (apply g_load; first | (apply pv_ld; rfl; (· (repeat (first | apply sel_here ))); rfl) ) )) )))
  (refine Hd.call rfl inferInstance (Fn.mono (eNum4 ss h1) (fun _ _ _ h => ⟨h.1, h.2.1⟩)) rfl (by (repeat (first | apply sub_nil )); done) (by first | exact fun _ h => h | (intro r hr; cases hr; done) | (simp; done) | exact fun _ h => List.mem_append_left _ h | (intro r hr; simp [hr]; done)) rfl ?_; (repeat (first | ((first | (apply hd_v; rfl) ); (· first | (apply pv_ev; rfl) | (apply pv_fld; rfl) | (apply g_load; first | (apply pv_ld; rfl; (· (repeat (first | apply sel_here ))); rfl) ) )) )))
  (refine Hd.call rfl inferInstance (Fn.mono (rNum 8 ntp 8 rfl n0) (fun _ _ _ h => ⟨h.1, h.2.1⟩)) rfl (by (repeat (first | apply sub_nil )); done) (by first | exact fun _ h => h | (intro r hr; cases hr; done) | (simp; done) | exact fun _ h => List.mem_append_left _ h | (intro r hr; simp [hr]; done)) rfl ?_; (repeat (first | ((first | (apply hd_v; rfl) ); (· first | (apply pv_ev; rfl) | (apply pv_fld; rfl) | (apply g_load; first | (apply pv_ld; rfl; (· (repeat (first | apply sel_here ))); rfl) ) | (apply g_bin; first | (apply a_add; rfl; rfl; infer_instance; omega) | (apply pv_add_s; rfl; rfl; omega) ) )) )))
  (refine Hd.call rfl inferInstance (Fn.mono (eNum4 t h3) (fun _ _ _ h => ⟨h.1, h.2.1⟩)) rfl (by (repeat (first | apply sub_nil )); done) (by first | exact fun _ h => h | (intro r hr; cases hr; done) | (simp; done) | exact fun _ h => List.mem_append_left _ h | (intro r hr; simp [hr]; done)) rfl ?_; (repeat (first | ((first | (apply hd_v; rfl) ); (· first | (apply pv_ev; rfl) | (apply pv_fld; rfl) | (apply g_load; first | (apply pv_ld; rfl; (· (repeat (first | apply sel_here ))); rfl) ) | (apply g_bin; first | (apply a_add; rfl; rfl; infer_instance; omega) | (apply pv_add_s; rfl; rfl; omega) ) )) )))
  (refine Hd.call rfl inferInstance (Fn.mono (eNum4 pk h4) (fun _ _ _ h => ⟨h.1, h.2.1⟩)) rfl (by (repeat (first | apply sub_nil )); done) (by first | exact fun _ h => h | (intro r hr; cases hr; done) | (simp; done) | exact fun _ h => List.mem_append_left _ h | (intro r hr; simp [hr]; done)) rfl ?_; (repeat (first | ((first | (apply hd_v; rfl) ); (· first | (apply pv_ev; rfl) | (apply pv_fld; rfl) | (apply g_load; first | (apply pv_ld; rfl; (· (repeat (first | apply sel_here ))); rfl) ) | (apply g_bin; first | (apply a_add; rfl; rfl; infer_instance; omega) | (apply pv_add_s; rfl; rfl; omega) ) )) )))
  (refine Hd.call rfl inferInstance (Fn.mono (eNum4 oc h5) (fun _ _ _ h => ⟨h.1, h.2.1⟩)) rfl (by (repeat (first | apply sub_nil )); done) (by first | exact fun _ h => h | (intro r hr; cases hr; done) | (simp; done) | exact fun _ h => List.mem_append_left _ h | (intro r hr; simp [hr]; done)) rfl ?_; (repeat (first | ((first | (apply hd_v; rfl) ); (· first | (apply pv_ev; rfl) | (apply pv_fld; rfl) | (apply g_load; first | (apply pv_ld; rfl; (· (repeat (first | apply sel_here ))); rfl) ) | (apply g_bin; first | (apply a_add; rfl; rfl; infer_instance; omega) | (apply pv_add_s; rfl; rfl; omega) ) )) )))
  (refine Hd.call rfl inferInstance (Fn.mono (eBlocks l A n c R hS hb (by omega)) (fun _ _ _ h => ⟨h.1, h.2.1⟩)) rfl (by (repeat (first | apply sub_nil )); done) (by first | exact fun _ h => h | (intro r hr; cases hr; done) | (simp; done) | exact fun _ h => List.mem_append_left _ h | (intro r hr; simp [hr]; done)) rfl ?_; (repeat (first | ((first | (apply hd_v; rfl) ); (· first | (apply pv_ev; rfl) | (apply g_bin; first | (apply a_add; rfl; rfl; infer_instance; omega) | (apply pv_add_s; rfl; rfl; omega) ) )) | apply Hd.nil | apply wc_ret )))
  (repeat (first | fail ))
  exact retv rfl (by (repeat (first | apply RV.nil | (apply RV.tmp; rfl) )); done) (⟨rfl, rfl, rfl⟩) (by (repeat (first | apply sub_nil )); done) (by first | exact fun _ h => h | (intro r hr; cases hr; done) | (simp; done) | exact fun _ h => List.mem_append_left _ h | (intro r hr; simp [hr]; done))
theorem gReceiver (R : List Ro) (ss : Int) (l : List Bk) (A : Option Addr) (n c : Nat) (hS : SQ R 7 A n c (blkV l)) (hl : l.length ≤ 31) (hb : ∀ b ∈ l, b.ok) (h1 : in32 ss) : BdC R (rfA (rfL 201 l.length ss 0 0 0 0 0 (.slice A n c) nilS nilS E0 nilS nilS 0)) (txK (.receiver ss l)) := by
  have qk := eKnown 201 l.length
  rw [kn_lo (by omega)] at qk
  have z1 := numS_size 4 ss
  have z6 := bksT_size l
  simp only [txK, numsS_one]
  refine fn_intro Try.func42 rfl Try.ntmps42 rfl (fun E => ?_)
  (repeat (first | ((first | (apply wo_v; rfl) ); (· first | (apply pv_ev; rfl) | (apply pv_fld; rfl) | (apply g_load; first | (apply pv_ld; rfl; (· (repeat (first | apply sel_here ))); rfl) ) )) | apply wo_nil | apply wc_seq | apply wc_region | (apply wo_box1; rfl; rfl; rfl; intro bx) | (apply wo_boxa; rfl; rfl; intro bx) ))
  (refine wo_call (qk) rfl (by (repeat (first | apply sub_nil )); done) (by first | exact fun _ h => h | (intro r hr; cases hr; done) | (simp; done) | exact fun _ h => List.mem_append_left _ h | (intro r hr; simp [hr]; done)) rfl ?_; rintro v L' R' ⟨rfl, rfl, rfl⟩ H' hH RR hR; simp only [List.cons_append, List.nil_append] at hH hR; subst hH; have hR := hR.symm; subst hR)
  (repeat (first | ((first | (apply wo_v; rfl) ); (· first | (apply pv_ev; rfl) | (apply pv_fld; rfl) | (apply g_load; first | (apply pv_ld; rfl; (· (repeat (first | apply sel_here ))); rfl) ) | (apply g_un; first | (apply pv_not_t; rfl) ) )) | apply wo_nil | apply wc_seq | apply wc_region | apply wc_block | apply wc_skip | (apply wc_true; rfl) | (apply wc_false; rfl) ))
  (refine wc_quiet mixed (by kernel_rfl) ?_; (repeat (first | ((first | (apply hd_v; rfl) ); (· first | (apply pv_ev; rfl) | (apply pv_fld; rfl) | (apply g_load; first | (apply pv_ld; rfl; (· (repeat (first | apply sel_here ))); rfl) ) )) )))
  (refine Hd.call rfl inferInstance (Fn.mono (eNum4 ss h1) (fun _ _ _ h => ⟨h.1, h.2.1⟩)) rfl (by (repeat (first | apply sub_nil )); done) (by first | exact fun _ h => h | (intro r hr; cases hr; done) | (simp; done) | exact fun _ h => List.mem_append_left _ h | (intro r hr; simp [hr]; done)) rfl ?_; (repeat (first | ((first | (apply hd_v; rfl) ); (· first | (apply pv_ev; rfl) | (apply pv_fld; rfl) | (apply g_load; first | (apply pv_ld; rfl; (· (repeat (first | apply sel_here ))); rfl) ) )) )))
  (refine Hd.call rfl inferInstance (Fn.mono (eBlocks l A n c R hS hb (by omega)) (fun _ _ _ h => ⟨h.1, h.2.1⟩)) rfl (by (repeat (first | apply sub_nil )); done) (by first | exact fun _ h => h | (intro r hr; cases hr; done) | (simp; done) | exact fun _ h => List.mem_append_left _ h | (intro r hr; simp [hr]; done)) rfl ?_; (repeat (first | ((first | (apply hd_v; rfl) ); (· first | (apply pv_ev; rfl) | (apply g_bin; first | (apply a_add; rfl; rfl; infer_instance; omega) | (apply pv_add_s; rfl; rfl; omega) ) )) | apply Hd.nil | apply wc_ret )))
  (repeat (first | fail ))
  exact retv rfl (by (repeat (first | apply RV.nil | (apply RV.tmp; rfl) )); done) (⟨rfl, rfl, rfl⟩) (by (repeat (first | apply sub_nil )); done) (by first | exact fun _ h => h | (intro r hr; cases hr; done) | (simp; done) | exact fun _ h => List.mem_append_left _ h | (intro r hr; simp [hr]; done))
theorem gSdes (R : List Ro) (l : List Ck5) (rows : List (List Value)) (A : Option Addr) (n c : Nat) (hS : SQ R 2 A n c rows) (hV : ChsV R l rows) (hl : l.length ≤ 31) (hb : ∀ c ∈ l, in32 c.1 ∧ c.2.length ≤ 1000 ∧ ∀ x ∈ c.2, in8 x.1 ∧ x.2.size ≤ 1000) : BdC R (rfA (rfL 202 l.length 0 0 0 0 0 0 nilS (.slice A n c) nilS E0 nilS nilS 0)) (txK (.sdes l)) := by
  have qk := eKnown 202 l.length
  rw [kn_lo (by omega)] at qk
  refine fn_intro Try.func42 rfl Try.ntmps42 rfl (fun E => ?_)
  (repeat (first | ((first | (apply wo_v; rfl) ); (· first | (apply pv_ev; rfl) | (apply pv_fld; rfl) | (apply g_load; first | (apply pv_ld; rfl; (· (repeat (first | apply sel_here ))); rfl) ) )) | apply wo_nil | apply wc_seq | apply wc_region | (apply wo_box1; rfl; rfl; rfl; intro bx) | (apply wo_boxa; rfl; rfl; intro bx) ))
  (refine wo_call (qk) rfl (by (repeat (first | apply sub_nil )); done) (by first | exact fun _ h => h | (intro r hr; cases hr; done) | (simp; done) | exact fun _ h => List.mem_append_left _ h | (intro r hr; simp [hr]; done)) rfl ?_; rintro v L' R' ⟨rfl, rfl, rfl⟩ H' hH RR hR; simp only [List.cons_append, List.nil_append] at hH hR; subst hH; have hR := hR.symm; subst hR)
  (repeat (first | ((first | (apply wo_v; rfl) ); (· first | (apply pv_ev; rfl) | (apply pv_fld; rfl) | (apply g_load; first | (apply pv_ld; rfl; (· (repeat (first | apply sel_here ))); rfl) ) | (apply g_un; first | (apply pv_not_t; rfl) ) )) | apply wo_nil | apply wc_seq | apply wc_region | apply wc_block | apply wc_skip | (apply wc_true; rfl) | (apply wc_false; rfl) ))
  (refine wo_call (eChunks l rows A n c R hS hV (by omega) hb) rfl (by (repeat (first | apply sub_nil )); done) (by first | exact fun _ h => h | (intro r hr; cases hr; done) | (simp; done) | exact fun _ h => List.mem_append_left _ h | (intro r hr; simp [hr]; done)) rfl ?_; rintro v L' R' ⟨rfl, rfl, rfl⟩ H' hH RR hR; simp only [List.cons_append, List.nil_append] at hH hR; subst hH; have hR := hR.symm; subst hR)
  (repeat (first | ((first | (apply wo_v; rfl) ); (· first | (apply pv_ev; rfl) )) | apply wo_nil | apply wc_ret ))
  exact retv rfl (by (repeat (first | apply RV.nil | (apply RV.tmp; rfl) )); done) (⟨rfl, rfl, rfl⟩) (by (repeat (first | apply sub_nil )); done) (by first | exact fun _ h => h | (intro r hr; cases hr; done) | (simp; done) | exact fun _ h => List.mem_append_left _ h | (intro r hr; simp [hr]; done))
theorem gBye (R : List Ro) (l : List Int) (rs : ByteArray) (A : Option Addr) (n c : Nat) (hS : SQ R 1 A n c (c32 l)) (hl : l.length ≤ 31) (hb : ∀ x ∈ l, in32 x) (hrs : rs.size ≤ 255) : BdC R (rfA (rfL 203 l.length 0 0 0 0 0 0 nilS nilS (.slice A n c) rs nilS nilS 0)) (txK (.bye l rs)) := by
  have qk := eKnown 203 l.length
  rw [kn_lo (by omega)] at qk
  have z1 := numsS_size 4 l
  have z2 := numS_size 1 (rs.size : Int)
  have z3 : (numsS 4 l ++ numS 1 (rs.size : Int)).size = 4 * l.length + 1 := by rw [ByteArray.size_append, z1, z2]
  have z4 : (numsS 4 l ++ numS 1 (rs.size : Int) ++ rs).size = 4 * l.length + 1 + rs.size := by rw [ByteArray.size_append, z3]
  simp only [txK, byT, numsS_one]
  by_cases h0 : rs = E0
  · rw [if_pos h0]
    subst h0
    refine fn_intro Try.func42 rfl Try.ntmps42 rfl (fun E => ?_)
    (repeat (first | ((first | (apply wo_v; rfl) ); (· first | (apply pv_ev; rfl) | (apply pv_fld; rfl) | (apply g_load; first | (apply pv_ld; rfl; (· (repeat (first | apply sel_here ))); rfl) ) )) | apply wo_nil | apply wc_seq | apply wc_region | (apply wo_box1; rfl; rfl; rfl; intro bx) | (apply wo_boxa; rfl; rfl; intro bx) ))
    (refine wo_call (qk) rfl (by (repeat (first | apply sub_nil )); done) (by first | exact fun _ h => h | (intro r hr; cases hr; done) | (simp; done) | exact fun _ h => List.mem_append_left _ h | (intro r hr; simp [hr]; done)) rfl ?_; rintro v L' R' ⟨rfl, rfl, rfl⟩ H' hH RR hR; simp only [List.cons_append, List.nil_append] at hH hR; subst hH; have hR := hR.symm; subst hR)
    (repeat (first | ((first | (apply wo_v; rfl) ); (· first | (apply pv_ev; rfl) | (apply pv_fld; rfl) | (apply g_load; first | (apply pv_ld; rfl; (· (repeat (first | apply sel_here ))); rfl) ) | (apply g_un; first | (apply pv_not_t; rfl) ) )) | apply wo_nil | apply wc_seq | apply wc_region | apply wc_block | apply wc_skip | (apply wc_true; rfl) | (apply wc_false; rfl) ))
    (refine wo_call (eNums l A n c R hS hb (by omega)) rfl (by (repeat (first | apply sub_nil )); done) (by first | exact fun _ h => h | (intro r hr; cases hr; done) | (simp; done) | exact fun _ h => List.mem_append_left _ h | (intro r hr; simp [hr]; done)) rfl ?_; rintro v L' R' ⟨rfl, rfl, rfl⟩ H' hH RR hR; simp only [List.cons_append, List.nil_append] at hH hR; subst hH; have hR := hR.symm; subst hR)
    (repeat (first | ((first | (apply wo_v; rfl) ); (· first | (apply pv_ev; rfl) | (apply pv_fld; rfl) | (apply g_load; first | (apply pv_ld; rfl; (· (repeat (first | apply sel_here ))); rfl) ) | (apply g_bin; first | (apply pv_neq_s; rfl; rfl) ) )) | apply wo_nil | apply wc_seq | apply wc_region | apply wc_skip | apply wc_ret | (apply wc_true; rfl) | (apply wc_false; rfl) ))
    exact retv rfl (by (repeat (first | apply RV.nil | (apply RV.tmp; rfl) )); done) (⟨rfl, rfl, rfl⟩) (by (repeat (first | apply sub_nil )); done) (by first | exact fun _ h => h | (intro r hr; cases hr; done) | (simp; done) | exact fun _ h => List.mem_append_left _ h | (intro r hr; simp [hr]; done))
  · rw [if_neg h0]
    refine fn_intro Try.func42 rfl Try.ntmps42 rfl (fun E => ?_)
    (repeat (first | ((first | (apply wo_v; rfl) ); (· first | (apply pv_ev; rfl) | (apply pv_fld; rfl) | (apply g_load; first | (apply pv_ld; rfl; (· (repeat (first | apply sel_here ))); rfl) ) )) | apply wo_nil | apply wc_seq | apply wc_region | (apply wo_box1; rfl; rfl; rfl; intro bx) | (apply wo_boxa; rfl; rfl; intro bx) ))
    (refine wo_call (qk) rfl (by (repeat (first | apply sub_nil )); done) (by first | exact fun _ h => h | (intro r hr; cases hr; done) | (simp; done) | exact fun _ h => List.mem_append_left _ h | (intro r hr; simp [hr]; done)) rfl ?_; rintro v L' R' ⟨rfl, rfl, rfl⟩ H' hH RR hR; simp only [List.cons_append, List.nil_append] at hH hR; subst hH; have hR := hR.symm; subst hR)
    (repeat (first | ((first | (apply wo_v; rfl) ); (· first | (apply pv_ev; rfl) | (apply pv_fld; rfl) | (apply g_load; first | (apply pv_ld; rfl; (· (repeat (first | apply sel_here ))); rfl) ) | (apply g_un; first | (apply pv_not_t; rfl) ) )) | apply wo_nil | apply wc_seq | apply wc_region | apply wc_block | apply wc_skip | (apply wc_true; rfl) | (apply wc_false; rfl) ))
    (refine wo_call (eNums l A n c R hS hb (by omega)) rfl (by (repeat (first | apply sub_nil )); done) (by first | exact fun _ h => h | (intro r hr; cases hr; done) | (simp; done) | exact fun _ h => List.mem_append_left _ h | (intro r hr; simp [hr]; done)) rfl ?_; rintro v L' R' ⟨rfl, rfl, rfl⟩ H' hH RR hR; simp only [List.cons_append, List.nil_append] at hH hR; subst hH; have hR := hR.symm; subst hR)
    (repeat (first | ((first | (apply wo_v; rfl) ); (· first | (apply pv_ev; rfl) | (apply pv_fld; rfl) | (apply g_load; first | (apply pv_ld; rfl; (· (repeat (first | apply sel_here ))); rfl) ) | (apply g_bin; first | (apply pv_neq_s; rfl; rfl) ) )) | apply wo_nil | apply wc_seq | apply wc_region | (apply wc_true; rfl) | (apply wc_false; rfl) | (apply a_dec_t; rfl; (· first | assumption | omega)) ))
    (refine wc_quiet mixed (by kernel_rfl) ?_; (repeat (first | ((first | (apply hd_v; rfl) ); (· first | (apply pv_ev; rfl) | (apply pv_fld; rfl) | (apply g_load; first | (apply pv_ld; rfl; (· (repeat (first | apply sel_here ))); rfl) ) | (apply g_bi; first | (apply pv_len_str; rfl) ) | (apply g_conv; first | (apply a_conv; rfl; infer_instance; infer_instance; infer_instance; omega) ) )) )))
    (refine Hd.call rfl inferInstance (Fn.mono (rNum 1 (rs.size : Int) 1 rfl (by omega)) (fun _ _ _ h => ⟨h.1, h.2.1⟩)) rfl (by (repeat (first | apply sub_nil )); done) (by first | exact fun _ h => h | (intro r hr; cases hr; done) | (simp; done) | exact fun _ h => List.mem_append_left _ h | (intro r hr; simp [hr]; done)) rfl ?_; (repeat (first | ((first | (apply hd_v; rfl) ); (· first | (apply pv_ev; rfl) | (apply pv_fld; rfl) | (apply g_load; first | (apply pv_ld; rfl; (· (repeat (first | apply sel_here ))); rfl) ) | (apply g_bin; first | (apply a_add; rfl; rfl; infer_instance; omega) | (apply pv_add_s; rfl; rfl; omega) ) )) )))
    (refine Hd.call rfl inferInstance (Fn.mono (ePad (numsS 4 l ++ numS 1 (rs.size : Int) ++ rs) (by omega)) (fun _ _ _ h => ⟨h.1, h.2.1⟩)) rfl (by (repeat (first | apply sub_nil )); done) (by first | exact fun _ h => h | (intro r hr; cases hr; done) | (simp; done) | exact fun _ h => List.mem_append_left _ h | (intro r hr; simp [hr]; done)) rfl ?_; (repeat (first | ((first | (apply wo_v; rfl) | (apply hd_v; rfl) ); (· first | (apply pv_ev; rfl) )) | apply wo_nil | apply Hd.nil | apply wc_seq | apply wc_region | apply wc_ret )))
    (repeat (first | fail ))
    exact retv rfl (by (repeat (first | apply RV.nil | (apply RV.tmp; rfl) )); done) (⟨rfl, rfl, rfl⟩) (by (repeat (first | apply sub_nil )); done) (by first | exact fun _ h => h | (intro r hr; cases hr; done) | (simp; done) | exact fun _ h => List.mem_append_left _ h | (intro r hr; simp [hr]; done))
theorem eBody {R : List Ro} : ∀ {p : Pkt} {w : Value}, okK p → RefV R p w → BdC R w (txK p)
  | .sender ss ntp t pk oc bl, w, h, hw => by
    obtain ⟨A, n, c, rfl, hS⟩ := hw
    obtain ⟨h1, h2, h3, h4, h5, h6, h7⟩ := h
    exact gSender R ss ntp t pk oc bl A n c hS h6 (fun b hb => (h7 b hb).1) h1 h2 h3 h4 h5
  | .receiver ss bl, w, h, hw => by
    obtain ⟨A, n, c, rfl, hS⟩ := hw
    obtain ⟨h1, h6, h7⟩ := h
    exact gReceiver R ss bl A n c hS h6 (fun b hb => (h7 b hb).1) h1
  | .sdes ch, w, h, hw => by
    obtain ⟨A, n, c, rows, rfl, hS, hV⟩ := hw
    obtain ⟨h1, h2⟩ := h
    exact gSdes R ch rows A n c hS hV h1 (fun c hc => ⟨(h2 c hc).1, (h2 c hc).2.1, fun x hx => ⟨((h2 c hc).2.2 x hx).1, by have := ((h2 c hc).2.2 x hx).2.2; omega⟩⟩)
  | .bye ss rs, w, h, hw => by
    obtain ⟨A, n, c, rfl, hS⟩ := hw
    obtain ⟨h1, h2, h3⟩ := h
    exact gBye R ss rs A n c hS h1 h2 h3
  | .nack fm to ps, w, h, hw => by
    obtain ⟨A, n, c, rfl, hS⟩ := hw
    obtain ⟨h1, h2, h3, h4⟩ := h
    exact gFb R _ _ _ _ _ _ _ _ _ _ _ _ _ _ _ _ _ _ _ _ _ _ _ _ _ _ (knB_iff.2 (by unfold knK; omega)) (by omega) (fNack R fm to ps A n c hS h3 h1 h2 h4)
  | .pli fm to, w, h, hw => by
    obtain rfl := hw
    exact gFb R _ _ _ _ _ _ _ _ _ _ _ _ _ _ _ _ _ _ _ _ _ _ _ _ _ _ (knB_iff.2 (by unfold knK; omega)) (by omega) (fPli R fm to h.1 h.2)
  | .fir fm os, w, h, hw => by
    obtain ⟨A, n, c, rfl, hS⟩ := hw
    obtain ⟨h1, h2, h3⟩ := h
    exact gFb R _ _ _ _ _ _ _ _ _ _ _ _ _ _ _ _ _ _ _ _ _ _ _ _ _ _ (knB_iff.2 (by unfold knK; omega)) (by omega) (fFir R fm os A n c hS h2 h1 h3)
  | .remb fm rt ss, w, h, hw => by
    obtain ⟨A, n, c, rfl, hS⟩ := hw
    obtain ⟨h1, h2, _, h3, h4⟩ := h
    exact gFb R _ _ _ _ _ _ _ _ _ _ _ _ _ _ _ _ _ _ _ _ _ _ _ _ _ _ (knB_iff.2 (by unfold knK; omega)) (by omega) (fRemb R fm rt ss A n c hS h3 h1 h2 h4)
  | .other kd ct bd, w, h, hw => by
    obtain rfl := hw
    obtain ⟨_, _, _, _, _, h6, h7⟩ := h
    exact gOther R kd ct bd (by cases hk : knB kd ct; rfl; exact absurd (knB_iff.1 hk) h7)
/-- rows of records -/
def RfsV (R : List Ro) (l : List Pkt) (rows : List (List Value)) : Prop := rows.length = l.length ∧ ∀ (i : Nat) p, l[i]? = some p → ∃ row, rows[i]? = some row ∧ RefV R p (rfA row)
theorem ref_hd {R : List Ro} : ∀ {p : Pkt} {w : Value}, RefV R p w → ∃ ss to ntp t pk oc A1 n1 c1 A2 n2 c2 A3 n3 c3 tx A4 n4 c4 A5 n5 c5 rt, w = rfA (rfL (hdK p).1 (hdK p).2 ss to ntp t pk oc (.slice A1 n1 c1) (.slice A2 n2 c2) (.slice A3 n3 c3) tx (.slice A4 n4 c4) (.slice A5 n5 c5) rt)
  | .sender .., _, h => by obtain ⟨A, n, c, rfl, _⟩ := h; exact ⟨_, _, _, _, _, _, _, _, _, _, _, _, _, _, _, _, _, _, _, _, _, _, _, rfl⟩
  | .receiver .., _, h => by obtain ⟨A, n, c, rfl, _⟩ := h; exact ⟨_, _, _, _, _, _, _, _, _, _, _, _, _, _, _, _, _, _, _, _, _, _, _, rfl⟩
  | .sdes .., _, h => by obtain ⟨A, n, c, _, rfl, _⟩ := h; exact ⟨_, _, _, _, _, _, _, _, _, _, _, _, _, _, _, _, _, _, _, _, _, _, _, rfl⟩
  | .bye .., _, h => by obtain ⟨A, n, c, rfl, _⟩ := h; exact ⟨_, _, _, _, _, _, _, _, _, _, _, _, _, _, _, _, _, _, _, _, _, _, _, rfl⟩
  | .nack .., _, h => by obtain ⟨A, n, c, rfl, _⟩ := h; exact ⟨_, _, _, _, _, _, _, _, _, _, _, _, _, _, _, _, _, _, _, _, _, _, _, rfl⟩
  | .pli .., _, h => by obtain rfl := h; exact ⟨_, _, _, _, _, _, _, _, _, _, _, _, _, _, _, _, _, _, _, _, _, _, _, rfl⟩
  | .fir .., _, h => by obtain ⟨A, n, c, rfl, _⟩ := h; exact ⟨_, _, _, _, _, _, _, _, _, _, _, _, _, _, _, _, _, _, _, _, _, _, _, rfl⟩
  | .remb .., _, h => by obtain ⟨A, n, c, rfl, _⟩ := h; exact ⟨_, _, _, _, _, _, _, _, _, _, _, _, _, _, _, _, _, _, _, _, _, _, _, rfl⟩
  | .other .., _, h => by obtain rfl := h; exact ⟨_, _, _, _, _, _, _, _, _, _, _, _, _, _, _, _, _, _, _, _, _, _, _, rfl⟩
theorem txs_take {l : List Pkt} {i : Nat} {p : Pkt} (h : l[i]? = some p) : txs (l.take (i + 1)) = txs (l.take i) ++ one4 ((hdK p).1, (hdK p).2, txK p) := by
  unfold txs
  rw [List.map_take, List.map_take]
  exact all4_take (by rw [List.getElem?_map, h]; rfl)
theorem numS1 {x : Int} (h : 0 ≤ x ∧ x ≤ 255) : numS 1 x = b1 x := by
  have e : numS 1 x = b1 (x % 256) := by
    show E0 ++ b1 (x % 256) = b1 (x % 256)
    rw [E0_append]
  rw [e]; congr 1; omega
theorem one4_eq (k ct : Int) (T : ByteArray) (hk : 0 ≤ k ∧ k ≤ 255) (hc : 0 ≤ ct ∧ ct ≤ 31) : one4 (k, ct, T) = numS 1 (128 + ct % 32) ++ numS 1 k ++ numS 2 (((pad4 T).size : Int) / 4) ++ pad4 T := by
  unfold one4 hd4
  dsimp only
  rw [numS1 (by omega), numS1 hk, show (((pad4 T).size / 4 : Nat) : Int) = ((pad4 T).size : Int) / 4 by omega]
theorem txs_sz {l : List Pkt} (hz : ∀ p ∈ l, (txK p).size ≤ 20000) : (txs l).size ≤ 20007 * l.length := by
  have := all4_size (l := l.map fun p => ((hdK p).1, (hdK p).2, txK p)) (m := 20000) (fun x hx => by obtain ⟨p, hp, rfl⟩ := List.mem_map.1 hx; exact hz p hp)
  rw [List.length_map] at this
  exact this
set_option maxHeartbeats 4000000 in
theorem eText (l : List Pkt) (rows : List (List Value)) (A : Option Addr) (n c : Nat) (R : List Ro) (hS : SQ R 15 A n c rows) (hV : RfsV R l rows) (hk : ∀ p ∈ l, okK p) (hl : l.length ≤ 100) (hz : ∀ p ∈ l, (txK p).size ≤ 20000) :
    Fn Try.prog 17 #[.slice A n c] [] R (fun v L' R' => v = .string (txs l) ∧ L' = [] ∧ R' = []) := by
  have hn : n = l.length := by rw [← hS.len, hV.1]
  subst hn
  refine fn_intro Try.func17 rfl Try.ntmps17 rfl (fun E => ?_)
  (repeat (first | ((first | (apply wo_v; rfl) ); (· first | (apply pv_ev; rfl) | (apply g_bi; first | (apply pv_len_sl; rfl) ) )) | apply wo_nil | apply wc_seq | apply wc_region ))
  refine wc_block ?_
  refine wc_loop' (fun q st => ∃ (i : Nat) (S : ByteArray), q = l.length - i ∧ i ≤ l.length ∧ S = txs (l.take i) ∧ st = ⟨[(3, .string S), (7, .slice A l.length c), (8, .int .i64 l.length), (9, .int .i64 i)], [], R⟩) ⟨0, E0, rfl, Nat.zero_le _, rfl, rfl⟩ (wk_mk (by (repeat (first | apply wkf_nil | (apply wkf_cons; rfl))); done) (by (repeat (first | apply sub_nil )); done) (by first | exact fun _ h => h | (intro r hr; cases hr; done) | (simp; done) | exact fun _ h => List.mem_append_left _ h | (intro r hr; simp [hr]; done))) ?_
  rintro q st ⟨i, S, rfl, hi, hS0, rfl⟩
  by_cases hlt : i < l.length
  · obtain ⟨p, hx⟩ : ∃ x, l[i]? = some x := ⟨_, List.getElem?_eq_getElem hlt⟩
    have hpm := List.mem_of_getElem? hx
    obtain ⟨row, hr, hw⟩ := hV.2 i p hx
    have hsz : S.size ≤ 20007 * i := by
      have := txs_sz (l := l.take i) (fun x hx => hz x (List.mem_of_mem_take hx))
      rw [List.length_take, Nat.min_eq_left hi] at this
      rw [hS0]; exact this
    have hnx := txs_take hx
    rw [← hS0] at hnx
    obtain ⟨i1, i2, i3, i4, i5⟩ := hdK_in (hk p hpm)
    rw [one4_eq _ _ _ i1 ⟨i2, i3⟩] at hnx
    have qb := eBody (hk p hpm) hw
    have hzp := hz p hpm
    have hpad := pad4_size (txK p)
    have qpd := ePad (txK p) (by omega)
    obtain ⟨ss, to, ntp, t, pk, oc, A1, n1, c1, A2, n2, c2, A3, n3, c3, tx, A4, n4, c4, A5, n5, c5, rt, he⟩ := ref_hd hw
    obtain rfl : row = rfL (hdK p).1 (hdK p).2 ss to ntp t pk oc (.slice A1 n1 c1) (.slice A2 n2 c2) (.slice A3 n3 c3) tx (.slice A4 n4 c4) (.slice A5 n5 c5) rt := by
      injection he with h1
      exact congrArg Array.toList h1
    clear hw he hS0
    have i1 : 0 ≤ (hdK p).1 ∧ (hdK p).1 ≤ 255 := i1
    generalize (hdK p).1 = kd at *
    generalize (hdK p).2 = ct at *
    generalize txK p = T at *
    obtain ⟨b0, o0, rfl, hmem⟩ := hS.pos (by omega)
    (repeat (first | ((first | (apply wo_v; rfl) ); (· first | (apply pv_ev; rfl) )) | apply wo_nil | apply wc_seq | apply wc_region | apply wc_skip | (apply wc_true; rfl) | (apply wc_false; rfl) | (apply a_dec_t; rfl; (· first | assumption | omega)) ))
    refine wc_block ?_
    (repeat (first | ((first | (apply wo_v; rfl) ); (· first | (apply pv_ev; rfl) | (apply g_load; first | (apply pv_lda; rfl; (· (repeat (first | apply sel_here ))); (· (repeat (first | apply Cut.here0 | apply Cut.here )))) | (apply pv_ld_owna; rfl; (· (repeat (first | fail ))); (· assumption)) | (apply pv_ld_roa; rfl; (· (first | assumption )); (· assumption))) | (apply g_idx; first | (apply pv_idx; rfl; rfl; omega) ) )) | apply wo_nil | apply wc_seq | apply wc_region | (apply wo_alloc; rfl; intro bx) | (apply wo_sta; rfl; rfl; rfl; rfl; (· (repeat (first | apply sel_here ))); (· (repeat (first | apply LayAt.nil | apply LayAt.here ))); rfl) ))
    (refine wo_call (qb) rfl (by (repeat (first | apply sub_nil )); done) (by first | exact fun _ h => h | (intro r hr; cases hr; done) | (simp; done) | exact fun _ h => List.mem_append_left _ h | (intro r hr; simp [hr]; done)) rfl ?_; rintro v L' R' ⟨rfl, rfl, rfl⟩ H' hH RR hR; simp only [List.cons_append, List.nil_append] at hH hR; subst hH; have hR := hR.symm; subst hR)
    (repeat (first | ((first | (apply wo_v; rfl) ); (· first | (apply pv_ev; rfl) )) ))
    (refine wo_call (qpd) rfl (by (repeat (first | apply sub_nil )); done) (by first | exact fun _ h => h | (intro r hr; cases hr; done) | (simp; done) | exact fun _ h => List.mem_append_left _ h | (intro r hr; simp [hr]; done)) rfl ?_; rintro v L' R' ⟨rfl, rfl, rfl⟩ H' hH RR hR; simp only [List.cons_append, List.nil_append] at hH hR; subst hH; have hR := hR.symm; subst hR)
    (repeat (first | ((first | (apply wo_v; rfl) ); (· first | (apply pv_ev; rfl) )) | apply wo_nil ))
    generalize pad4 T = B at *
    have z1 := numS_size 1 (128 + ct % 32)
    have z2 := numS_size 1 kd
    have z3 := numS_size 2 ((B.size : Int) / 4)
    have y1 : (numS 1 (128 + ct % 32) ++ numS 1 kd).size = 2 := by rw [ByteArray.size_append, z1, z2]
    have y2 : (numS 1 (128 + ct % 32) ++ numS 1 kd ++ numS 2 ((B.size : Int) / 4)).size = 4 := by rw [ByteArray.size_append, y1, z3]
    have y3 : (numS 1 (128 + ct % 32) ++ numS 1 kd ++ numS 2 ((B.size : Int) / 4) ++ B).size = 4 + B.size := by rw [ByteArray.size_append, y2]
    (refine wc_quiet mixed (by kernel_rfl) ?_; (repeat (first | ((first | (apply hd_v; rfl) ); (· first | (apply pv_ev; rfl) | (apply pv_fld; rfl) | (apply g_load; first | (apply pv_ld; rfl; (· (repeat (first | apply sel_here ))); rfl) ) | (apply g_bin; first | (apply a_add; rfl; rfl; infer_instance; omega) | (apply pv_rem; rfl; rfl; omega) ) | (apply g_conv; first | (apply a_conv; rfl; infer_instance; infer_instance; infer_instance; omega) ) )) )))
    (refine Hd.call rfl inferInstance (Fn.mono (rNum 1 (128 + ct % 32) 1 rfl (by omega)) (fun _ _ _ h => ⟨h.1, h.2.1⟩)) rfl (by (repeat (first | apply sub_nil )); done) (by first | exact fun _ h => h | (intro r hr; cases hr; done) | (simp; done) | exact fun _ h => List.mem_append_left _ h | (intro r hr; simp [hr]; done)) rfl ?_; (repeat (first | ((first | (apply hd_v; rfl) ); (· first | (apply pv_ev; rfl) | (apply pv_fld; rfl) | (apply g_load; first | (apply pv_ld; rfl; (· (repeat (first | apply sel_here ))); rfl) ) | (apply g_conv; first | (apply a_conv; rfl; infer_instance; infer_instance; infer_instance; omega) ) )) )))
    (refine Hd.call rfl inferInstance (Fn.mono (rNum 1 kd 1 rfl (by omega)) (fun _ _ _ h => ⟨h.1, h.2.1⟩)) rfl (by (repeat (first | apply sub_nil )); done) (by first | exact fun _ h => h | (intro r hr; cases hr; done) | (simp; done) | exact fun _ h => List.mem_append_left _ h | (intro r hr; simp [hr]; done)) rfl ?_; (repeat (first | ((first | (apply hd_v; rfl) ); (· first | (apply pv_ev; rfl) | (apply g_bin; first | (apply a_add; rfl; rfl; infer_instance; omega) | (apply a_quo; rfl; rfl; infer_instance; omega) | (apply pv_add_s; rfl; rfl; omega) ) | (apply g_bi; first | (apply pv_len_str; rfl) ) | (apply g_conv; first | (apply a_conv; rfl; infer_instance; infer_instance; infer_instance; omega) ) )) )))
    (refine Hd.call rfl inferInstance (Fn.mono (rNum 2 ((B.size : Int) / 4) 2 rfl (by omega)) (fun _ _ _ h => ⟨h.1, h.2.1⟩)) rfl (by (repeat (first | apply sub_nil )); done) (by first | exact fun _ h => h | (intro r hr; cases hr; done) | (simp; done) | exact fun _ h => List.mem_append_left _ h | (intro r hr; simp [hr]; done)) rfl ?_; (repeat (first | ((first | (apply wo_v; rfl) | (apply hd_v; rfl) ); (· first | (apply pv_ev; rfl) | (apply g_bin; first | (apply a_add; rfl; rfl; infer_instance; omega) | (apply pv_add_s; rfl; rfl; omega) ) )) | apply wo_nil | apply Hd.nil | apply wc_region )))
    (repeat (first | fail ))
    exact loop_end ⟨i + 1, _, rfl, by omega, hnx.symm, rfl⟩ (by omega) (wk_mk (by (repeat (first | apply wkf_nil | (apply wkf_cons; rfl))); done) (by (repeat (first | apply sub_nil )); done) (by first | exact fun _ h => h | (intro r hr; cases hr; done) | (simp; done) | exact fun _ h => List.mem_append_left _ h | (intro r hr; simp [hr]; done)))
  · have e : i = l.length := by omega
    subst e
    rw [List.take_length] at hS0
    subst hS0
    (repeat (first | ((first | (apply wo_v; rfl) ); (· first | (apply pv_ev; rfl) )) | apply wo_nil | apply wc_seq | apply wc_region | (apply wc_exit; rfl) | apply wc_ret | (apply wc_true; rfl) | (apply wc_false; rfl) | (apply a_dec_t; rfl; (· first | assumption | omega)) | (apply a_dec_f; rfl; (· first | assumption | omega)) ))
    exact retv rfl (by (repeat (first | apply RV.nil | (apply RV.tmp; rfl) )); done) (⟨rfl, rfl, rfl⟩) (by (repeat (first | apply sub_nil )); done) (by first | exact fun _ h => h | (intro r hr; cases hr; done) | (simp; done) | exact fun _ h => List.mem_append_left _ h | (intro r hr; simp [hr]; done))
end Go.Proofs.Yteaccbbmphcmnaa

/-
  Arguments that hold slices in structures, structures by value, slices of slices: what stands in the memory at the call. No program in sight.
-/
namespace Go.Proofs.Yteaccbbmphcmnaa
set_option linter.unusedSimpArgs false
set_option linter.unusedVariables false
open Go.ChangeShapes Go.WideShapes Go.ChangeAt Go.RowKit Go.Deep

inductive Fd1 where
  | one (k : TypeDesc)
  | sl (ks : List TypeDesc)
def FV1 (R : List Ro) : Fd1 → Value → Prop
  | .one k, v => FKok k v
  | .sl ks, v => ∃ (A : Option Addr) (n c : Nat) (V : Nat → Nat → Value), v = .slice A n c ∧ n ≤ c ∧ c ≤ maxLen ∧ (∀ i j k, i < n → ks[j]? = some k → FKok k (V i j)) ∧ (0 < n → ∃ b o, A = some ⟨b, o, none⟩ ∧ ⟨b, o, ks.length, rowsOf ks V n⟩ ∈ R)
def FV1s (R : List Ro) (fs : List Fd1) (row : List Value) : Prop := row.length = fs.length ∧ ∀ (j : Nat) f, fs[j]? = some f → ∃ v, row[j]? = some v ∧ FV1 R f v
theorem FV1.mono {R R' : List Ro} (h : ∀ r ∈ R, r ∈ R') {f : Fd1} {v : Value} (hv : FV1 R f v) : FV1 R' f v := by
  cases f with
  | one k => exact hv
  | sl ks =>
    obtain ⟨A, n, c, V, h1, h2, h3, h4, h5⟩ := hv
    exact ⟨A, n, c, V, h1, h2, h3, h4, fun hn => by obtain ⟨b, o, h6, h7⟩ := h5 hn; exact ⟨b, o, h6, h _ h7⟩⟩
theorem FV1s.mono {R R' : List Ro} (h : ∀ r ∈ R, r ∈ R') {fs : List Fd1} {row : List Value} (hv : FV1s R fs row) : FV1s R' fs row :=
  ⟨hv.1, fun j f hf => by obtain ⟨v, h1, h2⟩ := hv.2 j f hf; exact ⟨v, h1, h2.mono h⟩⟩
theorem FV1.one_ {R : List Ro} {f : Fd1} {v : Value} (h : FV1 R f v) : v.oneCell' = true := by
  cases f with
  | one k => exact fk_one h
  | sl ks => obtain ⟨A, n, c, V, rfl, _⟩ := h; rfl
def kindB (P : Program) (t : TypeId) (k : TypeDesc) : Bool := match P.underlying t, k with
  | some .bool, .bool => true
  | some .string, .string => true
  | some (.int q), .int q' => decide (q = q')
  | _, _ => false
theorem kindB_spec {P : Program} {t : TypeId} {k : TypeDesc} (h : kindB P t k = true) : P.underlying t = some k ∧ plainKinds [k] = true := by
  unfold kindB at h
  split at h <;> first | (rename_i h1; exact ⟨h1, rfl⟩) | (rename_i h1; have := of_decide_eq_true h; subst this; exact ⟨h1, rfl⟩) | cases h
def kindsB (P : Program) : List TypeId → List TypeDesc → Bool
  | [], [] => true
  | t :: ts, k :: ks => kindB P t k && kindsB P ts ks
  | _, _ => false
theorem kindsB_spec {P : Program} : ∀ {ts : List TypeId} {ks : List TypeDesc}, kindsB P ts ks = true → ts.map P.underlying = ks.map some ∧ plainKinds ks = true
  | [], [], _ => ⟨rfl, rfl⟩
  | t :: ts, k :: ks, h => by
    simp only [kindsB, Bool.and_eq_true] at h
    obtain ⟨h1, h2⟩ := kindB_spec h.1
    obtain ⟨h3, h4⟩ := kindsB_spec h.2
    refine ⟨by simp [h1, h3], ?_⟩
    simp only [plainKinds, List.all_cons, List.all_nil, Bool.and_true] at h2 h4 ⊢
    rw [h2, h4]; rfl
  | [], _ :: _, h => by cases h
  | _ :: _, [], h => by cases h
def fit1B (P : Program) (t : TypeId) : Fd1 → Bool
  | .one k => kindB P t k
  | .sl ks => match P.underlying t with
    | some (.slice e) => match P.underlying e with
      | some (.struct fs) => oneCellFields P fs && (P.cellsOf e == fs.size) && kindsB P (fs.toList.map (·.type)) ks && !ks.isEmpty
      | _ => (match ks with
        | [k] => kindB P e k && P.cellsOf e == 1
        | _ => false)
    | _ => false
def fit1sB (P : Program) : List TypeId → List Fd1 → Bool
  | [], [] => true
  | t :: ts, f :: fs => fit1B P t f && fit1sB P ts fs
  | _, _ => false
theorem fit1sB_at {P : Program} : ∀ {ts : List TypeId} {fs : List Fd1}, fit1sB P ts fs = true → ts.length = fs.length ∧ ∀ (j : Nat) f, fs[j]? = some f → ∃ t, ts[j]? = some t ∧ fit1B P t f = true
  | [], [], _ => ⟨rfl, fun j f h => by simp at h⟩
  | t :: ts, f :: fs, h => by
    simp only [fit1sB, Bool.and_eq_true] at h
    obtain ⟨h1, h2⟩ := fit1sB_at h.2
    refine ⟨by simp [h1], fun j g hg => ?_⟩
    cases j with
    | zero => simp at hg; subst hg; exact ⟨t, rfl, h.1⟩
    | succ j => simpa using h2 j g (by simpa using hg)
  | [], _ :: _, h => by cases h
  | _ :: _, [], h => by cases h
section
variable {H : Type} {enc : TypeId × Value → H} {P : Program} {W : World} {t e : TypeId} {a : Option Addr} {len cap : Nat} {d : DataW H} {p : List MemPlace}
theorem fv1_of {f : Fd1} {v : Value} {n : Nat} {y : DataW H × List MemPlace} (hf : fit1B P t f = true) (h : DataW.trod enc P W 0 (fun _ => true) true n t [v] = some y) : ∃ R : List Ro, (∀ r ∈ R, r.sat W) ∧ FV1 R f v := by
  cases f with
  | one k =>
    obtain ⟨h1, h2⟩ := kindB_spec hf
    exact ⟨[], (by intro r hr; cases hr), fk_of h1 (plain_of h2 (j := 0) rfl) h⟩
  | sl ks =>
    simp only [fit1B] at hf
    split at hf
    · rename_i e he
      obtain ⟨A, ln, cp, rfl⟩ : ∃ A ln cp, v = .slice A ln cp := by
        rcases open_slice he h with ⟨hcs, _⟩ | ⟨x, l, c, m, n, D, Pl, hcs, _⟩
        · simp at hcs; exact ⟨_, _, _, hcs⟩
        · simp at hcs; exact ⟨_, _, _, hcs⟩
      have hT : DataW.Trod enc P W 0 (fun _ => true) true t (.slice A ln cp) y.1 y.2 := ⟨n, h⟩
      have key : ∃ V, Rws ks W A ln cp V := by
        split at hf
        · rename_i fs hfs
          simp only [Bool.and_eq_true, beq_iff_eq, Bool.not_eq_true'] at hf
          obtain ⟨⟨⟨h1, h2⟩, h3⟩, h4⟩ := hf
          obtain ⟨h5, h6⟩ := kindsB_spec h3
          exact open_rws_struct he hfs h1 h2 ⟨by rw [← h5, List.map_map]; rfl, h6, by cases ks with | nil => simp at h4 | cons => simp⟩ hT
        · split at hf
          · rename_i k
            simp only [Bool.and_eq_true, beq_iff_eq] at hf
            exact open_rws_one he (kindB_spec hf.1) hf.2 hT
          · cases hf
      obtain ⟨V, hV⟩ := key
      have hk0 : 0 < ks.length := by
        cases ks with
        | cons => simp
        | nil =>
          split at hf
          · simp at hf
          · cases hf
      obtain ⟨R, h1, h2⟩ := rws_ro hV hk0
      exact ⟨R, h1, A, ln, cp, V, rfl, hV.1, hV.2.1, hV.2.2.2, h2⟩
    · cases hf
theorem fv1s_of {fs : List Fd1} {ts : List TypeId} {row : List Value} (hfit : fit1sB P ts fs = true) (hl : row.length = ts.length)
    (h : ∀ (j : Nat) t v, ts[j]? = some t → row[j]? = some v → ∃ n y, DataW.trod enc P W 0 (fun _ => true) true n t [v] = some y) : ∃ R : List Ro, (∀ r ∈ R, r.sat W) ∧ FV1s R fs row := by
  induction fs generalizing ts row with
  | nil =>
    cases ts with
    | nil => exact ⟨[], (by intro r hr; cases hr), by simpa using hl, fun j f hf => by simp at hf⟩
    | cons => cases hfit
  | cons f fs ih =>
    cases ts with
    | nil => cases hfit
    | cons t ts =>
      cases row with
      | nil => simp at hl
      | cons v row =>
        simp only [fit1sB, Bool.and_eq_true] at hfit
        obtain ⟨n, y, h0⟩ := h 0 t v rfl rfl
        obtain ⟨R1, g1, g2⟩ := fv1_of hfit.1 h0
        obtain ⟨R2, k1, k2, k3⟩ := ih hfit.2 (by simpa using hl) (fun j t v ht hv => h (j + 1) t v (by simpa using ht) (by simpa using hv))
        refine ⟨R1 ++ R2, fun r hr => ?_, by simp [k2], fun j g hg => ?_⟩
        · rcases List.mem_append.1 hr with hr | hr
          · exact g1 r hr
          · exact k1 r hr
        · cases j with
          | zero => simp at hg; subst hg; exact ⟨v, rfl, g2.mono fun r hr => List.mem_append_left _ hr⟩
          | succ j =>
            obtain ⟨u, h1, h2⟩ := k3 j g (by simpa using hg)
            exact ⟨u, by simpa using h1, h2.mono fun r hr => List.mem_append_right _ hr⟩
/-- a structure by value -/
theorem open_agg_deep {r : Reach} {b0 : Nat} {fs : Array Field} {Fs : List Fd1} {v : Value} (hs : P.underlying t = some (.struct fs)) (hone : oneCellFields P fs = true) (hC : P.cellsOf t = fs.size) (hfit : fit1sB P (fs.toList.map (·.type)) Fs = true)
    (hv : Value.okWide P W r b0 t v) (h : DataW.Trod enc P W 0 (fun _ => true) true t v d p) : ∃ (row : List Value) (R : List Ro), v = .agg row.toArray ∧ (∀ r ∈ R, r.sat W) ∧ FV1s R Fs row := by
  obtain ⟨cs, rfl, hsz⟩ := okWide_struct hs hv
  obtain ⟨fuel, hf⟩ := h
  obtain ⟨xs, n, _, _, hlen, hxl, hff⟩ := DataW.trod_struct hs hf
  have hcs : cs.toList.length = fs.size := by simp [hsz, hC]
  obtain ⟨R, h1, h2⟩ := fv1s_of (enc := enc) (W := W) (row := cs.toList) hfit (by simp [hsz, hC]) (fun j t' v ht hv => by
    have hj : j < fs.size := by have := (List.getElem?_eq_some_iff.1 hv).1; omega
    have hfj : fs[j]? = some fs[j] := Array.getElem?_eq_getElem hj
    obtain ⟨ho, hkc⟩ := hone_of hone j _ hfj
    have h3 := hff j _ hfj
    rw [ho, hkc] at h3
    have hd1 : ((Value.agg cs).cells.toList.drop j).take 1 = [v] := by
      have e : (Value.agg cs).cells.toList = cs.toList := rfl
      rw [e, List.drop_eq_getElem_cons (by omega)]
      have := (List.getElem?_eq_some_iff.1 hv).2
      simp [this]
    rw [hd1] at h3
    have ht2 : t' = fs[j].type := by simp [hfj] at ht; exact ht.symm
    subst ht2
    exact ⟨n, xs[j]'(by omega), h3.trans (List.getElem?_eq_getElem _)⟩)
  exact ⟨cs.toList, R, by simp, h1, h2⟩
theorem comb {Fs : List Fd1} {x : Addr} {sz : Nat} (hz : sz = Fs.length) (h0 : 0 < sz)
    (h : ∀ i, i < len → ∃ (row : List Value) (R : List Ro), (∀ r ∈ R, r.sat W) ∧ FV1s R Fs row ∧ ∀ j, j < sz → W.cell? (x.add (i * sz + j)) = row[j]?) :
    ∃ (rows : List (List Value)) (R : List Ro), (∀ r ∈ R, r.sat W) ∧ rows.length = len ∧ (∀ row ∈ rows, FV1s R Fs row) ∧ (0 < len → ∃ b o, (some x : Option Addr) = some ⟨b, o, none⟩ ∧ ⟨b, o, sz, rows⟩ ∈ R) := by
  classical
  let rowf (i : Nat) : List Value := if hi : i < len then Classical.choose (h i hi) else []
  let Rf (i : Nat) : List Ro := if hi : i < len then Classical.choose (Classical.choose_spec (h i hi)) else []
  have hspec : ∀ i, i < len → (∀ r ∈ Rf i, r.sat W) ∧ FV1s (Rf i) Fs (rowf i) ∧ ∀ j, j < sz → W.cell? (x.add (i * sz + j)) = (rowf i)[j]? := fun i hi => by
    have := Classical.choose_spec (Classical.choose_spec (h i hi))
    simp only [rowf, Rf, dif_pos hi]
    exact this
  let rows := (List.range len).map rowf
  let R0 := (List.range len).flatMap Rf
  have hR0 : ∀ r ∈ R0, r.sat W := fun r hr => by
    obtain ⟨i, hi, hr⟩ := List.mem_flatMap.1 hr
    exact (hspec i (List.mem_range.1 hi)).1 r hr
  have hrows : ∀ row ∈ rows, FV1s R0 Fs row := fun row hrow => by
    obtain ⟨i, hi, rfl⟩ := List.mem_map.1 hrow
    exact (hspec i (List.mem_range.1 hi)).2.1.mono fun r hr => List.mem_flatMap.2 ⟨i, hi, hr⟩
  rcases Nat.eq_zero_or_pos len with hl | hl
  · exact ⟨rows, R0, hR0, by simp [rows], hrows, fun h => by omega⟩
  · have hrl : ∀ i, i < len → (rowf i).length = sz := fun i hi => (hspec i hi).2.1.1.trans hz.symm
    have h00 : W.cell? (x.add (0 * sz + 0)) = some ((rowf 0)[0]'(by rw [hrl 0 hl]; exact h0)) := by
      rw [(hspec 0 hl).2.2 0 h0]; exact List.getElem?_eq_getElem _
    have hs : x.spot = none := World.cell?_spot (by simpa [Addr.add] using h00)
    obtain ⟨b, o, s⟩ := x
    simp only at hs
    subst hs
    have hadd : ∀ k, (⟨b, o, none⟩ : Addr).add k = ⟨b, o + k, none⟩ := fun k => by
      unfold Addr.add; split
      · rename_i h; simp [h]
      · rfl
    simp only [hadd] at hspec h00
    obtain ⟨cur, tt, fz, hb, _⟩ := block_of_cell h00
    have hok : RowsOk sz rows := fun row hrow => by
      obtain ⟨i, hi, rfl⟩ := List.mem_map.1 hrow
      have hi := List.mem_range.1 hi
      refine ⟨hrl i hi, fun u hu => ?_⟩
      obtain ⟨j, hj⟩ := List.mem_iff_getElem?.1 hu
      have hjl : j < Fs.length := by have := (List.getElem?_eq_some_iff.1 hj).1; rw [hrl i hi, hz] at this; exact this
      obtain ⟨v, h1, h2⟩ := (hspec i hi).2.1.2 j Fs[j] (List.getElem?_eq_getElem hjl)
      rw [hj] at h1
      obtain rfl := Option.some.inj h1
      exact h2.one_
    have hseg : Ro.sat W ⟨b, o, sz, rows⟩ := by
      refine ⟨hok, cur, tt, fz, hb, (seg_iff hok.lens).2 ?_⟩
      intro i row hi j u hj
      have hil : i < len := by have := (List.getElem?_eq_some_iff.1 hi).1; simpa [rows] using this
      have e : row = rowf i := by simp [rows, hil] at hi; exact hi.symm
      subst e
      have hjl : j < sz := by have := (List.getElem?_eq_some_iff.1 hj).1; rw [hrl i hil] at this; exact this
      have := (hspec i hil).2.2 j hjl
      rw [hj] at this
      unfold World.cell? at this
      rw [hb] at this
      simpa using this
    refine ⟨rows, ⟨b, o, sz, rows⟩ :: R0, fun r hr => ?_, by simp [rows], fun row hrow => (hrows row hrow).mono fun r hr => .tail _ hr, fun _ => ⟨b, o, rfl, .head _⟩⟩
    rcases List.mem_cons.1 hr with rfl | hr
    · exact hseg
    · exact hR0 r hr
/-- what a slice with such rows is -/
def Deep (R : List Ro) (Fs : List Fd1) (A : Option Addr) (n c : Nat) (rows : List (List Value)) : Prop :=
  n ≤ c ∧ c ≤ maxLen ∧ rows.length = n ∧ (∀ row ∈ rows, FV1s R Fs row) ∧ (0 < n → ∃ b o, A = some ⟨b, o, none⟩ ∧ ⟨b, o, Fs.length, rows⟩ ∈ R)
/-- a slice of structures -/
theorem open_sl_deep {fs : Array Field} {Fs : List Fd1} (ht : P.underlying t = some (.slice e)) (he : P.underlying e = some (.struct fs)) (hone : oneCellFields P fs = true) (hC : P.cellsOf e = fs.size) (hfit : fit1sB P (fs.toList.map (·.type)) Fs = true) (h0 : 0 < Fs.length)
    (h : DataW.Trod enc P W 0 (fun _ => true) true t (.slice a len cap) d p) : ∃ (rows : List (List Value)) (R : List Ro), (∀ r ∈ R, r.sat W) ∧ Deep R Fs a len cap rows := by
  have hsz : fs.size = Fs.length := by simpa using (fit1sB_at hfit).1
  obtain ⟨fuel, hf⟩ := h
  rcases open_slice ht hf with ⟨hcs, _⟩ | ⟨x, l, c, m, n, D, Pl, hcs, _, hl, hm, hmm, _, hi⟩
  · simp [Value.cells] at hcs
    obtain ⟨rfl, rfl, rfl⟩ := hcs
    exact ⟨[], [], (by intro r hr; cases hr), Nat.le_refl _, by simp [maxLen], rfl, (by intro row hr; cases hr), fun h => by omega⟩
  · simp [Value.cells] at hcs
    obtain ⟨rfl, rfl, rfl⟩ := hcs
    obtain ⟨rows, R, h1, h2, h3, h4⟩ := comb (W := W) (len := len) (x := x) (sz := Fs.length) rfl h0 (fun i hil => by
      obtain ⟨cs', hc, ht'⟩ := hi i (by simp at hmm; omega)
      obtain ⟨ys, n', _, _, hlen, hyl, hff⟩ := DataW.trod_struct he ht'
      obtain ⟨_, hcl, hat⟩ := World.cells?_some hc
      rw [hC, hsz] at hcl hat
      obtain ⟨R, h1, h2⟩ := fv1s_of (enc := enc) (W := W) (row := cs') hfit (by simp [hcl, hsz]) (fun j t' v ht hv => by
        have hj : j < fs.size := by have := (List.getElem?_eq_some_iff.1 hv).1; omega
        have hfj : fs[j]? = some fs[j] := Array.getElem?_eq_getElem hj
        obtain ⟨ho, hkc⟩ := hone_of hone j _ hfj
        have h3 := hff j _ hfj
        rw [ho, hkc] at h3
        have hd1 : (cs'.drop j).take 1 = [v] := by
          rw [List.drop_eq_getElem_cons (by omega)]
          have := (List.getElem?_eq_some_iff.1 hv).2
          simp [this]
        rw [hd1] at h3
        have ht2 : t' = fs[j].type := by simp [hfj] at ht; exact ht.symm
        subst ht2
        exact ⟨n', ys[j]'(by omega), h3.trans (List.getElem?_eq_getElem _)⟩)
      refine ⟨cs', R, h1, h2, fun j hj => ?_⟩
      have hadd : x.add (i * Fs.length + j) = (x.add (i * Fs.length)).add j := by rw [Go.Deep.add_add]
      rw [hadd]; exact hat j hj)
    exact ⟨rows, R, h1, hl, hm, h2, h3, h4⟩
/-- a slice of slices -/
theorem open_sls_deep {f : Fd1} (ht : P.underlying t = some (.slice e)) (hC : P.cellsOf e = 1) (hfit : fit1B P e f = true)
    (h : DataW.Trod enc P W 0 (fun _ => true) true t (.slice a len cap) d p) : ∃ (rows : List (List Value)) (R : List Ro), (∀ r ∈ R, r.sat W) ∧ Deep R [f] a len cap rows := by
  obtain ⟨fuel, hf⟩ := h
  rcases open_slice1 ht hC hf with ⟨hcs, _⟩ | ⟨x, l, c, m, n, V, D, Pl, hcs, _, hl, hm, hmm, _, hi⟩
  · simp [Value.cells] at hcs
    obtain ⟨rfl, rfl, rfl⟩ := hcs
    exact ⟨[], [], (by intro r hr; cases hr), Nat.le_refl _, by simp [maxLen], rfl, (by intro row hr; cases hr), fun h => by omega⟩
  · simp [Value.cells] at hcs
    obtain ⟨rfl, rfl, rfl⟩ := hcs
    obtain ⟨rows, R, h1, h2, h3, h4⟩ := comb (W := W) (len := len) (x := x) (Fs := [f]) (sz := 1) rfl (by omega) (fun i hil => by
      obtain ⟨h1, h2⟩ := hi i (by simp at hmm; omega)
      obtain ⟨R, h3, h4⟩ := fv1_of hfit h2
      refine ⟨[V i], R, h3, ⟨rfl, fun j g hg => ?_⟩, fun j hj => ?_⟩
      · cases j with
        | zero => simp at hg; subst hg; exact ⟨V i, rfl, h4⟩
        | succ j => simp at hg
      · have : j = 0 := by omega
        subst this
        simpa using h1)
    exact ⟨rows, R, h1, hl, hm, h2, h3, h4⟩
end
end Go.Proofs.Yteaccbbmphcmnaa

/-
  Layer 5, plain: a beginning of a packet's bytes; what comes as an argument.
-/
namespace Go.Proofs.Yteaccbbmphcmnaa
set_option linter.unusedSimpArgs false
set_option linter.unusedVariables false
open Go.ChangeShapes Go.WideShapes Go.ChangeAt Go.RowKit Go.Deep
set_option maxRecDepth 100000
attribute [local irreducible] ByteArray.extract

theorem ext_app (a b : ByteArray) (k : Nat) : (a ++ b).extract 0 (a.size + k) = a ++ b.extract 0 k := by
  rw [ByteArray.extract_append]
  congr 1
  · apply ByteArray.ext
    rw [ByteArray.data_extract]
    apply Array.ext
    · simp
    · intro i h1 h2
      simp
  · rw [show 0 - a.size = 0 by omega, show a.size + k - a.size = k by omega]
theorem uK_keep {r : Rs} (k : Int) (h : r.2 ≠ 0) : (uK k r).2 = r := by
  obtain ⟨s, e⟩ := r
  show (rdB s e k).2 = _
  unfold rdB
  rw [if_pos h]
theorem rdB_keep {r : Rs} (k : Int) (h : r.2 ≠ 0) : (rdB r.1 r.2 k).2 = r := uK_keep k h
theorem rdB_short {s : ByteArray} {n : Int} (h0 : 0 ≤ n) (h : (s.size : Int) < n) : (rdB s 0 n).2 = (E0, 1) := by
  unfold rdB
  rw [if_neg (by simp), if_neg (by omega), if_pos h]
theorem bdM_err {r : Rs} (pa : Bool) (h : r.2 = 1) : (bdM r pa).2.2 = 1 := by
  unfold bdM
  have h1 : (uK 2 r).2 = r := uK_keep 2 (by omega)
  rw [h1]
  have h2 : (rdB r.1 r.2 (4 * (uK 2 r).1)).2 = r := rdB_keep _ (by omega)
  unfold bdE
  rw [h2, if_pos (.inr (by omega))]
  exact h
theorem stB_err {k ct : Int} {b : ByteArray} {r : Rs} (h : r.2 = 1) : (stB k ct b r).2.2 = 1 := by
  unfold stB
  rw [if_pos (by omega)]
  exact h
theorem hdM_keep {a k : Int} {r : Rs} (h : r.2 ≠ 0) : hdM a k r = r := by
  unfold hdM
  rw [if_neg (fun h2 => h h2.1)]
/-- a beginning of a packet -/
theorem stM_cut {kd ct : Int} {tx : ByteArray} (hk : 192 ≤ kd ∧ kd ≤ 223) (hc : 0 ≤ ct ∧ ct ≤ 255) (hz : (pad4 tx).size / 4 ≤ 65535) {n : Nat} (hn : 1 ≤ n ∧ n < (one4 (kd, ct, tx)).size) : (stM ((one4 (kd, ct, tx)).extract 0 n, 0)).2.2 = 1 := by
  have e1 : one4 (kd, ct, tx) = b1 (128 + ct % 32) ++ (b1 kd ++ (numS 2 ((pad4 tx).size / 4 : Nat) ++ pad4 tx)) := by
    unfold one4 hd4
    simp only [ByteArray.append_assoc]
  rw [one4_size] at hn
  dsimp only at hn
  have hm := pad4_mod tx
  have hct : in8 (128 + ct % 32) := ⟨by omega, by omega⟩
  have hkd : in8 kd := ⟨by omega, by omega⟩
  rw [e1]
  have x1 : (b1 (128 + ct % 32) ++ (b1 kd ++ (numS 2 ((pad4 tx).size / 4 : Nat) ++ pad4 tx))).extract 0 n = b1 (128 + ct % 32) ++ (b1 kd ++ (numS 2 ((pad4 tx).size / 4 : Nat) ++ pad4 tx)).extract 0 (n - 1) := by
    have := ext_app (b1 (128 + ct % 32)) (b1 kd ++ (numS 2 ((pad4 tx).size / 4 : Nat) ++ pad4 tx)) (n - 1)
    rwa [b1_size, show 1 + (n - 1) = n by omega] at this
  rw [x1]
  unfold stM
  rw [uK1_f hct]
  dsimp only
  rcases Nat.lt_or_ge 1 n with h2 | h2
  · have x2 : (b1 kd ++ (numS 2 ((pad4 tx).size / 4 : Nat) ++ pad4 tx)).extract 0 (n - 1) = b1 kd ++ (numS 2 ((pad4 tx).size / 4 : Nat) ++ pad4 tx).extract 0 (n - 2) := by
      have := ext_app (b1 kd) (numS 2 ((pad4 tx).size / 4 : Nat) ++ pad4 tx) (n - 2)
      rwa [b1_size, show 1 + (n - 2) = n - 1 by omega] at this
    rw [x2, uK1_f hkd]
    dsimp only
    have e2 : ∀ z, hdM (128 + ct % 32) kd (z, 0) = (z, 0) := fun z => by
      unfold hdM
      rw [if_neg (by dsimp only; omega)]
    rw [e2]
    refine stB_err ?_
    have zs : (numS 2 ((pad4 tx).size / 4 : Nat) ++ pad4 tx).size = 2 + (pad4 tx).size := by rw [ByteArray.size_append, numS_size]
    rcases Nat.lt_or_ge n 4 with h4 | h4
    · have hsz : ((numS 2 ((pad4 tx).size / 4 : Nat) ++ pad4 tx).extract 0 (n - 2)).size = n - 2 := by simp only [ByteArray.size_extract]; omega
      generalize (numS 2 ((pad4 tx).size / 4 : Nat) ++ pad4 tx).extract 0 (n - 2) = w at *
      unfold bdM
      have h5 : (uK 2 (w, 0)).2 = (E0, 1) := rdB_short (by omega) (by show (w.size : Int) < 2; omega)
      rw [h5]
      have h6 : (rdB E0 1 (4 * (uK 2 (w, 0)).1)).2 = (E0, 1) := rdB_keep (r := (E0, 1)) _ (by simp)
      unfold bdE
      rw [h6, if_pos (.inr (by simp))]
    · have x3 : (numS 2 ((pad4 tx).size / 4 : Nat) ++ pad4 tx).extract 0 (n - 2) = numS 2 ((pad4 tx).size / 4 : Nat) ++ (pad4 tx).extract 0 (n - 4) := by
        have := ext_app (numS 2 ((pad4 tx).size / 4 : Nat)) (pad4 tx) (n - 4)
        rwa [numS_size, show 2 + (n - 4) = n - 2 by omega] at this
      have hsz : ((pad4 tx).extract 0 (n - 4)).size = n - 4 := by simp only [ByteArray.size_extract]; omega
      rw [x3]
      generalize (pad4 tx).extract 0 (n - 4) = w at *
      unfold bdM
      rw [uK2_f ⟨by omega, by omega⟩]
      dsimp only
      have h6 : (rdB w 0 (4 * ((pad4 tx).size / 4 : Nat))).2 = (E0, 1) := rdB_short (by omega) (by omega)
      unfold bdE
      rw [h6, if_pos (.inr (by simp))]
  · obtain rfl : n = 1 := by omega
    have e0 : (b1 kd ++ (numS 2 ((pad4 tx).size / 4 : Nat) ++ pad4 tx)).extract 0 (1 - 1) = E0 := size_zero (by simp only [ByteArray.size_extract]; omega)
    rw [e0]
    have h5 : (uK 1 (E0, 0)).2 = (E0, 1) := rdB_short (by omega) (by decide)
    rw [h5, hdM_keep (by simp)]
    exact stB_err (bdM_err _ rfl)
theorem pk_cut5 {p : Pkt} (h : okK p) (hs : (txs [p]).size ≤ 1500) {n : Nat} (hn : 1 ≤ n ∧ n < (txs [p]).size) : pkM ((txs [p]).extract 0 n) = ([], 1) := by
  have e : txs [p] = one4 ((hdK p).1, (hdK p).2, txK p) := append_E0 _
  rw [e] at hs hn ⊢
  obtain ⟨h1, h2, h3, h4, h5⟩ := hdK_in h
  have hp := pad4_id (txK_mod h)
  have hz : (pad4 (txK p)).size / 4 ≤ 65535 := by rw [one4_size] at hs; dsimp only at hs; omega
  have hc := stM_cut (kd := (hdK p).1) (ct := (hdK p).2) (tx := txK p) ⟨h4, h5⟩ ⟨h2, by omega⟩ hz hn
  have hsz : ((one4 ((hdK p).1, (hdK p).2, txK p)).extract 0 n).size = n := by simp only [ByteArray.size_extract]; omega
  generalize (one4 ((hdK p).1, (hdK p).2, txK p)).extract 0 n = z at *
  unfold pkM
  rw [if_neg (by omega)]
  have h6 : paM (z.size + 1) true (z, 0) = ([], 1) := by
    rw [paM, if_neg (by dsimp only; omega), if_pos (by rw [hc]; decide), hc]
  rw [h6, if_pos (by decide)]
abbrev mdFd : List Fd1 := [.one (.int .i64), .one (.int .u32), .one (.int .u32), .one (.int .u64), .sl [.int .u32], .sl [.string], .one (.int .u8), .one (.int .u8), .one (.int .u8)]
theorem nums_of {R : List Ro} {v : Value} (h : FV1 R (.sl [.int .u32]) v) : ∃ A n c l, v = .slice A n c ∧ n ≤ c ∧ c ≤ maxLen ∧ SQ R 1 A n c (c32 l) ∧ ∀ x ∈ l, in32 x := by
  obtain ⟨A, n, c, V, rfl, h1, h2, h3, h4⟩ := h
  refine ⟨A, n, c, (List.range n).map fun i => match V i 0 with | .int _ z => z | _ => 0, rfl, h1, h2, ⟨by simp [c32], fun hn => ?_⟩, fun x hx => ?_⟩
  · obtain ⟨b, o, hA, hm⟩ := h4 hn
    refine ⟨b, o, hA, ?_⟩
    have e : rowsOf [.int .u32] V n = c32 ((List.range n).map fun i => match V i 0 with | .int _ z => z | _ => 0) := by
      unfold rowsOf c32
      rw [List.map_map]
      refine List.map_congr_left fun i hi => ?_
      obtain ⟨z0, hz0, _⟩ := h3 i 0 _ (List.mem_range.1 hi) rfl
      simp [hz0]
    rw [← e]; exact hm
  · obtain ⟨i, hi, rfl⟩ := List.mem_map.1 hx
    obtain ⟨z0, hz0, hw⟩ := h3 i 0 _ (List.mem_range.1 hi) rfl
    simp only [hz0]; exact bd_u32 hw
theorem strs_of {R : List Ro} {v : Value} (h : FV1 R (.sl [.string]) v) : ∃ A n c l, v = .slice A n c ∧ n ≤ c ∧ c ≤ maxLen ∧ SQ R 1 A n c (cST l) := by
  obtain ⟨A, n, c, V, rfl, h1, h2, h3, h4⟩ := h
  refine ⟨A, n, c, (List.range n).map fun i => match V i 0 with | .string s => s | _ => E0, rfl, h1, h2, ⟨by simp [cST], fun hn => ?_⟩⟩
  obtain ⟨b, o, hA, hm⟩ := h4 hn
  refine ⟨b, o, hA, ?_⟩
  have e : rowsOf [.string] V n = cST ((List.range n).map fun i => match V i 0 with | .string s => s | _ => E0) := by
    unfold rowsOf cST
    rw [List.map_map]
    refine List.map_congr_left fun i hi => ?_
    obtain ⟨s0, hs0, _⟩ := h3 i 0 _ (List.mem_range.1 hi) rfl
    simp [hs0]
  rw [← e]; exact hm
theorem row_md {R : List Ro} {row : List Value} (h : FV1s R mdFd row) : ∃ (m : Md) (A : Option Addr) (n c : Nat) (A2 : Option Addr) (n2 c2 : Nat), row = mdL m.so m.a m.b m.wide (.slice A n c) (.slice A2 n2 c2) m.sm m.ct m.kd ∧ m.ok ∧ SQ R 1 A n c (c32 m.nums) ∧ n ≤ c ∧ SQ R 1 A2 n2 c2 (cST m.tx) := by
  obtain ⟨hl, h⟩ := h
  obtain ⟨v0, e0, so, rfl, g0⟩ := h 0 _ rfl
  obtain ⟨v1, e1, a, rfl, g1⟩ := h 1 _ rfl
  obtain ⟨v2, e2, b, rfl, g2⟩ := h 2 _ rfl
  obtain ⟨v3, e3, wd, rfl, g3⟩ := h 3 _ rfl
  obtain ⟨v4, e4, h4⟩ := h 4 _ rfl
  obtain ⟨v5, e5, h5⟩ := h 5 _ rfl
  obtain ⟨v6, e6, sm, rfl, g6⟩ := h 6 _ rfl
  obtain ⟨v7, e7, ct, rfl, g7⟩ := h 7 _ rfl
  obtain ⟨v8, e8, kd, rfl, g8⟩ := h 8 _ rfl
  obtain ⟨A, n, c, l, rfl, k1, k2, k3, k4⟩ := nums_of h4
  obtain ⟨A2, n2, c2, l2, rfl, j1, j2, j3⟩ := strs_of h5
  have hn := k3.len
  have hn2 := j3.len
  rw [c32_len] at hn
  rw [cST_len] at hn2
  unfold maxLen at k2 j2
  refine ⟨⟨so, a, b, wd, l, l2, sm, ct, kd⟩, A, n, c, A2, n2, c2, ?_, ⟨bd_u32 g1, bd_u32 g2, bd_u64 g3, k4, bd_u8 g6, bd_u8 g7, bd_u8 g8, by show l.length ≤ 9223372036854775807; omega, by show l2.length ≤ 9223372036854775807; omega⟩, k3, k1, j3⟩
  match row, hl with
  | [w0, w1, w2, w3, w4, w5, w6, w7, w8], _ => simp_all
end Go.Proofs.Yteaccbbmphcmnaa

/-
  RtcpTexts: packets that may be: their bytes.
-/
namespace Go.Proofs.Yteaccbbmphcmnaa
set_option linter.unusedSimpArgs false
set_option linter.unusedVariables false
open Go.RowKit
attribute [local irreducible] Pv WO WC Fn
set_option maxRecDepth 100000
attribute [local irreducible] ByteArray.extract

theorem refV_mono {R R' : List Ro} (hR : ∀ r ∈ R, r ∈ R') : ∀ {p : Pkt} {w : Value}, RefV R p w → RefV R' p w
  | .sender .., _, h => by obtain ⟨A, n, c, h0, h1⟩ := h; exact ⟨A, n, c, h0, h1.mono hR⟩
  | .receiver .., _, h => by obtain ⟨A, n, c, h0, h1⟩ := h; exact ⟨A, n, c, h0, h1.mono hR⟩
  | .sdes .., _, h => by obtain ⟨A, n, c, rows, h0, h1, h2⟩ := h; exact ⟨A, n, c, rows, h0, h1.mono hR, h2.mono hR⟩
  | .bye .., _, h => by obtain ⟨A, n, c, h0, h1⟩ := h; exact ⟨A, n, c, h0, h1.mono hR⟩
  | .nack .., _, h => by obtain ⟨A, n, c, h0, h1⟩ := h; exact ⟨A, n, c, h0, h1.mono hR⟩
  | .pli .., _, h => h
  | .fir .., _, h => by obtain ⟨A, n, c, h0, h1⟩ := h; exact ⟨A, n, c, h0, h1.mono hR⟩
  | .remb .., _, h => by obtain ⟨A, n, c, h0, h1⟩ := h; exact ⟨A, n, c, h0, h1.mono hR⟩
  | .other .., _, h => h
theorem RfsV.mono {R R' : List Ro} (hR : ∀ r ∈ R, r ∈ R') {l : List Pkt} {rows : List (List Value)} (h : RfsV R l rows) : RfsV R' l rows :=
  ⟨h.1, fun i p hp => by obtain ⟨row, h1, h2⟩ := h.2 i p hp; exact ⟨row, h1, refV_mono hR h2⟩⟩
theorem RfsV.snoc {R : List Ro} {l : List Pkt} {rows : List (List Value)} {p : Pkt} {row : List Value} (h : RfsV R l rows) (hp : RefV R p (rfA row)) : RfsV R (l ++ [p]) (rows ++ [row]) := by
  refine ⟨by simp [h.1], fun i q hq => ?_⟩
  rcases Nat.lt_or_ge i l.length with h1 | h1
  · rw [List.getElem?_append_left h1] at hq
    obtain ⟨r, h2, h3⟩ := h.2 i q hq
    exact ⟨r, by rw [List.getElem?_append_left (by rw [h.1]; exact h1)]; exact h2, h3⟩
  · rw [List.getElem?_append_right h1] at hq
    have e : i - l.length = 0 := by
      rcases Nat.eq_zero_or_pos (i - l.length) with e | e
      · exact e
      · rw [List.getElem?_eq_none (by simp; omega)] at hq; cases hq
    rw [e] at hq
    obtain rfl : p = q := by simpa using hq
    exact ⟨row, by rw [List.getElem?_append_right (by rw [h.1]; exact h1), h.1, e]; rfl, hp⟩
abbrev alO (ao : Option Addr) (n c : Nat) (vs : List Value) : It := .own 51 1 ao n c (one1 vs)
abbrev tdO (ao : Option Addr) (n c : Nat) (rows : List (List Value)) : It := .own 57 15 ao n c rows
theorem alO_snoc (ao : Option Addr) (n c : Nat) (vs : List Value) (v : Value) : alO ao n c (vs ++ [v]) = .own 51 1 ao n c (one1 vs ++ [[v]]) := by
  rw [alO, show one1 (vs ++ [v]) = one1 vs ++ [[v]] from by simp [one1]]
set_option maxHeartbeats 16000000 in
theorem rtcpTexts_fn (A : Option Addr) (n c : Nat) (rows : List (List Value)) (R : List Ro) (h : Deep R mdFd A n c rows) :
    Fn Try.prog 5 #[.slice A n c] [] R (fun v _ _ => v = .bool true) := by
  obtain ⟨d1, d2, d3, d4, d5⟩ := h
  have hmx : n ≤ 9223372036854775807 := by unfold maxLen at d2; omega
  refine fn_intro Try.func5 rfl Try.ntmps5 rfl (fun E => ?_)
  (repeat (first | ((first | (apply wo_v; rfl) ); (· first | (apply pv_ev; rfl) )) | apply wo_nil | apply wc_seq | apply wc_region ))
  (refine wo_call (awake05) rfl (by (repeat (first | apply sub_nil )); done) (by first | exact fun _ h => h | (intro r hr; cases hr; done) | (simp; done) | exact fun _ h => List.mem_append_left _ h | (intro r hr; simp [hr]; done)) rfl ?_; rintro v L' R' ⟨rfl, rfl, rfl⟩ H' hH RR hR; simp only [List.cons_append, List.nil_append] at hH hR; subst hH; have hR := hR.symm; subst hR)
  (repeat (first | ((first | (apply wo_v; rfl) ); (· first | (apply pv_ev; rfl) | (apply g_un; first | (apply pv_not_t; rfl) ) )) | apply wo_nil | apply wc_seq | apply wc_region | apply wc_skip | (apply wc_true; rfl) | (apply wc_false; rfl) ))
  refine wc_own0 51 1 ?_
  refine wc_own0 57 15 ?_
  refine wc_join0 (fun st => ∃ (k : Nat) (ps : List Pkt) (vs : List Value) (rws : List (List Value)) (a1 a2 : Option Addr) (c1 c2 : Nat) (RG : List Ro), k ≤ 6 ∧ ps.length = k ∧ PksV RG ps vs ∧ RfsV RG ps rws ∧ (∀ p ∈ ps, okK p ∧ (txK p).size ≤ 20000) ∧ st = ⟨[(3, .slice a1 k c1), (4, .slice a2 k c2)], [alO a1 k c1 vs, tdO a2 k c2 rws], RG⟩) ?_ ?_
  · refine wc_block ?_
    refine wc_loop' (fun q st => ∃ (i k : Nat) (ps : List Pkt) (vs : List Value) (rws : List (List Value)) (a1 a2 : Option Addr) (c1 c2 : Nat) (RG : List Ro), q = 6 - i ∧ i ≤ 6 ∧ i ≤ n ∧ k ≤ i ∧ ps.length = k ∧ (∀ r ∈ R, r ∈ RG) ∧ PksV RG ps vs ∧ RfsV RG ps rws ∧ (∀ p ∈ ps, okK p ∧ (txK p).size ≤ 20000) ∧ st = ⟨[(0, .slice A n c), (3, .slice a1 k c1), (4, .slice a2 k c2), (5, .int .i64 i)], [alO a1 k c1 vs, tdO a2 k c2 rws], RG⟩) ⟨0, 0, [], [], [], none, none, 0, 0, R, rfl, by omega, by omega, by omega, rfl, fun r hr => hr, PksV.nil _, ⟨rfl, fun i p hp => by simp at hp⟩, by simp, rfl⟩ (wk_mk (by (repeat (first | apply wkf_nil | (apply wkf_cons; rfl))); done) (by (repeat (first | apply sub_nil | (apply sub_cons; (· (repeat (first | apply sel_here | apply sel_there)))))); done) (by first | exact fun _ h => h | (intro r hr; cases hr; done) | (simp; done) | exact fun _ h => List.mem_append_left _ h | (intro r hr; simp [hr]; done))) ?_
    rintro q st ⟨i, k, ps, vs, rws, a1, a2, c1, c2, RG, rfl, hi, hin, hki, hk, hRG, hVs, hRs, hok, rfl⟩
    by_cases h1 : i < n
    · by_cases h2 : i < 6
      · obtain ⟨row, hr⟩ : ∃ row, rows[i]? = some row := ⟨_, List.getElem?_eq_getElem (by omega)⟩
        obtain ⟨b0, o0, rfl, hm9⟩ := d5 (by omega)
        have hmem : (⟨b0, o0, 9, rows⟩ : Ro) ∈ RG := hRG _ hm9
        obtain ⟨m, A1, m1, e1, A2, m2, e2, rfl, hm, hS, hc, hT⟩ := row_md (d4 row (List.mem_of_getElem? hr))
        have y0 := yMake m hm A1 m1 e1 A2 m2 e2 RG (hS.mono hRG) hc (hT.mono hRG)
        have hrg := mk_rg hm
        have cp := ckK_ok hrg.1
        have kp := fun v R' (hv : PkV R' (mkM m) v) => cCheck (R := R') hrg.1 hv (fun _ => by omega)
        have hz := hrg.2
        clear hrg hS hT hm9 d4
        generalize mkM m = p at *
        generalize ckK p = ep at *
        (repeat (first | ((first | (apply wo_v; rfl) ); (· first | (apply pv_ev; rfl) | (apply g_pick; first | (apply pv_pick_t; rfl; rfl) ) | (apply g_bi; first | (apply pv_len_sl; rfl) ) )) | apply wo_nil | apply wc_seq | apply wc_region | apply wc_skip | (apply wc_true; rfl) | (apply wc_false; rfl) | (apply a_dec_t; rfl; (· first | assumption | omega)) | (apply wo_run; rfl; rfl) | (apply wo_skip; rfl; rfl; rfl; rfl) | (apply wo_skip_u; rfl; rfl; rfl) | (apply a_gt; rfl; rfl; (· first | assumption | omega)) ))
        refine wc_block ?_
        (repeat (first | ((first | (apply wo_v; rfl) ); (· first | (apply pv_ev; rfl) | (apply g_load; first | (apply pv_lda; rfl; (· (repeat (first | apply sel_there))); (· (repeat (first | fail )))) | (apply pv_ld_owna; rfl; (· (repeat (first | apply sel_there))); (· assumption)) | (apply pv_ld_roa; rfl; (· (first | assumption )); (· assumption))) | (apply g_idx; first | (apply pv_idx; rfl; rfl; omega) ) )) | apply wc_seq | apply wc_region ))
        (refine wo_call (y0) rfl (by (repeat (first | apply sub_nil )); done) (by first | exact fun _ h => h | (intro r hr; cases hr; done) | (simp; done) | exact fun _ h => List.mem_append_left _ h | (intro r hr; simp [hr]; done)) rfl ?_; rintro v L' R' ⟨u, w, rfl, hP, hQ, rfl⟩ H' hH RR hR; simp only [List.cons_append, List.nil_append] at hH hR; subst hH; have hR := hR.symm; subst hR)
        obtain ⟨ss, to, ntp, t, pk, oc, B1, k1, f1, B2, k2, f2, B3, k3, f3, tx, B4, k4, f4, B5, k5, f5, rt, rfl⟩ := ref_hd hQ
        have hone := hP.one
        have mL : ∀ r, r ∈ R' → r ∈ R' ++ RG := fun r hr => List.mem_append_left _ hr
        have mG : ∀ r, r ∈ RG → r ∈ R' ++ RG := fun r hr => List.mem_append_right _ hr
        have hP := hP.mono mL
        have hQ := refV_mono mL hQ
        have hVs := hVs.mono mG
        have hRs := hRs.mono mG
        have hRG : ∀ r ∈ R, r ∈ R' ++ RG := fun r hr => mG r (hRG r hr)
        clear mL mG
        generalize R' ++ RG = RH at *
        (repeat (first | ((first | (apply wo_v; rfl) ); (· first | (apply pv_ev; rfl) )) | apply wo_nil | apply wc_seq | apply wc_region | (apply wo_alloc; rfl; intro bx) | (apply wo_sta; rfl; rfl; rfl; rfl; (· (repeat (first | apply sel_here ))); (· (repeat (first | apply LayAt.nil | apply LayAt.here ))); rfl) ))
        obtain ⟨g7, hg7⟩ : ∃ g, g = bx := ⟨_, rfl⟩
        subst hg7
        (refine wo_call (kp u RH hP) rfl (by (repeat (first | apply sub_nil )); done) (by first | exact fun _ h => h | (intro r hr; cases hr; done) | (simp; done) | exact fun _ h => List.mem_append_left _ h | (intro r hr; simp [hr]; done)) rfl ?_; rintro v L' R' ⟨rfl, rfl, rfl⟩ H' hH RR hR; simp only [List.cons_append, List.nil_append] at hH hR; subst hH; have hR := hR.symm; subst hR)
        by_cases hep : ep = 0
        · subst hep
          obtain ⟨okp, _⟩ := cp rfl
          have hH := (wrK okp hP).1
          generalize (hdK p).1 = kd at *
          generalize (hdK p).2 = ct at *
          (repeat (first | ((first | (apply wo_v; rfl) ); (· first | (apply pv_ev; rfl) )) | apply wo_nil | apply wc_seq | apply wc_region | apply wc_skip | (apply wc_true; rfl) | (apply wc_false; rfl) ))
          refine wo_head rfl hH rfl ?_
          (repeat (first | ((first | (apply wo_v; rfl) ); (· first | (apply pv_ev; rfl) | (apply pv_fld; rfl) | (apply g_load; first | (apply pv_ld; rfl; (· (repeat (first | apply sel_here ))); rfl) ) | (apply g_pick; first | (apply pv_pick_t; rfl; rfl) | (apply pv_pick_f; rfl; rfl)) )) | apply wo_nil | apply wc_seq | apply wc_region | apply wc_skip | (apply wc_true; rfl) | (apply wc_false; rfl) | (apply a_dec_t; rfl; (· first | assumption | omega)) | (apply a_dec_f; rfl; (· first | assumption | omega)) | (apply wo_run; rfl; rfl) | (apply wo_skip; rfl; rfl; rfl; rfl) | (apply wo_skip_u; rfl; rfl; rfl) | (apply a_gt; rfl; rfl; (· first | assumption | omega)) | (apply a_gf; rfl; rfl; (· first | assumption | omega)) | (apply wo_bsl; (· (repeat (first | (apply Rws'.one; rfl; rfl; rfl) | (apply Rws'.agg; rfl; rfl; rfl)))); rfl; rfl; rfl; rfl; intro bx) ))
          refine wo_bsl (xs := [[u]]) (Rws'.one rfl hone rfl .nil) rfl rfl rfl rfl (fun bx => ?_)
          (repeat (first | ((first | (apply wo_v; rfl) ); (· first | (apply pv_ev; rfl) | (apply g_bi; first | fail ) )) ))
          refine wo_app (ao := a1) (n := k) (m := 1) rfl rfl (by (repeat (first | apply sel_here | apply sel_there)); done) (by (repeat (first | apply sel_here )); done) (by unfold maxLen; omega) (by omega) rfl (fun a3 c3 => ?_)
          (repeat (first | ((first | (apply wo_v; rfl) ); (· first | (apply pv_ev; rfl) | (apply g_load; first | (apply pv_lda; rfl; (· (repeat (first | apply sel_here | apply sel_there))); (· (repeat (first | apply Cut.here0 | apply Cut.here )))) ) | (apply g_bi; first | fail ) )) | apply wo_nil | apply wc_region | (apply wo_bsl; (· (repeat (first | apply Rws'.nil | (apply Rws'.one; rfl; rfl; rfl) | (apply Rws'.agg; rfl; rfl; rfl)))); rfl; rfl; rfl; rfl; intro bx) ))
          refine wo_app (ao := a2) (n := k) (m := 1) rfl rfl (by (repeat (first | apply sel_here | apply sel_there)); done) (by (repeat (first | apply sel_here )); done) (by unfold maxLen; omega) (by omega) rfl (fun a4 c4 => ?_)
          (repeat (first | ((first | (apply wo_v; rfl) ); (· first | (apply pv_ev; rfl) | (apply g_bin; first | (apply a_add; rfl; rfl; infer_instance; omega) ) )) | apply wo_nil | apply wc_region ))
          exact loop_end ⟨i + 1, k + 1, ps ++ [p], vs ++ [u], rws ++ [rfL kd ct ss to ntp t pk oc (.slice B1 k1 f1) (.slice B2 k2 f2) (.slice B3 k3 f3) tx (.slice B4 k4 f4) (.slice B5 k5 f5) rt], a3, a4, c3, c4, RH, rfl, by omega, by omega, by omega, by rw [List.length_append, hk]; rfl, hRG, hVs.snoc hP, hRs.snoc hQ, fun q hq => by
            rcases List.mem_append.1 hq with hq | hq
            · exact hok q hq
            · rcases List.mem_singleton.1 hq with rfl; exact ⟨okp, hz⟩, by rw [alO_snoc]⟩ (by omega) (wk_mk (by (repeat (first | apply wkf_nil | (apply wkf_cons; rfl))); done) (by (repeat (first | apply sub_nil | (apply sub_cons; (· (repeat (first | apply sel_here | apply sel_there)))))); done) (by first | exact fun _ h => h | (intro r hr; cases hr; done) | (simp; done) | exact fun _ h => List.mem_append_left _ h | (intro r hr; simp [hr]; done)))
        · (repeat (first | ((first | (apply wo_v; rfl) ); (· first | (apply pv_ev; rfl) | (apply g_bin; first | (apply a_add; rfl; rfl; infer_instance; omega) ) )) | apply wo_nil | apply wc_region | (apply wc_exit; rfl) | (apply wc_true; rfl) | (apply wc_false; rfl) | (apply a_dec_t; rfl; (· first | assumption | omega)) ))
          exact loop_end ⟨i + 1, k, ps, vs, rws, a1, a2, c1, c2, RH, rfl, by omega, by omega, by omega, hk, hRG, hVs, hRs, hok, rfl⟩ (by omega) (wk_mk (by (repeat (first | apply wkf_nil | (apply wkf_cons; rfl))); done) (by (repeat (first | apply sub_nil | (apply sub_cons; (· (repeat (first | apply sel_here | apply sel_there)))))); done) (by first | exact fun _ h => h | (intro r hr; cases hr; done) | (simp; done) | exact fun _ h => List.mem_append_left _ h | (intro r hr; simp [hr]; done)))
      · (repeat (first | ((first | (apply wo_v; rfl) ); (· first | (apply pv_ev; rfl) | (apply g_pick; first | (apply pv_pick_t; rfl; rfl) ) | (apply g_bi; first | (apply pv_len_sl; rfl) ) )) | apply wo_nil | apply wc_seq | apply wc_region | (apply wc_exit; rfl) | (apply wc_true; rfl) | (apply wc_false; rfl) | (apply a_dec_t; rfl; (· first | assumption | omega)) | (apply a_dec_f; rfl; (· first | assumption | omega)) | (apply wo_run; rfl; rfl) | (apply wo_skip; rfl; rfl; rfl; rfl) | (apply wo_skip_u; rfl; rfl; rfl) | (apply a_gt; rfl; rfl; (· first | assumption | omega)) ))
        exact cut_end ⟨k, ps, vs, rws, a1, a2, c1, c2, RG, by omega, hk, hVs, hRs, hok, rfl⟩ (wk_mk (by (repeat (first | apply wkf_nil | (apply wkf_cons; rfl))); done) (by (repeat (first | apply sub_nil )); done) (by first | exact fun _ h => h | (intro r hr; cases hr; done) | (simp; done) | exact fun _ h => List.mem_append_left _ h | (intro r hr; simp [hr]; done)))
    · (repeat (first | ((first | (apply wo_v; rfl) ); (· first | (apply pv_ev; rfl) | (apply g_pick; first | (apply pv_pick_t; rfl; rfl) | (apply pv_pick_f; rfl; rfl)) | (apply g_bi; first | (apply pv_len_sl; rfl) ) )) | apply wo_nil | apply wc_seq | apply wc_region | (apply wc_exit; rfl) | (apply wc_true; rfl) | (apply wc_false; rfl) | (apply wo_run; rfl; rfl) | (apply wo_skip; rfl; rfl; rfl; rfl) | (apply wo_skip_u; rfl; rfl; rfl) | (apply a_gt; rfl; rfl; (· first | assumption | omega)) | (apply a_gf; rfl; rfl; (· first | assumption | omega)) ))
      exact cut_end ⟨k, ps, vs, rws, a1, a2, c1, c2, RG, by omega, hk, hVs, hRs, hok, rfl⟩ (wk_mk (by (repeat (first | apply wkf_nil | (apply wkf_cons; rfl))); done) (by (repeat (first | apply sub_nil )); done) (by first | exact fun _ h => h | (intro r hr; cases hr; done) | (simp; done) | exact fun _ h => List.mem_append_left _ h | (intro r hr; simp [hr]; done)))
  rintro st ⟨k, ps, vs, rws, a1, a2, c1, c2, RG, hk6, hk, hVs, hRs, hok, rfl⟩
  refine wc_still (ao := a1) (n := k) (c := c1) (sz := 1) (by (repeat (first | apply sel_here )); done) (fun R1 hS1 => ?_)
  refine wc_still (ao := a2) (n := k) (c := c2) (sz := 15) (by (repeat (first | apply sel_here )); done) (fun R2 hS2 => ?_)
  have m1 : ∀ r, r ∈ RG → r ∈ R2 ++ (R1 ++ RG) := fun r hr => List.mem_append_right _ (List.mem_append_right _ hr)
  have hS1 := (hS1.sq).mono (R' := R2 ++ (R1 ++ RG)) (fun r hr => List.mem_append_right _ hr)
  have hS2 := hS2.sq
  have hVs := hVs.mono m1
  have hRs := hRs.mono m1
  clear m1
  generalize R2 ++ (R1 ++ RG) = RH at *
  have q1 := tTextK ps vs a1 k c1 RH hS1 hVs (fun p hp => (hok p hp).1) (by omega) (fun p hp => by have := (hok p hp).2; omega)
  have q2 := eText ps rws a2 k c2 RH hS2 hRs (fun p hp => (hok p hp).1) (by omega) (fun p hp => (hok p hp).2)
  have hb := fun h0 hs => pk_back5 (l := ps) (fun p hp => (hok p hp).1) h0 hs
  have q3 := fun vs A c R' hS hV => tTextK ps vs A k c R' hS hV (fun p hp => (hok p hp).1) (by omega) (fun p hp => by have := (hok p hp).2; omega)
  (repeat (first | ((first | (apply wo_v; rfl) ); (· first | (apply pv_ev; rfl) )) | apply wc_seq | apply wc_region ))
  (refine wo_call (q1) rfl (by (repeat (first | apply sub_nil )); done) (by first | exact fun _ h => h | (intro r hr; cases hr; done) | (simp; done) | exact fun _ h => List.mem_append_left _ h | (intro r hr; simp [hr]; done)) rfl ?_; rintro v L' R' ⟨rfl, rfl, rfl⟩ H' hH RR hR; simp only [List.cons_append, List.nil_append] at hH hR; subst hH; have hR := hR.symm; subst hR)
  (repeat (first | ((first | (apply wo_v; rfl) ); (· first | (apply pv_ev; rfl) )) | apply wo_nil | apply wc_seq | apply wc_region ))
  (refine wo_call (q2) rfl (by (repeat (first | apply sub_nil )); done) (by first | exact fun _ h => h | (intro r hr; cases hr; done) | (simp; done) | exact fun _ h => List.mem_append_left _ h | (intro r hr; simp [hr]; done)) rfl ?_; rintro v L' R' ⟨rfl, rfl, rfl⟩ H' hH RR hR; simp only [List.cons_append, List.nil_append] at hH hR; subst hH; have hR := hR.symm; subst hR)
  by_cases h0 : k = 0
  · (repeat (first | ((first | (apply wo_v; rfl) ); (· first | (apply pv_ev; rfl) | (apply g_pick; first | (apply pv_pick_t; rfl; rfl) | (apply pv_pick_f; rfl; rfl)) | (apply g_bin; first | (apply pv_neq_s; rfl; rfl) ) | (apply g_bi; first | (apply pv_len_sl; rfl) ) )) | apply wo_nil | apply wc_seq | apply wc_region | (apply wc_true; rfl) | (apply wo_run; rfl; rfl) | (apply wo_skip; rfl; rfl; rfl; rfl) | (apply wo_skip_u; rfl; rfl; rfl) | (apply a_gt; rfl; rfl; (· first | assumption | omega)) | (apply a_gf; rfl; rfl; (· first | assumption | omega)) | (apply a_gt; rfl; rfl; (· first | (simp; done) | (simp; omega))) | (apply a_gf; rfl; rfl; (· first | (simp; done) | (simp; omega))) ))
    (refine wo_call (q2) rfl (by (repeat (first | apply sub_nil )); done) (by first | exact fun _ h => h | (intro r hr; cases hr; done) | (simp; done) | exact fun _ h => List.mem_append_left _ h | (intro r hr; simp [hr]; done)) rfl ?_; rintro v L' R' ⟨rfl, rfl, rfl⟩ H' hH RR hR; simp only [List.cons_append, List.nil_append] at hH hR; subst hH; have hR := hR.symm; subst hR)
    (repeat (first | ((first | (apply wo_v; rfl) ); (· first | (apply pv_ev; rfl) | (apply g_bin; first | (apply pv_eql_s; rfl; rfl) ) )) | apply wo_nil | apply wc_ret ))
    exact ret1 rfl rfl (by simp) ((by (repeat (first | apply sub_nil )); done) : List.Perm _ ([] ++ _)) (by first | exact fun _ h => h | (intro r hr; cases hr; done) | (simp; done) | exact fun _ h => List.mem_append_left _ h | (intro r hr; simp [hr]; done))
  · by_cases h5 : 1500 < (txs ps).size
    · (repeat (first | ((first | (apply wo_v; rfl) ); (· first | (apply pv_ev; rfl) | (apply g_pick; first | (apply pv_pick_t; rfl; rfl) | (apply pv_pick_f; rfl; rfl)) | (apply g_bin; first | (apply pv_neq_s; rfl; rfl) ) | (apply g_bi; first | (apply pv_len_sl; rfl) | (apply pv_len_str; rfl) ) )) | apply wo_nil | apply wc_seq | apply wc_region | (apply wc_true; rfl) | (apply wc_false; rfl) | (apply a_dec_t; rfl; (· first | assumption | omega)) | (apply wo_run; rfl; rfl) | (apply wo_skip; rfl; rfl; rfl; rfl) | (apply wo_skip_u; rfl; rfl; rfl) | (apply a_gt; rfl; rfl; (· first | assumption | omega)) | (apply a_gf; rfl; rfl; (· first | assumption | omega)) | (apply a_gt; rfl; rfl; (· first | (simp; done) | (simp; omega))) | (apply a_gf; rfl; rfl; (· first | (simp; done) | (simp; omega))) ))
      (refine wo_call (q2) rfl (by (repeat (first | apply sub_nil )); done) (by first | exact fun _ h => h | (intro r hr; cases hr; done) | (simp; done) | exact fun _ h => List.mem_append_left _ h | (intro r hr; simp [hr]; done)) rfl ?_; rintro v L' R' ⟨rfl, rfl, rfl⟩ H' hH RR hR; simp only [List.cons_append, List.nil_append] at hH hR; subst hH; have hR := hR.symm; subst hR)
      (repeat (first | ((first | (apply wo_v; rfl) ); (· first | (apply pv_ev; rfl) | (apply g_bin; first | (apply pv_eql_s; rfl; rfl) ) )) | apply wo_nil | apply wc_ret ))
      exact ret1 rfl rfl (by simp) ((by (repeat (first | apply sub_nil )); done) : List.Perm _ ([] ++ _)) (by first | exact fun _ h => h | (intro r hr; cases hr; done) | (simp; done) | exact fun _ h => List.mem_append_left _ h | (intro r hr; simp [hr]; done))
    · have kP := kParse (txs ps) (by omega)
      rw [hb (fun e => h0 (by rw [← hk, e]; rfl)) (by omega)] at kP
      dsimp only at kP
      rw [hk] at kP
      (repeat (first | ((first | (apply wo_v; rfl) ); (· first | (apply pv_ev; rfl) | (apply g_pick; first | (apply pv_pick_t; rfl; rfl) | (apply pv_pick_f; rfl; rfl)) | (apply g_bin; first | (apply pv_neq_s; rfl; rfl) ) | (apply g_bi; first | (apply pv_len_sl; rfl) | (apply pv_len_str; rfl) ) )) | apply wo_nil | apply wc_seq | apply wc_region | apply wc_skip | (apply wc_true; rfl) | (apply wc_false; rfl) | (apply a_dec_t; rfl; (· first | assumption | omega)) | (apply a_dec_f; rfl; (· first | assumption | omega)) | (apply wo_run; rfl; rfl) | (apply wo_skip; rfl; rfl; rfl; rfl) | (apply wo_skip_u; rfl; rfl; rfl) | (apply a_gt; rfl; rfl; (· first | assumption | omega)) | (apply a_gf; rfl; rfl; (· first | assumption | omega)) | (apply a_gt; rfl; rfl; (· first | (simp; done) | (simp; omega))) | (apply a_gf; rfl; rfl; (· first | (simp; done) | (simp; omega))) ))
      (refine wo_call (kP) rfl (by (repeat (first | apply sub_nil )); done) (by first | exact fun _ h => h | (intro r hr; cases hr; done) | (simp; done) | exact fun _ h => List.mem_append_left _ h | (intro r hr; simp [hr]; done)) rfl ?_; rintro v L' R' ⟨A3, c3, vs3, rfl, hS3, hV3, _, rfl⟩ H' hH RR hR; simp only [List.cons_append, List.nil_append] at hH hR; subst hH; have hR := hR.symm; subst hR)
      have q4 := q3 vs3 A3 c3 _ (hS3.mono (R' := R' ++ RH) (fun r hr => List.mem_append_left _ hr)) (hV3.mono (fun r hr => List.mem_append_left _ hr))
      (repeat (first | ((first | (apply wo_v; rfl) ); (· first | (apply pv_ev; rfl) | (apply g_pick; first | (apply pv_pick_t; rfl; rfl) ) | (apply g_bi; first | (apply pv_len_sl; rfl) ) )) | apply wo_nil | apply wc_seq | apply wc_region | (apply wo_run; rfl; rfl) | (apply wo_skip; rfl; rfl; rfl; rfl) | (apply wo_skip_u; rfl; rfl; rfl) | (apply a_gt; rfl; rfl; (· first | assumption | omega)) ))
      (refine wo_call (q4) rfl (by (repeat (first | apply sub_nil )); done) (by first | exact fun _ h => h | (intro r hr; cases hr; done) | (simp; done) | exact fun _ h => List.mem_append_left _ h | (intro r hr; simp [hr]; done)) rfl ?_; rintro v L' R' ⟨rfl, rfl, rfl⟩ H' hH RR hR; simp only [List.cons_append, List.nil_append] at hH hR; subst hH; have hR := hR.symm; subst hR)
      (repeat (first | ((first | (apply wo_v; rfl) ); (· first | (apply pv_ev; rfl) | (apply g_pick; first | (apply pv_pick_t; rfl; rfl) ) | (apply g_bin; first | (apply pv_eql_s; rfl; rfl) ) )) | apply wo_nil | apply wc_ret | (apply wo_run; rfl; rfl) ))
      exact ret1 rfl rfl (by simp) ((by (repeat (first | apply sub_nil )); done) : List.Perm _ ([] ++ _)) (by first | exact fun _ h => h | (intro r hr; cases hr; done) | (simp; done) | exact fun _ h => List.mem_append_left _ h | (intro r hr; simp [hr]; done))
theorem rtcpTexts_walk {w : World} (A : Option Addr) (n c : Nat) (rows : List (List Value)) (R : List Ro) (hR : ∀ r ∈ R, r.sat w) (h : Deep R mdFd A n c rows) :
    Calls Try.prog 5 #[.slice A n c] w fun e w' => e = .returned (.bool true) ∧ Below w.heap.size w w' :=
  walk_of (rtcpTexts_fn A n c rows R h) hR
end Go.Proofs.Yteaccbbmphcmnaa
