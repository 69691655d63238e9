/-
  The laws of layer 2: OctetBack.
-/
import Derived.Test.YtbhegdlpmeeekaaOctT
namespace Go.Proofs.Ytbhegdlpmeeekaa
set_option linter.unusedSimpArgs false
set_option linter.unusedVariables false
open Go.RowKit
attribute [local irreducible] Pv WO WC Fn

theorem sb_left (a b : ByteArray) {i : Nat} (h : i < a.size) : sb (a ++ b) i = sb a i := by
  have h' : i < a.data.toList.length := by simpa using h
  unfold sb
  congr 2
  rw [ByteArray.data_append, Array.toList_append, List.getD_eq_getElem?_getD, List.getD_eq_getElem?_getD, List.getElem?_append_left h']
theorem sb_last (a : ByteArray) {x : Int} (h : 0 ≤ x ∧ x ≤ 255) : sb (a ++ b1 x) a.size = x := by
  have e : (((UInt8.ofNat x.toNat).toNat : Nat) : Int) = x := by
    simp only [UInt8.toNat_ofNat']; omega
  unfold sb
  rw [ByteArray.data_append, Array.toList_append, List.getD_eq_getElem?_getD, List.getElem?_append_right (by simp)]
  have : a.size - a.data.toList.length = 0 := by simp
  rw [this]
  exact e
theorem valK_left (a b : ByteArray) : ∀ k, k ≤ a.size → valK (a ++ b) k = valK a k
  | 0, _ => rfl
  | k + 1, h => by rw [valK, valK, valK_left a b k (by omega), sb_left a b (by omega)]
theorem valK_b1 (a : ByteArray) {x : Int} (h : 0 ≤ x ∧ x ≤ 255) : valK (a ++ b1 x) (a.size + 1) = valK a a.size * 256 + x := by
  rw [valK, valK_left a _ _ (Nat.le_refl _), sb_last a h]
theorem valK_num (k : Nat) (x : Int) : valK (numS (k + 1) x) (k + 1) = valK (numS k (x / 256)) k * 256 + x % 256 := by
  have := valK_b1 (numS k (x / 256)) (x := x % 256) (by omega)
  rw [numS_size] at this
  exact this
theorem num_val : ∀ (k : Nat) (x : Int), numS k (valK (numS k x) k) = numS k x
  | 0, _ => rfl
  | k + 1, x => by
    rw [valK_num]
    show numS k ((valK (numS k (x / 256)) k * 256 + x % 256) / 256) ++ b1 ((valK (numS k (x / 256)) k * 256 + x % 256) % 256) = numS k (x / 256) ++ b1 (x % 256)
    rw [show (valK (numS k (x / 256)) k * 256 + x % 256) / 256 = valK (numS k (x / 256)) k by omega, show (valK (numS k (x / 256)) k * 256 + x % 256) % 256 = x % 256 by omega, num_val k]
theorem val_num2 {x : Int} (h : 0 ≤ x ∧ x ≤ 65535) : valK (numS 2 x) 2 = x := by
  rw [valK_num, valK_num]
  show (0 * 256 + x / 256 % 256) * 256 + x % 256 = x
  omega
theorem val_num4 {x : Int} (h : 0 ≤ x ∧ x ≤ 4294967295) : valK (numS 4 x) 4 = x := by
  rw [valK_num, valK_num, valK_num, valK_num]
  show (((0 * 256 + x / 256 / 256 / 256 % 256) * 256 + x / 256 / 256 % 256) * 256 + x / 256 % 256) * 256 + x % 256 = x
  omega
theorem val_b1 {x : Int} (h : 0 ≤ x ∧ x ≤ 255) : valK (b1 x) 1 = x := by
  have := valK_b1 E0 h
  rw [E0_append] at this
  have e : valK (b1 x) 1 = valK E0 0 * 256 + x := this
  rw [e]
  show 0 * 256 + x = x
  omega
theorem numS_front : ∀ (k : Nat) (x : Int), numS (k + 1) x = b1 (sh x k % 256) ++ numS k x
  | 0, x => by
    show E0 ++ b1 (x % 256) = b1 (x % 256) ++ E0
    rw [E0_append, append_E0]
  | k + 1, x => by
    have e : ∀ k, sh (x / 256) k = sh x (k + 1) := fun k => by
      induction k with
      | zero => rfl
      | succ k ih => rw [sh, ih]; rfl
    show numS (k + 1) (x / 256) ++ b1 (x % 256) = b1 (sh x (k + 1) % 256) ++ (numS k (x / 256) ++ b1 (x % 256))
    rw [numS_front k (x / 256), ByteArray.append_assoc, e]
theorem ext_head2 (s z : ByteArray) : (s ++ z).extract 0 s.size = s := by
  apply ByteArray.ext
  simp [ByteArray.data_extract]
theorem ext_tail2 (s z : ByteArray) : (s ++ z).extract s.size (s ++ z).size = z := by
  apply ByteArray.ext
  simp [ByteArray.data_extract]
  rw [show s.data.extract s.size (s.size + z.size) = #[] from by apply Array.eq_empty_of_size_eq_zero; simp]
  show #[] ++ z.data.extract 0 z.data.size = z.data
  simp
theorem rdB_front (z rest : ByteArray) (n : Int) (h : n = (z.size : Int)) : rdB (z ++ rest) 0 n = (z, rest, 0) := by
  unfold rdB
  rw [if_neg (by omega), if_neg (by omega), if_neg (by rw [ByteArray.size_append]; omega), h, Int.toNat_natCast, ext_head2, ext_tail2]
attribute [local irreducible] ByteArray.extract
set_option maxHeartbeats 1000000 in
theorem rNum (n x : Int) (k : Nat) (hk : min (max n 1) 8 = (k : Int)) (hx : 0 ≤ x ∧ x ≤ 18446744073709551615) : Fn Try.prog 44 #[.int .i64 n, .int .u64 x] [] [] (fun v L' R' => v = .string (numS k x) ∧ L' = [] ∧ R' = []) := by
  have hk1 : 1 ≤ k ∧ k ≤ 8 := by omega
  refine fn_intro Try.func44 rfl Try.ntmps44 rfl (fun E => ?_)
  (repeat (first | ((first | (apply wo_v; rfl) ); (· first | (apply pv_ev; rfl) )) | apply wo_nil | apply wc_seq | apply wc_region | apply wc_block ))
  refine wc_loop' (fun m st => ∃ (j : Nat), m = k - j ∧ st = ⟨[(0, .int .i64 n), (1, .int .u64 (sh x j)), (5, .string (numS j x)), (6, .int .i64 j)], [], []⟩ ∧ j ≤ k)
    ⟨0, rfl, rfl, Nat.zero_le _⟩ (wk_mk (by (repeat (first | apply wkf_nil | (apply wkf_cons; rfl))); done) (by (repeat (first | apply sub_nil )); done) (by first | exact fun _ h => h | (intro r hr; cases hr; done) | (simp; done) | exact fun _ h => List.mem_append_left _ h | (intro r hr; simp [hr]; done))) ?_
  rintro m st ⟨j, rfl, rfl, hj⟩
  have hs := sh_nonneg hx.1 j
  have hs2 : sh x j ≤ 18446744073709551615 := by
    have : ∀ j, sh x j ≤ 18446744073709551615 := fun j => by
      induction j with
      | zero => exact hx.2
      | succ j ih => have := sh_nonneg hx.1 j; simp only [sh]; omega
    exact this j
  have hz := numS_size j x
  by_cases hlt : j < k
  · have hf := numS_front j x
    have hb : bytesOf [sh x j % 256] = b1 (sh x j % 256) := rfl
    (repeat (first | ((first | (apply wo_v; rfl) ); (· first | (apply pv_ev; rfl) | (apply g_bin; first | (apply pv_rem; rfl; rfl; omega) ) | (apply g_bi; first | (apply pv_min; rfl; rfl) | (apply pv_max; rfl; rfl)) | (apply g_conv; first | (apply a_conv; rfl; infer_instance; infer_instance; infer_instance; omega) | (apply a_conv_u; rfl; infer_instance; infer_instance; infer_instance) | (apply a_conv_w; rfl; infer_instance; infer_instance) ) )) | apply wo_nil | apply wc_seq | apply wc_region | apply wc_block | apply wc_skip | (apply wc_true; rfl) | (apply wc_false; rfl) | (apply a_dec_t; rfl; (· first | assumption | omega)) | (apply wo_bsl; (· (repeat (first | apply Rws'.nil | (apply Rws'.one; rfl; rfl; rfl) ))); rfl; rfl; rfl; rfl; intro bx) ))
    refine wo_v rfl (pv_conv_bs (ns := [sh x j % 256]) rfl (by (repeat (first | apply sel_here )); done) rfl) ?_
    rw [hb]
    have hb1 := b1_size (sh x j % 256)
    (repeat (first | ((first | (apply wo_v; rfl) ); (· first | (apply pv_ev; rfl) | (apply g_bin; first | (apply a_add; rfl; rfl; infer_instance; omega) | (apply a_quo; rfl; rfl; infer_instance; omega) | (apply pv_add_s; rfl; rfl; omega) ) )) | apply wo_nil | apply wc_region ))
    rw [← hf]
    exact loop_end ⟨j + 1, rfl, rfl, by omega⟩ (by omega) (wk_mk (by (repeat (first | apply wkf_nil | (apply wkf_cons; rfl))); done) (by (repeat (first | apply sub_nil )); done) (by first | exact fun _ h => h | (intro r hr; cases hr; done) | (simp; done) | exact fun _ h => List.mem_append_left _ h | (intro r hr; simp [hr]; done)))
  · obtain rfl : j = k := by omega
    (repeat (first | ((first | (apply wo_v; rfl) ); (· first | (apply pv_ev; rfl) | (apply g_bi; first | (apply pv_min; rfl; rfl) | (apply pv_max; rfl; rfl)) )) | apply wo_nil | apply wc_seq | apply wc_region | (apply wc_exit; rfl) | apply wc_ret | (apply wc_true; rfl) | (apply wc_false; rfl) | (apply a_dec_t; rfl; (· first | assumption | omega)) | (apply a_dec_f; rfl; (· first | assumption | omega)) ))
    exact retv rfl (by (repeat (first | apply RV.nil | (apply RV.tmp; rfl) )); done) ⟨rfl, rfl, rfl⟩ ((by (repeat (first | apply sub_nil )); done) : List.Perm _ ([] ++ _)) (by first | exact fun _ h => h | (intro r hr; cases hr; done) | (simp; done) | exact fun _ h => List.mem_append_left _ h | (intro r hr; simp [hr]; done))
theorem numsS_one (k : Nat) (x : Int) : numsS k [x] = numS k x := append_E0 _
theorem brows_one {x : Int} (h : 0 ≤ x ∧ x ≤ 255) : [[Value.int .u8 x]] = brows (b1 x) := (b1_rows h).symm
set_option maxRecDepth 100000 in
set_option maxHeartbeats 2000000 in
theorem octetBack_fn (a b c d n : Int) (s0 : ByteArray) (ha : 0 ≤ a ∧ a ≤ 18446744073709551615) (hb : 0 ≤ b ∧ b ≤ 4294967295) (hc : 0 ≤ c ∧ c ≤ 65535) (hd : 0 ≤ d ∧ d ≤ 255) :
    Fn Try.prog 11 #[.int .u64 a, .int .u32 b, .int .u16 c, .int .u8 d, .int .i64 n, .string s0] [] [] (fun v _ _ => v = .bool true) := by
  have hcs := cutS_size s0 40
  have hC := octCut s0 40
  generalize cutS s0 40 = s at hcs hC
  obtain ⟨k, hk⟩ : ∃ k : Nat, min (max n 1) 8 = (k : Int) := ⟨(min (max n 1) 8).toNat, by omega⟩
  have hk1 : 1 ≤ k ∧ k ≤ 8 := by omega
  have hkk : min (max (k : Int) 1) 8 = (k : Int) := by omega
  have hcat : catS [s] = s := append_E0 s
  -- the writer
  have w1 := fun g bl c2 => wNum g 0 bl c2 none none E0 k k [a] hkk (by intro y hy; rcases List.mem_singleton.1 hy with rfl; exact ha) (by simp) ⟨.inl rfl, .inl ⟨rfl, rfl, rfl⟩⟩ (by decide)
  rw [numsS_one, E0_append] at w1
  have z1 := numS_size k a
  have w2 := fun g c1 bl c2 p ao hw => wPut g c1 bl c2 p ao (numS k a) [s] (by intro y hy; rcases List.mem_singleton.1 hy with rfl; omega) (by simp) hw (by omega)
  rw [hcat] at w2
  have z2 : (numS k a ++ s).size = k + s.size := by rw [ByteArray.size_append, z1]
  have w3 := fun g c1 bl c2 p ao hw => wU32 g c1 bl c2 p ao (numS k a ++ s) [b] (by intro y hy; rcases List.mem_singleton.1 hy with rfl; exact hb) (by simp) hw (by omega)
  rw [numsS_one] at w3
  have z3 : (numS k a ++ s ++ numS 4 b).size = k + s.size + 4 := by rw [ByteArray.size_append, z2, numS_size]
  have w4 := fun g c1 bl c2 p ao hw => wU16 g c1 bl c2 p ao (numS k a ++ s ++ numS 4 b) [c] (by intro y hy; rcases List.mem_singleton.1 hy with rfl; exact hc) (by simp) hw (by omega)
  rw [numsS_one] at w4
  have z4 : (numS k a ++ s ++ numS 4 b ++ numS 2 c).size = k + s.size + 4 + 2 := by rw [ByteArray.size_append, z3, numS_size]
  have w5 := fun g c1 bl c2 p ao hw => wU8 g c1 bl c2 p ao (numS k a ++ s ++ numS 4 b ++ numS 2 c) (b1 d) hw (by rw [b1_size]; omega) (by rw [z4, b1_size]; omega)
  -- the reader
  obtain ⟨t, ht⟩ : ∃ t, numS k a ++ s ++ numS 4 b ++ numS 2 c ++ b1 d = t := ⟨_, rfl⟩
  have z5 : t.size = k + s.size + 7 := by rw [← ht, ByteArray.size_append, z4, b1_size]
  have e5 : t = numS k a ++ (s ++ (numS 4 b ++ (numS 2 c ++ (b1 d ++ E0)))) := by rw [← ht, append_E0]; simp only [ByteArray.append_assoc]
  rw [ht] at w5
  have r1 := fun g => octNum g t (numS k a) (s ++ (numS 4 b ++ (numS 2 c ++ (b1 d ++ E0)))) 0 k 0 (by omega) (by rw [hkk, e5]; exact rdB_front _ _ _ (by rw [z1]))
  rw [z1] at r1
  have y1 : (b1 d ++ E0).size = 1 := by rw [append_E0]; rfl
  have y2 : (numS 2 c ++ (b1 d ++ E0)).size = 3 := by rw [ByteArray.size_append, numS_size, y1]
  have y3 : (numS 4 b ++ (numS 2 c ++ (b1 d ++ E0))).size = 7 := by rw [ByteArray.size_append, numS_size, y2]
  have y4 : (s ++ (numS 4 b ++ (numS 2 c ++ (b1 d ++ E0)))).size = s.size + 7 := by rw [ByteArray.size_append, y3]
  have r2 := fun g => octBytes g (s ++ (numS 4 b ++ (numS 2 c ++ (b1 d ++ E0)))) 0 s.size (by omega)
  rw [rdB_front s _ _ rfl] at r2
  simp only at r2
  have r3 := fun g => octU32 g (numS 4 b ++ (numS 2 c ++ (b1 d ++ E0))) (numS 4 b) (numS 2 c ++ (b1 d ++ E0)) 0 0 (by omega) (rdB_front _ _ _ (by rw [numS_size]; rfl))
  rw [numS_size, val_num4 hb] at r3
  have r4 := fun g => octU16 g (numS 2 c ++ (b1 d ++ E0)) (numS 2 c) (b1 d ++ E0) 0 0 (by omega) (rdB_front _ _ _ (by rw [numS_size]; rfl))
  rw [numS_size, val_num2 hc] at r4
  have r5 := fun g => octU8 g (b1 d ++ E0) (b1 d) E0 0 0 (by omega) (rdB_front _ _ _ rfl)
  rw [b1_size, val_b1 hd] at r5
  have r6 := fun g => octEnd g E0 0 (fun _ => rfl)
  rw [show rdE E0 0 = 0 from if_neg (fun h => h.2 rfl)] at r6
  have hv := valK_le8 (numS k a) hk1.2
  have n1 := rNum k (valK (numS k a) k) k hkk hv
  rw [num_val] at n1
  have n2 := rNum k a k hkk ha
  generalize numS k a ++ s ++ numS 4 b ++ numS 2 c = t4 at w4 w5
  generalize numS k a ++ s ++ numS 4 b = t3 at w3 w4
  generalize numS k a ++ s = t2 at w2 w3
  generalize s ++ (numS 4 b ++ (numS 2 c ++ (b1 d ++ E0))) = u1 at r1 r2
  generalize numS 4 b ++ (numS 2 c ++ (b1 d ++ E0)) = u2 at r2 r3
  generalize numS 2 c ++ (b1 d ++ E0) = u3 at r3 r4
  generalize b1 d ++ E0 = u4 at r4 r5
  generalize valK (numS k a) k = va at r1 n1
  generalize numS k a = t1 at *
  clear ht e5 z1 z2 z3 z4 y1 y2 y3 y4 hv
  refine fn_intro Try.func11 rfl Try.ntmps11 rfl (fun E => ?_)
  (repeat (first | ((first | (apply wo_v; rfl) ); (· first | (apply pv_ev; rfl) )) | apply wo_nil | apply wc_seq | apply wc_region ))
  (refine wo_call (hC) rfl (by (repeat (first | apply sub_nil )); done) (by first | exact fun _ h => h | (intro r hr; cases hr; done) | (simp; done) | exact fun _ h => List.mem_append_left _ h | (intro r hr; simp [hr]; done)) rfl ?_; rintro v L' R' ⟨rfl, rfl, rfl⟩ H' hH RR hR; simp only [List.cons_append, List.nil_append] at hH hR; subst hH; have hR := hR.symm; subst hR)
  (repeat (first | ((first | (apply wo_v; rfl) ); (· first | (apply pv_ev; rfl) | (apply g_bi; first | (apply pv_min; rfl; rfl) | (apply pv_max; rfl; rfl)) )) | apply wo_nil | apply wc_seq | apply wc_region | (apply wo_alloc; rfl; intro bx) | (apply wo_bsl; (· (repeat (first | apply Rws'.nil | (apply Rws'.one; rfl; rfl; rfl) ))); rfl; rfl; rfl; rfl; intro bx) ))
  rw [hk]
  refine wo_own0 5 1 ?_
  (refine wo_call (w1 _ bx _) rfl (by (repeat (first | apply sub_nil | (apply sub_cons; (· (repeat (first | apply sel_here | apply sel_there)))))); done) (by first | exact fun _ h => h | (intro r hr; cases hr; done) | (simp; done) | exact fun _ h => List.mem_append_left _ h | (intro r hr; simp [hr]; done)) rfl ?_; rintro v L' R' ⟨p1, ao1, c1, rfl, rfl, rfl, hw1⟩ H' hH RR hR; simp only [List.cons_append, List.nil_append] at hH hR; subst hH; have hR := hR.symm; subst hR)
  (repeat (first | ((first | (apply wo_v; rfl) ); (· first | (apply pv_ev; rfl) )) | (apply wo_bsl; (· (repeat (first | apply Rws'.nil | (apply Rws'.one; rfl; rfl; rfl) ))); rfl; rfl; rfl; rfl; intro bx) ))
  (refine wo_call (w2 _ c1 bx _ p1 ao1 hw1) rfl (by (repeat (first | apply sub_nil | (apply sub_cons; (· (repeat (first | apply sel_here | apply sel_there)))))); done) (by first | exact fun _ h => h | (intro r hr; cases hr; done) | (simp; done) | exact fun _ h => List.mem_append_left _ h | (intro r hr; simp [hr]; done)) rfl ?_; rintro v L' R' ⟨p2, ao2, c2, rfl, rfl, rfl, hw2⟩ H' hH RR hR; simp only [List.cons_append, List.nil_append] at hH hR; subst hH; have hR := hR.symm; subst hR)
  (repeat (first | ((first | (apply wo_v; rfl) ); (· first | (apply pv_ev; rfl) )) | (apply wo_bsl; (· (repeat (first | apply Rws'.nil | (apply Rws'.one; rfl; rfl; rfl) ))); rfl; rfl; rfl; rfl; intro bx) ))
  (refine wo_call (w3 _ c2 bx _ p2 ao2 hw2) rfl (by (repeat (first | apply sub_nil | (apply sub_cons; (· (repeat (first | apply sel_here | apply sel_there)))))); done) (by first | exact fun _ h => h | (intro r hr; cases hr; done) | (simp; done) | exact fun _ h => List.mem_append_left _ h | (intro r hr; simp [hr]; done)) rfl ?_; rintro v L' R' ⟨p3, ao3, c3, rfl, rfl, rfl, hw3⟩ H' hH RR hR; simp only [List.cons_append, List.nil_append] at hH hR; subst hH; have hR := hR.symm; subst hR)
  (repeat (first | ((first | (apply wo_v; rfl) ); (· first | (apply pv_ev; rfl) )) | (apply wo_bsl; (· (repeat (first | apply Rws'.nil | (apply Rws'.one; rfl; rfl; rfl) ))); rfl; rfl; rfl; rfl; intro bx) ))
  (refine wo_call (w4 _ c3 bx _ p3 ao3 hw3) rfl (by (repeat (first | apply sub_nil | (apply sub_cons; (· (repeat (first | apply sel_here | apply sel_there)))))); done) (by first | exact fun _ h => h | (intro r hr; cases hr; done) | (simp; done) | exact fun _ h => List.mem_append_left _ h | (intro r hr; simp [hr]; done)) rfl ?_; rintro v L' R' ⟨p4, ao4, c4, rfl, rfl, rfl, hw4⟩ H' hH RR hR; simp only [List.cons_append, List.nil_append] at hH hR; subst hH; have hR := hR.symm; subst hR)
  (repeat (first | ((first | (apply wo_v; rfl) ); (· first | (apply pv_ev; rfl) )) | (apply wo_bsl; (· (repeat (first | apply Rws'.nil | (apply Rws'.one; rfl; rfl; rfl) ))); rfl; rfl; rfl; rfl; intro bx) ))
  rw [brows_one hd]
  (refine wo_call (w5 _ c4 bx _ p4 ao4 hw4) rfl (by (repeat (first | apply sub_nil | (apply sub_cons; (· (repeat (first | apply sel_here | apply sel_there)))))); done) (by first | exact fun _ h => h | (intro r hr; cases hr; done) | (simp; done) | exact fun _ h => List.mem_append_left _ h | (intro r hr; simp [hr]; done)) rfl ?_; rintro v L' R' ⟨p5, ao5, c5, rfl, rfl, rfl, hw5⟩ H' hH RR hR; simp only [List.cons_append, List.nil_append] at hH hR; subst hH; have hR := hR.symm; subst hR)
  (repeat (first | ((first | (apply wo_v; rfl) ); (· first | (apply pv_ev; rfl) )) | apply wo_nil | apply wc_seq | apply wc_region ))
  (refine wo_call (wText _ c5 p5 ao5 t hw5) rfl (by (repeat (first | apply sub_nil )); done) (by first | exact fun _ h => h | (intro r hr; cases hr; done) | (simp; done) | exact fun _ h => List.mem_append_left _ h | (intro r hr; simp [hr]; done)) rfl ?_; rintro v L' R' ⟨rfl, rfl, rfl⟩ H' hH RR hR; simp only [List.cons_append, List.nil_append] at hH hR; subst hH; have hR := hR.symm; subst hR)
  (repeat (first | ((first | (apply wo_v; rfl) ); (· first | (apply pv_ev; rfl) )) ))
  (refine wo_call (octRead t) rfl (by (repeat (first | apply sub_nil )); done) (by first | exact fun _ h => h | (intro r hr; cases hr; done) | (simp; done) | exact fun _ h => List.mem_append_left _ h | (intro r hr; simp [hr]; done)) rfl ?_; rintro v L' R' ⟨g, rfl, rfl, rfl⟩ H' hH RR hR; simp only [List.cons_append, List.nil_append] at hH hR; subst hH; have hR := hR.symm; subst hR)
  (repeat (first | ((first | (apply wo_v; rfl) ); (· first | (apply pv_ev; rfl) )) | apply wo_nil | apply wc_seq | apply wc_region ))
  (refine wo_call (awake02) rfl (by (repeat (first | apply sub_nil )); done) (by first | exact fun _ h => h | (intro r hr; cases hr; done) | (simp; done) | exact fun _ h => List.mem_append_left _ h | (intro r hr; simp [hr]; done)) rfl ?_; rintro v L' R' ⟨rfl, rfl, rfl⟩ H' hH RR hR; simp only [List.cons_append, List.nil_append] at hH hR; subst hH; have hR := hR.symm; subst hR)
  (repeat (first | ((first | (apply wo_v; rfl) ); (· first | (apply pv_ev; rfl) | (apply g_un; first | (apply pv_not_t; rfl) ) )) | apply wo_nil | apply wc_seq | apply wc_region | apply wc_skip | (apply wc_true; rfl) | (apply wc_false; rfl) ))
  (refine wo_call (r1 g) rfl (by (repeat (first | apply sub_nil )); done) (by first | exact fun _ h => h | (intro r hr; cases hr; done) | (simp; done) | exact fun _ h => List.mem_append_left _ h | (intro r hr; simp [hr]; done)) rfl ?_; rintro v L' R' ⟨rfl, rfl, rfl⟩ H' hH RR hR; simp only [List.cons_append, List.nil_append] at hH hR; subst hH; have hR := hR.symm; subst hR)
  (repeat (first | ((first | (apply wo_v; rfl) ); (· first | (apply pv_ev; rfl) )) | apply wo_nil | apply wc_seq | apply wc_region ))
  (refine wo_call (n1) rfl (by (repeat (first | apply sub_nil )); done) (by first | exact fun _ h => h | (intro r hr; cases hr; done) | (simp; done) | exact fun _ h => List.mem_append_left _ h | (intro r hr; simp [hr]; done)) rfl ?_; rintro v L' R' ⟨rfl, rfl, rfl⟩ H' hH RR hR; simp only [List.cons_append, List.nil_append] at hH hR; subst hH; have hR := hR.symm; subst hR)
  (repeat (first | ((first | (apply wo_v; rfl) ); (· first | (apply pv_ev; rfl) )) ))
  (refine wo_call (n2) rfl (by (repeat (first | apply sub_nil )); done) (by first | exact fun _ h => h | (intro r hr; cases hr; done) | (simp; done) | exact fun _ h => List.mem_append_left _ h | (intro r hr; simp [hr]; done)) rfl ?_; rintro v L' R' ⟨rfl, rfl, rfl⟩ H' hH RR hR; simp only [List.cons_append, List.nil_append] at hH hR; subst hH; have hR := hR.symm; subst hR)
  (repeat (first | ((first | (apply wo_v; rfl) ); (· first | (apply pv_ev; rfl) | (apply g_bin; first | (apply pv_eql_s; rfl; rfl) ) | (apply g_bi; first | (apply pv_len_str; rfl) ) )) | (apply wo_run; rfl; rfl) | (apply wo_skip; rfl; rfl; rfl; rfl) | (apply wo_skip_u; rfl; rfl; rfl) | (apply a_gt; rfl; rfl; (· first | assumption | omega)) | (apply a_gf; rfl; rfl; (· first | assumption | omega)) | (apply a_gt; rfl; rfl; (· first | (simp; done) | (simp; omega))) ))
  (refine wo_call (r2 g) rfl (by (repeat (first | apply sub_nil )); done) (by first | exact fun _ h => h | (intro r hr; cases hr; done) | (simp; done) | exact fun _ h => List.mem_append_left _ h | (intro r hr; simp [hr]; done)) rfl ?_; rintro v L' R' ⟨rfl, rfl, rfl⟩ H' hH RR hR; simp only [List.cons_append, List.nil_append] at hH hR; subst hH; have hR := hR.symm; subst hR)
  (repeat (first | ((first | (apply wo_v; rfl) ); (· first | (apply pv_ev; rfl) | (apply g_pick; first | (apply pv_pick_t; rfl; rfl) ) | (apply g_bin; first | (apply pv_eql_s; rfl; rfl) ) )) | (apply wo_run; rfl; rfl) | (apply wo_skip; rfl; rfl; rfl; rfl) | (apply wo_skip_u; rfl; rfl; rfl) | (apply a_gt; rfl; rfl; (· first | assumption | omega)) | (apply a_gf; rfl; rfl; (· first | assumption | omega)) | (apply a_gt; rfl; rfl; (· first | (simp; done) | (simp; omega))) ))
  (refine wo_call (r3 g) rfl (by (repeat (first | apply sub_nil )); done) (by first | exact fun _ h => h | (intro r hr; cases hr; done) | (simp; done) | exact fun _ h => List.mem_append_left _ h | (intro r hr; simp [hr]; done)) rfl ?_; rintro v L' R' ⟨rfl, rfl, rfl⟩ H' hH RR hR; simp only [List.cons_append, List.nil_append] at hH hR; subst hH; have hR := hR.symm; subst hR)
  (repeat (first | ((first | (apply wo_v; rfl) ); (· first | (apply pv_ev; rfl) | (apply g_pick; first | (apply pv_pick_t; rfl; rfl) ) )) | (apply wo_run; rfl; rfl) | (apply wo_skip; rfl; rfl; rfl; rfl) | (apply wo_skip_u; rfl; rfl; rfl) | (apply a_gt; rfl; rfl; (· first | assumption | omega)) ))
  (refine wo_call (r4 g) rfl (by (repeat (first | apply sub_nil )); done) (by first | exact fun _ h => h | (intro r hr; cases hr; done) | (simp; done) | exact fun _ h => List.mem_append_left _ h | (intro r hr; simp [hr]; done)) rfl ?_; rintro v L' R' ⟨rfl, rfl, rfl⟩ H' hH RR hR; simp only [List.cons_append, List.nil_append] at hH hR; subst hH; have hR := hR.symm; subst hR)
  (repeat (first | ((first | (apply wo_v; rfl) ); (· first | (apply pv_ev; rfl) | (apply g_pick; first | (apply pv_pick_t; rfl; rfl) ) )) | (apply wo_run; rfl; rfl) | (apply wo_skip; rfl; rfl; rfl; rfl) | (apply wo_skip_u; rfl; rfl; rfl) | (apply a_gt; rfl; rfl; (· first | assumption | omega)) ))
  (refine wo_call (r5 g) rfl (by (repeat (first | apply sub_nil )); done) (by first | exact fun _ h => h | (intro r hr; cases hr; done) | (simp; done) | exact fun _ h => List.mem_append_left _ h | (intro r hr; simp [hr]; done)) rfl ?_; rintro v L' R' ⟨rfl, rfl, rfl⟩ H' hH RR hR; simp only [List.cons_append, List.nil_append] at hH hR; subst hH; have hR := hR.symm; subst hR)
  (repeat (first | ((first | (apply wo_v; rfl) ); (· first | (apply pv_ev; rfl) | (apply g_pick; first | (apply pv_pick_t; rfl; rfl) ) )) | (apply wo_run; rfl; rfl) | (apply wo_skip; rfl; rfl; rfl; rfl) | (apply wo_skip_u; rfl; rfl; rfl) | (apply a_gt; rfl; rfl; (· first | assumption | omega)) ))
  (refine wo_call (r6 g) rfl (by (repeat (first | apply sub_nil )); done) (by first | exact fun _ h => h | (intro r hr; cases hr; done) | (simp; done) | exact fun _ h => List.mem_append_left _ h | (intro r hr; simp [hr]; done)) rfl ?_; rintro v L' R' ⟨rfl, rfl, rfl⟩ H' hH RR hR; simp only [List.cons_append, List.nil_append] at hH hR; subst hH; have hR := hR.symm; subst hR)
  (repeat (first | ((first | (apply wo_v; rfl) ); (· first | (apply pv_ev; rfl) | (apply g_pick; first | (apply pv_pick_t; rfl; rfl) ) )) | apply wo_nil | apply wc_ret | (apply wo_run; rfl; rfl) ))
  exact ret1 rfl rfl (by first | rfl | (simp; done) | (simp; omega)) ((by (repeat (first | apply sub_nil )); done) : List.Perm _ ([] ++ _)) (by first | exact fun _ h => h | (intro r hr; cases hr; done) | (simp; done) | exact fun _ h => List.mem_append_left _ h | (intro r hr; simp [hr]; done))
theorem octetBack_walk (a : Int) (ha : 0 ≤ a ∧ a ≤ 18446744073709551615) (b : Int) (hb : 0 ≤ b ∧ b ≤ 4294967295) (c : Int) (hc : 0 ≤ c ∧ c ≤ 65535) (d : Int) (hd : 0 ≤ d ∧ d ≤ 255) (n : Int) (hn : -9223372036854775808 ≤ n ∧ n ≤ 9223372036854775807) (s : ByteArray) (hs : s.size ≤ maxLen) (w : World) :
    Calls Try.prog 11 #[.int .u64 a, .int .u32 b, .int .u16 c, .int .u8 d, .int .i64 n, .string s] w fun e w' => e = .returned (.bool true) ∧ Below w.heap.size w w' := walk_of (octetBack_fn a b c d n s ha hb hc hd) (by intro r hr; cases hr)
end Go.Proofs.Ytbhegdlpmeeekaa
