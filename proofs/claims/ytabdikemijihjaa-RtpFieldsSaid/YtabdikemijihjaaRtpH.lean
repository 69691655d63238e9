/-
  The reference of rtp: Head.
-/
import Derived.Test.YtabdikemijihjaaRtpS
namespace Go.Proofs.Ytabdikemijihjaa
set_option linter.unusedSimpArgs false
set_option linter.unusedVariables false
open Go.RowKit
attribute [local irreducible] Pv WO WC Fn
set_option maxRecDepth 100000
attribute [local irreducible] ByteArray.extract

theorem hBit (c : Bool) (n r : Int) (h : (if c = true then n else 0) = r) : Fn Try.prog 65 #[.bool c, .int .i64 n] [] [] (fun v L' R' => v = .int .i64 r ∧ L' = [] ∧ R' = []) := by
  subst h
  cases c with
  | true =>
    refine fn_intro Try.func65 rfl Try.ntmps65 rfl (fun E => ?_)
    (repeat (first | ((first | (apply wo_v; rfl) ); (· first | (apply pv_ev; rfl) )) | apply wo_nil | apply wc_seq | apply wc_region | apply wc_ret | (apply wc_true; rfl) ))
    exact ret1 rfl rfl ⟨rfl, rfl, rfl⟩ ((by (repeat (first | apply sub_nil )); done) : List.Perm _ ([] ++ _)) (by first | exact fun _ h => h | (intro r hr; cases hr; done) | (simp; done) | exact fun _ h => List.mem_append_left _ h | (intro r hr; simp [hr]; done))
  | false =>
    refine fn_intro Try.func65 rfl Try.ntmps65 rfl (fun E => ?_)
    (repeat (first | ((first | (apply wo_v; rfl) ); (· first | (apply pv_ev; rfl) )) | apply wo_nil | apply wc_seq | apply wc_region | apply wc_skip | apply wc_ret | (apply wc_true; rfl) | (apply wc_false; rfl) ))
    exact ret1 rfl rfl ⟨rfl, rfl, rfl⟩ ((by (repeat (first | apply sub_nil )); done) : List.Perm _ ([] ++ _)) (by first | exact fun _ h => h | (intro r hr; cases hr; done) | (simp; done) | exact fun _ h => List.mem_append_left _ h | (intro r hr; simp [hr]; done))
def bi (c : Bool) (n : Int) : Int := if c = true then n else 0
theorem bi_or (c : Bool) (n : Int) : bi c n = 0 ∨ bi c n = n := by cases c <;> simp [bi]
def csT (cs : List Int) : Nat → ByteArray
  | 0 => E0
  | i + 1 => match cs[i]? with
    | some z => csT cs i ++ numS 4 z
    | none => csT cs i
theorem csT_le (cs : List Int) : ∀ i, (csT cs i).size ≤ 4 * i
  | 0 => Nat.le_refl _
  | i + 1 => by
    have := csT_le cs i
    rw [csT]
    split
    · rw [ByteArray.size_append, numS_size]; omega
    · omega
def hdT (mrk : Bool) (kd sq t ss : Int) (cs : List Int) (ex : Bool) (pf : Int) (dt : ByteArray) (pd : Int) : ByteArray :=
  numS 1 (128 + bi (decide (0 < pd)) 32 + bi ex 16 + cs.length) ++ numS 1 (bi mrk 128 + kd) ++ (numS 2 sq ++ numS 4 t ++ numS 4 ss) ++ csT cs cs.length ++ (if ex = true then numS 2 pf ++ numS 2 (dt.size / 4 : Nat) ++ dt else E0)
set_option maxHeartbeats 8000000 in
theorem qHead (mrk : Bool) (kd sq t ss : Int) (cs : List Int) (ex : Bool) (pf : Int) (dt pl : ByteArray) (pd : Int) (ao : Option Addr) (n c : Nat) (R : List Ro) (hS : SQ R 1 ao n c (crs cs)) (hb : cs.length ≤ 1000 ∧ dt.size ≤ 100000)
    (h1 : 0 ≤ kd ∧ kd ≤ 255) (h2 : 0 ≤ sq ∧ sq ≤ 65535) (h3 : 0 ≤ t ∧ t ≤ 4294967295) (h4 : 0 ≤ ss ∧ ss ≤ 4294967295) (h5 : 0 ≤ pf ∧ pf ≤ 65535) (h6 : ∀ z ∈ cs, 0 ≤ z ∧ z ≤ 4294967295) :
    Fn Try.prog 54 #[.agg (rpR mrk kd sq t ss (.slice ao n c) ex pf dt pl pd).toArray] [] R (fun v L' R' => v = .string (hdT mrk kd sq t ss cs ex pf dt pd) ∧ L' = [] ∧ R' = []) := by
  have hn : n = cs.length := by rw [← hS.len]; simp
  subst hn
  have w1 := bi_or (decide (0 < pd)) 32
  have w2 := bi_or ex 16
  have w3 := bi_or mrk 128
  have z1 := numS_size 1 (128 + bi (decide (0 < pd)) 32 + bi ex 16 + cs.length)
  have z2 := numS_size 1 (bi mrk 128 + kd)
  have z3 := numS_size 2 sq
  have z4 := numS_size 4 t
  have z5 := numS_size 4 ss
  unfold hdT
  refine fn_intro Try.func54 rfl Try.ntmps54 rfl (fun E => ?_)
  (repeat (first | ((first | (apply wo_v; rfl) ); (· first | (apply pv_ev; rfl) )) | apply wo_nil | apply wc_seq | apply wc_region | (apply wo_box1; rfl; rfl; rfl; intro bx) | (apply wo_boxa; rfl; rfl; intro bx) ))
  (refine wc_quiet mixed (by kernel_rfl) ?_; (repeat (first | ((first | (apply hd_v; rfl) ); (· first | (apply pv_ev; rfl) | (apply pv_fld; rfl) | (apply g_load; first | (apply pv_ld; rfl; (· (repeat (first | apply sel_here ))); rfl) ) )) )))
  (refine Hd.call rfl inferInstance (Fn.mono (hBit _ 32 (bi (decide (0 < pd)) 32) rfl) (fun _ _ _ h => ⟨h.1, h.2.1⟩)) rfl (by (repeat (first | apply sub_nil )); done) (by first | exact fun _ h => h | (intro r hr; cases hr; done) | (simp; done) | exact fun _ h => List.mem_append_left _ h | (intro r hr; simp [hr]; done)) rfl ?_; (repeat (first | ((first | (apply hd_v; rfl) ); (· first | (apply pv_ev; rfl) | (apply pv_fld; rfl) | (apply g_load; first | (apply pv_ld; rfl; (· (repeat (first | apply sel_here ))); rfl) ) | (apply g_bin; first | (apply a_add; rfl; rfl; infer_instance; omega) ) )) )))
  (refine Hd.call rfl inferInstance (Fn.mono (hBit _ 16 (bi ex 16) rfl) (fun _ _ _ h => ⟨h.1, h.2.1⟩)) rfl (by (repeat (first | apply sub_nil )); done) (by first | exact fun _ h => h | (intro r hr; cases hr; done) | (simp; done) | exact fun _ h => List.mem_append_left _ h | (intro r hr; simp [hr]; done)) rfl ?_; (repeat (first | ((first | (apply hd_v; rfl) ); (· first | (apply pv_ev; rfl) | (apply pv_fld; rfl) | (apply g_load; first | (apply pv_ld; rfl; (· (repeat (first | apply sel_here ))); rfl) ) | (apply g_bin; first | (apply a_add; rfl; rfl; infer_instance; omega) ) | (apply g_bi; first | (apply pv_len_sl; rfl) ) | (apply g_conv; first | (apply a_conv; rfl; infer_instance; infer_instance; infer_instance; omega) ) )) )))
  (refine Hd.call rfl inferInstance (Fn.mono (rNum 1 (128 + bi (decide (0 < pd)) 32 + bi ex 16 + cs.length) 1 rfl (by omega)) (fun _ _ _ h => ⟨h.1, h.2.1⟩)) rfl (by (repeat (first | apply sub_nil )); done) (by first | exact fun _ h => h | (intro r hr; cases hr; done) | (simp; done) | exact fun _ h => List.mem_append_left _ h | (intro r hr; simp [hr]; done)) rfl ?_; (repeat (first | ((first | (apply hd_v; rfl) ); (· first | (apply pv_ev; rfl) | (apply pv_fld; rfl) | (apply g_load; first | (apply pv_ld; rfl; (· (repeat (first | apply sel_here ))); rfl) ) )) )))
  (refine Hd.call rfl inferInstance (Fn.mono (hBit _ 128 (bi mrk 128) rfl) (fun _ _ _ h => ⟨h.1, h.2.1⟩)) rfl (by (repeat (first | apply sub_nil )); done) (by first | exact fun _ h => h | (intro r hr; cases hr; done) | (simp; done) | exact fun _ h => List.mem_append_left _ h | (intro r hr; simp [hr]; done)) rfl ?_; (repeat (first | ((first | (apply hd_v; rfl) ); (· first | (apply pv_ev; rfl) | (apply pv_fld; rfl) | (apply g_load; first | (apply pv_ld; rfl; (· (repeat (first | apply sel_here ))); rfl) ) | (apply g_bin; first | (apply a_add; rfl; rfl; infer_instance; omega) ) | (apply g_conv; first | (apply a_conv; rfl; infer_instance; infer_instance; infer_instance; omega) ) )) )))
  (refine Hd.call rfl inferInstance (Fn.mono (rNum 1 (bi mrk 128 + kd) 1 rfl (by omega)) (fun _ _ _ h => ⟨h.1, h.2.1⟩)) rfl (by (repeat (first | apply sub_nil )); done) (by first | exact fun _ h => h | (intro r hr; cases hr; done) | (simp; done) | exact fun _ h => List.mem_append_left _ h | (intro r hr; simp [hr]; done)) rfl ?_; (repeat (first | ((first | (apply hd_v; rfl) ); (· first | (apply pv_ev; rfl) | (apply g_bin; first | (apply a_add; rfl; rfl; infer_instance; omega) | (apply pv_add_s; rfl; rfl; omega) ) )) | apply Hd.nil | apply wc_seq )))
  have zz : (numS 1 (128 + bi (decide (0 < pd)) 32 + bi ex 16 + cs.length) ++ numS 1 (bi mrk 128 + kd)).size = 2 := by rw [ByteArray.size_append, z1, z2]
  generalize numS 1 (128 + bi (decide (0 < pd)) 32 + bi ex 16 + cs.length) ++ numS 1 (bi mrk 128 + kd) = sa at zz ⊢
  have zb : (numS 2 sq ++ numS 4 t).size = 6 := by rw [ByteArray.size_append, z3, z4]
  have zc : (numS 2 sq ++ numS 4 t ++ numS 4 ss).size = 10 := by rw [ByteArray.size_append, zb, z5]
  (refine wc_quiet mixed (by kernel_rfl) ?_; (repeat (first | ((first | (apply hd_v; rfl) ); (· first | (apply pv_ev; rfl) | (apply pv_fld; rfl) | (apply g_load; first | (apply pv_ld; rfl; (· (repeat (first | apply sel_here ))); rfl) ) | (apply g_conv; first | (apply a_conv; rfl; infer_instance; infer_instance; infer_instance; omega) ) )) )))
  (refine Hd.call rfl inferInstance (Fn.mono (rNum 2 sq 2 rfl (by omega)) (fun _ _ _ h => ⟨h.1, h.2.1⟩)) rfl (by (repeat (first | apply sub_nil )); done) (by first | exact fun _ h => h | (intro r hr; cases hr; done) | (simp; done) | exact fun _ h => List.mem_append_left _ h | (intro r hr; simp [hr]; done)) rfl ?_; (repeat (first | ((first | (apply hd_v; rfl) ); (· first | (apply pv_ev; rfl) | (apply pv_fld; rfl) | (apply g_load; first | (apply pv_ld; rfl; (· (repeat (first | apply sel_here ))); rfl) ) | (apply g_conv; first | (apply a_conv; rfl; infer_instance; infer_instance; infer_instance; omega) ) )) )))
  (refine Hd.call rfl inferInstance (Fn.mono (rNum 4 t 4 rfl (by omega)) (fun _ _ _ h => ⟨h.1, h.2.1⟩)) rfl (by (repeat (first | apply sub_nil )); done) (by first | exact fun _ h => h | (intro r hr; cases hr; done) | (simp; done) | exact fun _ h => List.mem_append_left _ h | (intro r hr; simp [hr]; done)) rfl ?_; (repeat (first | ((first | (apply hd_v; rfl) ); (· first | (apply pv_ev; rfl) | (apply pv_fld; rfl) | (apply g_load; first | (apply pv_ld; rfl; (· (repeat (first | apply sel_here ))); rfl) ) | (apply g_bin; first | (apply a_add; rfl; rfl; infer_instance; omega) | (apply pv_add_s; rfl; rfl; omega) ) | (apply g_conv; first | (apply a_conv; rfl; infer_instance; infer_instance; infer_instance; omega) ) )) )))
  (refine Hd.call rfl inferInstance (Fn.mono (rNum 4 ss 4 rfl (by omega)) (fun _ _ _ h => ⟨h.1, h.2.1⟩)) rfl (by (repeat (first | apply sub_nil )); done) (by first | exact fun _ h => h | (intro r hr; cases hr; done) | (simp; done) | exact fun _ h => List.mem_append_left _ h | (intro r hr; simp [hr]; done)) rfl ?_; (repeat (first | ((first | (apply wo_v; rfl) | (apply hd_v; rfl) ); (· first | (apply pv_ev; rfl) | (apply pv_fld; rfl) | (apply g_load; first | (apply pv_ld; rfl; (· (repeat (first | apply sel_here ))); rfl) ) | (apply g_bin; first | (apply a_add; rfl; rfl; infer_instance; omega) | (apply pv_add_s; rfl; rfl; omega) ) | (apply g_bi; first | (apply pv_len_sl; rfl) ) )) | apply wo_nil | apply Hd.nil | apply wc_seq | apply wc_region | apply wc_block )))
  have zd : (sa ++ (numS 2 sq ++ numS 4 t ++ numS 4 ss)).size = 12 := by rw [ByteArray.size_append, zz, zc]
  generalize sa ++ (numS 2 sq ++ numS 4 t ++ numS 4 ss) = sb' at zd ⊢
  have hct := csT_le cs cs.length
  (repeat (first | fail ))
  refine wc_loop' (fun q st => ∃ i : Nat, q = cs.length - i ∧ i ≤ cs.length ∧ st = ⟨[(1, .pointer (some ⟨bx, 0, none⟩)), (3, .string (sb' ++ csT cs i)), (48, .slice ao cs.length c), (49, .int .i64 cs.length), (50, .int .i64 i)], [qpI bx mrk kd sq t ss (.slice ao cs.length c) ex pf dt pl pd], R⟩) ⟨0, rfl, Nat.zero_le _, by rw [csT, append_E0]⟩ (wk_mk (by (repeat (first | apply wkf_nil | (apply wkf_cons; rfl))); done) (by (repeat (first | apply sub_nil )); done) (by first | exact fun _ h => h | (intro r hr; cases hr; done) | (simp; done) | exact fun _ h => List.mem_append_left _ h | (intro r hr; simp [hr]; done))) ?_
  rintro q st ⟨i, rfl, hi, rfl⟩
  have hci := csT_le cs i
  have zi : (sb' ++ csT cs i).size = 12 + (csT cs i).size := by rw [ByteArray.size_append, zd]
  by_cases hlt : i < cs.length
  · obtain ⟨z, hz⟩ : ∃ z, cs[i]? = some z := ⟨_, List.getElem?_eq_getElem hlt⟩
    have hr := crs_at hz
    have hzb := h6 z (List.mem_of_getElem? hz)
    obtain ⟨b1, o1, rfl, hmem⟩ := hS.pos (by omega)
    have zz4 := numS_size 4 z
    (repeat (first | ((first | (apply wo_v; rfl) ); (· first | (apply pv_ev; rfl) )) | apply wo_nil | apply wc_seq | apply wc_region | apply wc_skip | (apply wc_true; rfl) | (apply wc_false; rfl) | (apply a_dec_t; rfl; (· first | assumption | omega)) ))
    refine wc_block ?_
    (repeat (first | ((first | (apply wo_v; rfl) ); (· first | (apply pv_ev; rfl) | (apply g_load; first | (apply pv_ld; rfl; (· (repeat (first | apply sel_there))); rfl) | (apply pv_ld_ownf; rfl; (· (repeat (first | fail ))); (· assumption); rfl) | (apply pv_ld_own1; rfl; (· (repeat (first | apply sel_there))); (· assumption)) | (apply pv_ld_rof; rfl; (· (first | assumption )); (· assumption); rfl) | (apply pv_ld_ro1; rfl; (· (first | assumption )); (· assumption)) ) | (apply g_conv; first | (apply a_conv; rfl; infer_instance; infer_instance; infer_instance; omega) ) | (apply g_idx; first | (apply pv_idx; rfl; rfl; omega) ) )) | apply wo_nil | apply wc_seq | apply wc_region ))
    (refine wo_call (rNum 4 z 4 rfl (by omega)) rfl (by (repeat (first | apply sub_nil )); done) (by first | exact fun _ h => h | (intro r hr; cases hr; done) | (simp; done) | exact fun _ h => List.mem_append_left _ h | (intro r hr; simp [hr]; done)) rfl ?_; rintro v L' R' ⟨rfl, rfl, rfl⟩ H' hH RR hR; simp only [List.cons_append, List.nil_append] at hH hR; subst hH; have hR := hR.symm; subst hR)
    (repeat (first | ((first | (apply wo_v; rfl) ); (· first | (apply pv_ev; rfl) | (apply g_bin; first | (apply a_add; rfl; rfl; infer_instance; omega) | (apply pv_add_s; rfl; rfl; omega) ) )) | apply wo_nil | apply wc_region ))
    exact loop_end ⟨i + 1, rfl, by omega, by rw [csT, hz, ← ByteArray.append_assoc]⟩ (by omega) (wk_mk (by (repeat (first | apply wkf_nil | (apply wkf_cons; rfl))); done) (by (repeat (first | apply sub_nil )); done) (by first | exact fun _ h => h | (intro r hr; cases hr; done) | (simp; done) | exact fun _ h => List.mem_append_left _ h | (intro r hr; simp [hr]; done)))
  · have e : i = cs.length := by omega
    subst e
    have ze : (sb' ++ csT cs cs.length).size ≤ 100000 := by rw [ByteArray.size_append]; omega
    generalize sb' ++ csT cs cs.length = sc at ze ⊢
    cases ex with
    | false =>
      rw [if_neg (by simp), append_E0]
      (repeat (first | ((first | (apply wo_v; rfl) ); (· first | (apply pv_ev; rfl) | (apply pv_fld; rfl) | (apply g_load; first | (apply pv_ld; rfl; (· (repeat (first | apply sel_here ))); rfl) ) )) | apply wo_nil | apply wc_seq | apply wc_region | apply wc_skip | (apply wc_exit; rfl) | apply wc_ret | (apply wc_true; rfl) | (apply wc_false; rfl) | (apply a_dec_t; rfl; (· first | assumption | omega)) | (apply a_dec_f; rfl; (· first | assumption | omega)) ))
      exact ret1 rfl rfl ⟨rfl, rfl, rfl⟩ ((by (repeat (first | apply sub_nil )); done) : List.Perm _ ([] ++ _)) (by first | exact fun _ h => h | (intro r hr; cases hr; done) | (simp; done) | exact fun _ h => List.mem_append_left _ h | (intro r hr; simp [hr]; done))
    | true =>
      rw [if_pos rfl]
      have y1 := numS_size 2 pf
      have y2 := numS_size 2 ((dt.size / 4 : Nat) : Int)
      have y3 : (numS 2 pf ++ numS 2 ((dt.size / 4 : Nat) : Int)).size = 4 := by rw [ByteArray.size_append, y1, y2]
      have y4 : (numS 2 pf ++ numS 2 ((dt.size / 4 : Nat) : Int) ++ dt).size = 4 + dt.size := by rw [ByteArray.size_append, y3]
      (repeat (first | ((first | (apply wo_v; rfl) ); (· first | (apply pv_ev; rfl) | (apply pv_fld; rfl) | (apply g_load; first | (apply pv_ld; rfl; (· (repeat (first | apply sel_here ))); rfl) ) )) | apply wo_nil | apply wc_seq | apply wc_region | (apply wc_exit; rfl) | (apply wc_true; rfl) | (apply wc_false; rfl) | (apply a_dec_t; rfl; (· first | assumption | omega)) | (apply a_dec_f; rfl; (· first | assumption | omega)) ))
      (refine wc_quiet mixed (by kernel_rfl) ?_; (repeat (first | ((first | (apply hd_v; rfl) ); (· first | (apply pv_ev; rfl) | (apply pv_fld; rfl) | (apply g_load; first | (apply pv_ld; rfl; (· (repeat (first | apply sel_here ))); rfl) ) | (apply g_conv; first | (apply a_conv; rfl; infer_instance; infer_instance; infer_instance; omega) ) )) )))
      (refine Hd.call rfl inferInstance (Fn.mono (rNum 2 pf 2 rfl (by omega)) (fun _ _ _ h => ⟨h.1, h.2.1⟩)) rfl (by (repeat (first | apply sub_nil )); done) (by first | exact fun _ h => h | (intro r hr; cases hr; done) | (simp; done) | exact fun _ h => List.mem_append_left _ h | (intro r hr; simp [hr]; done)) rfl ?_; (repeat (first | ((first | (apply hd_v; rfl) ); (· first | (apply pv_ev; rfl) | (apply pv_fld; rfl) | (apply g_load; first | (apply pv_ld; rfl; (· (repeat (first | apply sel_here ))); rfl) ) | (apply g_bin; first | (apply a_quo; rfl; rfl; infer_instance; omega) ) | (apply g_bi; first | (apply pv_len_str; rfl) ) | (apply g_conv; first | (apply a_conv; rfl; infer_instance; infer_instance; infer_instance; omega) ) )) )))
      (refine Hd.call rfl inferInstance (Fn.mono (rNum 2 ((dt.size / 4 : Nat) : Int) 2 rfl (by omega)) (fun _ _ _ h => ⟨h.1, h.2.1⟩)) rfl (by (repeat (first | apply sub_nil )); done) (by first | exact fun _ h => h | (intro r hr; cases hr; done) | (simp; done) | exact fun _ h => List.mem_append_left _ h | (intro r hr; simp [hr]; done)) rfl ?_; (repeat (first | ((first | (apply wo_v; rfl) | (apply hd_v; rfl) ); (· first | (apply pv_ev; rfl) | (apply pv_fld; rfl) | (apply g_load; first | (apply pv_ld; rfl; (· (repeat (first | apply sel_here ))); rfl) ) | (apply g_bin; first | (apply a_add; rfl; rfl; infer_instance; omega) | (apply pv_add_s; rfl; rfl; omega) ) )) | apply wo_nil | apply Hd.nil | apply wc_seq | apply wc_region | apply wc_ret )))
      exact ret1 rfl rfl ⟨rfl, rfl, rfl⟩ ((by (repeat (first | apply sub_nil )); done) : List.Perm _ ([] ++ _)) (by first | exact fun _ h => h | (intro r hr; cases hr; done) | (simp; done) | exact fun _ h => List.mem_append_left _ h | (intro r hr; simp [hr]; done))
def zrT : Nat → ByteArray
  | 0 => E0
  | i + 1 => zrT i ++ ⟨#[0]⟩
theorem zrT_size : ∀ i, (zrT i).size = i
  | 0 => rfl
  | i + 1 => by rw [zrT, ByteArray.size_append, zrT_size i]; rfl
theorem hdT_le (mrk : Bool) (kd sq t ss : Int) (cs : List Int) (ex : Bool) (pf : Int) (dt : ByteArray) (pd : Int) : (hdT mrk kd sq t ss cs ex pf dt pd).size ≤ 16 + 4 * cs.length + dt.size := by
  have h := csT_le cs cs.length
  unfold hdT
  cases ex with
  | true => rw [if_pos rfl]; simp only [ByteArray.size_append, numS_size]; omega
  | false => rw [if_neg (by simp)]; simp only [ByteArray.size_append, numS_size, show E0.size = 0 from rfl]; omega
def txR (mrk : Bool) (kd sq t ss : Int) (cs : List Int) (ex : Bool) (pf : Int) (dt pl : ByteArray) (pd : Int) : ByteArray :=
  hdT mrk kd sq t ss cs ex pf dt pd ++ pl ++ (if 0 < pd then zrT (pd.toNat - 1) ++ numS 1 pd else E0)
set_option maxHeartbeats 8000000 in
theorem qText (mrk : Bool) (kd sq t ss : Int) (cs : List Int) (ex : Bool) (pf : Int) (dt pl : ByteArray) (pd : Int) (ao : Option Addr) (n c : Nat) (R : List Ro) (hS : SQ R 1 ao n c (crs cs)) (hb : cs.length ≤ 1000 ∧ dt.size ≤ 100000) (hp : pl.size ≤ 100000) (hpd : pd ≤ 1000)
    (h1 : 0 ≤ kd ∧ kd ≤ 255) (h2 : 0 ≤ sq ∧ sq ≤ 65535) (h3 : 0 ≤ t ∧ t ≤ 4294967295) (h4 : 0 ≤ ss ∧ ss ≤ 4294967295) (h5 : 0 ≤ pf ∧ pf ≤ 65535) (h6 : ∀ z ∈ cs, 0 ≤ z ∧ z ≤ 4294967295) :
    Fn Try.prog 27 #[.agg (rpR mrk kd sq t ss (.slice ao n c) ex pf dt pl pd).toArray] [] R (fun v L' R' => v = .string (txR mrk kd sq t ss cs ex pf dt pl pd) ∧ L' = [] ∧ R' = []) := by
  have hH := qHead mrk kd sq t ss cs ex pf dt pl pd ao n c R hS hb h1 h2 h3 h4 h5 h6
  have hz := hdT_le mrk kd sq t ss cs ex pf dt pd
  unfold txR
  generalize hdT mrk kd sq t ss cs ex pf dt pd = hd at hH hz ⊢
  have hz2 : (hd ++ pl).size ≤ 300000 := by rw [ByteArray.size_append]; omega
  refine fn_intro Try.func27 rfl Try.ntmps27 rfl (fun E => ?_)
  (repeat (first | ((first | (apply wo_v; rfl) ); (· first | (apply pv_ev; rfl) )) | apply wo_nil | apply wc_seq | apply wc_region | (apply wo_box1; rfl; rfl; rfl; intro bx) | (apply wo_boxa; rfl; rfl; intro bx) ))
  (refine wc_quiet mixed (by kernel_rfl) ?_; (repeat (first | ((first | (apply hd_v; rfl) ); (· first | (apply pv_ev; rfl) | (apply g_load; first | (apply pv_lda; rfl; (· (repeat (first | apply sel_here ))); (· (repeat (first | apply Cut.here0 | apply Cut.here )))) ) )) )))
  (refine Hd.call rfl inferInstance (Fn.mono (hH) (fun _ _ _ h => ⟨h.1, h.2.1⟩)) rfl (by (repeat (first | apply sub_nil )); done) (by first | exact fun _ h => h | (intro r hr; cases hr; done) | (simp; done) | exact fun _ h => List.mem_append_left _ h | (intro r hr; simp [hr]; done)) rfl ?_; (repeat (first | ((first | (apply wo_v; rfl) | (apply hd_v; rfl) ); (· first | (apply pv_ev; rfl) | (apply pv_fld; rfl) | (apply g_load; first | (apply pv_ld; rfl; (· (repeat (first | apply sel_here ))); rfl) ) | (apply g_bin; first | (apply a_add; rfl; rfl; infer_instance; omega) | (apply pv_add_s; rfl; rfl; omega) ) )) | apply wo_nil | apply Hd.nil | apply wc_seq | apply wc_region | apply wc_block )))
  generalize hd ++ pl = hd2 at hz2 ⊢
  refine wc_loop' (fun q st => ∃ i : Nat, q = 1001 - i ∧ (i = 0 ∨ (i : Int) + 1 ≤ pd) ∧ st = ⟨[(1, .pointer (some ⟨bx, 0, none⟩)), (3, .string (hd2 ++ zrT i)), (4, .int .i64 ((i : Int) + 1))], [qpI bx mrk kd sq t ss (.slice ao n c) ex pf dt pl pd], R⟩) ⟨0, rfl, .inl rfl, by rw [zrT, append_E0]⟩ (wk_mk (by (repeat (first | apply wkf_nil | (apply wkf_cons; rfl))); done) (by (repeat (first | apply sub_nil )); done) (by first | exact fun _ h => h | (intro r hr; cases hr; done) | (simp; done) | exact fun _ h => List.mem_append_left _ h | (intro r hr; simp [hr]; done))) ?_
  rintro q st ⟨i, rfl, hi, rfl⟩
  have hzi : (hd2 ++ zrT i).size = hd2.size + i := by rw [ByteArray.size_append, zrT_size]
  have e0 : (⟨#[0]⟩ : ByteArray).size = 1 := rfl
  by_cases hlt : (i : Int) + 1 < pd
  · (repeat (first | ((first | (apply wo_v; rfl) ); (· first | (apply pv_ev; rfl) | (apply pv_fld; rfl) | (apply g_load; first | (apply pv_ld; rfl; (· (repeat (first | apply sel_here ))); rfl) ) )) | apply wo_nil | apply wc_seq | apply wc_region | apply wc_skip | (apply wc_true; rfl) | (apply wc_false; rfl) | (apply a_dec_t; rfl; (· first | assumption | omega)) ))
    refine wc_block ?_
    (repeat (first | ((first | (apply wo_v; rfl) ); (· first | (apply pv_ev; rfl) | (apply g_bin; first | (apply a_add; rfl; rfl; infer_instance; omega) | (apply pv_add_s; rfl; rfl; omega) ) )) | apply wo_nil | apply wc_region ))
    exact loop_end ⟨i + 1, rfl, .inr (by omega), by rw [zrT, ← ByteArray.append_assoc]⟩ (by omega) (wk_mk (by (repeat (first | apply wkf_nil | (apply wkf_cons; rfl))); done) (by (repeat (first | apply sub_nil )); done) (by first | exact fun _ h => h | (intro r hr; cases hr; done) | (simp; done) | exact fun _ h => List.mem_append_left _ h | (intro r hr; simp [hr]; done)))
  · by_cases hp0 : 0 < pd
    · have e : i = pd.toNat - 1 := by omega
      subst e
      rw [if_pos hp0]
      have y1 := numS_size 1 pd
      (repeat (first | ((first | (apply wo_v; rfl) ); (· first | (apply pv_ev; rfl) | (apply pv_fld; rfl) | (apply g_load; first | (apply pv_ld; rfl; (· (repeat (first | apply sel_here ))); rfl) ) | (apply g_conv; first | (apply a_conv; rfl; infer_instance; infer_instance; infer_instance; omega) ) )) | apply wo_nil | apply wc_seq | apply wc_region | (apply wc_exit; rfl) | (apply wc_true; rfl) | (apply wc_false; rfl) | (apply a_dec_t; rfl; (· first | assumption | omega)) | (apply a_dec_f; rfl; (· first | assumption | omega)) ))
      (refine wo_call (rNum 1 pd 1 rfl (by omega)) rfl (by (repeat (first | apply sub_nil )); done) (by first | exact fun _ h => h | (intro r hr; cases hr; done) | (simp; done) | exact fun _ h => List.mem_append_left _ h | (intro r hr; simp [hr]; done)) rfl ?_; rintro v L' R' ⟨rfl, rfl, rfl⟩ H' hH RR hR; simp only [List.cons_append, List.nil_append] at hH hR; subst hH; have hR := hR.symm; subst hR)
      (repeat (first | ((first | (apply wo_v; rfl) ); (· first | (apply pv_ev; rfl) | (apply g_bin; first | (apply a_add; rfl; rfl; infer_instance; omega) | (apply pv_add_s; rfl; rfl; omega) ) )) | apply wo_nil | apply wc_seq | apply wc_region | apply wc_ret ))
      exact ret1 rfl rfl ⟨by rw [← ByteArray.append_assoc], rfl, rfl⟩ ((by (repeat (first | apply sub_nil )); done) : List.Perm _ ([] ++ _)) (by first | exact fun _ h => h | (intro r hr; cases hr; done) | (simp; done) | exact fun _ h => List.mem_append_left _ h | (intro r hr; simp [hr]; done))
    · have e : i = 0 := by omega
      subst e
      rw [if_neg hp0]
      (repeat (first | ((first | (apply wo_v; rfl) ); (· first | (apply pv_ev; rfl) | (apply pv_fld; rfl) | (apply g_load; first | (apply pv_ld; rfl; (· (repeat (first | apply sel_here ))); rfl) ) )) | apply wo_nil | apply wc_seq | apply wc_region | apply wc_skip | (apply wc_exit; rfl) | apply wc_ret | (apply wc_true; rfl) | (apply wc_false; rfl) | (apply a_dec_t; rfl; (· first | assumption | omega)) | (apply a_dec_f; rfl; (· first | assumption | omega)) ))
      exact ret1 rfl rfl ⟨by rw [zrT], rfl, rfl⟩ ((by (repeat (first | apply sub_nil )); done) : List.Perm _ ([] ++ _)) (by first | exact fun _ h => h | (intro r hr; cases hr; done) | (simp; done) | exact fun _ h => List.mem_append_left _ h | (intro r hr; simp [hr]; done))
end Go.Proofs.Ytabdikemijihjaa
