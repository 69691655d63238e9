/-
  Package octet, the reader, and its reference.
-/
import Derived.Test.YtlhlidmhlhodiaaSpT
import Derived.Test.YtlhlidmhlhodiaaTy
namespace Go.Proofs.Ytlhlidmhlhodiaa
set_option linter.unusedSimpArgs false
set_option linter.unusedVariables false
set_option linter.unusedSimpArgs false
set_option linter.unusedVariables false
open Go.RowKit
set_option maxRecDepth 100000
attribute [local irreducible] Pv WO WC Fn
attribute [local irreducible] ByteArray.extract

abbrev E0 : ByteArray := ⟨#[]⟩
abbrev rdO (g : Nat) (s : ByteArray) (e : Int) : It := .ob g (.cells #[.string s, .int .i64 e] 260 (0, 0))
abbrev rrL (s : ByteArray) (e : Int) : List Value := [.string s, .int .i64 e]
def rdB (s : ByteArray) (e n : Int) : ByteArray × ByteArray × Int :=
  if e ≠ 0 then (E0, s, e) else if n < 0 then (E0, E0, 5) else if (s.size : Int) < n then (E0, E0, 1) else (s.extract 0 n.toNat, s.extract n.toNat s.size, 0)
def rdF (s : ByteArray) (e x : Int) : ByteArray × Int := if e = 0 ∧ x ≠ 0 then (E0, x) else (s, e)
theorem octRead (s : ByteArray) : Fn Try.prog 62 #[.string s] [] [] (fun v L' R' => ∃ g, v = .pointer (some ⟨g, 0, none⟩) ∧ L' = [rdO g s 0] ∧ R' = []) := by
  refine fn_intro Try.func62 rfl Try.ntmps62 rfl (fun E => ?_)
  (repeat (first | ((first | (apply wo_v; rfl) ); (· first | (apply pv_ev; rfl) | (apply g_build; apply pv_build; (· (repeat (first | apply Bld.nil | (apply Bld.one; rfl; rfl; (· (repeat (first | apply SetAt.here )))) )))) )) | apply wo_nil | apply wc_seq | apply wc_region | apply wc_ret | (apply wo_box1; rfl; rfl; rfl; intro bx) | (apply wo_boxa; rfl; rfl; intro bx) ))
  exact retv rfl (by (repeat (first | apply RV.nil | (apply RV.tmp; rfl) )); done) ⟨_, rfl, rfl, rfl⟩ (by (repeat (first | apply sub_nil )); done) (by first | exact fun _ h => h | (intro r hr; cases hr; done) | (simp; done) | exact fun _ h => List.mem_append_left _ h | (intro r hr; simp [hr]; done))
theorem octLen (g : Nat) (s : ByteArray) (e : Int) : Fn Try.prog 84 #[.pointer (some ⟨g, 0, none⟩)] [rdO g s e] [] (fun v L' R' => v = .int .i64 s.size ∧ L' = [rdO g s e] ∧ R' = []) := by
  refine fn_intro Try.func84 rfl Try.ntmps84 rfl (fun E => ?_)
  (repeat (first | ((first | (apply wo_v; rfl) ); (· first | (apply pv_ev; rfl) | (apply pv_fld; rfl) | (apply g_load; first | (apply pv_ld; rfl; (· (repeat (first | apply sel_here ))); rfl) ) | (apply g_bi; first | (apply pv_len_str; rfl) ) )) | apply wo_nil | apply wc_seq | apply wc_region | apply wc_ret ))
  exact retv rfl (by (repeat (first | apply RV.nil | (apply RV.tmp; rfl) )); done) (⟨rfl, rfl, rfl⟩) (by (repeat (first | apply sub_nil )); done) (by first | exact fun _ h => h | (intro r hr; cases hr; done) | (simp; done) | exact fun _ h => List.mem_append_left _ h | (intro r hr; simp [hr]; done))
theorem octErr (g : Nat) (s : ByteArray) (e : Int) : Fn Try.prog 64 #[.pointer (some ⟨g, 0, none⟩)] [rdO g s e] [] (fun v L' R' => v = .int .i64 e ∧ L' = [rdO g s e] ∧ R' = []) := by
  refine fn_intro Try.func64 rfl Try.ntmps64 rfl (fun E => ?_)
  (repeat (first | ((first | (apply wo_v; rfl) ); (· first | (apply pv_ev; rfl) | (apply pv_fld; rfl) | (apply g_load; first | (apply pv_ld; rfl; (· (repeat (first | apply sel_here ))); rfl) ) )) | apply wo_nil | apply wc_seq | apply wc_region | apply wc_ret ))
  exact retv rfl (by (repeat (first | apply RV.nil | (apply RV.tmp; rfl) )); done) (⟨rfl, rfl, rfl⟩) (by (repeat (first | apply sub_nil )); done) (by first | exact fun _ h => h | (intro r hr; cases hr; done) | (simp; done) | exact fun _ h => List.mem_append_left _ h | (intro r hr; simp [hr]; done))
theorem octFail (g : Nat) (s : ByteArray) (e x : Int) : Fn Try.prog 70 #[.pointer (some ⟨g, 0, none⟩), .int .i64 x] [rdO g s e] [] (fun v L' R' => v = .tuple #[] ∧ L' = [rdO g (rdF s e x).1 (rdF s e x).2] ∧ R' = []) := by
  have h : (e = 0 ∧ x ≠ 0) ∨ (e = 0 ∧ ¬ x ≠ 0) ∨ ¬ e = 0 := by omega
  rcases h with ⟨h1, h2⟩ | ⟨h1, h2⟩ | h1
  · have hf : rdF s e x = (E0, x) := if_pos ⟨h1, h2⟩
    rw [hf]
    refine fn_intro Try.func70 rfl Try.ntmps70 rfl (fun E => ?_)
    (repeat (first | ((first | (apply wo_v; rfl) ); (· first | (apply pv_ev; rfl) | (apply pv_fld; rfl) | (apply g_load; first | (apply pv_ld; rfl; (· (repeat (first | apply sel_here ))); rfl) ) | (apply g_pick; first | (apply pv_pick_t; rfl; rfl) ) )) | apply wo_nil | apply wc_seq | apply wc_region | (apply wc_true; rfl) | (apply wc_false; rfl) | (apply a_dec_t; rfl; (· first | assumption | omega)) | (apply wo_run; rfl; rfl) | (apply wo_skip; rfl; rfl; rfl; rfl) | (apply wo_skip_u; rfl; rfl; rfl) | (apply a_gt; rfl; rfl; (· first | assumption | omega)) | (apply wo_st; rfl; rfl; rfl; (· (repeat (first | apply sel_here ))); (· (repeat (first | apply SetAt.here | apply SetAt.there))); rfl) ))
    exact ret0 rfl ⟨rfl, rfl, rfl⟩ (by (repeat (first | apply sub_nil )); done) (by first | exact fun _ h => h | (intro r hr; cases hr; done) | (simp; done) | exact fun _ h => List.mem_append_left _ h | (intro r hr; simp [hr]; done))
  · have hf : rdF s e x = (s, e) := if_neg (fun h => h2 h.2)
    rw [hf]
    refine fn_intro Try.func70 rfl Try.ntmps70 rfl (fun E => ?_)
    (repeat (first | ((first | (apply wo_v; rfl) ); (· first | (apply pv_ev; rfl) | (apply pv_fld; rfl) | (apply g_load; first | (apply pv_ld; rfl; (· (repeat (first | apply sel_here ))); rfl) ) | (apply g_pick; first | (apply pv_pick_t; rfl; rfl) ) )) | apply wo_nil | apply wc_seq | apply wc_region | apply wc_skip | (apply wc_true; rfl) | (apply wc_false; rfl) | (apply a_dec_t; rfl; (· first | assumption | omega)) | (apply a_dec_f; rfl; (· first | assumption | omega)) | (apply wo_run; rfl; rfl) | (apply wo_skip; rfl; rfl; rfl; rfl) | (apply wo_skip_u; rfl; rfl; rfl) | (apply a_gt; rfl; rfl; (· first | assumption | omega)) ))
    exact ret0 rfl ⟨rfl, rfl, rfl⟩ (by (repeat (first | apply sub_nil )); done) (by first | exact fun _ h => h | (intro r hr; cases hr; done) | (simp; done) | exact fun _ h => List.mem_append_left _ h | (intro r hr; simp [hr]; done))
  · have hf : rdF s e x = (s, e) := if_neg (fun h => h1 h.1)
    rw [hf]
    refine fn_intro Try.func70 rfl Try.ntmps70 rfl (fun E => ?_)
    (repeat (first | ((first | (apply wo_v; rfl) ); (· first | (apply pv_ev; rfl) | (apply pv_fld; rfl) | (apply g_load; first | (apply pv_ld; rfl; (· (repeat (first | apply sel_here ))); rfl) ) | (apply g_pick; first | (apply pv_pick_t; rfl; rfl) | (apply pv_pick_f; rfl; rfl)) )) | apply wo_nil | apply wc_seq | apply wc_region | apply wc_skip | (apply wc_true; rfl) | (apply wc_false; rfl) | (apply wo_run; rfl; rfl) | (apply wo_skip; rfl; rfl; rfl; rfl) | (apply wo_skip_u; rfl; rfl; rfl) | (apply a_gt; rfl; rfl; (· first | assumption | omega)) | (apply a_gf; rfl; rfl; (· first | assumption | omega)) ))
    exact ret0 rfl ⟨rfl, rfl, rfl⟩ (by (repeat (first | apply sub_nil )); done) (by first | exact fun _ h => h | (intro r hr; cases hr; done) | (simp; done) | exact fun _ h => List.mem_append_left _ h | (intro r hr; simp [hr]; done))
set_option maxHeartbeats 2000000 in
theorem octBytes (g : Nat) (s : ByteArray) (e n : Int) (hs : s.size ≤ 1099511627776) : Fn Try.prog 67 #[.pointer (some ⟨g, 0, none⟩), .int .i64 n] [rdO g s e] []
    (fun v L' R' => v = .string (rdB s e n).1 ∧ L' = [rdO g (rdB s e n).2.1 (rdB s e n).2.2] ∧ R' = []) := by
  have h : ¬ e = 0 ∨ (e = 0 ∧ n < 0) ∨ (e = 0 ∧ ¬ n < 0 ∧ (s.size : Int) < n) ∨ (e = 0 ∧ ¬ n < 0 ∧ ¬ (s.size : Int) < n) := by omega
  rcases h with h1 | ⟨rfl, h2⟩ | ⟨rfl, h2, h3⟩ | ⟨rfl, h2, h3⟩
  · have hf : rdB s e n = (E0, s, e) := if_pos h1
    rw [hf]
    refine fn_intro Try.func67 rfl Try.ntmps67 rfl (fun E => ?_)
    (repeat (first | ((first | (apply wo_v; rfl) ); (· first | (apply pv_ev; rfl) | (apply pv_fld; rfl) | (apply g_load; first | (apply pv_ld; rfl; (· (repeat (first | apply sel_here ))); rfl) ) )) | apply wo_nil | apply wc_seq | apply wc_region | apply wc_block | apply wc_ret | (apply wc_true; rfl) | (apply wc_false; rfl) | (apply a_dec_t; rfl; (· first | assumption | omega)) ))
    exact retv rfl (by (repeat (first | apply RV.nil | (apply RV.tmp; rfl) )); done) (⟨rfl, rfl, rfl⟩) (by (repeat (first | apply sub_nil )); done) (by first | exact fun _ h => h | (intro r hr; cases hr; done) | (simp; done) | exact fun _ h => List.mem_append_left _ h | (intro r hr; simp [hr]; done))
  · have hf : rdB s 0 n = (E0, E0, 5) := by unfold rdB; rw [if_neg (by omega), if_pos h2]
    rw [hf]
    refine fn_intro Try.func67 rfl Try.ntmps67 rfl (fun E => ?_)
    (repeat (first | ((first | (apply wo_v; rfl) ); (· first | (apply pv_ev; rfl) | (apply pv_fld; rfl) | (apply g_load; first | (apply pv_ld; rfl; (· (repeat (first | apply sel_here ))); rfl) ) )) | apply wo_nil | apply wc_seq | apply wc_region | apply wc_block | (apply wc_true; rfl) | (apply wc_false; rfl) | (apply a_dec_t; rfl; (· first | assumption | omega)) ))
    (refine wo_call (octFail g s 0 5) rfl (by (repeat (first | apply sub_nil )); done) (by first | exact fun _ h => h | (intro r hr; cases hr; done) | (simp; done) | exact fun _ h => List.mem_append_left _ h | (intro r hr; simp [hr]; done)) rfl ?_; rintro v L' R' ⟨rfl, rfl, rfl⟩ H' hH RR hR; simp only [List.cons_append, List.nil_append] at hH hR; subst hH; have hR := hR.symm; subst hR)
    (repeat (first | ((first | (apply wo_v; rfl) ); (· first | (apply pv_ev; rfl) )) | apply wo_nil | apply wc_seq | apply wc_region | apply wc_ret ))
    exact retv rfl (by (repeat (first | apply RV.nil | (apply RV.tmp; rfl) )); done) (⟨rfl, rfl, rfl⟩) (by (repeat (first | apply sub_nil )); done) (by first | exact fun _ h => h | (intro r hr; cases hr; done) | (simp; done) | exact fun _ h => List.mem_append_left _ h | (intro r hr; simp [hr]; done))
  · have hf : rdB s 0 n = (E0, E0, 1) := by unfold rdB; rw [if_neg (by omega), if_neg h2, if_pos h3]
    rw [hf]
    refine fn_intro Try.func67 rfl Try.ntmps67 rfl (fun E => ?_)
    (repeat (first | ((first | (apply wo_v; rfl) ); (· first | (apply pv_ev; rfl) | (apply pv_fld; rfl) | (apply g_load; first | (apply pv_ld; rfl; (· (repeat (first | apply sel_here ))); rfl) ) | (apply g_bi; first | (apply pv_len_str; rfl) ) )) | apply wo_nil | apply wc_seq | apply wc_region | apply wc_block | (apply wc_true; rfl) | (apply wc_false; rfl) | (apply a_dec_t; rfl; (· first | assumption | omega)) | (apply a_dec_f; rfl; (· first | assumption | omega)) ))
    (refine wo_call (octFail g s 0 1) rfl (by (repeat (first | apply sub_nil )); done) (by first | exact fun _ h => h | (intro r hr; cases hr; done) | (simp; done) | exact fun _ h => List.mem_append_left _ h | (intro r hr; simp [hr]; done)) rfl ?_; rintro v L' R' ⟨rfl, rfl, rfl⟩ H' hH RR hR; simp only [List.cons_append, List.nil_append] at hH hR; subst hH; have hR := hR.symm; subst hR)
    (repeat (first | ((first | (apply wo_v; rfl) ); (· first | (apply pv_ev; rfl) )) | apply wo_nil | apply wc_seq | apply wc_region | apply wc_ret ))
    exact retv rfl (by (repeat (first | apply RV.nil | (apply RV.tmp; rfl) )); done) (⟨rfl, rfl, rfl⟩) (by (repeat (first | apply sub_nil )); done) (by first | exact fun _ h => h | (intro r hr; cases hr; done) | (simp; done) | exact fun _ h => List.mem_append_left _ h | (intro r hr; simp [hr]; done))
  · have hf : rdB s 0 n = (s.extract 0 n.toNat, s.extract n.toNat s.size, 0) := by unfold rdB; rw [if_neg (by omega), if_neg h2, if_neg h3]
    rw [hf]
    refine fn_intro Try.func67 rfl Try.ntmps67 rfl (fun E => ?_)
    (repeat (first | ((first | (apply wo_v; rfl) ); (· first | (apply pv_ev; rfl) | (apply pv_fld; rfl) | (apply g_load; first | (apply pv_ld; rfl; (· (repeat (first | apply sel_here ))); rfl) ) | (apply g_bi; first | (apply pv_len_str; rfl) ) | (apply pv_cs_lo; rfl; rfl; omega) | (apply pv_cs_hi; rfl; rfl; omega) )) | apply wo_nil | apply wc_seq | apply wc_region | apply wc_block | apply wc_skip | apply wc_ret | (apply wc_true; rfl) | (apply wc_false; rfl) | (apply a_dec_t; rfl; (· first | assumption | omega)) | (apply a_dec_f; rfl; (· first | assumption | omega)) | (apply wo_st; rfl; rfl; rfl; (· (repeat (first | apply sel_here ))); (· (repeat (first | apply SetAt.here ))); rfl) ))
    exact retv rfl (by (repeat (first | apply RV.nil | (apply RV.tmp; rfl) )); done) (⟨rfl, rfl, rfl⟩) (by (repeat (first | apply sub_nil )); done) (by first | exact fun _ h => h | (intro r hr; cases hr; done) | (simp; done) | exact fun _ h => List.mem_append_left _ h | (intro r hr; simp [hr]; done))
/-! the reference -/
end Go.Proofs.Ytlhlidmhlhodiaa
