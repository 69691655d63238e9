/-
  Package octet: the writer's methods.
-/
import Derived.Test.YtlhlidmhlhodiaaOctW
namespace Go.Proofs.Ytlhlidmhlhodiaa
set_option linter.unusedSimpArgs false
set_option linter.unusedVariables false
set_option linter.unusedSimpArgs false
set_option linter.unusedVariables false
open Go.RowKit
set_option maxRecDepth 100000
attribute [local irreducible] Pv WO WC Fn
attribute [local irreducible] ByteArray.extract

/-- one byte -/
def b1 (x : Int) : ByteArray := ⟨#[UInt8.ofNat x.toNat]⟩
theorem b1_size (x : Int) : (b1 x).size = 1 := rfl
theorem b1_rows {x : Int} (h : 0 ≤ x ∧ x ≤ 255) : brows (b1 x) = [[.int .u8 x]] := by
  have e : (((UInt8.ofNat x.toNat).toNat : Nat) : Int) = x := by
    simp only [UInt8.toNat_ofNat']; omega
  show [[Value.int .u8 (((UInt8.ofNat x.toNat).toNat : Nat) : Int)]] = _
  rw [e]
set_option maxHeartbeats 1000000 in
theorem bWriteByte (g c : Nat) (p ao : Option Addr) (s : ByteArray) (x : Int) (hx : 0 ≤ x ∧ x ≤ 255) (hw : WOk g p ao c s) (hz : s.size + 1 ≤ 1099511627776) : Fn Try.prog 130 #[.pointer (some ⟨g, 0, none⟩), .int .u8 x] (wrH g p ao c s) []
    (fun v L' R' => ∃ p' ao' c', v = .nilIface ∧ L' = wrH g p' ao' c' (s ++ b1 x) ∧ R' = [] ∧ WOk g p' ao' c' (s ++ b1 x)) := by
  have e1 : brows s ++ [[.int .u8 x]] = brows (s ++ b1 x) := by rw [brows_append, b1_rows hx]
  have e2 : s.size + 1 = (s ++ b1 x).size := by simp [b1_size]
  refine fn_intro Try.func130 rfl Try.ntmps130 rfl (fun E => ?_)
  (repeat (first | ((first | (apply wo_v; rfl) ); (· first | (apply pv_ev; rfl) )) | apply wo_nil | apply wc_seq | apply wc_region ))
  (refine wo_call (bCheck g s.size c p ao hw.p) rfl (by (repeat (first | apply sub_nil )); done) (by first | exact fun _ h => h | (intro r hr; cases hr; done) | (simp; done) | exact fun _ h => List.mem_append_left _ h | (intro r hr; simp [hr]; done)) rfl ?_; rintro v L' R' ⟨rfl, rfl, rfl⟩ H' hH RR hR; simp only [List.cons_append, List.nil_append] at hH hR; subst hH; have hR := hR.symm; subst hR)
  (repeat (first | ((first | (apply wo_v; rfl) ); (· first | (apply pv_ev; rfl) | (apply pv_fld; rfl) | (apply g_load; first | (apply pv_ld; rfl; (· (repeat (first | apply sel_here ))); rfl) ) | (apply g_bi; first | fail ) )) | apply wo_nil | apply wc_seq | apply wc_region | (apply wo_bsl; (· (repeat (first | apply Rws'.nil | (apply Rws'.one; rfl; rfl; rfl) ))); rfl; rfl; rfl; rfl; intro bx) ))
  refine wo_app0 rfl rfl (by (repeat (first | apply sel_here | apply sel_there)); done) (by (repeat (first | apply sel_here )); done) (by unfold maxLen; omega) (by omega) rfl (fun ao' c' h1 h2 h3 => ?_)
  rw [e1, e2]
  (repeat (first | ((first | (apply wo_v; rfl) ); (· first | (apply pv_ev; rfl) | (apply pv_fld; rfl) )) | apply wo_nil | apply wc_seq | apply wc_region | apply wc_ret | (apply wo_st; rfl; rfl; rfl; (· (repeat (first | apply sel_here | apply sel_there))); (· (repeat (first | apply SetAt.here | apply SetAt.there))); rfl) ))
  refine retv rfl (by (repeat (first | apply RV.nil | (apply RV.tmp; rfl) )); done) ⟨some ⟨g, 0, none⟩, ao', c', rfl, rfl, rfl, ⟨.inr rfl, .inr ?_⟩⟩ (by (repeat (first | apply sub_nil )); done) (by first | exact fun _ h => h | (intro r hr; cases hr; done) | (simp; done) | exact fun _ h => List.mem_append_left _ h | (intro r hr; simp [hr]; done))
  cases ao' with
  | none => have := h2 rfl; omega
  | some a =>
    rcases h1 a rfl with ⟨b, h⟩ | h
    · exact ⟨b, h, by omega⟩
    · rcases hw.b with ⟨h5, _, _⟩ | ⟨b, h5, _⟩
      · rw [h5] at h; cases h
      · exact ⟨b, h.trans h5, by omega⟩
abbrev byO (bl c : Nat) (z : ByteArray) : It := .own 5 1 (some ⟨bl, 0, none⟩) z.size c (brows z)
set_option maxHeartbeats 1000000 in
theorem bWrite (g c bl c2 : Nat) (p ao : Option Addr) (s z : ByteArray) (hw : WOk g p ao c s) (hz0 : 0 < z.size) (hz : s.size + z.size ≤ 1099511627776) : Fn Try.prog 118 #[.pointer (some ⟨g, 0, none⟩), .slice (some ⟨bl, 0, none⟩) z.size c2] (wrH g p ao c s ++ [byO bl c2 z]) []
    (fun v L' R' => ∃ p' ao' c', v = .tuple #[.int .i64 z.size, .nilIface] ∧ L' = wrH g p' ao' c' (s ++ z) ∧ R' = [] ∧ WOk g p' ao' c' (s ++ z)) := by
  have e1 : brows s ++ brows z = brows (s ++ z) := (brows_append s z).symm
  have e2 : s.size + z.size = (s ++ z).size := by simp
  refine fn_intro Try.func118 rfl Try.ntmps118 rfl (fun E => ?_)
  (repeat (first | ((first | (apply wo_v; rfl) ); (· first | (apply pv_ev; rfl) )) | apply wo_nil | apply wc_seq | apply wc_region ))
  (refine wo_call (bCheck g s.size c p ao hw.p) rfl (by (repeat (first | apply sub_nil )); done) (by first | exact fun _ h => h | (intro r hr; cases hr; done) | (simp; done) | exact fun _ h => List.mem_append_left _ h | (intro r hr; simp [hr]; done)) rfl ?_; rintro v L' R' ⟨rfl, rfl, rfl⟩ H' hH RR hR; simp only [List.cons_append, List.nil_append] at hH hR; subst hH; have hR := hR.symm; subst hR)
  (repeat (first | ((first | (apply wo_v; rfl) ); (· first | (apply pv_ev; rfl) | (apply pv_fld; rfl) | (apply g_load; first | (apply pv_ld; rfl; (· (repeat (first | apply sel_here ))); rfl) ) | (apply g_bi; first | fail ) )) | apply wo_nil | apply wc_seq | apply wc_region ))
  refine wo_app0 rfl rfl (ao := ao) (n := s.size) (c := c) (xs := brows s) (by (repeat (first | apply sel_here | apply sel_there)); done) (c2 := c2) (m := z.size) (ys := brows z) (by (repeat (first | apply sel_here | apply sel_there)); done) (by unfold maxLen; omega) (by omega) rfl (fun ao' c' h1 h2 h3 => ?_)
  rw [e1, e2]
  (repeat (first | ((first | (apply wo_v; rfl) ); (· first | (apply pv_ev; rfl) | (apply pv_fld; rfl) | (apply g_bi; first | (apply pv_len_sl; rfl) ) )) | apply wo_nil | apply wc_seq | apply wc_region | apply wc_ret | (apply wo_st; rfl; rfl; rfl; (· (repeat (first | apply sel_here | apply sel_there))); (· (repeat (first | apply SetAt.here | apply SetAt.there))); rfl) ))
  refine retv rfl (by (repeat (first | apply RV.nil | (apply RV.tmp; rfl) )); done) ⟨some ⟨g, 0, none⟩, ao', c', rfl, rfl, rfl, ⟨.inr rfl, .inr ?_⟩⟩ (by (repeat (first | apply sub_nil )); done) (by first | exact fun _ h => h | (intro r hr; cases hr; done) | (simp; done) | exact fun _ h => List.mem_append_left _ h | (intro r hr; simp [hr]; done))
  cases ao' with
  | none => have := h2 rfl; omega
  | some a =>
    rcases h1 a rfl with ⟨b, h⟩ | h
    · exact ⟨b, h, by omega⟩
    · rcases hw.b with ⟨h5, _, _⟩ | ⟨b, h5, _⟩
      · rw [h5] at h; cases h
      · exact ⟨b, h.trans h5, by omega⟩
theorem wU8 (g c bl c2 : Nat) (p ao : Option Addr) (s z : ByteArray) (hw : WOk g p ao c s) (hz0 : 0 < z.size) (hz : s.size + z.size ≤ 1099511627776) : Fn Try.prog 57 #[.pointer (some ⟨g, 0, none⟩), .slice (some ⟨bl, 0, none⟩) z.size c2] (wrH g p ao c s ++ [byO bl c2 z]) []
    (fun v L' R' => ∃ p' ao' c', v = .pointer (some ⟨g, 0, none⟩) ∧ L' = wrH g p' ao' c' (s ++ z) ∧ R' = [] ∧ WOk g p' ao' c' (s ++ z)) := by
  refine fn_intro Try.func57 rfl Try.ntmps57 rfl (fun E => ?_)
  (repeat (first | ((first | (apply wo_v; rfl) ); (· first | (apply pv_ev; rfl) | (apply pv_fld; rfl) )) | apply wo_nil | apply wc_seq | apply wc_region ))
  (refine wo_call (bWrite g c bl c2 p ao s z hw hz0 hz) rfl (by (repeat (first | apply sub_nil )); done) (by first | exact fun _ h => h | (intro r hr; cases hr; done) | (simp; done) | exact fun _ h => List.mem_append_left _ h | (intro r hr; simp [hr]; done)) rfl ?_; rintro v L' R' ⟨p', ao', c', rfl, rfl, rfl, hw2⟩ H' hH RR hR; simp only [List.cons_append, List.nil_append] at hH hR; subst hH; have hR := hR.symm; subst hR)
  (repeat (first | ((first | (apply wo_v; rfl) ); (· first | (apply pv_ev; rfl) )) | apply wo_nil | apply wc_seq | apply wc_region | apply wc_ret ))
  exact retv rfl (by (repeat (first | apply RV.nil | (apply RV.tmp; rfl) )); done) ⟨p', ao', c', rfl, rfl, rfl, hw2⟩ (by (repeat (first | apply sub_nil )); done) (by first | exact fun _ h => h | (intro r hr; cases hr; done) | (simp; done) | exact fun _ h => List.mem_append_left _ h | (intro r hr; simp [hr]; done))
theorem wLen (g c : Nat) (p ao : Option Addr) (n : Nat) : Fn Try.prog 90 #[.pointer (some ⟨g, 0, none⟩)] [wrO g p ao n c] [] (fun v L' R' => v = .int .i64 n ∧ L' = [wrO g p ao n c] ∧ R' = []) := by
  refine fn_intro Try.func90 rfl Try.ntmps90 rfl (fun E => ?_)
  (repeat (first | ((first | (apply wo_v; rfl) ); (· first | (apply pv_ev; rfl) | (apply pv_fld; rfl) )) | apply wo_nil | apply wc_seq | apply wc_region ))
  (refine wo_call (bLen g n c p ao) rfl (by (repeat (first | apply sub_nil )); done) (by first | exact fun _ h => h | (intro r hr; cases hr; done) | (simp; done) | exact fun _ h => List.mem_append_left _ h | (intro r hr; simp [hr]; done)) rfl ?_; rintro v L' R' ⟨rfl, rfl, rfl⟩ H' hH RR hR; simp only [List.cons_append, List.nil_append] at hH hR; subst hH; have hR := hR.symm; subst hR)
  (repeat (first | ((first | (apply wo_v; rfl) ); (· first | (apply pv_ev; rfl) )) | apply wo_nil | apply wc_ret ))
  exact retv rfl (by (repeat (first | apply RV.nil | (apply RV.tmp; rfl) )); done) (⟨rfl, rfl, rfl⟩) (by (repeat (first | apply sub_nil )); done) (by first | exact fun _ h => h | (intro r hr; cases hr; done) | (simp; done) | exact fun _ h => List.mem_append_left _ h | (intro r hr; simp [hr]; done))
theorem wText (g c : Nat) (p ao : Option Addr) (s : ByteArray) (hw : WOk g p ao c s) : Fn Try.prog 60 #[.pointer (some ⟨g, 0, none⟩)] (wrH g p ao c s) []
    (fun v L' R' => v = .string s ∧ L' = [wrO g p ao s.size c] ∧ R' = []) := by
  refine fn_intro Try.func60 rfl Try.ntmps60 rfl (fun E => ?_)
  (repeat (first | ((first | (apply wo_v; rfl) ); (· first | (apply pv_ev; rfl) | (apply pv_fld; rfl) )) | apply wo_nil | apply wc_seq | apply wc_region ))
  (refine wo_call (bString g c p ao s hw) rfl (by (repeat (first | apply sub_nil )); done) (by first | exact fun _ h => h | (intro r hr; cases hr; done) | (simp; done) | exact fun _ h => List.mem_append_left _ h | (intro r hr; simp [hr]; done)) rfl ?_; rintro v L' R' ⟨rfl, rfl, rfl⟩ H' hH RR hR; simp only [List.cons_append, List.nil_append] at hH hR; subst hH; have hR := hR.symm; subst hR)
  (repeat (first | ((first | (apply wo_v; rfl) ); (· first | (apply pv_ev; rfl) )) | apply wo_nil | apply wc_ret ))
  exact retv rfl (by (repeat (first | apply RV.nil | (apply RV.tmp; rfl) )); done) (⟨rfl, rfl, rfl⟩) (by (repeat (first | apply sub_nil )); done) (by first | exact fun _ h => h | (intro r hr; cases hr; done) | (simp; done) | exact fun _ h => List.mem_append_left _ h | (intro r hr; simp [hr]; done))
/-- a number's bytes, the highest first -/
def numS : Nat → Int → ByteArray
  | 0, _ => E0
  | k + 1, x => numS k (x / 256) ++ b1 (x % 256)
theorem numS_size : ∀ (k : Nat) (x : Int), (numS k x).size = k
  | 0, _ => rfl
  | k + 1, x => by simp [numS, numS_size k, b1_size]
def sh (x : Int) : Nat → Int
  | 0 => x
  | k + 1 => sh x k / 256
theorem sh_nonneg {x : Int} (h : 0 ≤ x) : ∀ k, 0 ≤ sh x k
  | 0 => h
  | k + 1 => by have := sh_nonneg h k; simp only [sh]; omega
theorem sh_fdiv {x : Int} (h : 0 ≤ x) : ∀ k : Nat, k ≤ 7 → x.fdiv (2 ^ (min ((8 * (k : Int)).toNat) IntKind.u64.bits)) = sh x k := by
  intro k hk
  have e : min ((8 * (k : Int)).toNat) IntKind.u64.bits = 8 * k := by
    have : IntKind.u64.bits = 64 := rfl
    omega
  rw [e, Int.fdiv_eq_ediv_of_nonneg _ (Int.le_of_lt (Int.pow_pos (by omega)))]
  clear e
  induction k with
  | zero => simp [sh]
  | succ k ih =>
    rw [sh, ← ih (by omega), show 8 * (k + 1) = 8 * k + 8 by omega, Int.pow_add, ← Int.ediv_ediv_of_nonneg (Int.le_of_lt (Int.pow_pos (by omega)))]
    rfl
end Go.Proofs.Ytlhlidmhlhodiaa
