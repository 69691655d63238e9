/-
  Package octet, the writer (over strings.Builder).
-/
import Derived.Test.YtlhlidmhlhodiaaOct2
namespace Go.Proofs.Ytlhlidmhlhodiaa
set_option linter.unusedSimpArgs false
set_option linter.unusedVariables false
set_option linter.unusedSimpArgs false
set_option linter.unusedVariables false
open Go.RowKit
attribute [local irreducible] Pv WO WC Fn
attribute [local irreducible] ByteArray.extract

instance : TUns Try.prog 338 := ⟨by kernel_rfl⟩
abbrev wrT : TypeId := 145
abbrev wrO (g : Nat) (p ao : Option Addr) (n c : Nat) : It := .ob g (.cells #[.pointer p, .slice ao n c] wrT (0, 0))
abbrev wrH (g : Nat) (p ao : Option Addr) (c : Nat) (s : ByteArray) : List It := [wrO g p ao s.size c, .own 5 1 ao s.size c (brows s)]
structure WOk (g : Nat) (p ao : Option Addr) (c : Nat) (s : ByteArray) : Prop where
  p : p = none ∨ p = some ⟨g, 0, none⟩
  b : (ao = none ∧ c = 0 ∧ s = E0) ∨ (∃ b, ao = some ⟨b, 0, none⟩ ∧ 0 < s.size)
theorem WOk.h0 {g : Nat} {p ao : Option Addr} {c : Nat} {s : ByteArray} (h : WOk g p ao c s) : ao = none ∨ ∃ b, ao = some ⟨b, 0, none⟩ := by
  rcases h.b with ⟨h, _⟩ | ⟨b, h, _⟩
  · exact .inl h
  · exact .inr ⟨b, h⟩
theorem E0_append (s : ByteArray) : E0 ++ s = s := by
  apply ByteArray.ext; simp
theorem append_E0 (s : ByteArray) : s ++ E0 = s := by
  apply ByteArray.ext; simp
theorem size_zero {s : ByteArray} (h : s.size = 0) : s = E0 := by
  apply ByteArray.ext
  exact Array.eq_empty_of_size_eq_zero h
set_option maxRecDepth 100000 in
theorem noEsc {fr : List (Nat × Value)} {hp : List It} {ro : List Ro} {x : Operand} {v : Value} {ats : Array TypeId} (hx : opd fr x = some v) : Pv Try.prog ⟨fr, hp, ro⟩ (.call ⟨.value (.func 170), #[x], ats⟩) v :=
  pv_ext Try.func170 (by kernel_rfl) (by kernel_rfl) (by kernel_rfl) (e := Extern.AbiNoEscape.same) (by kernel_rfl) hx (fun w => rfl)
theorem wrLies : liesAt Try.prog Try.prog.depth wrT (2 / Try.prog.cellsOf wrT) 0 143 1 = true := by kernel_rfl
set_option maxRecDepth 100000 in
theorem bCheck (g n c : Nat) (p ao : Option Addr) (hp : p = none ∨ p = some ⟨g, 0, none⟩) : Fn Try.prog 149 #[.pointer (some ⟨g, 0, none⟩)] [wrO g p ao n c] [] (fun v L' R' => v = .tuple #[] ∧ L' = [wrO g (some ⟨g, 0, none⟩) ao n c] ∧ R' = []) := by
  rcases hp with rfl | rfl
  · refine fn_intro Try.func149 rfl Try.ntmps149 rfl (fun E => ?_)
    (repeat (first | ((first | (apply wo_v; rfl) ); (· first | (apply pv_ev; rfl) | (apply pv_fld; rfl) | (apply g_load; first | (apply pv_ld; rfl; (· (repeat (first | apply sel_here ))); rfl) ) | (apply g_bin; first | (apply pv_eql_p; rfl; rfl) ) | (apply g_conv; first | (apply a_conv; rfl; infer_instance; infer_instance; infer_instance; omega) | (apply a_conv_u; rfl; infer_instance; infer_instance; infer_instance) | (apply a_conv_w; rfl; infer_instance; infer_instance) ) )) | apply wo_nil | apply wc_seq | apply wc_region | (apply wc_true; rfl) ))
    refine wo_v rfl (pv_tou rfl (by (repeat (first | apply sel_here )); done) rfl) ?_
    refine wo_v rfl (noEsc rfl) ?_
    refine wo_v rfl (pv_fromu rfl (by (repeat (first | apply sel_here )); done) wrLies) ?_
    (repeat (first | ((first | (apply wo_v; rfl) ); (· first | (apply pv_ev; rfl) | (apply pv_fld; rfl) )) | apply wo_nil | (apply wo_st; rfl; rfl; rfl; (· (repeat (first | apply sel_here ))); (· (repeat (first | apply SetAt.here ))); rfl) ))
    exact ret0 rfl ⟨rfl, rfl, rfl⟩ (by (repeat (first | apply sub_nil )); done) (by first | exact fun _ h => h | (intro r hr; cases hr; done) | (simp; done) | exact fun _ h => List.mem_append_left _ h | (intro r hr; simp [hr]; done))
  · refine fn_intro Try.func149 rfl Try.ntmps149 rfl (fun E => ?_)
    (repeat (first | ((first | (apply wo_v; rfl) ); (· first | (apply pv_ev; rfl) | (apply pv_fld; rfl) | (apply g_load; first | (apply pv_ld; rfl; (· (repeat (first | apply sel_here ))); rfl) ) | (apply g_bin; first | (apply pv_eql_p; rfl; rfl) | (apply pv_neq_p; rfl; rfl) | (apply pv_neq_pp; rfl; rfl) ) )) | apply wo_nil | apply wc_seq | apply wc_region | apply wc_skip | (apply wc_true; rfl) | (apply wc_false; rfl) ))
    exact ret0 rfl ⟨rfl, rfl, rfl⟩ (by (repeat (first | apply sub_nil )); done) (by first | exact fun _ h => h | (intro r hr; cases hr; done) | (simp; done) | exact fun _ h => List.mem_append_left _ h | (intro r hr; simp [hr]; done))
theorem bWriteString (g c : Nat) (p ao : Option Addr) (s z : ByteArray) (hw : WOk g p ao c s) (hz : s.size + z.size ≤ 1099511627776) : Fn Try.prog 122 #[.pointer (some ⟨g, 0, none⟩), .string z] (wrH g p ao c s) []
    (fun v L' R' => ∃ p' ao' c', v = .tuple #[.int .i64 z.size, .nilIface] ∧ L' = wrH g p' ao' c' (s ++ z) ∧ R' = [] ∧ WOk g p' ao' c' (s ++ z)) := by
  have e1 : brows s ++ brows z = brows (s ++ z) := (brows_append s z).symm
  have e2 : s.size + z.size = (s ++ z).size := by simp
  refine fn_intro Try.func122 rfl Try.ntmps122 rfl (fun E => ?_)
  (repeat (first | ((first | (apply wo_v; rfl) ); (· first | (apply pv_ev; rfl) )) | apply wo_nil | apply wc_seq | apply wc_region ))
  (refine wo_call (bCheck g s.size c p ao hw.p) rfl (by (repeat (first | apply sub_nil )); done) (by first | exact fun _ h => h | (intro r hr; cases hr; done) | (simp; done) | exact fun _ h => List.mem_append_left _ h | (intro r hr; simp [hr]; done)) rfl ?_; rintro v L' R' ⟨rfl, rfl, rfl⟩ H' hH RR hR; simp only [List.cons_append, List.nil_append] at hH hR; subst hH; have hR := hR.symm; subst hR)
  (repeat (first | ((first | (apply wo_v; rfl) ); (· first | (apply pv_ev; rfl) | (apply pv_fld; rfl) | (apply g_load; first | (apply pv_ld; rfl; (· (repeat (first | apply sel_here ))); rfl) ) | (apply g_bi; first | fail ) )) | apply wo_nil | apply wc_seq | apply wc_region ))
  refine wo_app_str rfl rfl (by (repeat (first | apply sel_here | apply sel_there)); done) hw.h0 hz rfl (fun ao' c' h1 h2 h3 => ?_)
  rw [e1, e2]
  rw [e2] at h1
  (repeat (first | ((first | (apply wo_v; rfl) ); (· first | (apply pv_ev; rfl) | (apply pv_fld; rfl) | (apply g_bi; first | (apply pv_len_str; rfl) ) )) | apply wo_nil | apply wc_seq | apply wc_region | apply wc_ret | (apply wo_st; rfl; rfl; rfl; (· (repeat (first | apply sel_here | apply sel_there))); (· (repeat (first | apply SetAt.here | apply SetAt.there))); rfl) ))
  refine retv rfl (by (repeat (first | apply RV.nil | (apply RV.tmp; rfl) )); done) ⟨some ⟨g, 0, none⟩, ao', c', rfl, rfl, rfl, ⟨.inr rfl, ?_⟩⟩ (by (repeat (first | apply sub_nil )); done) (by first | exact fun _ h => h | (intro r hr; cases hr; done) | (simp; done) | exact fun _ h => List.mem_append_left _ h | (intro r hr; simp [hr]; done))
  rcases h1 with ⟨h1, h4⟩ | ⟨b, h1⟩
  · exact .inl ⟨h1, h3 h1, size_zero h4⟩
  · refine .inr ⟨b, h1, ?_⟩
    rcases hw.b with ⟨h5, _, h6⟩ | ⟨_, _, h6⟩
    · have h7 : z.size ≠ 0 := fun h => by rw [h2 h5 h] at h1; cases h1
      omega
    · omega
theorem bLen (g n c : Nat) (p ao : Option Addr) : Fn Try.prog 131 #[.pointer (some ⟨g, 0, none⟩)] [wrO g p ao n c] [] (fun v L' R' => v = .int .i64 n ∧ L' = [wrO g p ao n c] ∧ R' = []) := by
  refine fn_intro Try.func131 rfl Try.ntmps131 rfl (fun E => ?_)
  (repeat (first | ((first | (apply wo_v; rfl) ); (· first | (apply pv_ev; rfl) | (apply pv_fld; rfl) | (apply g_load; first | (apply pv_ld; rfl; (· (repeat (first | apply sel_here ))); rfl) ) | (apply g_bi; first | (apply pv_len_sl; rfl) ) )) | apply wo_nil | apply wc_seq | apply wc_region | apply wc_ret ))
  exact retv rfl (by (repeat (first | apply RV.nil | (apply RV.tmp; rfl) )); done) (⟨rfl, rfl, rfl⟩) (by (repeat (first | apply sub_nil )); done) (by first | exact fun _ h => h | (intro r hr; cases hr; done) | (simp; done) | exact fun _ h => List.mem_append_left _ h | (intro r hr; simp [hr]; done))
theorem bString (g c : Nat) (p ao : Option Addr) (s : ByteArray) (hw : WOk g p ao c s) : Fn Try.prog 119 #[.pointer (some ⟨g, 0, none⟩)] (wrH g p ao c s) []
    (fun v L' R' => v = .string s ∧ L' = [wrO g p ao s.size c] ∧ R' = []) := by
  rcases hw.b with ⟨rfl, rfl, rfl⟩ | ⟨b, rfl, h0⟩
  · refine fn_intro Try.func119 rfl Try.ntmps119 rfl (fun E => ?_)
    (repeat (first | ((first | (apply wo_v; rfl) ); (· first | (apply pv_ev; rfl) )) | apply wo_nil | apply wc_seq | apply wc_region ))
    (refine wc_quiet mixed (by kernel_rfl) ?_; (repeat (first | ((first | (apply hd_v; rfl) ); (· first | (apply pv_ev; rfl) | (apply pv_fld; rfl) | (apply g_load; first | (apply pv_ld; rfl; (· (repeat (first | apply sel_here ))); rfl) ) | (apply g_bi; first | (apply pv_sld; rfl; omega) | (apply pv_sld0; rfl) | (apply pv_ustr0; rfl; rfl) | (apply pv_len_sl; rfl) ) )) | apply Hd.nil | apply wc_ret )))
    exact retv rfl (by (repeat (first | apply RV.nil | (apply RV.tmp; rfl) )); done) (⟨rfl, rfl, rfl⟩) (by (repeat (first | apply sub_nil )); done) (by first | exact fun _ h => h | (intro r hr; cases hr; done) | (simp; done) | exact fun _ h => List.mem_append_left _ h | (intro r hr; simp [hr]; done))
  · refine fn_intro Try.func119 rfl Try.ntmps119 rfl (fun E => ?_)
    (repeat (first | ((first | (apply wo_v; rfl) ); (· first | (apply pv_ev; rfl) )) | apply wo_nil | apply wc_seq | apply wc_region ))
    refine wc_own (t := 5) (sz := 1) (ao := some ⟨b, 0, none⟩) (n := s.size) (k := c) (xs := brows s) (by (repeat (first | apply sel_here | apply sel_there)); done) (fun hl1 hl2 hl3 => ?_)
    (refine wc_tail 10 mixed (by kernel_rfl) ?_; (repeat (first | ((first | (apply wo_v; rfl) | (apply hd_v; rfl) ); (· first | (apply pv_ev; rfl) | (apply pv_fld; rfl) | (apply g_load; first | (apply pv_ld; rfl; (· (repeat (first | apply sel_here ))); rfl) ) | (apply g_bi; first | (apply pv_sld; rfl; omega) | (apply pv_ustr0; rfl; rfl) | (apply pv_len_sl; rfl) ) )) | apply Hd.nil )))
    refine wo_ustr (e := 5) (by kernel_rfl) rfl rfl (by (repeat (first | apply sel_here | apply sel_there)); done) h0 rfl ?_
    (repeat (first | ((first | (apply wo_v; rfl) ); (· first | (apply pv_ev; rfl) )) | apply wo_nil | apply wc_ret ))
    exact retv rfl (by (repeat (first | apply RV.nil | (apply RV.tmp; rfl) )); done) (⟨rfl, rfl, rfl⟩) (by (repeat (first | apply sub_nil )); done) (by first | exact fun _ h => h | (intro r hr; cases hr; done) | (simp; done) | exact fun _ h => List.mem_append_left _ h | (intro r hr; simp [hr]; done))
end Go.Proofs.Ytlhlidmhlhodiaa
