/-
  Package octet: Writer.U16, U32, Put, Pad.
-/
import Derived.Test.YtlhlidmhlhodiaaOctN
namespace Go.Proofs.Ytlhlidmhlhodiaa
set_option linter.unusedSimpArgs false
set_option linter.unusedVariables false
set_option linter.unusedSimpArgs false
set_option linter.unusedVariables false
open Go.RowKit
set_option maxRecDepth 100000
attribute [local irreducible] Pv WO WC Fn
attribute [local irreducible] ByteArray.extract

theorem min_max_lit (n : Int) (h : 1 ≤ n ∧ n ≤ 8) : min (max n 1) 8 = n := by omega
abbrev u16O (bl c : Nat) (xs : List Int) : It := .own 24 1 (some ⟨bl, 0, none⟩) xs.length c (xs.map fun x => [.int .u16 x])
set_option maxHeartbeats 1000000 in
theorem wU16 (g c bl c2 : Nat) (p ao : Option Addr) (s : ByteArray) (xs : List Int) (hx : ∀ x ∈ xs, 0 ≤ x ∧ x ≤ 65535) (hl : xs.length ≤ 1000000) (hw : WOk g p ao c s) (hz : s.size ≤ 1098000000000) :
    Fn Try.prog 61 #[.pointer (some ⟨g, 0, none⟩), .slice (some ⟨bl, 0, none⟩) xs.length c2] (wrH g p ao c s ++ [u16O bl c2 xs]) []
    (fun v L' R' => ∃ p' ao' c', v = .pointer (some ⟨g, 0, none⟩) ∧ L' = wrH g p' ao' c' (s ++ numsS 2 xs) ∧ R' = [] ∧ WOk g p' ao' c' (s ++ numsS 2 xs)) := by
  refine fn_intro Try.func61 rfl Try.ntmps61 rfl (fun E => ?_)
  (repeat (first | ((first | (apply wo_v; rfl) ); (· first | (apply pv_ev; rfl) | (apply g_bi; first | (apply pv_len_sl; rfl) ) )) | apply wo_nil | apply wc_seq | apply wc_region | apply wc_block ))
  refine wc_loop' (fun m st => ∃ (j : Nat) (p' ao' : Option Addr) (c' : Nat), m = xs.length - j ∧ st = ⟨[(0, .pointer (some ⟨g, 0, none⟩)), (7, .slice (some ⟨bl, 0, none⟩) xs.length c2), (8, .int .i64 xs.length), (9, .int .i64 j)], wrH g p' ao' c' (s ++ numsS 2 (xs.take j)) ++ [u16O bl c2 xs], []⟩ ∧ j ≤ xs.length ∧ WOk g p' ao' c' (s ++ numsS 2 (xs.take j)))
    ⟨0, p, ao, c, rfl, by rw [List.take_zero, show numsS 2 [] = E0 from rfl, append_E0], Nat.zero_le _, by rw [List.take_zero, show numsS 2 [] = E0 from rfl, append_E0]; exact hw⟩ (wk_mk (by (repeat (first | apply wkf_nil | (apply wkf_cons; rfl))); done) (by (repeat (first | apply sub_nil )); done) (by first | exact fun _ h => h | (intro r hr; cases hr; done) | (simp; done) | exact fun _ h => List.mem_append_left _ h | (intro r hr; simp [hr]; done))) ?_
  clear hw p ao c
  rintro m st ⟨j, p, ao, c, rfl, rfl, hj, hw⟩
  by_cases hlt : j < xs.length
  · obtain ⟨x, he⟩ : ∃ x, xs[j]? = some x := ⟨_, List.getElem?_eq_getElem hlt⟩
    have hr : (xs.map fun x => [Value.int .u16 x])[j]? = some [.int .u16 x] := by simp [he]
    have hxb := hx x (List.mem_of_getElem? he)
    have hS : (s ++ numsS 2 (xs.take j)).size ≤ 1099000000000 := by
      rw [ByteArray.size_append, numsS_size, List.length_take]; omega
    have hnext := numsS_take (k := 2) he
    obtain ⟨S0, hS0⟩ : ∃ S0, s ++ numsS 2 (xs.take j) = S0 := ⟨_, rfl⟩
    have hnx : s ++ numsS 2 (xs.take (j + 1)) = S0 ++ numsS 2 [x] := by rw [hnext, ← ByteArray.append_assoc, hS0]; show S0 ++ numS 2 x = S0 ++ (numS 2 x ++ E0); rw [append_E0]
    rw [hS0] at hw hS ⊢
    clear hnext hS0
    have hN := fun bl c2 => wNum g c bl c2 p ao S0 2 2 [x] rfl (by intro y hy; rcases List.mem_singleton.1 hy with rfl; omega) (by simp) hw hS
    rw [← hnx] at hN
    (repeat (first | ((first | (apply wo_v; rfl) ); (· first | (apply pv_ev; rfl) | (apply g_load; first | (apply pv_ld; rfl; (· (repeat (first | apply sel_there))); rfl) | (apply pv_ld_ownf; rfl; (· (repeat (first | fail ))); (· assumption); rfl) | (apply pv_ld_own1; rfl; (· (repeat (first | apply sel_here | apply sel_there))); (· assumption)) ) | (apply g_conv; first | (apply a_conv; rfl; infer_instance; infer_instance; infer_instance; omega) ) | (apply g_idx; first | (apply pv_idx; rfl; rfl; omega) ) )) | apply wo_nil | apply wc_seq | apply wc_region | apply wc_block | apply wc_skip | (apply wc_true; rfl) | (apply wc_false; rfl) | (apply a_dec_t; rfl; (· first | assumption | omega)) | (apply wo_bsl; (· (repeat (first | apply Rws'.nil | (apply Rws'.one; rfl; rfl; rfl) ))); rfl; rfl; rfl; rfl; intro bx) ))
    (refine wo_call (hN _ _) rfl (by (repeat (first | apply sub_nil | (apply sub_cons; (· (repeat (first | apply sel_here | apply sel_there)))))); done) (by first | exact fun _ h => h | (intro r hr; cases hr; done) | (simp; done) | exact fun _ h => List.mem_append_left _ h | (intro r hr; simp [hr]; done)) rfl ?_; rintro v L' R' ⟨p', ao', c', rfl, rfl, rfl, hw'⟩ H' hH RR hR; simp only [List.cons_append, List.nil_append] at hH hR; subst hH; have hR := hR.symm; subst hR)
    (repeat (first | ((first | (apply wo_v; rfl) ); (· first | (apply pv_ev; rfl) | (apply g_bin; first | (apply a_add; rfl; rfl; infer_instance; omega) ) )) | apply wo_nil | apply wc_region ))
    exact loop_end ⟨j + 1, p', ao', c', rfl, rfl, by omega, hw'⟩ (by omega) (wk_mk (by (repeat (first | apply wkf_nil | (apply wkf_cons; rfl))); done) (by (repeat (first | apply sub_nil )); done) (by first | exact fun _ h => h | (intro r hr; cases hr; done) | (simp; done) | exact fun _ h => List.mem_append_left _ h | (intro r hr; simp [hr]; done)))
  · obtain rfl : j = xs.length := by omega
    rw [List.take_length] at hw ⊢
    (repeat (first | ((first | (apply wo_v; rfl) ); (· first | (apply pv_ev; rfl) )) | apply wo_nil | apply wc_seq | apply wc_region | (apply wc_exit; rfl) | apply wc_ret | (apply wc_true; rfl) | (apply wc_false; rfl) | (apply a_dec_t; rfl; (· first | assumption | omega)) | (apply a_dec_f; rfl; (· first | assumption | omega)) ))
    exact retv rfl (by (repeat (first | apply RV.nil | (apply RV.tmp; rfl) )); done) ⟨p, ao, c, rfl, rfl, rfl, hw⟩ (by (repeat (first | apply sub_nil )); done) (by first | exact fun _ h => h | (intro r hr; cases hr; done) | (simp; done) | exact fun _ h => List.mem_append_left _ h | (intro r hr; simp [hr]; done))
abbrev u32O (bl c : Nat) (xs : List Int) : It := .own 30 1 (some ⟨bl, 0, none⟩) xs.length c (xs.map fun x => [.int .u32 x])
set_option maxHeartbeats 1000000 in
theorem wU32 (g c bl c2 : Nat) (p ao : Option Addr) (s : ByteArray) (xs : List Int) (hx : ∀ x ∈ xs, 0 ≤ x ∧ x ≤ 4294967295) (hl : xs.length ≤ 1000000) (hw : WOk g p ao c s) (hz : s.size ≤ 1098000000000) :
    Fn Try.prog 72 #[.pointer (some ⟨g, 0, none⟩), .slice (some ⟨bl, 0, none⟩) xs.length c2] (wrH g p ao c s ++ [u32O bl c2 xs]) []
    (fun v L' R' => ∃ p' ao' c', v = .pointer (some ⟨g, 0, none⟩) ∧ L' = wrH g p' ao' c' (s ++ numsS 4 xs) ∧ R' = [] ∧ WOk g p' ao' c' (s ++ numsS 4 xs)) := by
  refine fn_intro Try.func72 rfl Try.ntmps72 rfl (fun E => ?_)
  (repeat (first | ((first | (apply wo_v; rfl) ); (· first | (apply pv_ev; rfl) | (apply g_bi; first | (apply pv_len_sl; rfl) ) )) | apply wo_nil | apply wc_seq | apply wc_region | apply wc_block ))
  refine wc_loop' (fun m st => ∃ (j : Nat) (p' ao' : Option Addr) (c' : Nat), m = xs.length - j ∧ st = ⟨[(0, .pointer (some ⟨g, 0, none⟩)), (7, .slice (some ⟨bl, 0, none⟩) xs.length c2), (8, .int .i64 xs.length), (9, .int .i64 j)], wrH g p' ao' c' (s ++ numsS 4 (xs.take j)) ++ [u32O bl c2 xs], []⟩ ∧ j ≤ xs.length ∧ WOk g p' ao' c' (s ++ numsS 4 (xs.take j)))
    ⟨0, p, ao, c, rfl, by rw [List.take_zero, show numsS 4 [] = E0 from rfl, append_E0], Nat.zero_le _, by rw [List.take_zero, show numsS 4 [] = E0 from rfl, append_E0]; exact hw⟩ (wk_mk (by (repeat (first | apply wkf_nil | (apply wkf_cons; rfl))); done) (by (repeat (first | apply sub_nil )); done) (by first | exact fun _ h => h | (intro r hr; cases hr; done) | (simp; done) | exact fun _ h => List.mem_append_left _ h | (intro r hr; simp [hr]; done))) ?_
  clear hw p ao c
  rintro m st ⟨j, p, ao, c, rfl, rfl, hj, hw⟩
  by_cases hlt : j < xs.length
  · obtain ⟨x, he⟩ : ∃ x, xs[j]? = some x := ⟨_, List.getElem?_eq_getElem hlt⟩
    have hr : (xs.map fun x => [Value.int .u32 x])[j]? = some [.int .u32 x] := by simp [he]
    have hxb := hx x (List.mem_of_getElem? he)
    have hS : (s ++ numsS 4 (xs.take j)).size ≤ 1099000000000 := by
      rw [ByteArray.size_append, numsS_size, List.length_take]; omega
    have hnext := numsS_take (k := 4) he
    obtain ⟨S0, hS0⟩ : ∃ S0, s ++ numsS 4 (xs.take j) = S0 := ⟨_, rfl⟩
    have hnx : s ++ numsS 4 (xs.take (j + 1)) = S0 ++ numsS 4 [x] := by rw [hnext, ← ByteArray.append_assoc, hS0]; show S0 ++ numS 4 x = S0 ++ (numS 4 x ++ E0); rw [append_E0]
    rw [hS0] at hw hS ⊢
    clear hnext hS0
    have hN := fun bl c2 => wNum g c bl c2 p ao S0 4 4 [x] rfl (by intro y hy; rcases List.mem_singleton.1 hy with rfl; omega) (by simp) hw hS
    rw [← hnx] at hN
    (repeat (first | ((first | (apply wo_v; rfl) ); (· first | (apply pv_ev; rfl) | (apply g_load; first | (apply pv_ld; rfl; (· (repeat (first | apply sel_there))); rfl) | (apply pv_ld_ownf; rfl; (· (repeat (first | fail ))); (· assumption); rfl) | (apply pv_ld_own1; rfl; (· (repeat (first | apply sel_here | apply sel_there))); (· assumption)) ) | (apply g_conv; first | (apply a_conv; rfl; infer_instance; infer_instance; infer_instance; omega) ) | (apply g_idx; first | (apply pv_idx; rfl; rfl; omega) ) )) | apply wo_nil | apply wc_seq | apply wc_region | apply wc_block | apply wc_skip | (apply wc_true; rfl) | (apply wc_false; rfl) | (apply a_dec_t; rfl; (· first | assumption | omega)) | (apply wo_bsl; (· (repeat (first | apply Rws'.nil | (apply Rws'.one; rfl; rfl; rfl) ))); rfl; rfl; rfl; rfl; intro bx) ))
    (refine wo_call (hN _ _) rfl (by (repeat (first | apply sub_nil | (apply sub_cons; (· (repeat (first | apply sel_here | apply sel_there)))))); done) (by first | exact fun _ h => h | (intro r hr; cases hr; done) | (simp; done) | exact fun _ h => List.mem_append_left _ h | (intro r hr; simp [hr]; done)) rfl ?_; rintro v L' R' ⟨p', ao', c', rfl, rfl, rfl, hw'⟩ H' hH RR hR; simp only [List.cons_append, List.nil_append] at hH hR; subst hH; have hR := hR.symm; subst hR)
    (repeat (first | ((first | (apply wo_v; rfl) ); (· first | (apply pv_ev; rfl) | (apply g_bin; first | (apply a_add; rfl; rfl; infer_instance; omega) ) )) | apply wo_nil | apply wc_region ))
    exact loop_end ⟨j + 1, p', ao', c', rfl, rfl, by omega, hw'⟩ (by omega) (wk_mk (by (repeat (first | apply wkf_nil | (apply wkf_cons; rfl))); done) (by (repeat (first | apply sub_nil )); done) (by first | exact fun _ h => h | (intro r hr; cases hr; done) | (simp; done) | exact fun _ h => List.mem_append_left _ h | (intro r hr; simp [hr]; done)))
  · obtain rfl : j = xs.length := by omega
    rw [List.take_length] at hw ⊢
    (repeat (first | ((first | (apply wo_v; rfl) ); (· first | (apply pv_ev; rfl) )) | apply wo_nil | apply wc_seq | apply wc_region | (apply wc_exit; rfl) | apply wc_ret | (apply wc_true; rfl) | (apply wc_false; rfl) | (apply a_dec_t; rfl; (· first | assumption | omega)) | (apply a_dec_f; rfl; (· first | assumption | omega)) ))
    exact retv rfl (by (repeat (first | apply RV.nil | (apply RV.tmp; rfl) )); done) ⟨p, ao, c, rfl, rfl, rfl, hw⟩ (by (repeat (first | apply sub_nil )); done) (by first | exact fun _ h => h | (intro r hr; cases hr; done) | (simp; done) | exact fun _ h => List.mem_append_left _ h | (intro r hr; simp [hr]; done))
def catS : List ByteArray → ByteArray
  | [] => E0
  | z :: zs => z ++ catS zs
theorem catS_append : ∀ a b : List ByteArray, catS (a ++ b) = catS a ++ catS b
  | [], b => (E0_append _).symm
  | x :: a, b => by
    show x ++ catS (a ++ b) = (x ++ catS a) ++ catS b
    rw [catS_append a b, ByteArray.append_assoc]
theorem catS_take {zs : List ByteArray} {j : Nat} {z : ByteArray} (h : zs[j]? = some z) : catS (zs.take (j + 1)) = catS (zs.take j) ++ z := by
  rw [List.take_add_one, h, catS_append]
  show catS (zs.take j) ++ (z ++ E0) = _
  rw [append_E0]
theorem catS_size : ∀ {zs : List ByteArray}, (∀ z ∈ zs, z.size ≤ 1000000) → (catS zs).size ≤ 1000000 * zs.length
  | [], _ => Nat.le_refl _
  | z :: zs, h => by
    have h1 := h z (.head _)
    have h2 := catS_size (zs := zs) (fun y hy => h y (.tail _ hy))
    simp only [catS, ByteArray.size_append, List.length_cons]; omega
abbrev stO (bl c : Nat) (zs : List ByteArray) : It := .own 9 1 (some ⟨bl, 0, none⟩) zs.length c (zs.map fun z => [.string z])
set_option maxHeartbeats 1000000 in
theorem wPut (g c bl c2 : Nat) (p ao : Option Addr) (s : ByteArray) (zs : List ByteArray) (hx : ∀ z ∈ zs, z.size ≤ 1000000) (hl : zs.length ≤ 1000) (hw : WOk g p ao c s) (hz : s.size ≤ 1098000000000) :
    Fn Try.prog 73 #[.pointer (some ⟨g, 0, none⟩), .slice (some ⟨bl, 0, none⟩) zs.length c2] (wrH g p ao c s ++ [stO bl c2 zs]) []
    (fun v L' R' => ∃ p' ao' c', v = .pointer (some ⟨g, 0, none⟩) ∧ L' = wrH g p' ao' c' (s ++ catS zs) ∧ R' = [] ∧ WOk g p' ao' c' (s ++ catS zs)) := by
  refine fn_intro Try.func73 rfl Try.ntmps73 rfl (fun E => ?_)
  (repeat (first | ((first | (apply wo_v; rfl) ); (· first | (apply pv_ev; rfl) | (apply g_bi; first | (apply pv_len_sl; rfl) ) )) | apply wo_nil | apply wc_seq | apply wc_region | apply wc_block ))
  refine wc_loop' (fun m st => ∃ (j : Nat) (p' ao' : Option Addr) (c' : Nat), m = zs.length - j ∧ st = ⟨[(0, .pointer (some ⟨g, 0, none⟩)), (7, .slice (some ⟨bl, 0, none⟩) zs.length c2), (8, .int .i64 zs.length), (9, .int .i64 j)], wrH g p' ao' c' (s ++ catS (zs.take j)) ++ [stO bl c2 zs], []⟩ ∧ j ≤ zs.length ∧ WOk g p' ao' c' (s ++ catS (zs.take j)))
    ⟨0, p, ao, c, rfl, by rw [List.take_zero, show catS [] = E0 from rfl, append_E0], Nat.zero_le _, by rw [List.take_zero, show catS [] = E0 from rfl, append_E0]; exact hw⟩ (wk_mk (by (repeat (first | apply wkf_nil | (apply wkf_cons; rfl))); done) (by (repeat (first | apply sub_nil )); done) (by first | exact fun _ h => h | (intro r hr; cases hr; done) | (simp; done) | exact fun _ h => List.mem_append_left _ h | (intro r hr; simp [hr]; done))) ?_
  clear hw p ao c
  rintro m st ⟨j, p, ao, c, rfl, rfl, hj, hw⟩
  by_cases hlt : j < zs.length
  · obtain ⟨x, he⟩ : ∃ x, zs[j]? = some x := ⟨_, List.getElem?_eq_getElem hlt⟩
    have hr : (zs.map fun z => [Value.string z])[j]? = some [.string x] := by simp [he]
    have hxb := hx x (List.mem_of_getElem? he)
    have hS : (s ++ catS (zs.take j)).size + x.size ≤ 1099511627776 := by
      have := catS_size (zs := zs.take j) (fun y hy => hx y (List.mem_of_mem_take hy))
      rw [List.length_take] at this
      rw [ByteArray.size_append]; omega
    have hnext := catS_take he
    obtain ⟨S0, hS0⟩ : ∃ S0, s ++ catS (zs.take j) = S0 := ⟨_, rfl⟩
    have hnx : s ++ catS (zs.take (j + 1)) = S0 ++ x := by rw [hnext, ← ByteArray.append_assoc, hS0]
    rw [hS0] at hw hS ⊢
    clear hnext hS0
    have hN := bWriteString g c p ao S0 x hw hS
    rw [← hnx] at hN
    (repeat (first | ((first | (apply wo_v; rfl) ); (· first | (apply pv_ev; rfl) | (apply pv_fld; rfl) | (apply g_load; first | (apply pv_ld; rfl; (· (repeat (first | apply sel_there))); rfl) | (apply pv_ld_ownf; rfl; (· (repeat (first | fail ))); (· assumption); rfl) | (apply pv_ld_own1; rfl; (· (repeat (first | apply sel_here | apply sel_there))); (· assumption)) ) | (apply g_idx; first | (apply pv_idx; rfl; rfl; omega) ) )) | apply wo_nil | apply wc_seq | apply wc_region | apply wc_block | apply wc_skip | (apply wc_true; rfl) | (apply wc_false; rfl) | (apply a_dec_t; rfl; (· first | assumption | omega)) ))
    (refine wo_call (hN) rfl (by (repeat (first | apply sub_nil )); done) (by first | exact fun _ h => h | (intro r hr; cases hr; done) | (simp; done) | exact fun _ h => List.mem_append_left _ h | (intro r hr; simp [hr]; done)) rfl ?_; rintro v L' R' ⟨p', ao', c', rfl, rfl, rfl, hw'⟩ H' hH RR hR; simp only [List.cons_append, List.nil_append] at hH hR; subst hH; have hR := hR.symm; subst hR)
    (repeat (first | ((first | (apply wo_v; rfl) ); (· first | (apply pv_ev; rfl) | (apply g_bin; first | (apply a_add; rfl; rfl; infer_instance; omega) ) )) | apply wo_nil | apply wc_region ))
    exact loop_end ⟨j + 1, p', ao', c', rfl, rfl, by omega, hw'⟩ (by omega) (wk_mk (by (repeat (first | apply wkf_nil | (apply wkf_cons; rfl))); done) (by (repeat (first | apply sub_nil )); done) (by first | exact fun _ h => h | (intro r hr; cases hr; done) | (simp; done) | exact fun _ h => List.mem_append_left _ h | (intro r hr; simp [hr]; done)))
  · obtain rfl : j = zs.length := by omega
    rw [List.take_length] at hw ⊢
    (repeat (first | ((first | (apply wo_v; rfl) ); (· first | (apply pv_ev; rfl) )) | apply wo_nil | apply wc_seq | apply wc_region | (apply wc_exit; rfl) | apply wc_ret | (apply wc_true; rfl) | (apply wc_false; rfl) | (apply a_dec_t; rfl; (· first | assumption | omega)) | (apply a_dec_f; rfl; (· first | assumption | omega)) ))
    exact retv rfl (by (repeat (first | apply RV.nil | (apply RV.tmp; rfl) )); done) ⟨p, ao, c, rfl, rfl, rfl, hw⟩ (by (repeat (first | apply sub_nil )); done) (by first | exact fun _ h => h | (intro r hr; cases hr; done) | (simp; done) | exact fun _ h => List.mem_append_left _ h | (intro r hr; simp [hr]; done))
/-- so many zeros -/
def zb : Nat → ByteArray
  | 0 => E0
  | k + 1 => zb k ++ b1 0
theorem zb_size : ∀ k, (zb k).size = k
  | 0 => rfl
  | k + 1 => by simp [zb, zb_size k, b1_size]
def padJ (n T : Nat) : Nat := (T - n % T) % T
theorem padJ_lt (n : Nat) {T : Nat} (hT : 1 ≤ T) : padJ n T < T := Nat.mod_lt _ (by omega)
theorem padJ_eq (n : Nat) {T : Nat} (hT : 1 ≤ T) : (n + padJ n T) % T = 0 := by
  unfold padJ
  have h1 := Nat.mod_lt n (show 0 < T by omega)
  by_cases h : n % T = 0
  · rw [h, Nat.sub_zero, Nat.mod_self, Nat.add_zero]; exact h
  · rw [Nat.mod_eq_of_lt (show T - n % T < T by omega), Nat.add_mod, Nat.mod_eq_of_lt (show T - n % T < T by omega), show n % T + (T - n % T) = T by omega, Nat.mod_self]
theorem padJ_ne {n T j : Nat} (hT : 1 ≤ T) (hj : j < padJ n T) : (n + j) % T ≠ 0 := by
  have h1 := Nat.mod_lt n (show 0 < T by omega)
  unfold padJ at hj
  by_cases h : n % T = 0
  · rw [h, Nat.sub_zero, Nat.mod_self] at hj; omega
  · rw [Nat.mod_eq_of_lt (show T - n % T < T by omega)] at hj
    rw [Nat.add_mod, Nat.mod_eq_of_lt (show j < T by omega), Nat.mod_eq_of_lt (show n % T + j < T by omega)]
    omega
set_option maxHeartbeats 1000000 in
theorem wPad (g c : Nat) (p ao : Option Addr) (s : ByteArray) (to : Int) (T : Nat) (hT : max to 1 = (T : Int)) (hT2 : T ≤ 1000000) (hw : WOk g p ao c s) (hz : s.size ≤ 1098000000000) :
    Fn Try.prog 89 #[.pointer (some ⟨g, 0, none⟩), .int .i64 to] (wrH g p ao c s) []
    (fun v L' R' => ∃ p' ao' c', v = .pointer (some ⟨g, 0, none⟩) ∧ L' = wrH g p' ao' c' (s ++ zb (padJ s.size T)) ∧ R' = [] ∧ WOk g p' ao' c' (s ++ zb (padJ s.size T))) := by
  have hT1 : 1 ≤ T := by omega
  have hJ := padJ_lt s.size hT1
  refine fn_intro Try.func89 rfl Try.ntmps89 rfl (fun E => ?_)
  (repeat (first | ((first | (apply wo_v; rfl) ); (· first | (apply pv_ev; rfl) | (apply g_bi; first | (apply pv_max; rfl; rfl)) )) | apply wo_nil | apply wc_seq | apply wc_region | apply wc_block ))
  rw [hT]
  refine wc_loop' (fun m st => ∃ (j : Nat) (p' ao' : Option Addr) (c' : Nat), m = padJ s.size T - j ∧ st = ⟨[(0, .pointer (some ⟨g, 0, none⟩)), (1, .int .i64 T)], wrH g p' ao' c' (s ++ zb j), []⟩ ∧ j ≤ padJ s.size T ∧ WOk g p' ao' c' (s ++ zb j))
    ⟨0, p, ao, c, rfl, by rw [show zb 0 = E0 from rfl, append_E0], Nat.zero_le _, by rw [show zb 0 = E0 from rfl, append_E0]; exact hw⟩ (wk_mk (by (repeat (first | apply wkf_nil | (apply wkf_cons; rfl))); done) (by (repeat (first | apply sub_nil )); done) (by first | exact fun _ h => h | (intro r hr; cases hr; done) | (simp; done) | exact fun _ h => List.mem_append_left _ h | (intro r hr; simp [hr]; done))) ?_
  clear hw p ao c hT
  rintro m st ⟨j, p, ao, c, rfl, rfl, hj, hw⟩
  have hsz : (s ++ zb j).size = s.size + j := by rw [ByteArray.size_append, zb_size]
  have hL := wLen g c p ao (s ++ zb j).size
  by_cases hlt : j < padJ s.size T
  · have hne : ¬ (((s ++ zb j).size : Nat) : Int) % (T : Int) = 0 := by
      rw [hsz]; have := padJ_ne hT1 hlt; omega
    have hB := bWriteByte g c p ao (s ++ zb j) 0 (by omega) hw (by omega)
    rw [show s ++ zb j ++ b1 0 = s ++ zb (j + 1) from ByteArray.append_assoc] at hB
    generalize s ++ zb j = S0 at hL hB hne hw
    (repeat (first | ((first | (apply wo_v; rfl) ); (· first | (apply pv_ev; rfl) )) | apply wc_seq | apply wc_region ))
    (refine wo_call (hL) rfl (by (repeat (first | apply sub_nil )); done) (by first | exact fun _ h => h | (intro r hr; cases hr; done) | (simp; done) | exact fun _ h => List.mem_append_left _ h | (intro r hr; simp [hr]; done)) rfl ?_; rintro v L' R' ⟨rfl, rfl, rfl⟩ H' hH RR hR; simp only [List.cons_append, List.nil_append] at hH hR; subst hH; have hR := hR.symm; subst hR)
    (repeat (first | ((first | (apply wo_v; rfl) ); (· first | (apply pv_ev; rfl) | (apply pv_fld; rfl) | (apply g_bin; first | (apply pv_rem; rfl; rfl; omega) ) )) | apply wo_nil | apply wc_region | apply wc_block | apply wc_skip | (apply wc_true; rfl) | (apply wc_false; rfl) | (apply a_dec_t; rfl; (· first | assumption | omega)) ))
    (refine wo_call (hB) rfl (by (repeat (first | apply sub_nil )); done) (by first | exact fun _ h => h | (intro r hr; cases hr; done) | (simp; done) | exact fun _ h => List.mem_append_left _ h | (intro r hr; simp [hr]; done)) rfl ?_; rintro v L' R' ⟨p', ao', c', rfl, rfl, rfl, hw'⟩ H' hH RR hR; simp only [List.cons_append, List.nil_append] at hH hR; subst hH; have hR := hR.symm; subst hR)
    (repeat (first | apply wo_nil ))
    exact loop_end ⟨j + 1, p', ao', c', rfl, rfl, by omega, hw'⟩ (by omega) (wk_mk (by (repeat (first | apply wkf_nil | (apply wkf_cons; rfl))); done) (by (repeat (first | apply sub_nil )); done) (by first | exact fun _ h => h | (intro r hr; cases hr; done) | (simp; done) | exact fun _ h => List.mem_append_left _ h | (intro r hr; simp [hr]; done)))
  · obtain rfl : j = padJ s.size T := by omega
    have hne : (((s ++ zb (padJ s.size T)).size : Nat) : Int) % (T : Int) = 0 := by
      rw [hsz]; have := padJ_eq s.size hT1; omega
    generalize s ++ zb (padJ s.size T) = S0 at hL hne hw
    (repeat (first | ((first | (apply wo_v; rfl) ); (· first | (apply pv_ev; rfl) )) | apply wc_seq | apply wc_region ))
    (refine wo_call (hL) rfl (by (repeat (first | apply sub_nil )); done) (by first | exact fun _ h => h | (intro r hr; cases hr; done) | (simp; done) | exact fun _ h => List.mem_append_left _ h | (intro r hr; simp [hr]; done)) rfl ?_; rintro v L' R' ⟨rfl, rfl, rfl⟩ H' hH RR hR; simp only [List.cons_append, List.nil_append] at hH hR; subst hH; have hR := hR.symm; subst hR)
    (repeat (first | ((first | (apply wo_v; rfl) ); (· first | (apply pv_ev; rfl) | (apply g_bin; first | (apply pv_rem; rfl; rfl; omega) ) )) | apply wo_nil | apply wc_seq | apply wc_region | (apply wc_exit; rfl) | apply wc_ret | (apply wc_true; rfl) | (apply wc_false; rfl) | (apply a_dec_t; rfl; (· first | assumption | omega)) | (apply a_dec_f; rfl; (· first | assumption | omega)) ))
    exact retv rfl (by (repeat (first | apply RV.nil | (apply RV.tmp; rfl) )); done) ⟨p, ao, c, rfl, rfl, rfl, hw⟩ (by (repeat (first | apply sub_nil )); done) (by first | exact fun _ h => h | (intro r hr; cases hr; done) | (simp; done) | exact fun _ h => List.mem_append_left _ h | (intro r hr; simp [hr]; done))
end Go.Proofs.Ytlhlidmhlhodiaa
