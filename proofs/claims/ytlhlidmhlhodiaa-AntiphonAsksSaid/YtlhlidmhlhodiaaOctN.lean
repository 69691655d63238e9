/-
  Package octet: Writer.Num, and what is made of it.
-/
import Derived.Test.YtlhlidmhlhodiaaOctX
namespace Go.Proofs.Ytlhlidmhlhodiaa
set_option linter.unusedSimpArgs false
set_option linter.unusedVariables false
set_option linter.unusedSimpArgs false
set_option linter.unusedVariables false
open Go.RowKit
set_option maxRecDepth 100000
attribute [local irreducible] Pv WO WC Fn
attribute [local irreducible] ByteArray.extract

def numsS (k : Nat) : List Int → ByteArray
  | [] => E0
  | x :: xs => numS k x ++ numsS k xs
theorem numsS_append (k : Nat) : ∀ a b : List Int, numsS k (a ++ b) = numsS k a ++ numsS k b
  | [], b => (E0_append _).symm
  | x :: a, b => by
    show numS k x ++ numsS k (a ++ b) = (numS k x ++ numsS k a) ++ numsS k b
    rw [numsS_append k a b, ByteArray.append_assoc]
theorem numsS_size (k : Nat) : ∀ a : List Int, (numsS k a).size = k * a.length
  | [] => rfl
  | x :: a => by
    simp only [numsS, ByteArray.size_append, numS_size, numsS_size k a, List.length_cons]
    rw [Nat.mul_add]; omega
theorem numsS_take {k : Nat} {xs : List Int} {j : Nat} {x : Int} (h : xs[j]? = some x) : numsS k (xs.take (j + 1)) = numsS k (xs.take j) ++ numS k x := by
  rw [List.take_add_one, h, numsS_append]
  show numsS k (xs.take j) ++ (numS k x ++ E0) = _
  rw [append_E0]
abbrev uO (bl c : Nat) (xs : List Int) : It := .own 78 1 (some ⟨bl, 0, none⟩) xs.length c (xs.map fun x => [.int .u64 x])
theorem WOk.ex (g : Nat) (s : ByteArray) : ∃ p ao c, WOk g p ao c s := by
  by_cases h : s.size = 0
  · exact ⟨none, none, 0, .inl rfl, .inl ⟨rfl, rfl, size_zero h⟩⟩
  · exact ⟨none, some ⟨0, 0, none⟩, 0, .inl rfl, .inr ⟨0, rfl, by omega⟩⟩
set_option maxHeartbeats 2000000 in
theorem wNum (g c bl c2 : Nat) (p ao : Option Addr) (s : ByteArray) (n : Int) (k : Nat) (xs : List Int) (hk : min (max n 1) 8 = (k : Int)) (hx : ∀ x ∈ xs, 0 ≤ x ∧ x ≤ 18446744073709551615) (hl : xs.length ≤ 1000000) (hw : WOk g p ao c s) (hz : s.size ≤ 1099000000000) :
    Fn Try.prog 120 #[.pointer (some ⟨g, 0, none⟩), .int .i64 n, .slice (some ⟨bl, 0, none⟩) xs.length c2] (wrH g p ao c s ++ [uO bl c2 xs]) []
    (fun v L' R' => ∃ p' ao' c', v = .pointer (some ⟨g, 0, none⟩) ∧ L' = wrH g p' ao' c' (s ++ numsS k xs) ∧ R' = [] ∧ WOk g p' ao' c' (s ++ numsS k xs)) := by
  have hk1 : 1 ≤ k ∧ k ≤ 8 := by omega
  refine fn_intro Try.func120 rfl Try.ntmps120 rfl (fun E => ?_)
  (repeat (first | ((first | (apply wo_v; rfl) ); (· first | (apply pv_ev; rfl) | (apply g_bi; first | (apply pv_len_sl; rfl) | (apply pv_min; rfl; rfl) | (apply pv_max; rfl; rfl)) )) | apply wo_nil | apply wc_seq | apply wc_region | apply wc_block ))
  rw [hk]
  refine wc_loop' (fun m st => ∃ (j : Nat) (p' ao' : Option Addr) (c' : Nat), m = xs.length - j ∧ st = ⟨[(0, .pointer (some ⟨g, 0, none⟩)), (1, .int .i64 k), (13, .slice (some ⟨bl, 0, none⟩) xs.length c2), (14, .int .i64 xs.length), (15, .int .i64 j)], wrH g p' ao' c' (s ++ numsS k (xs.take j)) ++ [uO bl c2 xs], []⟩ ∧ j ≤ xs.length ∧ WOk g p' ao' c' (s ++ numsS k (xs.take j)))
    ⟨0, p, ao, c, rfl, by rw [List.take_zero, show numsS k [] = E0 from rfl, append_E0], Nat.zero_le _, by rw [List.take_zero, show numsS k [] = E0 from rfl, append_E0]; exact hw⟩ (wk_mk (by (repeat (first | apply wkf_nil | (apply wkf_cons; rfl))); done) (by (repeat (first | apply sub_nil )); done) (by first | exact fun _ h => h | (intro r hr; cases hr; done) | (simp; done) | exact fun _ h => List.mem_append_left _ h | (intro r hr; simp [hr]; done))) ?_
  clear hw p ao c hk
  rintro m st ⟨j, p, ao, c, rfl, rfl, hj, hw⟩
  by_cases hlt : j < xs.length
  · obtain ⟨x, he⟩ : ∃ x, xs[j]? = some x := ⟨_, List.getElem?_eq_getElem hlt⟩
    have hr : (xs.map fun x => [Value.int .u64 x])[j]? = some [.int .u64 x] := by simp [he]
    have hxb := hx x (List.mem_of_getElem? he)
    have hS : (s ++ numsS k (xs.take j)).size + 8 ≤ 1099511627776 := by
      rw [ByteArray.size_append, numsS_size, List.length_take]
      have : k * min j xs.length ≤ 8 * 1000000 := Nat.mul_le_mul hk1.2 (by omega)
      omega
    have hnext := numsS_take (k := k) he
    obtain ⟨S0, hS0⟩ : ∃ S0, s ++ numsS k (xs.take j) = S0 := ⟨_, rfl⟩
    have hnx : s ++ numsS k (xs.take (j + 1)) = S0 ++ numS k x := by rw [hnext, ← ByteArray.append_assoc, hS0]
    rw [hS0] at hw hS ⊢
    clear hnext hS0
    (repeat (first | ((first | (apply wo_v; rfl) ); (· first | (apply pv_ev; rfl) | (apply g_load; first | (apply pv_ld; rfl; (· (repeat (first | apply sel_there))); rfl) | (apply pv_ld_ownf; rfl; (· (repeat (first | fail ))); (· assumption); rfl) | (apply pv_ld_own1; rfl; (· (repeat (first | apply sel_here | apply sel_there))); (· assumption)) ) | (apply g_bin; first | (apply a_sub; rfl; rfl; infer_instance; omega) ) | (apply g_idx; first | (apply pv_idx; rfl; rfl; omega) ) )) | apply wo_nil | apply wc_seq | apply wc_region | apply wc_block | apply wc_skip | (apply wc_true; rfl) | (apply wc_false; rfl) | (apply a_dec_t; rfl; (· first | assumption | omega)) ))
    refine wc_loop' (fun m st => ∃ (t : Nat) (z : Int) (p' ao' : Option Addr) (c' : Nat), m = k - t ∧ st = ⟨[(0, .pointer (some ⟨g, 0, none⟩)), (1, .int .i64 k), (8, .int .u64 x), (9, .int .i64 z), (13, .slice (some ⟨bl, 0, none⟩) xs.length c2), (14, .int .i64 xs.length), (15, .int .i64 j)], wrH g p' ao' c' (S0 ++ numS t (sh x (k - t))) ++ [uO bl c2 xs], []⟩ ∧ t ≤ k ∧ z = (k : Int) - 1 - (t : Int) ∧ WOk g p' ao' c' (S0 ++ numS t (sh x (k - t))))
      ⟨0, (k : Int) - 1, p, ao, c, rfl, by rw [show numS 0 (sh x (k - 0)) = E0 from rfl, append_E0], Nat.zero_le _, by omega, by rw [show numS 0 (sh x (k - 0)) = E0 from rfl, append_E0]; exact hw⟩ (wk_mk (by (repeat (first | apply wkf_nil | (apply wkf_cons; rfl))); done) (by (repeat (first | apply sub_nil )); done) (by first | exact fun _ h => h | (intro r hr; cases hr; done) | (simp; done) | exact fun _ h => List.mem_append_left _ h | (intro r hr; simp [hr]; done))) ?_
    clear hw p ao c
    rintro m st ⟨t, z, p, ao, c, rfl, rfl, ht, hz, hw⟩
    by_cases htk : t < k
    · obtain rfl : z = ((k - 1 - t : Nat) : Int) := by omega
      have hsh := sh_nonneg hxb.1 (k - 1 - t)
      have hfd := sh_fdiv hxb.1 (k - 1 - t) (by omega)
      have hs1 : numS (t + 1) (sh x (k - (t + 1))) = numS t (sh x (k - t)) ++ b1 (sh x (k - 1 - t) % 256) := by
        show numS t (sh x (k - (t + 1)) / 256) ++ b1 (sh x (k - (t + 1)) % 256) = _
        rw [show k - (t + 1) = k - 1 - t by omega, show k - t = (k - 1 - t) + 1 by omega]
        rfl
      have hsz : (S0 ++ numS t (sh x (k - t))).size + 1 ≤ 1099511627776 := by rw [ByteArray.size_append, numS_size]; omega
      have hB := fun p ao c hw => bWriteByte g c p ao (S0 ++ numS t (sh x (k - t))) (sh x (k - 1 - t) % 256) (by omega) hw hsz
      rw [ByteArray.append_assoc, ← hs1] at hB
      have hB := hB p ao c hw
      generalize S0 ++ numS t (sh x (k - t)) = S1 at hB hw hsz
      obtain ⟨S2, hS2⟩ : ∃ S2, S0 ++ numS (t + 1) (sh x (k - (t + 1))) = S2 := ⟨_, rfl⟩
      rw [hS2] at hB
      (repeat (first | ((first | (apply wo_v; rfl) ); (· first | (apply pv_ev; rfl) )) | apply wo_nil | apply wc_seq | apply wc_region | apply wc_block | apply wc_skip | (apply wc_true; rfl) ))
      (refine wc_reg [0] (asl [(8, 0)]) (fun _ _ v M => ∃ p' ao' c', v = .nilIface ∧ M = wrH g p' ao' c' S2 ∧ WOk g p' ao' c' S2) ([uO bl c2 xs]) (fm [(0, wrH g p ao c S1)]) mixed (by kernel_rfl) (by kernel_rfl) (by decide) (asl_mem (by decide)) (by (repeat (first | (apply prm_cons; (· (repeat (first | apply sel_here | apply sel_there)))) | apply List.Perm.nil )); done) ?_; (repeat (first | ((first | (apply HdE.val; rfl; rfl; (· first | apply gok_none ))); (· first | (apply pv_ev; rfl) | (apply pv_fld; rfl) | (apply g_bin; first | (apply a_mul; rfl; rfl; infer_instance; omega) | (apply a_shr; rfl; rfl; rfl; omega; rfl) | (apply pv_shr; rfl; rfl; omega) ) | (apply g_conv; first | (apply a_conv; rfl; infer_instance; infer_instance; infer_instance; omega) | (apply a_conv_u; rfl; infer_instance; infer_instance; infer_instance) ) )) )))
      rw [hfd]
      (refine he_eff rfl rfl rfl (by first | exact gok_none | exact gok_run rfl rfl) (outc_call (hB) rfl (by (repeat (first | apply sub_nil )); done) (by first | exact fun _ h => h | (intro r hr; cases hr; done) | (simp; done) | exact fun _ h => List.mem_append_left _ h | (intro r hr; simp [hr]; done)) ?_) ((by obtain ⟨p', ao', c', h⟩ := WOk.ex g S2; exact ⟨_, _, p', ao', c', rfl, rfl, h⟩)) ?_; (· rintro v L' R' ⟨p', ao', c', hv, rfl, _, hw'⟩; exact ⟨_, ⟨p', ao', c', hv, rfl, hw'⟩, (by (repeat (first | (apply prm_cons; (· (repeat (first | apply sel_here )))) | apply List.Perm.nil )); done)⟩); rintro v M ⟨p', ao', c', rfl, rfl, hw'⟩; simp only [setl, reduceIte, Nat.reduceEqDiff]; (repeat (first | fail )))
      (refine HdE.nil ?_; intro H hH; simp only [Hp, fm, look, setl, List.flatMap_cons, List.flatMap_nil, reduceIte, Nat.reduceEqDiff, Option.getD_some, List.append_nil, List.cons_append, List.nil_append] at hH; subst hH)
      (repeat (first | ((first | (apply wo_v; rfl) ); (· first | (apply pv_ev; rfl) | (apply g_bin; first | (apply a_sub; rfl; rfl; infer_instance; omega) ) )) | apply wo_nil | apply wc_region ))
      exact loop_end ⟨t + 1, ((k - 1 - t : Nat) : Int) - 1, p', ao', c', rfl, by rw [hS2], by omega, by omega, by rw [hS2]; exact hw'⟩ (by omega) (wk_mk (by (repeat (first | apply wkf_nil | (apply wkf_cons; rfl))); done) (by (repeat (first | apply sub_nil | (apply sub_cons; (· (repeat (first | apply sel_here | apply sel_there)))))); done) (by first | exact fun _ h => h | (intro r hr; cases hr; done) | (simp; done) | exact fun _ h => List.mem_append_left _ h | (intro r hr; simp [hr]; done)))
    · obtain rfl : t = k := by omega
      rw [Nat.sub_self] at hw ⊢
      rw [show sh x 0 = x from rfl, ← hnx] at hw ⊢
      subst hz
      (repeat (first | ((first | (apply wo_v; rfl) ); (· first | (apply pv_ev; rfl) | (apply g_bin; first | (apply a_add; rfl; rfl; infer_instance; omega) ) )) | apply wo_nil | apply wc_seq | apply wc_region | (apply wc_exit; rfl) | (apply wc_true; rfl) | (apply wc_false; rfl) | (apply a_dec_t; rfl; (· first | assumption | omega)) | (apply a_dec_f; rfl; (· first | assumption | omega)) ))
      exact loop_end ⟨j + 1, p, ao, c, rfl, rfl, by omega, hw⟩ (by omega) (wk_mk (by (repeat (first | apply wkf_nil | (apply wkf_cons; rfl))); done) (by (repeat (first | apply sub_nil )); done) (by first | exact fun _ h => h | (intro r hr; cases hr; done) | (simp; done) | exact fun _ h => List.mem_append_left _ h | (intro r hr; simp [hr]; done)))
  · obtain rfl : j = xs.length := by omega
    rw [List.take_length] at hw ⊢
    (repeat (first | ((first | (apply wo_v; rfl) ); (· first | (apply pv_ev; rfl) )) | apply wo_nil | apply wc_seq | apply wc_region | (apply wc_exit; rfl) | apply wc_ret | (apply wc_true; rfl) | (apply wc_false; rfl) | (apply a_dec_t; rfl; (· first | assumption | omega)) | (apply a_dec_f; rfl; (· first | assumption | omega)) ))
    exact retv rfl (by (repeat (first | apply RV.nil | (apply RV.tmp; rfl) )); done) ⟨p, ao, c, rfl, rfl, rfl, hw⟩ (by (repeat (first | apply sub_nil )); done) (by first | exact fun _ h => h | (intro r hr; cases hr; done) | (simp; done) | exact fun _ h => List.mem_append_left _ h | (intro r hr; simp [hr]; done))
end Go.Proofs.Ytlhlidmhlhodiaa
