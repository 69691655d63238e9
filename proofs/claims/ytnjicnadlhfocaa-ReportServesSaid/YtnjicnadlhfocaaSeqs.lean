/-
  Package rtcp: Nack.Seqs.
-/
import Derived.Test.YtnjicnadlhfocaaPk
namespace Go.Proofs.Ytnjicnadlhfocaa
set_option linter.unusedSimpArgs false
set_option linter.unusedVariables false
open Go.RowKit
attribute [local irreducible] Pv WO WC Fn
set_option maxRecDepth 100000

theorem and16_1 {a : Int} (h : 0 ≤ a ∧ a ≤ 65535) : bits .and .u16 a 1 = a % 2 := by
  obtain ⟨u, rfl⟩ := Int.eq_ofNat_of_zero_le h.1
  show IntKind.u16.wrap ((BitVec.ofInt 16 (u : Int) &&& BitVec.ofInt 16 ((1 : Nat) : Int)).toNat : Int) = _
  have hz : ∀ c : Nat, c < 2 ^ 16 → (BitVec.ofInt 16 (c : Int)).toNat = c := fun c hc => by
    rw [BitVec.ofInt_natCast, BitVec.toNat_ofNat]; exact Nat.mod_eq_of_lt hc
  rw [BitVec.toNat_and, hz u (by omega), hz 1 (by omega), Nat.and_one_is_mod, IntKind.wrap_u16]
  omega
theorem bit16 {x : Int} (h : 0 ≤ x ∧ x ≤ 65535) {i : Nat} (hi : i < 16) : bits .and .u16 (x.fdiv (2 ^ (min ((i : Int).toNat) IntKind.u16.bits))) 1 = x / 2 ^ i % 2 := by
  have e : min ((i : Int).toNat) IntKind.u16.bits = i := by
    show min i 16 = i
    omega
  have hp : (0 : Int) < 2 ^ i := Int.pow_pos (by omega)
  rw [e, Int.fdiv_eq_ediv_of_nonneg _ (Int.le_of_lt hp)]
  refine and16_1 ⟨Int.ediv_nonneg h.1 (Int.le_of_lt hp), ?_⟩
  have := Int.ediv_le_self (2 ^ i) h.1
  omega
/-- the numbers of a pair, by its first i bits -/
def seqB (p b : Int) : Nat → List Int
  | 0 => [p]
  | i + 1 => if b / 2 ^ i % 2 = 1 then seqB p b i ++ [((p + i) % 65536 + 1) % 65536] else seqB p b i
theorem seqB_len (p b : Int) : ∀ i, (seqB p b i).length ≤ i + 1
  | 0 => Nat.le_refl _
  | i + 1 => by
    have := seqB_len p b i
    rw [seqB]
    split
    · rw [List.length_append, List.length_singleton]; omega
    · omega
def seqL : List (Int × Int) → List Int
  | [] => []
  | x :: l => seqB x.1 x.2 16 ++ seqL l
theorem seqL_app : ∀ a b : List (Int × Int), seqL (a ++ b) = seqL a ++ seqL b
  | [], b => rfl
  | x :: a, b => by
    show seqB _ _ _ ++ seqL (a ++ b) = (seqB _ _ _ ++ seqL a) ++ seqL b
    rw [seqL_app a b, List.append_assoc]
theorem seqL_take {l : List (Int × Int)} {j : Nat} {x : Int × Int} (h : l[j]? = some x) : seqL (l.take (j + 1)) = seqL (l.take j) ++ seqB x.1 x.2 16 := by
  rw [List.take_add_one, h, seqL_app]
  show seqL (l.take j) ++ (seqB x.1 x.2 16 ++ []) = _
  rw [List.append_nil]
theorem seqL_len : ∀ l : List (Int × Int), (seqL l).length ≤ 17 * l.length
  | [] => Nat.le_refl _
  | x :: l => by
    have h1 := seqL_len l
    have h2 := seqB_len x.1 x.2 16
    show (seqB _ _ _ ++ seqL l).length ≤ _
    rw [List.length_append, List.length_cons]; omega
abbrev sO (ao : Option Addr) (n c : Nat) (l : List Int) : It := .own 47 1 ao n c (c16 l)
abbrev prO (b : Nat) (p q : Int) : It := .ob b (.cells #[.int .u16 p, .int .u16 q] 138 (0, 0))
abbrev nkO (b : Nat) (fm to : Int) (v : Value) : It := .ob b (.cells #[.int .u32 fm, .int .u32 to, v] 66 (0, 0))
theorem c16_snoc (ao : Option Addr) (n c : Nat) (l : List Int) (x : Int) : sO ao n c (l ++ [x]) = It.own 47 1 ao n c (c16 l ++ c16 [x]) := by rw [sO, c16_app]
set_option maxHeartbeats 8000000 in
theorem nSeqs (fm to : Int) (l : List (Int × Int)) (A : Option Addr) (n c : Nat) (R : List Ro) (hS : SQ R 2 A n c (pairV l)) (hl : l.length ≤ 100000) (hb : ∀ x ∈ l, in16 x.1 ∧ in16 x.2) :
    Fn Try.prog 21 #[.agg #[.int .u32 fm, .int .u32 to, .slice A n c]] [] R (fun v L' R' => ∃ ao c', v = .slice ao (seqL l).length c' ∧ L' = [sO ao (seqL l).length c' (seqL l)] ∧ R' = []) := by
  have hn : n = l.length := by rw [← hS.len, pairV_len]
  subst hn
  refine fn_intro Try.func21 rfl Try.ntmps21 rfl (fun E => ?_)
  (repeat (first | ((first | (apply wo_v; rfl) ); (· first | (apply pv_ev; rfl) | (apply pv_fld; rfl) | (apply g_load; first | (apply pv_ld; rfl; (· (repeat (first | apply sel_here ))); rfl) ) | (apply g_bi; first | (apply pv_len_sl; rfl) ) )) | apply wo_nil | apply wc_seq | apply wc_region | (apply wo_box1; rfl; rfl; rfl; intro bx) | (apply wo_boxa; rfl; rfl; intro bx) ))
  refine wc_own0 47 1 ?_
  refine wc_join0 (fun st => ∃ ao c', st = ⟨[(3, .slice ao (seqL l).length c')], [sO ao (seqL l).length c' (seqL l)], R⟩) ?_ ?_
  · refine wc_block ?_
    refine wc_loop' (fun q st => ∃ (i : Nat) (ao : Option Addr) (c' : Nat) (s : List Int), q = l.length - i ∧ i ≤ l.length ∧ s = seqL (l.take i) ∧ st = ⟨[(3, .slice ao s.length c'), (8, .slice A l.length c), (9, .int .i64 l.length), (10, .int .i64 i)], [sO ao s.length c' s], R⟩) ⟨0, none, 0, [], rfl, Nat.zero_le _, rfl, rfl⟩ (wk_mk (by (repeat (first | apply wkf_nil | (apply wkf_cons; rfl))); done) (by (repeat (first | apply sub_nil )); done) (by first | exact fun _ h => h | (intro r hr; cases hr; done) | (simp; done) | exact fun _ h => List.mem_append_left _ h | (intro r hr; simp [hr]; done))) ?_
    rintro q st ⟨i, ao, c', s, rfl, hi, hs, rfl⟩
    by_cases hlt : i < l.length
    · obtain ⟨⟨p, b⟩, hx⟩ : ∃ x, l[i]? = some x := ⟨_, List.getElem?_eq_getElem hlt⟩
      have hr := pairV_at hx
      obtain ⟨⟨p1, p2⟩, b1, b2⟩ := hb _ (List.mem_of_getElem? hx)
      have hnx := seqL_take hx
      have hlen : s.length ≤ 17 * i := by
        have := seqL_len (l.take i)
        rw [← hs, List.length_take] at this; omega
      rw [← hs] at hnx
      dsimp only at hr p1 p2 b1 b2 hnx
      obtain ⟨a0, o0, rfl, hmem⟩ := hS.pos (by omega)
      (repeat (first | ((first | (apply wo_v; rfl) ); (· first | (apply pv_ev; rfl) )) | apply wo_nil | apply wc_seq | apply wc_region | apply wc_skip | (apply wc_true; rfl) | (apply wc_false; rfl) | (apply a_dec_t; rfl; (· first | assumption | omega)) ))
      refine wc_block ?_
      (repeat (first | ((first | (apply wo_v; rfl) ); (· first | (apply pv_ev; rfl) | (apply pv_fld; rfl) | (apply g_load; first | (apply pv_ld; rfl; (· (repeat (first | apply sel_here ))); rfl) | (apply pv_lda; rfl; (· (repeat (first | apply sel_there))); (· (repeat (first | fail )))) | (apply pv_ld_owna; rfl; (· (repeat (first | apply sel_there))); (· assumption)) | (apply pv_ld_roa; rfl; (· (first | assumption )); (· assumption))) | (apply g_bi; first | fail ) | (apply g_idx; first | (apply pv_idx; rfl; rfl; omega) ) )) | apply wo_nil | apply wc_seq | apply wc_region | (apply wo_alloc; rfl; intro bx) | (apply wo_bsl; (· (repeat (first | apply Rws'.nil | (apply Rws'.one; rfl; rfl; rfl) ))); rfl; rfl; rfl; rfl; intro bx) | (apply wo_sta; rfl; rfl; rfl; rfl; (· (repeat (first | apply sel_here ))); (· (repeat (first | apply LayAt.nil | apply LayAt.here ))); rfl) ))
      rename_i bp
      refine wo_app rfl rfl (by (repeat (first | apply sel_here | apply sel_there)); done) (by (repeat (first | apply sel_here )); done) (by unfold maxLen; omega) (by omega) rfl (fun ao2 c2 => ?_)
      (repeat (first | ((first | (apply wo_v; rfl) ); (· first | (apply pv_ev; rfl) )) | apply wo_nil | apply wc_seq | apply wc_region ))
      refine wc_join0 (fun st => ∃ ao c', st = ⟨[(3, .slice ao (seqL (l.take (i + 1))).length c'), (8, .slice (some ⟨a0, o0, none⟩) l.length c), (9, .int .i64 l.length), (10, .int .i64 i)], [sO ao (seqL (l.take (i + 1))).length c' (seqL (l.take (i + 1)))], R⟩) ?_ ?_
      · refine wc_block ?_
        refine wc_loop' (fun q st => ∃ (j : Nat) (ao : Option Addr) (c' : Nat) (u : List Int), q = 16 - j ∧ j ≤ 16 ∧ u = s ++ seqB p b j ∧ st = ⟨[(3, .slice ao u.length c'), (5, .pointer (some ⟨bp, 0, none⟩)), (8, .slice (some ⟨a0, o0, none⟩) l.length c), (9, .int .i64 l.length), (10, .int .i64 i), (19, .int .i64 j)], [sO ao u.length c' u, prO bp p b], R⟩) ⟨0, ao2, c2, s ++ [p], rfl, Nat.zero_le _, rfl, by rw [List.length_append, List.length_singleton, c16_snoc]⟩ (wk_mk (by (repeat (first | apply wkf_nil | (apply wkf_cons; rfl))); done) (by (repeat (first | apply sub_nil | (apply sub_cons; (· (repeat (first | apply sel_here | apply sel_there)))))); done) (by first | exact fun _ h => h | (intro r hr; cases hr; done) | (simp; done) | exact fun _ h => List.mem_append_left _ h | (intro r hr; simp [hr]; done))) ?_
        clear ao2 c2 ao c'
        rintro q st ⟨j, ao, c', u, rfl, hj, hu, rfl⟩
        have hul : u.length ≤ 17 * i + 17 := by
          have := seqB_len p b j
          rw [hu, List.length_append]; omega
        by_cases hlj : j < 16
        · have hbit := bit16 ⟨b1, b2⟩ hlj
          have hs1 : seqB p b (j + 1) = if b / 2 ^ j % 2 = 1 then seqB p b j ++ [((p + j) % 65536 + 1) % 65536] else seqB p b j := rfl
          by_cases hbt : b / 2 ^ j % 2 = 1
          · rw [if_pos hbt] at hs1
            have hbt2 := hbit.trans hbt
            (repeat (first | ((first | (apply wo_v; rfl) ); (· first | (apply pv_ev; rfl) )) | apply wo_nil | apply wc_seq | apply wc_region | apply wc_skip | (apply wc_true; rfl) | (apply wc_false; rfl) | (apply a_dec_t; rfl; (· first | assumption | omega)) ))
            refine wc_block ?_
            (repeat (first | ((first | (apply wo_v; rfl) ); (· first | (apply pv_ev; rfl) | (apply pv_fld; rfl) | (apply g_load; first | (apply pv_ld; rfl; (· (repeat (first | apply sel_here | apply sel_there))); rfl) ) | (apply g_bin; first | (apply a_add; rfl; rfl; infer_instance; omega) | (apply pv_and; rfl; rfl) | (apply pv_add_s; rfl; rfl; omega) | (apply a_add_u; rfl; rfl; infer_instance) | (apply a_shr; rfl; rfl; rfl; omega; rfl) | (apply pv_shr; rfl; rfl; omega) ) | (apply g_bi; first | fail ) | (apply g_conv; first | (apply a_conv; rfl; infer_instance; infer_instance; infer_instance; omega) ) )) | apply wo_nil | apply wc_seq | apply wc_region | (apply wc_true; rfl) | (apply wc_false; rfl) | (apply a_dec_t; rfl; (· first | assumption | omega)) | (apply wo_bsl; (· (repeat (first | apply Rws'.nil | (apply Rws'.one; rfl; rfl; rfl) ))); rfl; rfl; rfl; rfl; intro bx) ))
            refine wo_app rfl rfl (by (repeat (first | apply sel_here | apply sel_there)); done) (by (repeat (first | apply sel_here )); done) (by unfold maxLen; omega) (by omega) rfl (fun ao3 c3 => ?_)
            (repeat (first | ((first | (apply wo_v; rfl) ); (· first | (apply pv_ev; rfl) | (apply g_bin; first | (apply a_add; rfl; rfl; infer_instance; omega) ) )) | apply wo_nil | apply wc_region ))
            exact loop_end ⟨j + 1, ao3, c3, u ++ [_], rfl, by omega, by rw [hs1, hu, List.append_assoc], by rw [List.length_append, List.length_singleton, c16_snoc]⟩ (by omega) (wk_mk (by (repeat (first | apply wkf_nil | (apply wkf_cons; rfl))); done) (by (repeat (first | apply sub_nil | (apply sub_cons; (· (repeat (first | apply sel_here | apply sel_there)))))); done) (by first | exact fun _ h => h | (intro r hr; cases hr; done) | (simp; done) | exact fun _ h => List.mem_append_left _ h | (intro r hr; simp [hr]; done)))
          · rw [if_neg hbt] at hs1
            have hbt2 : ¬ bits .and .u16 (b.fdiv (2 ^ (min ((j : Int).toNat) IntKind.u16.bits))) 1 = 1 := by rw [hbit]; exact hbt
            (repeat (first | ((first | (apply wo_v; rfl) ); (· first | (apply pv_ev; rfl) )) | apply wo_nil | apply wc_seq | apply wc_region | apply wc_skip | (apply wc_true; rfl) | (apply wc_false; rfl) | (apply a_dec_t; rfl; (· first | assumption | omega)) ))
            refine wc_block ?_
            (repeat (first | ((first | (apply wo_v; rfl) ); (· first | (apply pv_ev; rfl) | (apply pv_fld; rfl) | (apply g_load; first | (apply pv_ld; rfl; (· (repeat (first | apply sel_here | apply sel_there))); rfl) ) | (apply g_bin; first | (apply a_add; rfl; rfl; infer_instance; omega) | (apply pv_and; rfl; rfl) | (apply a_shr; rfl; rfl; rfl; omega; rfl) | (apply pv_shr; rfl; rfl; omega) ) )) | apply wo_nil | apply wc_seq | apply wc_region | apply wc_skip | (apply wc_true; rfl) | (apply wc_false; rfl) | (apply a_dec_t; rfl; (· first | assumption | omega)) | (apply a_dec_f; rfl; (· first | assumption | omega)) ))
            exact loop_end ⟨j + 1, ao, c', u, rfl, by omega, by rw [hs1, hu], rfl⟩ (by omega) (wk_mk (by (repeat (first | apply wkf_nil | (apply wkf_cons; rfl))); done) (by (repeat (first | apply sub_nil )); done) (by first | exact fun _ h => h | (intro r hr; cases hr; done) | (simp; done) | exact fun _ h => List.mem_append_left _ h | (intro r hr; simp [hr]; done)))
        · have e : j = 16 := by omega
          subst e
          rw [← hnx] at hu
          subst hu
          (repeat (first | ((first | (apply wo_v; rfl) ); (· first | (apply pv_ev; rfl) )) | apply wo_nil | apply wc_seq | apply wc_region | (apply wc_exit; rfl) | (apply wc_true; rfl) | (apply wc_false; rfl) ))
          exact cut_end ⟨ao, c', rfl⟩ (wk_mk (by (repeat (first | apply wkf_nil | (apply wkf_cons; rfl))); done) (by (repeat (first | apply sub_nil )); done) (by first | exact fun _ h => h | (intro r hr; cases hr; done) | (simp; done) | exact fun _ h => List.mem_append_left _ h | (intro r hr; simp [hr]; done)))
      rintro st ⟨ao, c', rfl⟩
      (repeat (first | ((first | (apply wo_v; rfl) ); (· first | (apply pv_ev; rfl) | (apply g_bin; first | (apply a_add; rfl; rfl; infer_instance; omega) ) )) | apply wo_nil | apply wc_region ))
      exact loop_end ⟨i + 1, ao, c', _, rfl, by omega, rfl, rfl⟩ (by omega) (wk_mk (by (repeat (first | apply wkf_nil | (apply wkf_cons; rfl))); done) (by (repeat (first | apply sub_nil )); done) (by first | exact fun _ h => h | (intro r hr; cases hr; done) | (simp; done) | exact fun _ h => List.mem_append_left _ h | (intro r hr; simp [hr]; done)))
    · have e : i = l.length := by omega
      subst e
      rw [List.take_length] at hs
      subst hs
      (repeat (first | ((first | (apply wo_v; rfl) ); (· first | (apply pv_ev; rfl) )) | apply wo_nil | apply wc_seq | apply wc_region | (apply wc_exit; rfl) | (apply wc_true; rfl) | (apply wc_false; rfl) | (apply a_dec_t; rfl; (· first | assumption | omega)) | (apply a_dec_f; rfl; (· first | assumption | omega)) ))
      exact cut_end ⟨ao, c', rfl⟩ (wk_mk (by (repeat (first | apply wkf_nil | (apply wkf_cons; rfl))); done) (by (repeat (first | apply sub_nil )); done) (by first | exact fun _ h => h | (intro r hr; cases hr; done) | (simp; done) | exact fun _ h => List.mem_append_left _ h | (intro r hr; simp [hr]; done)))
  rintro st ⟨ao, c', rfl⟩
  (repeat (first | ((first | (apply wo_v; rfl) ); (· first | (apply pv_ev; rfl) )) | apply wo_nil | apply wc_seq | apply wc_region | apply wc_ret ))
  exact ret1 rfl rfl ⟨ao, c', rfl, rfl, rfl⟩ ((by (repeat (first | apply sub_nil )); done) : List.Perm _ ([_] ++ _)) (by first | exact fun _ h => h | (intro r hr; cases hr; done) | (simp; done) | exact fun _ h => List.mem_append_left _ h | (intro r hr; simp [hr]; done))
end Go.Proofs.Ytnjicnadlhfocaa
