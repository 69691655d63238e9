/-
  Texts of this proof, laid together (part 7 of 7).
-/
import Derived.Test.YtlhlidmhlhodiaaB6
/-
  Package report: Read.
-/
namespace Go.Proofs.Ytlhlidmhlhodiaa
set_option linter.unusedSimpArgs false
set_option linter.unusedVariables false
open Go.RowKit
attribute [local irreducible] Pv WO WC Fn
set_option maxRecDepth 100000

structure Ak where
  sq : List Int
  ky : Bool
  rt : Int
  gn : Bool
def rtM (s rt : Int) (l : List Int) (r : Int) : Int := if s ∈ l ∧ 0 < rt ∧ (r = 0 ∨ rt < r) then rt else r
def stepA (s : Int) (a : Ak) : Pkt → Ak
  | .nack _ to ps => if to = s then { a with sq := a.sq ++ seqL ps } else a
  | .pli _ to => { a with ky := a.ky || decide (to = s) }
  | .fir _ os => { a with ky := a.ky || os.any fun o => decide (o.1 = s) }
  | .remb _ rt ss => { a with rt := rtM s rt ss a.rt }
  | .bye ss _ => { a with gn := a.gn || ss.any fun x => decide (x = s) }
  | _ => a
abbrev aO (b : Nat) (v : Value) (k : Bool) (r : Int) (g : Bool) : It := .ob b (.cells #[v, .bool k, .int .u64 r, .bool g] 80 (0, 0))
theorem any_take {α : Type} {l : List α} {j : Nat} {x : α} {f : α → Bool} (h : l[j]? = some x) : (l.take (j + 1)).any f = ((l.take j).any f || f x) := by
  rw [List.take_add_one, h, List.any_append]; simp
theorem mem_take {l : List Int} {j : Nat} {x s : Int} (h : l[j]? = some x) : s ∈ l.take (j + 1) ↔ s ∈ l.take j ∨ x = s := by
  rw [List.take_add_one, h, List.mem_append]; simp [eq_comm]
theorem rtM_take {s rt r : Int} {l : List Int} {j : Nat} {x : Int} (h : l[j]? = some x) (h0 : 0 ≤ rt) :
    rtM s rt (l.take (j + 1)) r = if x = s ∧ 0 < rt ∧ (rtM s rt (l.take j) r = 0 ∨ rt < rtM s rt (l.take j) r) then rt else rtM s rt (l.take j) r := by
  have hm := mem_take (s := s) h
  unfold rtM
  by_cases h1 : s ∈ l.take j <;> by_cases h2 : x = s <;> by_cases h3 : 0 < rt <;> by_cases h4 : r = 0 <;> by_cases h5 : rt < r <;> simp [hm, h1, h2, h3, h4, h5] <;> omega
set_option maxHeartbeats 8000000 in
theorem pRate (b : Nat) (v : Value) (hv : v.oneCell' = true) (k : Bool) (r : Int) (g : Bool) (s fm rt : Int) (l : List Int) (A : Option Addr) (n c : Nat) (R : List Ro) (hS : SQ R 1 A n c (c32 l)) (hl : l.length ≤ 100000) (hrt : 0 ≤ rt) :
    Fn Try.prog 92 #[.pointer (some ⟨b, 0, none⟩), .int .u32 s, .agg #[.int .u32 fm, .int .u64 rt, .slice A n c]] [aO b v k r g] R (fun u L' R' => u = .tuple #[] ∧ L' = [aO b v k (rtM s rt l r) g] ∧ R' = []) := by
  have hn : n = l.length := by rw [← hS.len, c32_len]
  subst hn
  refine fn_intro Try.func92 rfl Try.ntmps92 rfl (fun E => ?_)
  (repeat (first | ((first | (apply wo_v; rfl) ); (· first | (apply pv_ev; rfl) | (apply pv_fld; rfl) | (apply g_load; first | (apply pv_ld; rfl; (· (repeat (first | apply sel_here ))); rfl) ) | (apply g_bi; first | (apply pv_len_sl; rfl) ) )) | apply wo_nil | apply wc_seq | apply wc_region | (apply wo_box1; rfl; rfl; rfl; intro bx) | (apply wo_boxa; rfl; rfl; intro bx) ))
  refine wc_block ?_
  refine wc_loop' (fun q st => ∃ (j : Nat) (r' : Int), q = l.length - j ∧ j ≤ l.length ∧ r' = rtM s rt (l.take j) r ∧ st = ⟨[(0, .pointer (some ⟨b, 0, none⟩)), (1, .int .u32 s), (5, .pointer (some ⟨bx, 0, none⟩)), (9, .slice A l.length c), (10, .int .i64 l.length), (11, .int .i64 j)], [aO b v k r' g, .ob bx (.cells #[.int .u32 fm, .int .u64 rt, .slice A l.length c] 194 (0, 0))], R⟩) ⟨0, r, rfl, Nat.zero_le _, by unfold rtM; simp, rfl⟩ (wk_mk (by (repeat (first | apply wkf_nil | (apply wkf_cons; rfl))); done) (by (repeat (first | apply sub_nil | (apply sub_cons; (· (repeat (first | apply sel_here | apply sel_there)))))); done) (by first | exact fun _ h => h | (intro r hr; cases hr; done) | (simp; done) | exact fun _ h => List.mem_append_left _ h | (intro r hr; simp [hr]; done))) ?_
  rintro q st ⟨j, r', rfl, hj, hr', rfl⟩
  by_cases hlt : j < l.length
  · obtain ⟨x, hx⟩ : ∃ x, l[j]? = some x := ⟨_, List.getElem?_eq_getElem hlt⟩
    have hr := c32_at hx
    have hnx := rtM_take (s := s) (rt := rt) (r := r) hx hrt
    rw [← hr'] at hnx
    obtain ⟨a0, o0, rfl, hmem⟩ := hS.pos (by omega)
    have hc : ¬ x = s ∨ (x = s ∧ ¬ 0 < rt) ∨ (x = s ∧ 0 < rt ∧ r' = 0) ∨ (x = s ∧ 0 < rt ∧ ¬ r' = 0 ∧ rt < r') ∨ (x = s ∧ 0 < rt ∧ ¬ r' = 0 ∧ ¬ rt < r') := by omega
    rcases hc with c1 | ⟨c1, c2⟩ | ⟨c1, c2, c3⟩ | ⟨c1, c2, c3, c4⟩ | ⟨c1, c2, c3, c4⟩
    · rw [if_neg (by omega)] at hnx
      (repeat (first | ((first | (apply wo_v; rfl) ); (· first | (apply pv_ev; rfl) )) | apply wo_nil | apply wc_seq | apply wc_region | apply wc_skip | (apply wc_true; rfl) | (apply wc_false; rfl) | (apply a_dec_t; rfl; (· first | assumption | omega)) ))
      refine wc_block ?_
      (repeat (first | ((first | (apply wo_v; rfl) ); (· first | (apply pv_ev; rfl) | (apply g_load; first | (apply pv_ld; rfl; (· (repeat (first | apply sel_there))); rfl) | (apply pv_ld_ownf; rfl; (· (repeat (first | fail ))); (· assumption); rfl) | (apply pv_ld_own1; rfl; (· (repeat (first | apply sel_there))); (· assumption)) | (apply pv_ld_rof; rfl; (· (first | assumption )); (· assumption); rfl) | (apply pv_ld_ro1; rfl; (· (first | assumption )); (· assumption)) ) | (apply g_idx; first | (apply pv_idx; rfl; rfl; omega) ) )) | apply wo_nil | apply wc_seq | apply wc_region ))
      (refine wc_quiet mixed (by kernel_rfl) ?_; (repeat (first | ((first | (apply wo_v; rfl) | (apply hd_v; rfl) ); (· first | (apply pv_ev; rfl) | (apply g_pick; first | (apply pv_pick_t; rfl; rfl) | (apply pv_pick_f; rfl; rfl)) | (apply g_bin; first | (apply a_add; rfl; rfl; infer_instance; omega) ) )) | apply wo_nil | apply Hd.nil | apply wc_region | apply wc_skip | (apply wc_true; rfl) | (apply wc_false; rfl) | (apply Hd.run; rfl; rfl) | (apply Hd.skip; rfl; rfl; rfl; rfl) | (apply Hd.skipu; rfl; rfl; rfl) | (apply ah_gt; rfl; rfl; (· first | assumption | omega)) | (apply ah_gf; rfl; rfl; (· first | assumption | omega)) )))
      exact loop_end ⟨j + 1, r', rfl, by omega, hnx.symm, rfl⟩ (by omega) (wk_mk (by (repeat (first | apply wkf_nil | (apply wkf_cons; rfl))); done) (by (repeat (first | apply sub_nil )); done) (by first | exact fun _ h => h | (intro r hr; cases hr; done) | (simp; done) | exact fun _ h => List.mem_append_left _ h | (intro r hr; simp [hr]; done)))
    · rw [if_neg (by omega)] at hnx
      (repeat (first | ((first | (apply wo_v; rfl) ); (· first | (apply pv_ev; rfl) )) | apply wo_nil | apply wc_seq | apply wc_region | apply wc_skip | (apply wc_true; rfl) | (apply wc_false; rfl) | (apply a_dec_t; rfl; (· first | assumption | omega)) ))
      refine wc_block ?_
      (repeat (first | ((first | (apply wo_v; rfl) ); (· first | (apply pv_ev; rfl) | (apply g_load; first | (apply pv_ld; rfl; (· (repeat (first | apply sel_there))); rfl) | (apply pv_ld_ownf; rfl; (· (repeat (first | fail ))); (· assumption); rfl) | (apply pv_ld_own1; rfl; (· (repeat (first | apply sel_there))); (· assumption)) | (apply pv_ld_rof; rfl; (· (first | assumption )); (· assumption); rfl) | (apply pv_ld_ro1; rfl; (· (first | assumption )); (· assumption)) ) | (apply g_idx; first | (apply pv_idx; rfl; rfl; omega) ) )) | apply wo_nil | apply wc_seq | apply wc_region ))
      (refine wc_quiet mixed (by kernel_rfl) ?_; (repeat (first | ((first | (apply wo_v; rfl) | (apply hd_v; rfl) ); (· first | (apply pv_ev; rfl) | (apply pv_fld; rfl) | (apply g_load; first | (apply pv_ld; rfl; (· (repeat (first | apply sel_here | apply sel_there))); rfl) ) | (apply g_pick; first | (apply pv_pick_t; rfl; rfl) | (apply pv_pick_f; rfl; rfl)) | (apply g_bin; first | (apply a_add; rfl; rfl; infer_instance; omega) ) )) | apply wo_nil | apply Hd.nil | apply wc_region | apply wc_skip | (apply wc_true; rfl) | (apply wc_false; rfl) | (apply Hd.run; rfl; rfl) | (apply Hd.skip; rfl; rfl; rfl; rfl) | (apply Hd.skipu; rfl; rfl; rfl) | (apply ah_gt; rfl; rfl; (· first | assumption | omega)) | (apply ah_gf; rfl; rfl; (· first | assumption | omega)) )))
      exact loop_end ⟨j + 1, r', rfl, by omega, hnx.symm, rfl⟩ (by omega) (wk_mk (by (repeat (first | apply wkf_nil | (apply wkf_cons; rfl))); done) (by (repeat (first | apply sub_nil )); done) (by first | exact fun _ h => h | (intro r hr; cases hr; done) | (simp; done) | exact fun _ h => List.mem_append_left _ h | (intro r hr; simp [hr]; done)))
    · rw [if_pos (by omega)] at hnx
      (repeat (first | ((first | (apply wo_v; rfl) ); (· first | (apply pv_ev; rfl) )) | apply wo_nil | apply wc_seq | apply wc_region | apply wc_skip | (apply wc_true; rfl) | (apply wc_false; rfl) | (apply a_dec_t; rfl; (· first | assumption | omega)) ))
      refine wc_block ?_
      (repeat (first | ((first | (apply wo_v; rfl) ); (· first | (apply pv_ev; rfl) | (apply g_load; first | (apply pv_ld; rfl; (· (repeat (first | apply sel_there))); rfl) | (apply pv_ld_ownf; rfl; (· (repeat (first | fail ))); (· assumption); rfl) | (apply pv_ld_own1; rfl; (· (repeat (first | apply sel_there))); (· assumption)) | (apply pv_ld_rof; rfl; (· (first | assumption )); (· assumption); rfl) | (apply pv_ld_ro1; rfl; (· (first | assumption )); (· assumption)) ) | (apply g_idx; first | (apply pv_idx; rfl; rfl; omega) ) )) | apply wo_nil | apply wc_seq | apply wc_region ))
      (refine wc_quiet mixed (by kernel_rfl) ?_; (repeat (first | ((first | (apply wo_v; rfl) | (apply hd_v; rfl) ); (· first | (apply pv_ev; rfl) | (apply pv_fld; rfl) | (apply g_load; first | (apply pv_ld; rfl; (· (repeat (first | apply sel_here | apply sel_there))); rfl) ) | (apply g_pick; first | (apply pv_pick_t; rfl; rfl) ) | (apply g_bin; first | (apply a_add; rfl; rfl; infer_instance; omega) ) )) | apply wo_nil | apply Hd.nil | apply wc_region | (apply wc_true; rfl) | (apply wo_st; rfl; rfl; rfl; (· (repeat (first | apply sel_here ))); (· (repeat (first | apply SetAt.here | apply SetAt.there))); rfl) | (apply Hd.run; rfl; rfl) | (apply Hd.skip; rfl; rfl; rfl; rfl) | (apply Hd.skipu; rfl; rfl; rfl) | (apply ah_gt; rfl; rfl; (· first | assumption | omega)) )))
      exact loop_end ⟨j + 1, rt, rfl, by omega, hnx.symm, rfl⟩ (by omega) (wk_mk (by (repeat (first | apply wkf_nil | (apply wkf_cons; rfl))); done) (by (repeat (first | apply sub_nil )); done) (by first | exact fun _ h => h | (intro r hr; cases hr; done) | (simp; done) | exact fun _ h => List.mem_append_left _ h | (intro r hr; simp [hr]; done)))
    · rw [if_pos (by omega)] at hnx
      (repeat (first | ((first | (apply wo_v; rfl) ); (· first | (apply pv_ev; rfl) )) | apply wo_nil | apply wc_seq | apply wc_region | apply wc_skip | (apply wc_true; rfl) | (apply wc_false; rfl) | (apply a_dec_t; rfl; (· first | assumption | omega)) ))
      refine wc_block ?_
      (repeat (first | ((first | (apply wo_v; rfl) ); (· first | (apply pv_ev; rfl) | (apply g_load; first | (apply pv_ld; rfl; (· (repeat (first | apply sel_there))); rfl) | (apply pv_ld_ownf; rfl; (· (repeat (first | fail ))); (· assumption); rfl) | (apply pv_ld_own1; rfl; (· (repeat (first | apply sel_there))); (· assumption)) | (apply pv_ld_rof; rfl; (· (first | assumption )); (· assumption); rfl) | (apply pv_ld_ro1; rfl; (· (first | assumption )); (· assumption)) ) | (apply g_idx; first | (apply pv_idx; rfl; rfl; omega) ) )) | apply wo_nil | apply wc_seq | apply wc_region ))
      (refine wc_quiet mixed (by kernel_rfl) ?_; (repeat (first | ((first | (apply wo_v; rfl) | (apply hd_v; rfl) ); (· first | (apply pv_ev; rfl) | (apply pv_fld; rfl) | (apply g_load; first | (apply pv_ld; rfl; (· (repeat (first | apply sel_here | apply sel_there))); rfl) ) | (apply g_pick; first | (apply pv_pick_t; rfl; rfl) | (apply pv_pick_f; rfl; rfl)) | (apply g_bin; first | (apply a_add; rfl; rfl; infer_instance; omega) ) )) | apply wo_nil | apply Hd.nil | apply wc_region | (apply wc_true; rfl) | (apply wc_false; rfl) | (apply a_dec_t; rfl; (· first | assumption | omega)) | (apply wo_st; rfl; rfl; rfl; (· (repeat (first | apply sel_here ))); (· (repeat (first | apply SetAt.here | apply SetAt.there))); rfl) | (apply Hd.run; rfl; rfl) | (apply Hd.skip; rfl; rfl; rfl; rfl) | (apply Hd.skipu; rfl; rfl; rfl) | (apply ah_gt; rfl; rfl; (· first | assumption | omega)) | (apply ah_gf; rfl; rfl; (· first | assumption | omega)) )))
      exact loop_end ⟨j + 1, rt, rfl, by omega, hnx.symm, rfl⟩ (by omega) (wk_mk (by (repeat (first | apply wkf_nil | (apply wkf_cons; rfl))); done) (by (repeat (first | apply sub_nil )); done) (by first | exact fun _ h => h | (intro r hr; cases hr; done) | (simp; done) | exact fun _ h => List.mem_append_left _ h | (intro r hr; simp [hr]; done)))
    · rw [if_neg (by omega)] at hnx
      (repeat (first | ((first | (apply wo_v; rfl) ); (· first | (apply pv_ev; rfl) )) | apply wo_nil | apply wc_seq | apply wc_region | apply wc_skip | (apply wc_true; rfl) | (apply wc_false; rfl) | (apply a_dec_t; rfl; (· first | assumption | omega)) ))
      refine wc_block ?_
      (repeat (first | ((first | (apply wo_v; rfl) ); (· first | (apply pv_ev; rfl) | (apply g_load; first | (apply pv_ld; rfl; (· (repeat (first | apply sel_there))); rfl) | (apply pv_ld_ownf; rfl; (· (repeat (first | fail ))); (· assumption); rfl) | (apply pv_ld_own1; rfl; (· (repeat (first | apply sel_there))); (· assumption)) | (apply pv_ld_rof; rfl; (· (first | assumption )); (· assumption); rfl) | (apply pv_ld_ro1; rfl; (· (first | assumption )); (· assumption)) ) | (apply g_idx; first | (apply pv_idx; rfl; rfl; omega) ) )) | apply wo_nil | apply wc_seq | apply wc_region ))
      (refine wc_quiet mixed (by kernel_rfl) ?_; (repeat (first | ((first | (apply wo_v; rfl) | (apply hd_v; rfl) ); (· first | (apply pv_ev; rfl) | (apply pv_fld; rfl) | (apply g_load; first | (apply pv_ld; rfl; (· (repeat (first | apply sel_here | apply sel_there))); rfl) ) | (apply g_pick; first | (apply pv_pick_t; rfl; rfl) | (apply pv_pick_f; rfl; rfl)) | (apply g_bin; first | (apply a_add; rfl; rfl; infer_instance; omega) ) )) | apply wo_nil | apply Hd.nil | apply wc_region | apply wc_skip | (apply wc_true; rfl) | (apply wc_false; rfl) | (apply a_dec_t; rfl; (· first | assumption | omega)) | (apply a_dec_f; rfl; (· first | assumption | omega)) | (apply Hd.run; rfl; rfl) | (apply Hd.skip; rfl; rfl; rfl; rfl) | (apply Hd.skipu; rfl; rfl; rfl) | (apply ah_gt; rfl; rfl; (· first | assumption | omega)) | (apply ah_gf; rfl; rfl; (· first | assumption | omega)) )))
      exact loop_end ⟨j + 1, r', rfl, by omega, hnx.symm, rfl⟩ (by omega) (wk_mk (by (repeat (first | apply wkf_nil | (apply wkf_cons; rfl))); done) (by (repeat (first | apply sub_nil )); done) (by first | exact fun _ h => h | (intro r hr; cases hr; done) | (simp; done) | exact fun _ h => List.mem_append_left _ h | (intro r hr; simp [hr]; done)))
  · have e : j = l.length := by omega
    subst e
    rw [List.take_length] at hr'
    subst hr'
    (repeat (first | ((first | (apply wo_v; rfl) ); (· first | (apply pv_ev; rfl) )) | apply wo_nil | apply wc_seq | apply wc_region | (apply wc_exit; rfl) | (apply wc_true; rfl) | (apply wc_false; rfl) | (apply a_dec_t; rfl; (· first | assumption | omega)) | (apply a_dec_f; rfl; (· first | assumption | omega)) ))
    exact ret0 rfl ⟨rfl, rfl, rfl⟩ ((by (repeat (first | apply sub_nil )); done) : List.Perm _ ([_] ++ _)) (by first | exact fun _ h => h | (intro r hr; cases hr; done) | (simp; done) | exact fun _ h => List.mem_append_left _ h | (intro r hr; simp [hr]; done))
def rdA (s : Int) (l : List Pkt) : Ak := l.foldl (stepA s) ⟨[], false, 0, false⟩
theorem rdA_take {s : Int} {l : List Pkt} {j : Nat} {p : Pkt} (h : l[j]? = some p) : rdA s (l.take (j + 1)) = stepA s (rdA s (l.take j)) p := by
  unfold rdA
  rw [List.take_add_one, h, List.foldl_append]; rfl
theorem stepA_len {s : Int} {a : Ak} {p : Pkt} {m : Nat} (h : p.ok m) : (stepA s a p).sq.length ≤ a.sq.length + 17 * m := by
  cases p with
  | nack fm to ps =>
    show (if to = s then ({ a with sq := a.sq ++ seqL ps } : Ak) else a).sq.length ≤ _
    have h1 := seqL_len ps
    have h2 : ps.length ≤ m := h.2.2.2
    by_cases h3 : to = s
    · rw [if_pos h3]; show (a.sq ++ seqL ps).length ≤ _; rw [List.length_append]; omega
    · rw [if_neg h3]; omega
  | _ => exact Nat.le_add_right _ _
abbrev sO' (ao : Option Addr) (n c : Nat) (xs : List (List Value)) : It := .own 24 1 ao n c xs
def tblN (b5 : Nat) (ao : Option Addr) (c' : Nat) (sq : List Int) (ky : Bool) (rt : Int) (gn : Bool) (sl : List Int) : Nat → List (List It) → Value → List (List It) → Prop := fun k Ls v Ms => match k, Ls with
  | 1, _ => v = .slice ao sq.length c' ∧ Ms = [[aO b5 (.slice ao sq.length c') ky rt gn]]
  | 3, _ => ∃ ao2 c2, v = .slice ao2 sl.length c2 ∧ Ms = [[sO ao2 sl.length c2 sl]]
  | 4, [_, y] => ∃ ao2 c2, v = .slice ao2 (sq.length + sl.length) c2 ∧ Ms = [[.own 24 1 ao2 (sq.length + sl.length) c2 (c16 sq ++ c16 sl)], y]
  | 6, [[.own T2 sz ao2 n2 c2 xs], _] => v = undef ∧ Ms = [[.own T2 sz ao2 n2 c2 xs], [aO b5 (.slice ao2 n2 c2) ky rt gn]]
  | _, _ => False
abbrev RdI (s : Int) (b4 b5 : Nat) (A : Option Addr) (n c : Nat) (j : Nat) (a : Ak) (ao : Option Addr) (c' : Nat) (R : List Ro) : St :=
  ⟨[(0, .int .u32 s), (4, .pointer (some ⟨b4, 0, none⟩)), (5, .pointer (some ⟨b5, 0, none⟩)), (17, .slice A n c), (18, .int .i64 n), (19, .int .i64 j)], [aO b4 (.slice none 0 0) false 0 false, aO b5 (.slice ao a.sq.length c') a.ky a.rt a.gn, sO ao a.sq.length c' a.sq], R⟩
set_option maxHeartbeats 64000000 in
theorem pRead (s : Int) (l : List Pkt) (vs : List Value) (A : Option Addr) (n c : Nat) (R : List Ro) (hS : SQ R 1 A n c (one1 vs)) (hP : PksV R l vs) (hl : l.length ≤ 1000) (hok : ∀ p ∈ l, p.ok 1000) :
    Fn Try.prog 38 #[.int .u32 s, .slice A n c] [] R (fun v L' R' => ∃ ao c', v = .agg #[.slice ao (rdA s l).sq.length c', .bool (rdA s l).ky, .int .u64 (rdA s l).rt, .bool (rdA s l).gn] ∧ L' = [sO ao (rdA s l).sq.length c' (rdA s l).sq] ∧ R' = []) := by
  have hn : n = l.length := by rw [← hS.len, one1_len, hP.1]
  subst hn
  refine fn_intro Try.func38 rfl Try.ntmps38 rfl (fun E => ?_)
  (repeat (first | ((first | (apply wo_v; rfl) ); (· first | (apply pv_ev; rfl) | (apply g_bi; first | (apply pv_len_sl; rfl) ) )) | apply wo_nil | apply wc_seq | apply wc_region | (apply wo_alloc; rfl; intro bx) ))
  rename_i b4
  obtain ⟨b5, hb5⟩ : ∃ g, g = bx := ⟨_, rfl⟩
  subst hb5
  refine wc_own0 24 1 ?_
  refine wc_join0 (fun st => ∃ ao c', st = ⟨[(4, .pointer (some ⟨b4, 0, none⟩)), (5, .pointer (some ⟨b5, 0, none⟩))], [aO b4 (.slice none 0 0) false 0 false, aO b5 (.slice ao (rdA s l).sq.length c') (rdA s l).ky (rdA s l).rt (rdA s l).gn, sO ao (rdA s l).sq.length c' (rdA s l).sq], R⟩) ?_ ?_
  · refine wc_block ?_
    refine wc_loop' (fun q st => ∃ (j : Nat) (a : Ak) (ao : Option Addr) (c' : Nat), q = l.length - j ∧ j ≤ l.length ∧ a = rdA s (l.take j) ∧ a.sq.length ≤ 17000 * j ∧ st = RdI s b4 b5 A l.length c j a ao c' R) ⟨0, ⟨[], false, 0, false⟩, none, 0, rfl, Nat.zero_le _, rfl, Nat.le_refl _, rfl⟩ (wk_mk (by (repeat (first | apply wkf_nil | (apply wkf_cons; rfl))); done) (by (repeat (first | apply sub_nil | (apply sub_cons; (· (repeat (first | apply sel_here | apply sel_there)))))); done) (by first | exact fun _ h => h | (intro r hr; cases hr; done) | (simp; done) | exact fun _ h => List.mem_append_left _ h | (intro r hr; simp [hr]; done))) ?_
    rintro q st ⟨j, a, ao, c', rfl, hj, ha, hal, rfl⟩
    by_cases hlt : j < l.length
    · obtain ⟨p, hp⟩ : ∃ p, l[j]? = some p := ⟨_, List.getElem?_eq_getElem hlt⟩
      obtain ⟨v, hv, hpv⟩ := hP.2 j p hp
      have hr := one1_at hv
      have hpo := hok p (List.mem_of_getElem? hp)
      have hnx := rdA_take (s := s) hp
      rw [← ha] at hnx
      have hnl := stepA_len (s := s) (a := a) hpo
      obtain ⟨a0, o0, rfl, hmem⟩ := hS.pos (by omega)
      obtain ⟨sq, ky, rt, gn⟩ := a
      have fin : ∀ (a2 : Ak) (ao2 : Option Addr) (c2 : Nat), a2 = stepA s ⟨sq, ky, rt, gn⟩ p → ∀ st', Wk st' (RdI s b4 b5 (some ⟨a0, o0, none⟩) l.length c (j + 1) a2 ao2 c2 R) →
          ∃ m' st'', m' < l.length - j ∧ Wk st' st'' ∧ (∃ (j : Nat) (a : Ak) (ao : Option Addr) (c' : Nat), m' = l.length - j ∧ j ≤ l.length ∧ a = rdA s (l.take j) ∧ a.sq.length ≤ 17000 * j ∧ st'' = RdI s b4 b5 (some ⟨a0, o0, none⟩) l.length c j a ao c' R) := fun a2 ao2 c2 h2 st' hw =>
        loop_end ⟨j + 1, a2, ao2, c2, rfl, by omega, by rw [h2, hnx], by rw [h2]; dsimp only at hal hnl; omega, rfl⟩ (by omega) hw
      dsimp only at hal
      dsimp only [RdI]
      have key := fun (a2 : Ak) (ao2 : Option Addr) (c2 : Nat) (h : a2 = stepA s ⟨sq, ky, rt, gn⟩ p) => fin a2 ao2 c2 h
      dsimp only [RdI] at key
      clear fin
      cases p with
      | other kd ct bd =>
        obtain rfl := hpv
        (repeat (first | ((first | (apply wo_v; rfl) ); (· first | (apply pv_ev; rfl) | (apply g_load; first | (apply pv_ld; rfl; (· (repeat (first | apply sel_there))); rfl) | (apply pv_ld_ownf; rfl; (· (repeat (first | fail ))); (· assumption); rfl) | (apply pv_ld_own1; rfl; (· (repeat (first | apply sel_there))); (· assumption)) | (apply pv_ld_rof; rfl; (· (first | assumption )); (· assumption); rfl) | (apply pv_ld_ro1; rfl; (· (first | assumption )); (· assumption)) ) | (apply g_bin; first | (apply a_add; rfl; rfl; infer_instance; omega) ) | (apply g_idx; first | (apply pv_idx; rfl; rfl; omega) ) | (apply pv_tas; rfl; infer_instance) )) | apply wo_nil | apply wc_seq | apply wc_region | apply wc_block | apply wc_skip | (apply wc_true; rfl) | (apply wc_false; rfl) | (apply a_dec_t; rfl; (· first | assumption | omega)) ))
        exact key ⟨sq, ky, rt, gn⟩ ao c' rfl _ (wk_mk (by (repeat (first | apply wkf_nil | (apply wkf_cons; rfl))); done) (by (repeat (first | apply sub_nil )); done) (by first | exact fun _ h => h | (intro r hr; cases hr; done) | (simp; done) | exact fun _ h => List.mem_append_left _ h | (intro r hr; simp [hr]; done)))
      | sender s1 s2 s3 s4 s5 bl =>
        obtain ⟨A1, n1, c1, rfl, hS1⟩ := hpv
        (repeat (first | ((first | (apply wo_v; rfl) ); (· first | (apply pv_ev; rfl) | (apply g_load; first | (apply pv_ld; rfl; (· (repeat (first | apply sel_there))); rfl) | (apply pv_ld_ownf; rfl; (· (repeat (first | fail ))); (· assumption); rfl) | (apply pv_ld_own1; rfl; (· (repeat (first | apply sel_there))); (· assumption)) | (apply pv_ld_rof; rfl; (· (first | assumption )); (· assumption); rfl) | (apply pv_ld_ro1; rfl; (· (first | assumption )); (· assumption)) ) | (apply g_bin; first | (apply a_add; rfl; rfl; infer_instance; omega) ) | (apply g_idx; first | (apply pv_idx; rfl; rfl; omega) ) | (apply pv_tas; rfl; infer_instance) )) | apply wo_nil | apply wc_seq | apply wc_region | apply wc_block | apply wc_skip | (apply wc_true; rfl) | (apply wc_false; rfl) | (apply a_dec_t; rfl; (· first | assumption | omega)) ))
        exact key ⟨sq, ky, rt, gn⟩ ao c' rfl _ (wk_mk (by (repeat (first | apply wkf_nil | (apply wkf_cons; rfl))); done) (by (repeat (first | apply sub_nil )); done) (by first | exact fun _ h => h | (intro r hr; cases hr; done) | (simp; done) | exact fun _ h => List.mem_append_left _ h | (intro r hr; simp [hr]; done)))
      | receiver s1 bl =>
        obtain ⟨A1, n1, c1, rfl, hS1⟩ := hpv
        (repeat (first | ((first | (apply wo_v; rfl) ); (· first | (apply pv_ev; rfl) | (apply g_load; first | (apply pv_ld; rfl; (· (repeat (first | apply sel_there))); rfl) | (apply pv_ld_ownf; rfl; (· (repeat (first | fail ))); (· assumption); rfl) | (apply pv_ld_own1; rfl; (· (repeat (first | apply sel_there))); (· assumption)) | (apply pv_ld_rof; rfl; (· (first | assumption )); (· assumption); rfl) | (apply pv_ld_ro1; rfl; (· (first | assumption )); (· assumption)) ) | (apply g_bin; first | (apply a_add; rfl; rfl; infer_instance; omega) ) | (apply g_idx; first | (apply pv_idx; rfl; rfl; omega) ) | (apply pv_tas; rfl; infer_instance) )) | apply wo_nil | apply wc_seq | apply wc_region | apply wc_block | apply wc_skip | (apply wc_true; rfl) | (apply wc_false; rfl) | (apply a_dec_t; rfl; (· first | assumption | omega)) ))
        exact key ⟨sq, ky, rt, gn⟩ ao c' rfl _ (wk_mk (by (repeat (first | apply wkf_nil | (apply wkf_cons; rfl))); done) (by (repeat (first | apply sub_nil )); done) (by first | exact fun _ h => h | (intro r hr; cases hr; done) | (simp; done) | exact fun _ h => List.mem_append_left _ h | (intro r hr; simp [hr]; done)))
      | sdes ch =>
        obtain ⟨A1, n1, c1, rows, rfl, hS1, hS2⟩ := hpv
        (repeat (first | ((first | (apply wo_v; rfl) ); (· first | (apply pv_ev; rfl) | (apply g_load; first | (apply pv_ld; rfl; (· (repeat (first | apply sel_there))); rfl) | (apply pv_ld_ownf; rfl; (· (repeat (first | fail ))); (· assumption); rfl) | (apply pv_ld_own1; rfl; (· (repeat (first | apply sel_there))); (· assumption)) | (apply pv_ld_rof; rfl; (· (first | assumption )); (· assumption); rfl) | (apply pv_ld_ro1; rfl; (· (first | assumption )); (· assumption)) ) | (apply g_bin; first | (apply a_add; rfl; rfl; infer_instance; omega) ) | (apply g_idx; first | (apply pv_idx; rfl; rfl; omega) ) | (apply pv_tas; rfl; infer_instance) )) | apply wo_nil | apply wc_seq | apply wc_region | apply wc_block | apply wc_skip | (apply wc_true; rfl) | (apply wc_false; rfl) | (apply a_dec_t; rfl; (· first | assumption | omega)) ))
        exact key ⟨sq, ky, rt, gn⟩ ao c' rfl _ (wk_mk (by (repeat (first | apply wkf_nil | (apply wkf_cons; rfl))); done) (by (repeat (first | apply sub_nil )); done) (by first | exact fun _ h => h | (intro r hr; cases hr; done) | (simp; done) | exact fun _ h => List.mem_append_left _ h | (intro r hr; simp [hr]; done)))
      | pli f0 to =>
        obtain rfl := hpv
        cases ky with
        | true =>
          (repeat (first | ((first | (apply wo_v; rfl) ); (· first | (apply pv_ev; rfl) | (apply pv_fld; rfl) | (apply g_load; first | (apply pv_ld; rfl; (· (repeat (first | apply sel_here | apply sel_there))); rfl) | (apply pv_ld_ownf; rfl; (· (repeat (first | fail ))); (· assumption); rfl) | (apply pv_ld_own1; rfl; (· (repeat (first | apply sel_there))); (· assumption)) | (apply pv_ld_rof; rfl; (· (first | assumption )); (· assumption); rfl) | (apply pv_ld_ro1; rfl; (· (first | assumption )); (· assumption)) ) | (apply g_pick; first | (apply pv_pick_t; rfl; rfl) ) | (apply g_bin; first | (apply a_add; rfl; rfl; infer_instance; omega) ) | (apply g_idx; first | (apply pv_idx; rfl; rfl; omega) ) | (apply pv_tas; rfl; infer_instance) )) | apply wo_nil | apply wc_seq | apply wc_region | apply wc_block | apply wc_skip | (apply wc_true; rfl) | (apply wc_false; rfl) | (apply a_dec_t; rfl; (· first | assumption | omega)) | (apply wo_run; rfl; rfl) | (apply wo_skip; rfl; rfl; rfl; rfl) | (apply wo_st; rfl; rfl; rfl; (· (repeat (first | apply sel_here | apply sel_there))); (· (repeat (first | apply SetAt.here | apply SetAt.there))); rfl) | (apply wo_alloc; rfl; intro bx) | (apply wo_sta; rfl; rfl; rfl; rfl; (· (repeat (first | apply sel_here ))); (· (repeat (first | apply LayAt.nil | apply LayAt.here ))); rfl) ))
          exact key ⟨sq, true, rt, gn⟩ ao c' rfl _ (wk_mk (by (repeat (first | apply wkf_nil | (apply wkf_cons; rfl))); done) (by (repeat (first | apply sub_nil | (apply sub_cons; (· (repeat (first | apply sel_here | apply sel_there)))))); done) (by first | exact fun _ h => h | (intro r hr; cases hr; done) | (simp; done) | exact fun _ h => List.mem_append_left _ h | (intro r hr; simp [hr]; done)))
        | false =>
          (repeat (first | ((first | (apply wo_v; rfl) ); (· first | (apply pv_ev; rfl) | (apply pv_fld; rfl) | (apply g_load; first | (apply pv_ld; rfl; (· (repeat (first | apply sel_here | apply sel_there))); rfl) | (apply pv_ld_ownf; rfl; (· (repeat (first | fail ))); (· assumption); rfl) | (apply pv_ld_own1; rfl; (· (repeat (first | apply sel_there))); (· assumption)) | (apply pv_ld_rof; rfl; (· (first | assumption )); (· assumption); rfl) | (apply pv_ld_ro1; rfl; (· (first | assumption )); (· assumption)) ) | (apply g_pick; first | (apply pv_pick_t; rfl; rfl) | (apply pv_pick_f; rfl; rfl)) | (apply g_bin; first | (apply a_add; rfl; rfl; infer_instance; omega) ) | (apply g_idx; first | (apply pv_idx; rfl; rfl; omega) ) | (apply pv_tas; rfl; infer_instance) )) | apply wo_nil | apply wc_seq | apply wc_region | apply wc_block | apply wc_skip | (apply wc_true; rfl) | (apply wc_false; rfl) | (apply a_dec_t; rfl; (· first | assumption | omega)) | (apply wo_run; rfl; rfl) | (apply wo_st; rfl; rfl; rfl; (· (repeat (first | apply sel_here | apply sel_there))); (· (repeat (first | apply SetAt.here | apply SetAt.there))); rfl) | (apply wo_alloc; rfl; intro bx) | (apply wo_sta; rfl; rfl; rfl; rfl; (· (repeat (first | apply sel_here ))); (· (repeat (first | apply LayAt.nil | apply LayAt.here ))); rfl) ))
          exact key ⟨sq, decide (to = s), rt, gn⟩ ao c' rfl _ (wk_mk (by (repeat (first | apply wkf_nil | (apply wkf_cons; rfl))); done) (by (repeat (first | apply sub_nil | (apply sub_cons; (· (repeat (first | apply sel_here | apply sel_there)))))); done) (by first | exact fun _ h => h | (intro r hr; cases hr; done) | (simp; done) | exact fun _ h => List.mem_append_left _ h | (intro r hr; simp [hr]; done)))
      | remb f0 r1 ss =>
        obtain ⟨A1, n1, c1, rfl, hS1⟩ := hpv
        have hq := pRate b5 (.slice ao sq.length c') rfl ky rt gn s f0 r1 ss A1 n1 c1 R hS1 (by have := hpo.2.2.2; omega) hpo.2.1.1
        (repeat (first | ((first | (apply wo_v; rfl) ); (· first | (apply pv_ev; rfl) | (apply g_load; first | (apply pv_ld; rfl; (· (repeat (first | apply sel_there))); rfl) | (apply pv_lda; rfl; (· (repeat (first | apply sel_here ))); (· (repeat (first | apply Cut.here0 | apply Cut.here )))) | (apply pv_ld_ownf; rfl; (· (repeat (first | fail ))); (· assumption); rfl) | (apply pv_ld_own1; rfl; (· (repeat (first | apply sel_there))); (· assumption)) | (apply pv_ld_rof; rfl; (· (first | assumption )); (· assumption); rfl) | (apply pv_ld_ro1; rfl; (· (first | assumption )); (· assumption)) ) | (apply g_idx; first | (apply pv_idx; rfl; rfl; omega) ) | (apply pv_tas; rfl; infer_instance) )) | apply wo_nil | apply wc_seq | apply wc_region | apply wc_block | apply wc_skip | (apply wc_true; rfl) | (apply wc_false; rfl) | (apply a_dec_t; rfl; (· first | assumption | omega)) | (apply wo_alloc; rfl; intro bx) | (apply wo_sta; rfl; rfl; rfl; rfl; (· (repeat (first | apply sel_here ))); (· (repeat (first | apply LayAt.nil | apply LayAt.here ))); rfl) ))
        (refine wo_call (hq) rfl (by (repeat (first | apply sub_nil | (apply sub_cons; (· (repeat (first | apply sel_here | apply sel_there)))))); done) (by first | exact fun _ h => h | (intro r hr; cases hr; done) | (simp; done) | exact fun _ h => List.mem_append_left _ h | (intro r hr; simp [hr]; done)) rfl ?_; rintro v L' R' ⟨rfl, rfl, rfl⟩ H' hH RR hR; simp only [List.cons_append, List.nil_append] at hH hR; subst hH; have hR := hR.symm; subst hR)
        (repeat (first | ((first | (apply wo_v; rfl) ); (· first | (apply pv_ev; rfl) | (apply g_bin; first | (apply a_add; rfl; rfl; infer_instance; omega) ) )) | apply wo_nil | apply wc_region ))
        exact key ⟨sq, ky, rtM s r1 ss rt, gn⟩ ao c' rfl _ (wk_mk (by (repeat (first | apply wkf_nil | (apply wkf_cons; rfl))); done) (by (repeat (first | apply sub_nil | (apply sub_cons; (· (repeat (first | apply sel_here | apply sel_there)))))); done) (by first | exact fun _ h => h | (intro r hr; cases hr; done) | (simp; done) | exact fun _ h => List.mem_append_left _ h | (intro r hr; simp [hr]; done)))
      | nack f0 to ps =>
        obtain ⟨A1, n1, c1, rfl, hS1⟩ := hpv
        by_cases hto : to = s
        · have hq := nSeqs f0 to ps A1 n1 c1 R hS1 (by have := hpo.2.2.2; omega) hpo.2.2.1
          have hsl := seqL_len ps
          have hpl : ps.length ≤ 1000 := hpo.2.2.2
          have hstep : stepA s ⟨sq, ky, rt, gn⟩ (.nack f0 to ps) = ⟨sq ++ seqL ps, ky, rt, gn⟩ := by unfold stepA; simp only; rw [if_pos hto]
          (repeat (first | ((first | (apply wo_v; rfl) ); (· first | (apply pv_ev; rfl) | (apply pv_fld; rfl) | (apply g_load; first | (apply pv_ld; rfl; (· (repeat (first | apply sel_here | apply sel_there))); rfl) | (apply pv_ld_ownf; rfl; (· (repeat (first | fail ))); (· assumption); rfl) | (apply pv_ld_own1; rfl; (· (repeat (first | apply sel_there))); (· assumption)) | (apply pv_ld_rof; rfl; (· (first | assumption )); (· assumption); rfl) | (apply pv_ld_ro1; rfl; (· (first | assumption )); (· assumption)) ) | (apply g_idx; first | (apply pv_idx; rfl; rfl; omega) ) | (apply pv_tas; rfl; infer_instance) )) | apply wo_nil | apply wc_seq | apply wc_region | apply wc_block | apply wc_skip | (apply wc_true; rfl) | (apply wc_false; rfl) | (apply a_dec_t; rfl; (· first | assumption | omega)) | (apply wo_alloc; rfl; intro bx) | (apply wo_sta; rfl; rfl; rfl; rfl; (· (repeat (first | apply sel_here ))); (· (repeat (first | apply LayAt.nil | apply LayAt.here ))); rfl) ))
          generalize hsq : seqL ps = sl at hq hsl hstep
          (refine wc_regM [0, 1, 2] (aslL [(1, [0]), (3, [2]), (4, [1, 2]), (6, [1, 0])]) (tblN b5 ao c' sq ky rt gn sl) ([nkO bx f0 to (.slice A1 n1 c1), aO b4 (.slice none 0 0) false 0 false]) (fm [(0, [aO b5 (.slice ao sq.length c') ky rt gn]), (1, [sO ao sq.length c' sq]), (2, [])]) mixed (by kernel_rfl) (by kernel_rfl) (by decide) (aslL_ok (by decide)) (by (repeat (first | (apply prm_cons; (· (repeat (first | apply sel_here )))) | apply List.Perm.nil )); done) ?_; (repeat (first | (apply HdM.val; rfl; rfl; (· first | apply gok_none ); (· first | (apply pv_ev; rfl) | (apply pv_fld; rfl) )) )))
          (refine hm_eff (cs := [0]) rfl (by decide) rfl rfl (by first | exact gok_none | exact gok_run rfl rfl) (fun a ha => outc_mono (outc_ld (L := [aO b5 (.slice ao sq.length c') ky rt gn]) (pv_ld rfl (by (repeat (first | apply sel_here )); done) rfl) a ha) (fun v M h => ⟨[M], And.intro h.1 (congrArg (fun x => [x]) h.2), rfl, by simp⟩)) (⟨_, _, And.intro rfl rfl, rfl⟩) ?_; rintro v Ms ⟨rfl, rfl⟩ _; simp only [setls, setl, reduceIte, Nat.reduceEqDiff]; (repeat (first | (apply HdM.val; rfl; rfl; (· first | apply gok_none ); (· first | (apply pv_ev; rfl) | (apply g_load; first | (apply pv_lda; rfl; (· (repeat (first | apply sel_here ))); (· (repeat (first | apply Cut.here0 | apply Cut.here )))) ) )) )))
          (refine hm_eff (cs := [2]) rfl (by decide) rfl rfl (by first | exact gok_none | exact gok_run rfl rfl) (fun a ha => outc_mono (outc_call (F1 := _) (T := fun v M => ∃ ao2 c2, v = .slice ao2 sl.length c2 ∧ M = [sO ao2 sl.length c2 sl]) hq rfl (by (repeat (first | apply sub_nil )); done) (by first | exact fun _ h => h | (intro r hr; cases hr; done) | (simp; done) | exact fun _ h => List.mem_append_left _ h | (intro r hr; simp [hr]; done)) (by rintro v L' R' ⟨ao2, c2, rfl, rfl, _⟩; exact ⟨_, ⟨ao2, c2, rfl, rfl⟩, (by (repeat (first | (apply prm_cons; (· (repeat (first | apply sel_here )))) | apply List.Perm.nil )); done)⟩) a ha) (fun v M h => by obtain ⟨ao2, c2, h1, h2⟩ := h; exact ⟨[M], ⟨ao2, c2, h1, congrArg (fun x => [x]) h2⟩, rfl, by simp⟩)) (⟨_, _, ⟨none, 0, rfl, rfl⟩, rfl⟩) ?_; rintro v Ms ⟨ao2, c2, rfl, rfl⟩ _; simp only [setls, setl, reduceIte, Nat.reduceEqDiff]; (repeat (first | (apply HdM.val; rfl; rfl; (· first | fail ); (· first | fail )) )))
          (refine hm_eff (cs := [1, 2]) rfl (by decide) rfl rfl (by first | exact gok_none | exact gok_run rfl rfl) (fun a ha => outc_mono (outc_app_g rfl rfl (by unfold maxLen; omega) (by omega) a ha) (fun v M h => by obtain ⟨b, c, h1, h2⟩ := h; exact ⟨[[_], [_]], ⟨b, c, h1, rfl⟩, rfl, h2⟩)) (⟨_, _, ⟨none, 0, rfl, rfl⟩, rfl⟩) ?_; rintro v Ms ⟨ao3, c3, rfl, rfl⟩ _; simp only [setls, setl, reduceIte, Nat.reduceEqDiff]; (repeat (first | (apply HdM.val; rfl; rfl; (· first | apply gok_none ); (· first | (apply pv_ev; rfl) | (apply pv_fld; rfl) )) )))
          (refine hm_eff (cs := [1, 0]) rfl (by decide) rfl rfl (by first | exact gok_none | exact gok_run rfl rfl) (fun a ha => outc_mono (outc_frA (X := [sO' ao3 (sq.length + sl.length) c3 (c16 sq ++ c16 sl)]) (L := [aO b5 (.slice ao sq.length c') ky rt gn]) (outc_st rfl rfl rfl (by (repeat (first | apply SetAt.here )); done)) a ha) (fun v M h => by obtain ⟨M0, ⟨h1, h2⟩, h3⟩ := h; exact ⟨[[_], [_]], ⟨h1, rfl⟩, rfl, by rw [h3, h2]; rfl⟩)) (⟨_, _, ⟨rfl, rfl⟩, rfl⟩) ?_; rintro v Ms ⟨rfl, rfl⟩ _; simp only [setls, setl, reduceIte, Nat.reduceEqDiff]; (repeat (first | fail )))
          (refine HdM.nil ?_; intro H hH; simp only [Hp, fm, look, setl, List.flatMap_cons, List.flatMap_nil, reduceIte, Nat.reduceEqDiff, Option.getD_some, List.append_nil, List.cons_append, List.nil_append] at hH; subst hH)
          (repeat (first | ((first | (apply wo_v; rfl) ); (· first | (apply pv_ev; rfl) | (apply g_bin; first | (apply a_add; rfl; rfl; infer_instance; omega) ) )) | apply wo_nil | apply wc_region ))
          have e2 : c16 sq ++ c16 sl = c16 (sq ++ sl) := (c16_app sq sl).symm
          have e3 : sq.length + sl.length = (sq ++ sl).length := (List.length_append).symm
          rw [e2, e3]
          exact key ⟨sq ++ sl, ky, rt, gn⟩ ao3 c3 hstep.symm _ (wk_mk (by (repeat (first | apply wkf_nil | (apply wkf_cons; rfl))); done) (by (repeat (first | apply sub_nil | (apply sub_cons; (· (repeat (first | apply sel_here | apply sel_there)))))); done) (by first | exact fun _ h => h | (intro r hr; cases hr; done) | (simp; done) | exact fun _ h => List.mem_append_left _ h | (intro r hr; simp [hr]; done)))
        · have hstep : stepA s ⟨sq, ky, rt, gn⟩ (.nack f0 to ps) = ⟨sq, ky, rt, gn⟩ := by unfold stepA; simp only; rw [if_neg hto]
          (repeat (first | ((first | (apply wo_v; rfl) ); (· first | (apply pv_ev; rfl) | (apply pv_fld; rfl) | (apply g_load; first | (apply pv_ld; rfl; (· (repeat (first | apply sel_here | apply sel_there))); rfl) | (apply pv_ld_ownf; rfl; (· (repeat (first | fail ))); (· assumption); rfl) | (apply pv_ld_own1; rfl; (· (repeat (first | apply sel_there))); (· assumption)) | (apply pv_ld_rof; rfl; (· (first | assumption )); (· assumption); rfl) | (apply pv_ld_ro1; rfl; (· (first | assumption )); (· assumption)) ) | (apply g_bin; first | (apply a_add; rfl; rfl; infer_instance; omega) ) | (apply g_idx; first | (apply pv_idx; rfl; rfl; omega) ) | (apply pv_tas; rfl; infer_instance) )) | apply wo_nil | apply wc_seq | apply wc_region | apply wc_block | apply wc_skip | (apply wc_true; rfl) | (apply wc_false; rfl) | (apply a_dec_t; rfl; (· first | assumption | omega)) | (apply a_dec_f; rfl; (· first | assumption | omega)) | (apply wo_alloc; rfl; intro bx) | (apply wo_sta; rfl; rfl; rfl; rfl; (· (repeat (first | apply sel_here ))); (· (repeat (first | apply LayAt.nil | apply LayAt.here ))); rfl) ))
          exact key ⟨sq, ky, rt, gn⟩ ao c' hstep.symm _ (wk_mk (by (repeat (first | apply wkf_nil | (apply wkf_cons; rfl))); done) (by (repeat (first | apply sub_nil | (apply sub_cons; (· (repeat (first | apply sel_here | apply sel_there)))))); done) (by first | exact fun _ h => h | (intro r hr; cases hr; done) | (simp; done) | exact fun _ h => List.mem_append_left _ h | (intro r hr; simp [hr]; done)))
      | fir f0 os =>
        obtain ⟨A1, n1, c1, rfl, hS1⟩ := hpv
        have hn1 : n1 = os.length := by rw [← hS1.len, ordV_len]
        subst hn1
        have hpl : os.length ≤ 1000 := hpo.2.2
        (repeat (first | ((first | (apply wo_v; rfl) ); (· first | (apply pv_ev; rfl) | (apply pv_fld; rfl) | (apply g_load; first | (apply pv_ld; rfl; (· (repeat (first | apply sel_here | apply sel_there))); rfl) | (apply pv_ld_ownf; rfl; (· (repeat (first | fail ))); (· assumption); rfl) | (apply pv_ld_own1; rfl; (· (repeat (first | apply sel_there))); (· assumption)) | (apply pv_ld_rof; rfl; (· (first | assumption )); (· assumption); rfl) | (apply pv_ld_ro1; rfl; (· (first | assumption )); (· assumption)) ) | (apply g_bi; first | (apply pv_len_sl; rfl) ) | (apply g_idx; first | (apply pv_idx; rfl; rfl; omega) ) | (apply pv_tas; rfl; infer_instance) )) | apply wo_nil | apply wc_seq | apply wc_region | apply wc_block | apply wc_skip | (apply wc_true; rfl) | (apply wc_false; rfl) | (apply a_dec_t; rfl; (· first | assumption | omega)) | (apply wo_alloc; rfl; intro bx) | (apply wo_sta; rfl; rfl; rfl; rfl; (· (repeat (first | apply sel_here ))); (· (repeat (first | apply LayAt.nil | apply LayAt.here ))); rfl) ))
        refine wc_loop' (fun q st => ∃ (j2 : Nat) (k2 : Bool), q = os.length - j2 ∧ j2 ≤ os.length ∧ k2 = (ky || (os.take j2).any fun o => decide (o.1 = s)) ∧ st = ⟨[(0, .int .u32 s), (4, .pointer (some ⟨b4, 0, none⟩)), (5, .pointer (some ⟨b5, 0, none⟩)), (17, .slice (some ⟨a0, o0, none⟩) l.length c), (18, .int .i64 l.length), (19, .int .i64 j), (53, .slice A1 os.length c1), (54, .int .i64 os.length), (55, .int .i64 j2)], [aO b4 (.slice none 0 0) false 0 false, aO b5 (.slice ao sq.length c') k2 rt gn, sO ao sq.length c' sq], R⟩) ⟨0, ky, rfl, Nat.zero_le _, by simp, rfl⟩ (wk_mk (by (repeat (first | apply wkf_nil | (apply wkf_cons; rfl))); done) (by (repeat (first | apply sub_nil | (apply sub_cons; (· (repeat (first | apply sel_here | apply sel_there)))))); done) (by first | exact fun _ h => h | (intro r hr; cases hr; done) | (simp; done) | exact fun _ h => List.mem_append_left _ h | (intro r hr; simp [hr]; done))) ?_
        rintro q st ⟨j2, k2, rfl, hj2, hk2, rfl⟩
        by_cases hlt2 : j2 < os.length
        · obtain ⟨o, ho⟩ : ∃ o, os[j2]? = some o := ⟨_, List.getElem?_eq_getElem hlt2⟩
          have hr2 := ordV_at ho
          have hk3 := any_take (f := fun o => decide (o.1 = s)) ho
          obtain ⟨a1, o1, rfl, hmem1⟩ := hS1.pos (by omega)
          cases k2 with
          | true =>
            (repeat (first | ((first | (apply wo_v; rfl) ); (· first | (apply pv_ev; rfl) | (apply pv_fld; rfl) | (apply g_load; first | (apply pv_ld; rfl; (· (repeat (first | apply sel_here | apply sel_there))); rfl) | (apply pv_lda; rfl; (· (repeat (first | apply sel_there))); (· (repeat (first | fail )))) | (apply pv_ld_owna; rfl; (· (repeat (first | apply sel_there))); (· assumption)) | (apply pv_ld_roa; rfl; (· (first | assumption )); (· assumption))) | (apply g_pick; first | (apply pv_pick_t; rfl; rfl) ) | (apply g_bin; first | (apply a_add; rfl; rfl; infer_instance; omega) ) | (apply g_idx; first | (apply pv_idx; rfl; rfl; omega) ) )) | apply wo_nil | apply wc_seq | apply wc_region | apply wc_block | apply wc_skip | (apply wc_true; rfl) | (apply wc_false; rfl) | (apply a_dec_t; rfl; (· first | assumption | omega)) | (apply wo_run; rfl; rfl) | (apply wo_skip; rfl; rfl; rfl; rfl) | (apply wo_st; rfl; rfl; rfl; (· (repeat (first | apply sel_here | apply sel_there))); (· (repeat (first | apply SetAt.here | apply SetAt.there))); rfl) | (apply wo_alloc; rfl; intro bx) | (apply wo_sta; rfl; rfl; rfl; rfl; (· (repeat (first | apply sel_here ))); (· (repeat (first | apply LayAt.nil | apply LayAt.here ))); rfl) ))
            exact loop_end ⟨j2 + 1, true, rfl, by omega, by rw [hk3, ← Bool.or_assoc, ← hk2]; rfl, rfl⟩ (by omega) (wk_mk (by (repeat (first | apply wkf_nil | (apply wkf_cons; rfl))); done) (by (repeat (first | apply sub_nil | (apply sub_cons; (· (repeat (first | apply sel_here | apply sel_there)))))); done) (by first | exact fun _ h => h | (intro r hr; cases hr; done) | (simp; done) | exact fun _ h => List.mem_append_left _ h | (intro r hr; simp [hr]; done)))
          | false =>
            (repeat (first | ((first | (apply wo_v; rfl) ); (· first | (apply pv_ev; rfl) | (apply pv_fld; rfl) | (apply g_load; first | (apply pv_ld; rfl; (· (repeat (first | apply sel_here | apply sel_there))); rfl) | (apply pv_lda; rfl; (· (repeat (first | apply sel_there))); (· (repeat (first | fail )))) | (apply pv_ld_owna; rfl; (· (repeat (first | apply sel_there))); (· assumption)) | (apply pv_ld_roa; rfl; (· (first | assumption )); (· assumption))) | (apply g_pick; first | (apply pv_pick_t; rfl; rfl) | (apply pv_pick_f; rfl; rfl)) | (apply g_bin; first | (apply a_add; rfl; rfl; infer_instance; omega) ) | (apply g_idx; first | (apply pv_idx; rfl; rfl; omega) ) )) | apply wo_nil | apply wc_seq | apply wc_region | apply wc_block | apply wc_skip | (apply wc_true; rfl) | (apply wc_false; rfl) | (apply a_dec_t; rfl; (· first | assumption | omega)) | (apply wo_run; rfl; rfl) | (apply wo_st; rfl; rfl; rfl; (· (repeat (first | apply sel_here | apply sel_there))); (· (repeat (first | apply SetAt.here | apply SetAt.there))); rfl) | (apply wo_alloc; rfl; intro bx) | (apply wo_sta; rfl; rfl; rfl; rfl; (· (repeat (first | apply sel_here ))); (· (repeat (first | apply LayAt.nil | apply LayAt.here ))); rfl) ))
            exact loop_end ⟨j2 + 1, decide (o.1 = s), rfl, by omega, by rw [hk3, ← Bool.or_assoc, ← hk2]; rfl, rfl⟩ (by omega) (wk_mk (by (repeat (first | apply wkf_nil | (apply wkf_cons; rfl))); done) (by (repeat (first | apply sub_nil | (apply sub_cons; (· (repeat (first | apply sel_here | apply sel_there)))))); done) (by first | exact fun _ h => h | (intro r hr; cases hr; done) | (simp; done) | exact fun _ h => List.mem_append_left _ h | (intro r hr; simp [hr]; done)))
        · have e : j2 = os.length := by omega
          subst e
          rw [List.take_length] at hk2
          (repeat (first | ((first | (apply wo_v; rfl) ); (· first | (apply pv_ev; rfl) | (apply g_bin; first | (apply a_add; rfl; rfl; infer_instance; omega) ) )) | apply wo_nil | apply wc_seq | apply wc_region | (apply wc_exit; rfl) | (apply wc_true; rfl) | (apply wc_false; rfl) | (apply a_dec_t; rfl; (· first | assumption | omega)) | (apply a_dec_f; rfl; (· first | assumption | omega)) ))
          exact key ⟨sq, k2, rt, gn⟩ ao c' (by rw [hk2]; rfl) _ (wk_mk (by (repeat (first | apply wkf_nil | (apply wkf_cons; rfl))); done) (by (repeat (first | apply sub_nil )); done) (by first | exact fun _ h => h | (intro r hr; cases hr; done) | (simp; done) | exact fun _ h => List.mem_append_left _ h | (intro r hr; simp [hr]; done)))
      | bye ss rs =>
        obtain ⟨A1, n1, c1, rfl, hS1⟩ := hpv
        have hn1 : n1 = ss.length := by rw [← hS1.len, c32_len]
        subst hn1
        have hpl : ss.length ≤ 1000 := hpo.2.1
        (repeat (first | ((first | (apply wo_v; rfl) ); (· first | (apply pv_ev; rfl) | (apply pv_fld; rfl) | (apply g_load; first | (apply pv_ld; rfl; (· (repeat (first | apply sel_here | apply sel_there))); rfl) | (apply pv_ld_ownf; rfl; (· (repeat (first | fail ))); (· assumption); rfl) | (apply pv_ld_own1; rfl; (· (repeat (first | apply sel_there))); (· assumption)) | (apply pv_ld_rof; rfl; (· (first | assumption )); (· assumption); rfl) | (apply pv_ld_ro1; rfl; (· (first | assumption )); (· assumption)) ) | (apply g_bi; first | (apply pv_len_sl; rfl) ) | (apply g_idx; first | (apply pv_idx; rfl; rfl; omega) ) | (apply pv_tas; rfl; infer_instance) )) | apply wo_nil | apply wc_seq | apply wc_region | apply wc_block | apply wc_skip | (apply wc_true; rfl) | (apply wc_false; rfl) | (apply a_dec_t; rfl; (· first | assumption | omega)) | (apply wo_alloc; rfl; intro bx) | (apply wo_sta; rfl; rfl; rfl; rfl; (· (repeat (first | apply sel_here ))); (· (repeat (first | apply LayAt.nil | apply LayAt.here ))); rfl) ))
        refine wc_loop' (fun q st => ∃ (j2 : Nat) (k2 : Bool), q = ss.length - j2 ∧ j2 ≤ ss.length ∧ k2 = (gn || (ss.take j2).any fun o => decide (o = s)) ∧ st = ⟨[(0, .int .u32 s), (4, .pointer (some ⟨b4, 0, none⟩)), (5, .pointer (some ⟨b5, 0, none⟩)), (17, .slice (some ⟨a0, o0, none⟩) l.length c), (18, .int .i64 l.length), (19, .int .i64 j), (79, .slice A1 ss.length c1), (80, .int .i64 ss.length), (81, .int .i64 j2)], [aO b4 (.slice none 0 0) false 0 false, aO b5 (.slice ao sq.length c') ky rt k2, sO ao sq.length c' sq], R⟩) ⟨0, gn, rfl, Nat.zero_le _, by simp, rfl⟩ (wk_mk (by (repeat (first | apply wkf_nil | (apply wkf_cons; rfl))); done) (by (repeat (first | apply sub_nil | (apply sub_cons; (· (repeat (first | apply sel_here | apply sel_there)))))); done) (by first | exact fun _ h => h | (intro r hr; cases hr; done) | (simp; done) | exact fun _ h => List.mem_append_left _ h | (intro r hr; simp [hr]; done))) ?_
        rintro q st ⟨j2, k2, rfl, hj2, hk2, rfl⟩
        by_cases hlt2 : j2 < ss.length
        · obtain ⟨o, ho⟩ : ∃ o, ss[j2]? = some o := ⟨_, List.getElem?_eq_getElem hlt2⟩
          have hr2 := c32_at ho
          have hk3 := any_take (f := fun o => decide (o = s)) ho
          obtain ⟨a1, o1, rfl, hmem1⟩ := hS1.pos (by omega)
          cases k2 with
          | true =>
            (repeat (first | ((first | (apply wo_v; rfl) ); (· first | (apply pv_ev; rfl) | (apply pv_fld; rfl) | (apply g_load; first | (apply pv_ld; rfl; (· (repeat (first | apply sel_here | apply sel_there))); rfl) | (apply pv_ld_ownf; rfl; (· (repeat (first | fail ))); (· assumption); rfl) | (apply pv_ld_own1; rfl; (· (repeat (first | apply sel_there))); (· assumption)) | (apply pv_ld_rof; rfl; (· (first | assumption )); (· assumption); rfl) | (apply pv_ld_ro1; rfl; (· (first | assumption )); (· assumption)) ) | (apply g_pick; first | (apply pv_pick_t; rfl; rfl) ) | (apply g_bin; first | (apply a_add; rfl; rfl; infer_instance; omega) ) | (apply g_idx; first | (apply pv_idx; rfl; rfl; omega) ) )) | apply wo_nil | apply wc_seq | apply wc_region | apply wc_block | apply wc_skip | (apply wc_true; rfl) | (apply wc_false; rfl) | (apply a_dec_t; rfl; (· first | assumption | omega)) | (apply wo_run; rfl; rfl) | (apply wo_skip; rfl; rfl; rfl; rfl) | (apply wo_st; rfl; rfl; rfl; (· (repeat (first | apply sel_here | apply sel_there))); (· (repeat (first | apply SetAt.here | apply SetAt.there))); rfl) ))
            exact loop_end ⟨j2 + 1, true, rfl, by omega, by rw [hk3, ← Bool.or_assoc, ← hk2]; rfl, rfl⟩ (by omega) (wk_mk (by (repeat (first | apply wkf_nil | (apply wkf_cons; rfl))); done) (by (repeat (first | apply sub_nil | (apply sub_cons; (· (repeat (first | apply sel_here | apply sel_there)))))); done) (by first | exact fun _ h => h | (intro r hr; cases hr; done) | (simp; done) | exact fun _ h => List.mem_append_left _ h | (intro r hr; simp [hr]; done)))
          | false =>
            (repeat (first | ((first | (apply wo_v; rfl) ); (· first | (apply pv_ev; rfl) | (apply pv_fld; rfl) | (apply g_load; first | (apply pv_ld; rfl; (· (repeat (first | apply sel_here | apply sel_there))); rfl) | (apply pv_ld_ownf; rfl; (· (repeat (first | fail ))); (· assumption); rfl) | (apply pv_ld_own1; rfl; (· (repeat (first | apply sel_there))); (· assumption)) | (apply pv_ld_rof; rfl; (· (first | assumption )); (· assumption); rfl) | (apply pv_ld_ro1; rfl; (· (first | assumption )); (· assumption)) ) | (apply g_pick; first | (apply pv_pick_t; rfl; rfl) | (apply pv_pick_f; rfl; rfl)) | (apply g_bin; first | (apply a_add; rfl; rfl; infer_instance; omega) ) | (apply g_idx; first | (apply pv_idx; rfl; rfl; omega) ) )) | apply wo_nil | apply wc_seq | apply wc_region | apply wc_block | apply wc_skip | (apply wc_true; rfl) | (apply wc_false; rfl) | (apply a_dec_t; rfl; (· first | assumption | omega)) | (apply wo_run; rfl; rfl) | (apply wo_st; rfl; rfl; rfl; (· (repeat (first | apply sel_here | apply sel_there))); (· (repeat (first | apply SetAt.here | apply SetAt.there))); rfl) ))
            exact loop_end ⟨j2 + 1, decide (o = s), rfl, by omega, by rw [hk3, ← Bool.or_assoc, ← hk2]; rfl, rfl⟩ (by omega) (wk_mk (by (repeat (first | apply wkf_nil | (apply wkf_cons; rfl))); done) (by (repeat (first | apply sub_nil | (apply sub_cons; (· (repeat (first | apply sel_here | apply sel_there)))))); done) (by first | exact fun _ h => h | (intro r hr; cases hr; done) | (simp; done) | exact fun _ h => List.mem_append_left _ h | (intro r hr; simp [hr]; done)))
        · have e : j2 = ss.length := by omega
          subst e
          rw [List.take_length] at hk2
          (repeat (first | ((first | (apply wo_v; rfl) ); (· first | (apply pv_ev; rfl) | (apply g_bin; first | (apply a_add; rfl; rfl; infer_instance; omega) ) )) | apply wo_nil | apply wc_seq | apply wc_region | (apply wc_exit; rfl) | (apply wc_true; rfl) | (apply wc_false; rfl) | (apply a_dec_t; rfl; (· first | assumption | omega)) | (apply a_dec_f; rfl; (· first | assumption | omega)) ))
          exact key ⟨sq, ky, rt, k2⟩ ao c' (by rw [hk2]; rfl) _ (wk_mk (by (repeat (first | apply wkf_nil | (apply wkf_cons; rfl))); done) (by (repeat (first | apply sub_nil )); done) (by first | exact fun _ h => h | (intro r hr; cases hr; done) | (simp; done) | exact fun _ h => List.mem_append_left _ h | (intro r hr; simp [hr]; done)))
    · have e : j = l.length := by omega
      subst e
      rw [List.take_length] at ha
      subst ha
      (repeat (first | ((first | (apply wo_v; rfl) ); (· first | (apply pv_ev; rfl) )) | apply wo_nil | apply wc_seq | apply wc_region | (apply wc_exit; rfl) | (apply wc_true; rfl) | (apply wc_false; rfl) | (apply a_dec_t; rfl; (· first | assumption | omega)) | (apply a_dec_f; rfl; (· first | assumption | omega)) ))
      exact cut_end ⟨ao, c', rfl⟩ (wk_mk (by (repeat (first | apply wkf_nil | (apply wkf_cons; rfl))); done) (by (repeat (first | apply sub_nil )); done) (by first | exact fun _ h => h | (intro r hr; cases hr; done) | (simp; done) | exact fun _ h => List.mem_append_left _ h | (intro r hr; simp [hr]; done)))
  rintro st ⟨ao, c', rfl⟩
  generalize rdA s l = a
  obtain ⟨sq, ky, rt, gn⟩ := a
  (repeat (first | ((first | (apply wo_v; rfl) ); (· first | (apply pv_ev; rfl) | (apply g_load; first | (apply pv_lda; rfl; (· (repeat (first | apply sel_here | apply sel_there))); (· (repeat (first | apply Cut.here0 | apply Cut.here )))) ) )) | apply wo_nil | apply wc_seq | apply wc_region | apply wc_ret | (apply wo_sta; rfl; rfl; rfl; rfl; (· (repeat (first | apply sel_here ))); (· (repeat (first | apply LayAt.nil | apply LayAt.here ))); rfl) ))
  exact retv rfl (by (repeat (first | apply RV.nil | (apply RV.agg; rfl; (· (repeat (first | apply sel_here ))); infer_instance; (· (repeat (first | apply Cut.here0 | apply Cut.here )))) )); done) (⟨ao, c', rfl, rfl, rfl⟩) (by (repeat (first | apply sub_nil | (apply sub_cons; (· (repeat (first | apply sel_here | apply sel_there)))))); done) (by first | exact fun _ h => h | (intro r hr; cases hr; done) | (simp; done) | exact fun _ h => List.mem_append_left _ h | (intro r hr; simp [hr]; done))
end Go.Proofs.Ytlhlidmhlhodiaa

/-
  AntiphonNacks: numbers that are asked for by pairs, as bytes, are asked for.
-/
namespace Go.Proofs.Ytlhlidmhlhodiaa
set_option linter.unusedSimpArgs false
set_option linter.unusedVariables false
open Go.RowKit
attribute [local irreducible] Pv WO WC Fn
set_option maxRecDepth 100000
attribute [local irreducible] ByteArray.extract

theorem c16_rows {A : Option Addr} {n c : Nat} {V : Nat → Nat → Value} {w : World} (h : Rws [.int .u16] w A n c V) : ∃ (l : List Int) (R : List Ro), (∀ r ∈ R, r.sat w) ∧ SQ R 1 A n c (c16 l) ∧ (∀ x ∈ l, in16 x) ∧ n ≤ c ∧ c ≤ 9223372036854775807 := by
  have h2 := h.1
  have h3 := h.2.1
  obtain ⟨z, R, h4, h5, h6, _⟩ := rws_k h
  refine ⟨(List.range n).map z, R, h4, ⟨by simp [c16], fun h0 => ?_⟩, fun x hx => ?_, h2, by unfold maxLen at h3; omega⟩
  · obtain ⟨b, o, hA, hm⟩ := h6 h0
    have e : kseg .u16 z n = c16 ((List.range n).map z) := by simp [kseg, c16, Function.comp_def]
    exact ⟨b, o, hA, by rw [← e]; exact hm⟩
  · obtain ⟨i, hi, rfl⟩ := List.mem_map.1 hx
    exact h5 i (List.mem_range.1 hi)
/-- both packets, written and read -/
theorem nak_back {s t : Int} {ps : List (Int × Int)} (hs : in32 s) (ht : in32 t) (hp : ∀ x ∈ ps, in16 x.1 ∧ in16 x.2) (hl : ps.length ≤ 20) :
    pkM (all4 [(205, 1, numsS 4 [1, s] ++ prsT ps), (206, 1, numsS 4 [1, t])]) = ([.nack 1 s ps, .pli 1 t], 0) := by
  have h1 : in32 1 := by unfold in32; omega
  have z1 : (numsS 4 [1, s] ++ prsT ps).size = 8 + 4 * ps.length := by rw [ByteArray.size_append, numsS_size, prsT_size]; simp only [List.length_cons, List.length_nil]
  have z2 : (numsS 4 [1, t]).size = 8 := by rw [numsS_size]; rfl
  have p1 : pad4 (numsS 4 [1, s] ++ prsT ps) = numsS 4 [1, s] ++ prsT ps := pad4_id (by omega)
  have p2 : pad4 (numsS 4 [1, t]) = numsS 4 [1, t] := pad4_id (by omega)
  refine pkM_all _ _ rfl ?_ ?_ (by simp)
  · intro i x p hx hp2 z
    match i, hx, hp2 with
    | 0, hx, hp2 =>
      simp only [List.getElem?_cons_zero, Option.some.injEq] at hx hp2
      subst hx hp2
      refine stM_front (by omega) (by omega) (by rw [p1]; omega) ?_
      rw [p1]
      have := tNk_f h1 hs hp
      unfold tkM
      rw [if_neg (by omega), if_neg (by omega), if_neg (by omega), if_neg (by omega), if_pos ⟨rfl, rfl⟩, this]
    | 1, hx, hp2 =>
      simp only [List.getElem?_cons_succ, List.getElem?_cons_zero, Option.some.injEq] at hx hp2
      subst hx hp2
      refine stM_front (by omega) (by omega) (by rw [p2]; omega) ?_
      rw [p2]
      have h3 := tPl_f h1 ht E0
      rw [append_E0] at h3
      have h4 : uK 4 (numsS 4 [1, t], 0) = (1, numS 4 t ++ E0, 0) := by rw [append_E0]; exact h3.1
      unfold tkM
      rw [if_neg (by omega), if_neg (by omega), if_neg (by omega), if_neg (by omega), if_neg (by omega), if_pos ⟨rfl, rfl⟩, h4]
      dsimp only
      rw [h3.2]
    | i + 2, hx, hp2 => simp at hx
  · show (one4 _ ++ (one4 _ ++ E0)).size ≤ 1500
    rw [append_E0, ByteArray.size_append, one4_size, one4_size]
    dsimp only
    rw [p1, p2]
    omega
def Cnt (km : List (Int × Value)) (m : Nat) : Prop := ∀ x, alook km x = none ∨ ∃ v : Int, alook km x = some (.int .i64 v) ∧ 1 ≤ v ∧ v ≤ m
theorem Cnt.set {km : List (Int × Value)} {m : Nat} (h : Cnt km m) (a : Int) {v : Int} (h1 : 1 ≤ v) (h2 : v ≤ m + 1) : Cnt (aset km a (.int .i64 v)) (m + 1) := fun x => by
  rw [alook_set]
  by_cases hx : x = a
  · rw [if_pos hx]; exact .inr ⟨v, rfl, h1, by omega⟩
  · rw [if_neg hx]
    rcases h x with h | ⟨u, h3, h4, h5⟩
    · exact .inl h
    · exact .inr ⟨u, h3, h4, by omega⟩
set_option maxHeartbeats 32000000 in
theorem antiphonNacks_fn (l : List Int) (s : Int) (A : Option Addr) (n c : Nat) (R : List Ro) (hs : in32 s) (hc : c ≤ 9223372036854775807) (hnc : n ≤ c) (hS : SQ R 1 A n c (c16 l)) (hb : ∀ x ∈ l, in16 x) :
    Fn Try.prog 7 #[.slice A n c, .int .u32 s] [] R (fun v _ _ => v = .bool true) := by
  refine fn_intro Try.func7 rfl Try.ntmps7 rfl (fun E => ?_)
  (repeat (first | ((first | (apply wo_v; rfl) ); (· first | (apply pv_ev; rfl) )) | apply wo_nil | apply wc_seq | apply wc_region ))
  (refine wo_call (alive) rfl (by (repeat (first | apply sub_nil )); done) (by first | exact fun _ h => h | (intro r hr; cases hr; done) | (simp; done) | exact fun _ h => List.mem_append_left _ h | (intro r hr; simp [hr]; done)) rfl ?_; rintro v L' R' ⟨rfl, rfl, rfl⟩ H' hH RR hR; simp only [List.cons_append, List.nil_append] at hH hR; subst hH; have hR := hR.symm; subst hR)
  (repeat (first | ((first | (apply wo_v; rfl) ); (· first | (apply pv_ev; rfl) | (apply g_bi; first | (apply pv_len_sl; rfl) ) | (apply g_un; first | (apply pv_not_t; rfl) ) )) | apply wo_nil | apply wc_seq | apply wc_region | apply wc_skip | (apply wc_true; rfl) | (apply wc_false; rfl) | (apply a_dec_t; rfl; (· first | assumption | omega)) | (apply a_dec_f; rfl; (· first | assumption | omega)) | (apply a_dec_t; rfl; (· first | (simp; done) | (simp; omega))) | (apply a_dec_f; rfl; (· first | (simp; done) | (simp; omega))) ))
  refine wc_join0 (fun st => ∃ (l2 : List Int) (A2 : Option Addr) (n2 c2 : Nat) (R2 : List Ro), st = ⟨[(0, .slice A2 n2 c2), (1, .int .u32 s)], [], R2⟩ ∧ SQ R2 1 A2 n2 c2 (c16 l2) ∧ l2.length ≤ 20 ∧ (∀ x ∈ l2, in16 x)) ?_ ?_
  · have hn : n = l.length := by rw [← hS.len, c16_len]
    by_cases h12 : 20 < n
    · obtain ⟨a0, o0, rfl, hmem⟩ := hS.pos (by omega)
      (repeat (first | ((first | (apply wo_v; rfl) ); (· first | (apply pv_ev; rfl) )) | apply wc_region | (apply wc_true; rfl) | (apply wc_false; rfl) | (apply a_dec_t; rfl; (· first | assumption | omega)) ))
      refine wo_cut_ro (l := 0) (h := 20) (m := c) rfl hmem (.hi rfl rfl (by omega)) (by omega) rfl (fun o3 ho3 => ?_)
      (repeat (first | ((first | (apply wo_v; rfl) ); (· first | (apply pv_ev; rfl) )) | apply wo_nil ))
      have e : ((c16 l).take 20).drop 0 = c16 (l.take 20) := by rw [List.drop_zero, c16, c16, List.map_take]
      rw [e]
      refine cut_end ⟨l.take 20, _, 20, c, _, rfl, ⟨by rw [c16_len, List.length_take]; omega, fun _ => ⟨a0, o3, rfl, ?_⟩⟩, by rw [List.length_take]; omega, fun x hx => hb x (List.mem_of_mem_take hx)⟩ (wk_mk (by (repeat (first | apply wkf_nil | (apply wkf_cons; rfl))); done) (by (repeat (first | apply sub_nil )); done) (by first | exact fun _ h => h | (intro r hr; cases hr; done) | (simp; done) | exact fun _ h => List.mem_append_left _ h | (intro r hr; simp [hr]; done)))
      rw [ho3 (by omega)]; exact List.mem_cons_self (l := R)
    · (repeat (first | apply wc_skip | (apply wc_true; rfl) | (apply wc_false; rfl) | (apply a_dec_t; rfl; (· first | assumption | omega)) | (apply a_dec_f; rfl; (· first | assumption | omega)) ))
      exact cut_end ⟨l, A, n, c, R, rfl, hS, by omega, hb⟩ (wk_mk (by (repeat (first | apply wkf_nil | (apply wkf_cons; rfl))); done) (by (repeat (first | apply sub_nil )); done) (by first | exact fun _ h => h | (intro r hr; cases hr; done) | (simp; done) | exact fun _ h => List.mem_append_left _ h | (intro r hr; simp [hr]; done)))
  clear hS hb hnc hc
  rintro st ⟨l2, A2, n2, c2, R2, rfl, hS, hl, hb⟩
  have hn2 : n2 = l2.length := by rw [← hS.len, c16_len]
  subst hn2
  obtain ⟨hpi, hpl⟩ := pairM_ok hb
  have hall := fun n hn => pairM_all (l := l2) hb (n := n) hn
  have q1 := nPairs l2 A2 l2.length c2 R2 hS (by omega) hb
  generalize pairM l2 = ps at *
  (repeat (first | ((first | (apply wo_v; rfl) ); (· first | (apply pv_ev; rfl) )) | apply wc_seq | apply wc_region ))
  (refine wo_call (q1) rfl (by (repeat (first | apply sub_nil )); done) (by first | exact fun _ h => h | (intro r hr; cases hr; done) | (simp; done) | exact fun _ h => List.mem_append_left _ h | (intro r hr; simp [hr]; done)) rfl ?_; rintro v L' R' ⟨ao, c', rfl, rfl, rfl⟩ H' hH RR hR; simp only [List.cons_append, List.nil_append] at hH hR; subst hH; have hR := hR.symm; subst hR)
  refine wo_still (ao := ao) (c := c') (by (repeat (first | apply sel_here )); done) (fun R7 hS7 => ?_)
  (repeat (first | ((first | (apply wo_v; rfl) ); (· first | (apply pv_ev; rfl) | (apply g_bin; first | (apply a_add; rfl; rfl; infer_instance; omega) | (apply pv_add_s; rfl; rfl; omega) | (apply a_add_u; rfl; rfl; infer_instance) ) | (apply g_build; apply pv_build; (· (repeat (first | apply Bld.nil | (apply Bld.one; rfl; rfl; (· (repeat (first | apply SetAt.here | apply SetAt.there)))) )))) | (apply pv_mki; rfl; infer_instance) )) | (apply wo_bsl; (· (repeat (first | apply Rws'.nil | (apply Rws'.one; rfl; rfl; rfl) ))); rfl; rfl; rfl; rfl; intro bx) ))
  have ht : in32 ((s + 1) % 4294967296) := by unfold in32; omega
  have hts : (s + 1) % 4294967296 ≠ s := by have := hs.1; have := hs.2; omega
  obtain ⟨t, et⟩ : ∃ t, (s + 1) % 4294967296 = t := ⟨_, rfl⟩
  rw [et] at ht hts ⊢
  refine wo_still (ao := some ⟨bx, 0, none⟩) (n := 2) (c := 2) (by (repeat (first | apply sel_here )); done) (fun R8 hS8 => ?_)
  have hS8 := hS8.sq
  have hS7 := hS7.sq.mono (R' := R8 ++ (R7 ++ R2)) (fun r hr => List.mem_append_right _ hr)
  have hS := hS.mono (R' := R8 ++ (R7 ++ R2)) (fun r hr => List.mem_append_right _ (List.mem_append_right _ hr))
  generalize R8 ++ (R7 ++ R2) = RG at *
  have h1 : in32 1 := by unfold in32; omega
  have wT := tText [(205, 1, numsS 4 [1, s] ++ prsT ps), (206, 1, numsS 4 [1, t])] [.iface 75 (.agg #[.int .u32 1, .int .u32 s, .slice ao ps.length c']), .iface 77 (.agg #[.int .u32 1, .int .u32 t])] _ 2 2 RG hS8 rfl (by simp)
    (by
      have z1 : (numsS 4 [1, s] ++ prsT ps).size = 8 + 4 * ps.length := by rw [ByteArray.size_append, numsS_size, prsT_size]; simp only [List.length_cons, List.length_nil]
      have z2 : (numsS 4 [1, t]).size = 8 := by rw [numsS_size]; rfl
      intro x hx
      simp only [List.mem_cons, List.not_mem_nil, or_false] at hx
      rcases hx with rfl | rfl
      · dsimp only; omega
      · dsimp only; omega)
    (by
      intro x hx
      simp only [List.mem_cons, List.not_mem_nil, or_false] at hx
      rcases hx with rfl | rfl
      · exact ⟨by unfold in8; dsimp only; omega, by unfold in8; dsimp only; omega⟩
      · exact ⟨by unfold in8; dsimp only; omega, by unfold in8; dsimp only; omega⟩)
    (fun i x v h2 h3 => by
      match i, h2, h3 with
      | 0, h2, h3 =>
        simp only [List.getElem?_cons_zero, Option.some.injEq] at h2 h3
        subst h2 h3
        exact ⟨dNack 1 s ao ps.length c', tNack RG 1 s ps ao ps.length c' hS7 (by omega) h1 hs hpi⟩
      | 1, h2, h3 =>
        simp only [List.getElem?_cons_succ, List.getElem?_cons_zero, Option.some.injEq] at h2 h3
        subst h2 h3
        exact ⟨dPli 1 t, tPli RG 1 t h1 ht⟩
      | i + 2, h2, h3 => simp at h2)
  have hpk := nak_back hs ht hpi (by omega)
  have hz : (all4 [(205, 1, numsS 4 [1, s] ++ prsT ps), (206, 1, numsS 4 [1, t])]).size ≤ 1500 := by
    have z1 : (numsS 4 [1, s] ++ prsT ps).size = 8 + 4 * ps.length := by rw [ByteArray.size_append, numsS_size, prsT_size]; simp only [List.length_cons, List.length_nil]
    have z2 : (numsS 4 [1, t]).size = 8 := by rw [numsS_size]; rfl
    have := all4_size (l := [(205, 1, numsS 4 [1, s] ++ prsT ps), (206, 1, numsS 4 [1, t])]) (m := 100) (by
      intro x hx
      simp only [List.mem_cons, List.not_mem_nil, or_false] at hx
      rcases hx with rfl | rfl
      · dsimp only; omega
      · dsimp only; omega)
    simp only [List.length_cons, List.length_nil] at this
    omega
  generalize all4 [(205, 1, numsS 4 [1, s] ++ prsT ps), (206, 1, numsS 4 [1, t])] = x at *
  have wP := kParse x (by omega)
  rw [hpk] at wP
  dsimp only [List.length_cons, List.length_nil] at wP
  (refine wo_call (wT) rfl (by (repeat (first | apply sub_nil )); done) (by first | exact fun _ h => h | (intro r hr; cases hr; done) | (simp; done) | exact fun _ h => List.mem_append_left _ h | (intro r hr; simp [hr]; done)) rfl ?_; rintro v L' R' ⟨rfl, rfl, rfl⟩ H' hH RR hR; simp only [List.cons_append, List.nil_append] at hH hR; subst hH; have hR := hR.symm; subst hR)
  (repeat (first | ((first | (apply wo_v; rfl) ); (· first | (apply pv_ev; rfl) )) | apply wo_nil | apply wc_seq | apply wc_region ))
  (refine wo_call (wP) rfl (by (repeat (first | apply sub_nil )); done) (by first | exact fun _ h => h | (intro r hr; cases hr; done) | (simp; done) | exact fun _ h => List.mem_append_left _ h | (intro r hr; simp [hr]; done)) rfl ?_; rintro v L' R' ⟨A3, c3, vs, rfl, hS9, hV9, _, rfl⟩ H' hH RR hR; simp only [List.cons_append, List.nil_append] at hH hR; subst hH; have hR := hR.symm; subst hR)
  have hS := hS.mono (R' := R' ++ RG) (fun r hr => List.mem_append_right _ hr)
  have hS9 := hS9.mono (R' := R' ++ RG) (fun r hr => List.mem_append_left _ hr)
  have hV9 := hV9.mono (R' := R' ++ RG) (fun r hr => List.mem_append_left _ hr)
  clear hS7 hS8 wT wP
  generalize R' ++ RG = RH at *
  have hok : ∀ p ∈ [Pkt.nack 1 s ps, .pli 1 t], p.ok 1000 := by
    intro p hp
    simp only [List.mem_cons, List.not_mem_nil, or_false] at hp
    rcases hp with rfl | rfl
    · exact ⟨h1, hs, hpi, by omega⟩
    · exact ⟨h1, ht⟩
  have wA := pRead s [.nack 1 s ps, .pli 1 t] vs A3 2 c3 RH hS9 hV9 (by simp) hok
  have wB := pRead t [.nack 1 s ps, .pli 1 t] vs A3 2 c3 RH hS9 hV9 (by simp) hok
  have eA : rdA s [.nack 1 s ps, .pli 1 t] = ⟨seqL ps, false, 0, false⟩ := by
    simp [rdA, stepA, hts]
  have eB : rdA t [.nack 1 s ps, .pli 1 t] = ⟨[], true, 0, false⟩ := by
    simp [rdA, stepA, Ne.symm hts]
  rw [eA] at wA
  rw [eB] at wB
  dsimp only at wA wB
  have hin := seqL_in hpi
  have hql := seqL_len ps
  generalize seqL ps = sq at *
  (repeat (first | ((first | (apply wo_v; rfl) ); (· first | (apply pv_ev; rfl) | (apply g_pick; first | (apply pv_pick_t; rfl; rfl) | (apply pv_pick_f; rfl; rfl)) | (apply g_bi; first | (apply pv_len_sl; rfl) ) )) | apply wo_nil | apply wc_seq | apply wc_region | apply wc_skip | (apply wc_true; rfl) | (apply wc_false; rfl) | (apply wo_run; rfl; rfl) ))
  (refine wo_call (wA) rfl (by (repeat (first | apply sub_nil )); done) (by first | exact fun _ h => h | (intro r hr; cases hr; done) | (simp; done) | exact fun _ h => List.mem_append_left _ h | (intro r hr; simp [hr]; done)) rfl ?_; rintro v L' R' ⟨ao4, c4, rfl, rfl, rfl⟩ H' hH RR hR; simp only [List.cons_append, List.nil_append] at hH hR; subst hH; have hR := hR.symm; subst hR)
  (repeat (first | ((first | (apply wo_v; rfl) ); (· first | (apply pv_ev; rfl) | (apply g_bin; first | (apply a_add; rfl; rfl; infer_instance; omega) | (apply pv_add_s; rfl; rfl; omega) | (apply a_add_u; rfl; rfl; infer_instance) ) )) ))
  rw [et]
  (refine wo_call (wB) rfl (by (repeat (first | apply sub_nil )); done) (by first | exact fun _ h => h | (intro r hr; cases hr; done) | (simp; done) | exact fun _ h => List.mem_append_left _ h | (intro r hr; simp [hr]; done)) rfl ?_; rintro v L' R' ⟨ao5, c5, rfl, rfl, rfl⟩ H' hH RR hR; simp only [List.cons_append, List.nil_append] at hH hR; subst hH; have hR := hR.symm; subst hR)
  (repeat (first | ((first | (apply wo_v; rfl) ); (· first | (apply pv_ev; rfl) )) | apply wo_nil | apply wc_seq | apply wc_region | (apply wo_alloc; rfl; intro bx) | (apply wo_sta; rfl; rfl; rfl; rfl; (· (repeat (first | apply sel_here | apply sel_there))); (· (repeat (first | apply LayAt.nil | apply LayAt.here ))); rfl) ))
  rename_i b8
  obtain ⟨b9, hb9⟩ : ∃ g, g = bx := ⟨_, rfl⟩
  subst hb9
  refine wo_mmake .u16 rfl (fun bm => ?_)
  (repeat (first | ((first | (apply wo_v; rfl) ); (· first | (apply pv_ev; rfl) | (apply pv_fld; rfl) | (apply g_load; first | (apply pv_ld; rfl; (· (repeat (first | apply sel_here | apply sel_there))); rfl) ) | (apply g_bi; first | (apply pv_len_sl; rfl) ) )) | apply wo_nil | apply wc_seq | apply wc_region ))
  refine wc_join0 (fun st => ∃ km, st = ⟨[(0, .slice A2 l2.length c2), (8, .pointer (some ⟨b8, 0, none⟩)), (9, .pointer (some ⟨b9, 0, none⟩)), (10, .map (some bm))], [aO b9 (.slice ao5 0 c5) true 0 false, aO b8 (.slice ao4 sq.length c4) false 0 false, .ob bm (mob .u16 km)], RH⟩ ∧ Cnt km sq.length ∧ ∀ x ∈ sq, alook km x ≠ none) ?_ ?_
  · refine wc_block ?_
    refine wc_loop' (fun q st => ∃ (j : Nat) (km : List (Int × Value)), q = sq.length - j ∧ j ≤ sq.length ∧ Cnt km j ∧ (∀ x ∈ sq.take j, alook km x ≠ none) ∧ st = ⟨[(0, .slice A2 l2.length c2), (8, .pointer (some ⟨b8, 0, none⟩)), (9, .pointer (some ⟨b9, 0, none⟩)), (10, .map (some bm)), (54, .slice ao4 sq.length c4), (55, .int .i64 sq.length), (56, .int .i64 j)], [aO b9 (.slice ao5 0 c5) true 0 false, aO b8 (.slice ao4 sq.length c4) false 0 false, sO ao4 sq.length c4 sq, .ob bm (mob .u16 km)], RH⟩) ⟨0, [], rfl, Nat.zero_le _, fun _ => .inl rfl, (fun x hx => by simp at hx), rfl⟩ (wk_mk (by (repeat (first | apply wkf_nil | (apply wkf_cons; rfl))); done) (by (repeat (first | apply sub_nil | (apply sub_cons; (· (repeat (first | apply sel_here | apply sel_there)))))); done) (by first | exact fun _ h => h | (intro r hr; cases hr; done) | (simp; done) | exact fun _ h => List.mem_append_left _ h | (intro r hr; simp [hr]; done))) ?_
    rintro q st ⟨j, km, rfl, hj, hcn, hmm, rfl⟩
    by_cases hlt : j < sq.length
    · obtain ⟨x, hx⟩ : ∃ x, sq[j]? = some x := ⟨_, List.getElem?_eq_getElem hlt⟩
      have hr := c16_at hx
      obtain ⟨x1, x2⟩ := hin x (List.mem_of_getElem? hx)
      have hmm2 : ∀ v : Int, ∀ y ∈ sq.take (j + 1), alook (aset km x (.int .i64 v)) y ≠ none := fun v y hy => by
        rw [alook_set]
        by_cases hyx : y = x
        · rw [if_pos hyx]; simp
        · rw [if_neg hyx]
          rw [List.take_add_one, hx] at hy
          rcases List.mem_append.1 hy with hy | hy
          · exact hmm y hy
          · exact absurd (by simpa using hy) hyx
      refine wc_some (ao := ao4) (by (repeat (first | apply sel_here | apply sel_there)); done) (by omega) ?_
      rintro bs os rfl
      rcases hcn x with hk | ⟨v, hk, hv1, hv2⟩
      · (repeat (first | ((first | (apply wo_v; rfl) ); (· first | (apply pv_ev; rfl) )) | apply wo_nil | apply wc_seq | apply wc_region | apply wc_skip | (apply wc_true; rfl) | (apply wc_false; rfl) | (apply a_dec_t; rfl; (· first | assumption | omega)) ))
        refine wc_block ?_
        (repeat (first | ((first | (apply wo_v; rfl) ); (· first | (apply pv_ev; rfl) | (apply g_load; first | (apply pv_ld; rfl; (· (repeat (first | apply sel_there))); rfl) | (apply pv_ld_ownf; rfl; (· (repeat (first | fail ))); (· assumption); rfl) | (apply pv_ld_own1; rfl; (· (repeat (first | apply sel_here | apply sel_there))); (· assumption)) ) | (apply g_bin; first | (apply a_add; rfl; rfl; infer_instance; omega) ) | (apply g_idx; first | (apply pv_idx; rfl; rfl; omega) ) )) | ((apply wo_v; rfl); (· first | (apply g_lk; first | (apply pv_mlk_n; rfl; rfl; (· (repeat (first | apply sel_here | apply sel_there))); (· assumption)) ) )) | (apply wo_mput; rfl; rfl; rfl; (· (repeat (first | apply sel_here | apply sel_there))); rfl) | apply wo_nil | apply wc_seq | apply wc_region ))
        exact loop_end ⟨j + 1, aset km x (.int .i64 (0 + 1)), rfl, by omega, hcn.set x (by omega) (by omega), hmm2 _, rfl⟩ (by omega) (wk_mk (by (repeat (first | apply wkf_nil | (apply wkf_cons; rfl))); done) (by (repeat (first | apply sub_nil | (apply sub_cons; (· (repeat (first | apply sel_here | apply sel_there)))))); done) (by first | exact fun _ h => h | (intro r hr; cases hr; done) | (simp; done) | exact fun _ h => List.mem_append_left _ h | (intro r hr; simp [hr]; done)))
      · (repeat (first | ((first | (apply wo_v; rfl) ); (· first | (apply pv_ev; rfl) )) | apply wo_nil | apply wc_seq | apply wc_region | apply wc_skip | (apply wc_true; rfl) | (apply wc_false; rfl) | (apply a_dec_t; rfl; (· first | assumption | omega)) ))
        refine wc_block ?_
        (repeat (first | ((first | (apply wo_v; rfl) ); (· first | (apply pv_ev; rfl) | (apply g_load; first | (apply pv_ld; rfl; (· (repeat (first | apply sel_there))); rfl) | (apply pv_ld_ownf; rfl; (· (repeat (first | fail ))); (· assumption); rfl) | (apply pv_ld_own1; rfl; (· (repeat (first | apply sel_here | apply sel_there))); (· assumption)) ) | (apply g_bin; first | (apply a_add; rfl; rfl; infer_instance; omega) ) | (apply g_idx; first | (apply pv_idx; rfl; rfl; omega) ) )) | ((apply wo_v; rfl); (· first | (apply g_lk; first | (apply pv_mlk_n; rfl; rfl; (· (repeat (first | apply sel_here | apply sel_there))); (· assumption)) | (apply pv_mlk_s; rfl; rfl; (· (repeat (first | apply sel_here | apply sel_there))); (· assumption)) ) )) | (apply wo_mput; rfl; rfl; rfl; (· (repeat (first | apply sel_here | apply sel_there))); rfl) | apply wo_nil | apply wc_seq | apply wc_region ))
        exact loop_end ⟨j + 1, aset km x (.int .i64 (v + 1)), rfl, by omega, hcn.set x (by omega) (by omega), hmm2 _, rfl⟩ (by omega) (wk_mk (by (repeat (first | apply wkf_nil | (apply wkf_cons; rfl))); done) (by (repeat (first | apply sub_nil | (apply sub_cons; (· (repeat (first | apply sel_here | apply sel_there)))))); done) (by first | exact fun _ h => h | (intro r hr; cases hr; done) | (simp; done) | exact fun _ h => List.mem_append_left _ h | (intro r hr; simp [hr]; done)))
    · have e : j = sq.length := by omega
      subst e
      rw [List.take_length] at hmm
      (repeat (first | ((first | (apply wo_v; rfl) ); (· first | (apply pv_ev; rfl) )) | apply wo_nil | apply wc_seq | apply wc_region | (apply wc_exit; rfl) | (apply wc_true; rfl) | (apply wc_false; rfl) | (apply a_dec_t; rfl; (· first | assumption | omega)) | (apply a_dec_f; rfl; (· first | assumption | omega)) ))
      exact cut_end ⟨km, rfl, hcn, hmm⟩ (wk_mk (by (repeat (first | apply wkf_nil | (apply wkf_cons; rfl))); done) (by (repeat (first | apply sub_nil | (apply sub_cons; (· (repeat (first | apply sel_here | apply sel_there)))))); done) (by first | exact fun _ h => h | (intro r hr; cases hr; done) | (simp; done) | exact fun _ h => List.mem_append_left _ h | (intro r hr; simp [hr]; done)))
  rintro st ⟨km, rfl, hcn, hmm⟩
  have qc := vCheck false false 0 (-1) false (-1) (-1) false (-1) 0 (by decide)
  (repeat (first | ((first | (apply wo_v; rfl) ); (· first | (apply pv_ev; rfl) | (apply g_bi; first | (apply pv_len_sl; rfl) ) )) | apply wo_nil | apply wc_seq | apply wc_region ))
  refine wc_block ?_
  refine wc_loop' (fun q st => ∃ (j : Nat), q = l2.length - j ∧ j ≤ l2.length ∧ st = ⟨[(8, .pointer (some ⟨b8, 0, none⟩)), (9, .pointer (some ⟨b9, 0, none⟩)), (10, .map (some bm)), (65, .slice A2 l2.length c2), (66, .int .i64 l2.length), (67, .int .i64 j)], [aO b9 (.slice ao5 0 c5) true 0 false, aO b8 (.slice ao4 sq.length c4) false 0 false, .ob bm (mob .u16 km)], RH⟩) ⟨0, rfl, Nat.zero_le _, rfl⟩ (wk_mk (by (repeat (first | apply wkf_nil | (apply wkf_cons; rfl))); done) (by (repeat (first | apply sub_nil )); done) (by first | exact fun _ h => h | (intro r hr; cases hr; done) | (simp; done) | exact fun _ h => List.mem_append_left _ h | (intro r hr; simp [hr]; done))) ?_
  rintro q st ⟨j, rfl, hj, rfl⟩
  by_cases hlt : j < l2.length
  · obtain ⟨x, hx⟩ : ∃ x, l2[j]? = some x := ⟨_, List.getElem?_eq_getElem hlt⟩
    have hr := c16_at hx
    obtain ⟨a0, o0, rfl, hmem⟩ := hS.pos (by omega)
    rcases hcn x with hk | ⟨v, hk, hv1, hv2⟩
    · exact absurd hk (hmm x (hall x (List.mem_of_getElem? hx)))
    · (repeat (first | ((first | (apply wo_v; rfl) ); (· first | (apply pv_ev; rfl) )) | apply wo_nil | apply wc_seq | apply wc_region | apply wc_skip | (apply wc_true; rfl) | (apply wc_false; rfl) | (apply a_dec_t; rfl; (· first | assumption | omega)) ))
      refine wc_block ?_
      (repeat (first | ((first | (apply wo_v; rfl) ); (· first | (apply pv_ev; rfl) | (apply g_load; first | (apply pv_ld; rfl; (· (repeat (first | apply sel_there))); rfl) | (apply pv_ld_ownf; rfl; (· (repeat (first | fail ))); (· assumption); rfl) | (apply pv_ld_own1; rfl; (· (repeat (first | apply sel_there))); (· assumption)) | (apply pv_ld_rof; rfl; (· (first | assumption )); (· assumption); rfl) | (apply pv_ld_ro1; rfl; (· (first | assumption )); (· assumption)) ) | (apply g_bin; first | (apply a_add; rfl; rfl; infer_instance; omega) ) | (apply g_idx; first | (apply pv_idx; rfl; rfl; omega) ) )) | ((apply wo_v; rfl); (· first | (apply g_lk; first | (apply pv_mlk_n; rfl; rfl; (· (repeat (first | apply sel_here | apply sel_there))); (· assumption)) | (apply pv_mlk_s; rfl; rfl; (· (repeat (first | apply sel_here | apply sel_there))); (· assumption)) ) )) | apply wo_nil | apply wc_seq | apply wc_region | apply wc_skip | (apply wc_true; rfl) | (apply wc_false; rfl) | (apply a_dec_t; rfl; (· first | assumption | omega)) | (apply a_dec_f; rfl; (· first | assumption | omega)) ))
      exact loop_end ⟨j + 1, rfl, by omega, rfl⟩ (by omega) (wk_mk (by (repeat (first | apply wkf_nil | (apply wkf_cons; rfl))); done) (by (repeat (first | apply sub_nil )); done) (by first | exact fun _ h => h | (intro r hr; cases hr; done) | (simp; done) | exact fun _ h => List.mem_append_left _ h | (intro r hr; simp [hr]; done)))
  · have e : j = l2.length := by omega
    subst e
    (repeat (first | ((first | (apply wo_v; rfl) ); (· first | (apply pv_ev; rfl) | (apply pv_fld; rfl) | (apply g_load; first | (apply pv_ld; rfl; (· (repeat (first | apply sel_here | apply sel_there))); rfl) ) | (apply g_pick; first | (apply pv_pick_t; rfl; rfl) ) | (apply g_bi; first | (apply pv_len_sl; rfl) ) | (apply g_un; first | (apply pv_not_t; rfl) | (apply pv_not_f; rfl) ) )) | apply wo_nil | apply wc_seq | apply wc_region | (apply wc_exit; rfl) | (apply wc_true; rfl) | (apply wc_false; rfl) | (apply a_dec_t; rfl; (· first | assumption | omega)) | (apply a_dec_f; rfl; (· first | assumption | omega)) | (apply wo_run; rfl; rfl) ))
    (refine wo_call (vPlain) rfl (by (repeat (first | apply sub_nil )); done) (by first | exact fun _ h => h | (intro r hr; cases hr; done) | (simp; done) | exact fun _ h => List.mem_append_left _ h | (intro r hr; simp [hr]; done)) rfl ?_; rintro v L' R' ⟨rfl, rfl, rfl⟩ H' hH RR hR; simp only [List.cons_append, List.nil_append] at hH hR; subst hH; have hR := hR.symm; subst hR)
    (repeat (first | ((first | (apply wo_v; rfl) ); (· first | (apply pv_ev; rfl) )) | (apply wo_run; rfl; rfl) ))
    (refine wo_call (qc) rfl (by (repeat (first | apply sub_nil )); done) (by first | exact fun _ h => h | (intro r hr; cases hr; done) | (simp; done) | exact fun _ h => List.mem_append_left _ h | (intro r hr; simp [hr]; done)) rfl ?_; rintro v L' R' ⟨rfl, rfl, rfl⟩ H' hH RR hR; simp only [List.cons_append, List.nil_append] at hH hR; subst hH; have hR := hR.symm; subst hR)
    (repeat (first | ((first | (apply wo_v; rfl) ); (· first | (apply pv_ev; rfl) | (apply g_pick; first | (apply pv_pick_t; rfl; rfl) ) )) | apply wo_nil | apply wc_ret | (apply wo_run; rfl; rfl) ))
    exact ret1 rfl rfl (by simp) ((by (repeat (first | apply sub_nil )); done) : List.Perm _ ([] ++ _)) (by first | exact fun _ h => h | (intro r hr; cases hr; done) | (simp; done) | exact fun _ h => List.mem_append_left _ h | (intro r hr; simp [hr]; done))
theorem antiphonNacks_walk {w : World} (A : Option Addr) (n c : Nat) (V : Nat → Nat → Value) (hV : Rws [.int .u16] w A n c V) (a : Int) (ha : 0 ≤ a ∧ a ≤ 4294967295) :
    Calls Try.prog 7 #[.slice A n c, .int .u32 a] w fun e w' => e = .returned (.bool true) ∧ Below w.heap.size w w' := by
  obtain ⟨l, R, hR, hS, hl, h1, h2⟩ := c16_rows hV
  exact walk_of (antiphonNacks_fn l a A n c R ha h2 h1 hS hl) hR
end Go.Proofs.Ytlhlidmhlhodiaa
