/-
  Texts of this proof, laid together (part 4 of 4).
-/
import Derived.Test.YtnjicnadlhfocaaB3
import Derived.Deep.Slices
/-
  Package report: Read.
-/
namespace Go.Proofs.Ytnjicnadlhfocaa
set_option linter.unusedSimpArgs false
set_option linter.unusedVariables false
open Go.RowKit
attribute [local irreducible] Pv WO WC Fn
set_option maxRecDepth 100000

structure Ak where
  sq : List Int
  ky : Bool
  rt : Int
  gn : Bool
def rtM (s rt : Int) (l : List Int) (r : Int) : Int := if s ∈ l ∧ 0 < rt ∧ (r = 0 ∨ rt < r) then rt else r
def stepA (s : Int) (a : Ak) : Pkt → Ak
  | .nack _ to ps => if to = s then { a with sq := a.sq ++ seqL ps } else a
  | .pli _ to => { a with ky := a.ky || decide (to = s) }
  | .fir _ os => { a with ky := a.ky || os.any fun o => decide (o.1 = s) }
  | .remb _ rt ss => { a with rt := rtM s rt ss a.rt }
  | .bye ss _ => { a with gn := a.gn || ss.any fun x => decide (x = s) }
  | _ => a
abbrev aO (b : Nat) (v : Value) (k : Bool) (r : Int) (g : Bool) : It := .ob b (.cells #[v, .bool k, .int .u64 r, .bool g] 45 (0, 0))
theorem any_take {α : Type} {l : List α} {j : Nat} {x : α} {f : α → Bool} (h : l[j]? = some x) : (l.take (j + 1)).any f = ((l.take j).any f || f x) := by
  rw [List.take_add_one, h, List.any_append]; simp
theorem mem_take {l : List Int} {j : Nat} {x s : Int} (h : l[j]? = some x) : s ∈ l.take (j + 1) ↔ s ∈ l.take j ∨ x = s := by
  rw [List.take_add_one, h, List.mem_append]; simp [eq_comm]
theorem rtM_take {s rt r : Int} {l : List Int} {j : Nat} {x : Int} (h : l[j]? = some x) (h0 : 0 ≤ rt) :
    rtM s rt (l.take (j + 1)) r = if x = s ∧ 0 < rt ∧ (rtM s rt (l.take j) r = 0 ∨ rt < rtM s rt (l.take j) r) then rt else rtM s rt (l.take j) r := by
  have hm := mem_take (s := s) h
  unfold rtM
  by_cases h1 : s ∈ l.take j <;> by_cases h2 : x = s <;> by_cases h3 : 0 < rt <;> by_cases h4 : r = 0 <;> by_cases h5 : rt < r <;> simp [hm, h1, h2, h3, h4, h5] <;> omega
set_option maxHeartbeats 8000000 in
theorem pRate (b : Nat) (v : Value) (hv : v.oneCell' = true) (k : Bool) (r : Int) (g : Bool) (s fm rt : Int) (l : List Int) (A : Option Addr) (n c : Nat) (R : List Ro) (hS : SQ R 1 A n c (c32 l)) (hl : l.length ≤ 100000) (hrt : 0 ≤ rt) :
    Fn Try.prog 49 #[.pointer (some ⟨b, 0, none⟩), .int .u32 s, .agg #[.int .u32 fm, .int .u64 rt, .slice A n c]] [aO b v k r g] R (fun u L' R' => u = .tuple #[] ∧ L' = [aO b v k (rtM s rt l r) g] ∧ R' = []) := by
  have hn : n = l.length := by rw [← hS.len, c32_len]
  subst hn
  refine fn_intro Try.func49 rfl Try.ntmps49 rfl (fun E => ?_)
  (repeat (first | ((first | (apply wo_v; rfl) ); (· first | (apply pv_ev; rfl) | (apply pv_fld; rfl) | (apply g_load; first | (apply pv_ld; rfl; (· (repeat (first | apply sel_here ))); rfl) ) | (apply g_bi; first | (apply pv_len_sl; rfl) ) )) | apply wo_nil | apply wc_seq | apply wc_region | (apply wo_box1; rfl; rfl; rfl; intro bx) | (apply wo_boxa; rfl; rfl; intro bx) ))
  refine wc_block ?_
  refine wc_loop' (fun q st => ∃ (j : Nat) (r' : Int), q = l.length - j ∧ j ≤ l.length ∧ r' = rtM s rt (l.take j) r ∧ st = ⟨[(0, .pointer (some ⟨b, 0, none⟩)), (1, .int .u32 s), (5, .pointer (some ⟨bx, 0, none⟩)), (9, .slice A l.length c), (10, .int .i64 l.length), (11, .int .i64 j)], [aO b v k r' g, .ob bx (.cells #[.int .u32 fm, .int .u64 rt, .slice A l.length c] 75 (0, 0))], R⟩) ⟨0, r, rfl, Nat.zero_le _, by unfold rtM; simp, rfl⟩ (wk_mk (by (repeat (first | apply wkf_nil | (apply wkf_cons; rfl))); done) (by (repeat (first | apply sub_nil | (apply sub_cons; (· (repeat (first | apply sel_here | apply sel_there)))))); done) (by first | exact fun _ h => h | (intro r hr; cases hr; done) | (simp; done) | exact fun _ h => List.mem_append_left _ h | (intro r hr; simp [hr]; done))) ?_
  rintro q st ⟨j, r', rfl, hj, hr', rfl⟩
  by_cases hlt : j < l.length
  · obtain ⟨x, hx⟩ : ∃ x, l[j]? = some x := ⟨_, List.getElem?_eq_getElem hlt⟩
    have hr := c32_at hx
    have hnx := rtM_take (s := s) (rt := rt) (r := r) hx hrt
    rw [← hr'] at hnx
    obtain ⟨a0, o0, rfl, hmem⟩ := hS.pos (by omega)
    have hc : ¬ x = s ∨ (x = s ∧ ¬ 0 < rt) ∨ (x = s ∧ 0 < rt ∧ r' = 0) ∨ (x = s ∧ 0 < rt ∧ ¬ r' = 0 ∧ rt < r') ∨ (x = s ∧ 0 < rt ∧ ¬ r' = 0 ∧ ¬ rt < r') := by omega
    rcases hc with c1 | ⟨c1, c2⟩ | ⟨c1, c2, c3⟩ | ⟨c1, c2, c3, c4⟩ | ⟨c1, c2, c3, c4⟩
    · rw [if_neg (by omega)] at hnx
      (repeat (first | ((first | (apply wo_v; rfl) ); (· first | (apply pv_ev; rfl) )) | apply wo_nil | apply wc_seq | apply wc_region | apply wc_skip | (apply wc_true; rfl) | (apply wc_false; rfl) | (apply a_dec_t; rfl; (· first | assumption | omega)) ))
      refine wc_block ?_
      (repeat (first | ((first | (apply wo_v; rfl) ); (· first | (apply pv_ev; rfl) | (apply g_load; first | (apply pv_ld; rfl; (· (repeat (first | apply sel_there))); rfl) | (apply pv_ld_ownf; rfl; (· (repeat (first | fail ))); (· assumption); rfl) | (apply pv_ld_own1; rfl; (· (repeat (first | apply sel_there))); (· assumption)) | (apply pv_ld_rof; rfl; (· (first | assumption )); (· assumption); rfl) | (apply pv_ld_ro1; rfl; (· (first | assumption )); (· assumption)) ) | (apply g_idx; first | (apply pv_idx; rfl; rfl; omega) ) )) | apply wo_nil | apply wc_seq | apply wc_region ))
      (refine wc_quiet mixed (by kernel_rfl) ?_; (repeat (first | ((first | (apply wo_v; rfl) | (apply hd_v; rfl) ); (· first | (apply pv_ev; rfl) | (apply g_pick; first | (apply pv_pick_t; rfl; rfl) | (apply pv_pick_f; rfl; rfl)) | (apply g_bin; first | (apply a_add; rfl; rfl; infer_instance; omega) ) )) | apply wo_nil | apply Hd.nil | apply wc_region | apply wc_skip | (apply wc_true; rfl) | (apply wc_false; rfl) | (apply Hd.run; rfl; rfl) | (apply Hd.skip; rfl; rfl; rfl; rfl) | (apply Hd.skipu; rfl; rfl; rfl) | (apply ah_gt; rfl; rfl; (· first | assumption | omega)) | (apply ah_gf; rfl; rfl; (· first | assumption | omega)) )))
      exact loop_end ⟨j + 1, r', rfl, by omega, hnx.symm, rfl⟩ (by omega) (wk_mk (by (repeat (first | apply wkf_nil | (apply wkf_cons; rfl))); done) (by (repeat (first | apply sub_nil )); done) (by first | exact fun _ h => h | (intro r hr; cases hr; done) | (simp; done) | exact fun _ h => List.mem_append_left _ h | (intro r hr; simp [hr]; done)))
    · rw [if_neg (by omega)] at hnx
      (repeat (first | ((first | (apply wo_v; rfl) ); (· first | (apply pv_ev; rfl) )) | apply wo_nil | apply wc_seq | apply wc_region | apply wc_skip | (apply wc_true; rfl) | (apply wc_false; rfl) | (apply a_dec_t; rfl; (· first | assumption | omega)) ))
      refine wc_block ?_
      (repeat (first | ((first | (apply wo_v; rfl) ); (· first | (apply pv_ev; rfl) | (apply g_load; first | (apply pv_ld; rfl; (· (repeat (first | apply sel_there))); rfl) | (apply pv_ld_ownf; rfl; (· (repeat (first | fail ))); (· assumption); rfl) | (apply pv_ld_own1; rfl; (· (repeat (first | apply sel_there))); (· assumption)) | (apply pv_ld_rof; rfl; (· (first | assumption )); (· assumption); rfl) | (apply pv_ld_ro1; rfl; (· (first | assumption )); (· assumption)) ) | (apply g_idx; first | (apply pv_idx; rfl; rfl; omega) ) )) | apply wo_nil | apply wc_seq | apply wc_region ))
      (refine wc_quiet mixed (by kernel_rfl) ?_; (repeat (first | ((first | (apply wo_v; rfl) | (apply hd_v; rfl) ); (· first | (apply pv_ev; rfl) | (apply pv_fld; rfl) | (apply g_load; first | (apply pv_ld; rfl; (· (repeat (first | apply sel_here | apply sel_there))); rfl) ) | (apply g_pick; first | (apply pv_pick_t; rfl; rfl) | (apply pv_pick_f; rfl; rfl)) | (apply g_bin; first | (apply a_add; rfl; rfl; infer_instance; omega) ) )) | apply wo_nil | apply Hd.nil | apply wc_region | apply wc_skip | (apply wc_true; rfl) | (apply wc_false; rfl) | (apply Hd.run; rfl; rfl) | (apply Hd.skip; rfl; rfl; rfl; rfl) | (apply Hd.skipu; rfl; rfl; rfl) | (apply ah_gt; rfl; rfl; (· first | assumption | omega)) | (apply ah_gf; rfl; rfl; (· first | assumption | omega)) )))
      exact loop_end ⟨j + 1, r', rfl, by omega, hnx.symm, rfl⟩ (by omega) (wk_mk (by (repeat (first | apply wkf_nil | (apply wkf_cons; rfl))); done) (by (repeat (first | apply sub_nil )); done) (by first | exact fun _ h => h | (intro r hr; cases hr; done) | (simp; done) | exact fun _ h => List.mem_append_left _ h | (intro r hr; simp [hr]; done)))
    · rw [if_pos (by omega)] at hnx
      (repeat (first | ((first | (apply wo_v; rfl) ); (· first | (apply pv_ev; rfl) )) | apply wo_nil | apply wc_seq | apply wc_region | apply wc_skip | (apply wc_true; rfl) | (apply wc_false; rfl) | (apply a_dec_t; rfl; (· first | assumption | omega)) ))
      refine wc_block ?_
      (repeat (first | ((first | (apply wo_v; rfl) ); (· first | (apply pv_ev; rfl) | (apply g_load; first | (apply pv_ld; rfl; (· (repeat (first | apply sel_there))); rfl) | (apply pv_ld_ownf; rfl; (· (repeat (first | fail ))); (· assumption); rfl) | (apply pv_ld_own1; rfl; (· (repeat (first | apply sel_there))); (· assumption)) | (apply pv_ld_rof; rfl; (· (first | assumption )); (· assumption); rfl) | (apply pv_ld_ro1; rfl; (· (first | assumption )); (· assumption)) ) | (apply g_idx; first | (apply pv_idx; rfl; rfl; omega) ) )) | apply wo_nil | apply wc_seq | apply wc_region ))
      (refine wc_quiet mixed (by kernel_rfl) ?_; (repeat (first | ((first | (apply wo_v; rfl) | (apply hd_v; rfl) ); (· first | (apply pv_ev; rfl) | (apply pv_fld; rfl) | (apply g_load; first | (apply pv_ld; rfl; (· (repeat (first | apply sel_here | apply sel_there))); rfl) ) | (apply g_pick; first | (apply pv_pick_t; rfl; rfl) ) | (apply g_bin; first | (apply a_add; rfl; rfl; infer_instance; omega) ) )) | apply wo_nil | apply Hd.nil | apply wc_region | (apply wc_true; rfl) | (apply wo_st; rfl; rfl; rfl; (· (repeat (first | apply sel_here ))); (· (repeat (first | apply SetAt.here | apply SetAt.there))); rfl) | (apply Hd.run; rfl; rfl) | (apply Hd.skip; rfl; rfl; rfl; rfl) | (apply Hd.skipu; rfl; rfl; rfl) | (apply ah_gt; rfl; rfl; (· first | assumption | omega)) )))
      exact loop_end ⟨j + 1, rt, rfl, by omega, hnx.symm, rfl⟩ (by omega) (wk_mk (by (repeat (first | apply wkf_nil | (apply wkf_cons; rfl))); done) (by (repeat (first | apply sub_nil )); done) (by first | exact fun _ h => h | (intro r hr; cases hr; done) | (simp; done) | exact fun _ h => List.mem_append_left _ h | (intro r hr; simp [hr]; done)))
    · rw [if_pos (by omega)] at hnx
      (repeat (first | ((first | (apply wo_v; rfl) ); (· first | (apply pv_ev; rfl) )) | apply wo_nil | apply wc_seq | apply wc_region | apply wc_skip | (apply wc_true; rfl) | (apply wc_false; rfl) | (apply a_dec_t; rfl; (· first | assumption | omega)) ))
      refine wc_block ?_
      (repeat (first | ((first | (apply wo_v; rfl) ); (· first | (apply pv_ev; rfl) | (apply g_load; first | (apply pv_ld; rfl; (· (repeat (first | apply sel_there))); rfl) | (apply pv_ld_ownf; rfl; (· (repeat (first | fail ))); (· assumption); rfl) | (apply pv_ld_own1; rfl; (· (repeat (first | apply sel_there))); (· assumption)) | (apply pv_ld_rof; rfl; (· (first | assumption )); (· assumption); rfl) | (apply pv_ld_ro1; rfl; (· (first | assumption )); (· assumption)) ) | (apply g_idx; first | (apply pv_idx; rfl; rfl; omega) ) )) | apply wo_nil | apply wc_seq | apply wc_region ))
      (refine wc_quiet mixed (by kernel_rfl) ?_; (repeat (first | ((first | (apply wo_v; rfl) | (apply hd_v; rfl) ); (· first | (apply pv_ev; rfl) | (apply pv_fld; rfl) | (apply g_load; first | (apply pv_ld; rfl; (· (repeat (first | apply sel_here | apply sel_there))); rfl) ) | (apply g_pick; first | (apply pv_pick_t; rfl; rfl) | (apply pv_pick_f; rfl; rfl)) | (apply g_bin; first | (apply a_add; rfl; rfl; infer_instance; omega) ) )) | apply wo_nil | apply Hd.nil | apply wc_region | (apply wc_true; rfl) | (apply wc_false; rfl) | (apply a_dec_t; rfl; (· first | assumption | omega)) | (apply wo_st; rfl; rfl; rfl; (· (repeat (first | apply sel_here ))); (· (repeat (first | apply SetAt.here | apply SetAt.there))); rfl) | (apply Hd.run; rfl; rfl) | (apply Hd.skip; rfl; rfl; rfl; rfl) | (apply Hd.skipu; rfl; rfl; rfl) | (apply ah_gt; rfl; rfl; (· first | assumption | omega)) | (apply ah_gf; rfl; rfl; (· first | assumption | omega)) )))
      exact loop_end ⟨j + 1, rt, rfl, by omega, hnx.symm, rfl⟩ (by omega) (wk_mk (by (repeat (first | apply wkf_nil | (apply wkf_cons; rfl))); done) (by (repeat (first | apply sub_nil )); done) (by first | exact fun _ h => h | (intro r hr; cases hr; done) | (simp; done) | exact fun _ h => List.mem_append_left _ h | (intro r hr; simp [hr]; done)))
    · rw [if_neg (by omega)] at hnx
      (repeat (first | ((first | (apply wo_v; rfl) ); (· first | (apply pv_ev; rfl) )) | apply wo_nil | apply wc_seq | apply wc_region | apply wc_skip | (apply wc_true; rfl) | (apply wc_false; rfl) | (apply a_dec_t; rfl; (· first | assumption | omega)) ))
      refine wc_block ?_
      (repeat (first | ((first | (apply wo_v; rfl) ); (· first | (apply pv_ev; rfl) | (apply g_load; first | (apply pv_ld; rfl; (· (repeat (first | apply sel_there))); rfl) | (apply pv_ld_ownf; rfl; (· (repeat (first | fail ))); (· assumption); rfl) | (apply pv_ld_own1; rfl; (· (repeat (first | apply sel_there))); (· assumption)) | (apply pv_ld_rof; rfl; (· (first | assumption )); (· assumption); rfl) | (apply pv_ld_ro1; rfl; (· (first | assumption )); (· assumption)) ) | (apply g_idx; first | (apply pv_idx; rfl; rfl; omega) ) )) | apply wo_nil | apply wc_seq | apply wc_region ))
      (refine wc_quiet mixed (by kernel_rfl) ?_; (repeat (first | ((first | (apply wo_v; rfl) | (apply hd_v; rfl) ); (· first | (apply pv_ev; rfl) | (apply pv_fld; rfl) | (apply g_load; first | (apply pv_ld; rfl; (· (repeat (first | apply sel_here | apply sel_there))); rfl) ) | (apply g_pick; first | (apply pv_pick_t; rfl; rfl) | (apply pv_pick_f; rfl; rfl)) | (apply g_bin; first | (apply a_add; rfl; rfl; infer_instance; omega) ) )) | apply wo_nil | apply Hd.nil | apply wc_region | apply wc_skip | (apply wc_true; rfl) | (apply wc_false; rfl) | (apply a_dec_t; rfl; (· first | assumption | omega)) | (apply a_dec_f; rfl; (· first | assumption | omega)) | (apply Hd.run; rfl; rfl) | (apply Hd.skip; rfl; rfl; rfl; rfl) | (apply Hd.skipu; rfl; rfl; rfl) | (apply ah_gt; rfl; rfl; (· first | assumption | omega)) | (apply ah_gf; rfl; rfl; (· first | assumption | omega)) )))
      exact loop_end ⟨j + 1, r', rfl, by omega, hnx.symm, rfl⟩ (by omega) (wk_mk (by (repeat (first | apply wkf_nil | (apply wkf_cons; rfl))); done) (by (repeat (first | apply sub_nil )); done) (by first | exact fun _ h => h | (intro r hr; cases hr; done) | (simp; done) | exact fun _ h => List.mem_append_left _ h | (intro r hr; simp [hr]; done)))
  · have e : j = l.length := by omega
    subst e
    rw [List.take_length] at hr'
    subst hr'
    (repeat (first | ((first | (apply wo_v; rfl) ); (· first | (apply pv_ev; rfl) )) | apply wo_nil | apply wc_seq | apply wc_region | (apply wc_exit; rfl) | (apply wc_true; rfl) | (apply wc_false; rfl) | (apply a_dec_t; rfl; (· first | assumption | omega)) | (apply a_dec_f; rfl; (· first | assumption | omega)) ))
    exact ret0 rfl ⟨rfl, rfl, rfl⟩ ((by (repeat (first | apply sub_nil )); done) : List.Perm _ ([_] ++ _)) (by first | exact fun _ h => h | (intro r hr; cases hr; done) | (simp; done) | exact fun _ h => List.mem_append_left _ h | (intro r hr; simp [hr]; done))
def rdA (s : Int) (l : List Pkt) : Ak := l.foldl (stepA s) ⟨[], false, 0, false⟩
theorem rdA_take {s : Int} {l : List Pkt} {j : Nat} {p : Pkt} (h : l[j]? = some p) : rdA s (l.take (j + 1)) = stepA s (rdA s (l.take j)) p := by
  unfold rdA
  rw [List.take_add_one, h, List.foldl_append]; rfl
theorem stepA_len {s : Int} {a : Ak} {p : Pkt} {m : Nat} (h : p.ok m) : (stepA s a p).sq.length ≤ a.sq.length + 17 * m := by
  cases p with
  | nack fm to ps =>
    show (if to = s then ({ a with sq := a.sq ++ seqL ps } : Ak) else a).sq.length ≤ _
    have h1 := seqL_len ps
    have h2 : ps.length ≤ m := h.2.2.2
    by_cases h3 : to = s
    · rw [if_pos h3]; show (a.sq ++ seqL ps).length ≤ _; rw [List.length_append]; omega
    · rw [if_neg h3]; omega
  | _ => exact Nat.le_add_right _ _
abbrev sO' (ao : Option Addr) (n c : Nat) (xs : List (List Value)) : It := .own 47 1 ao n c xs
def tblN (b5 : Nat) (ao : Option Addr) (c' : Nat) (sq : List Int) (ky : Bool) (rt : Int) (gn : Bool) (sl : List Int) : Nat → List (List It) → Value → List (List It) → Prop := fun k Ls v Ms => match k, Ls with
  | 1, _ => v = .slice ao sq.length c' ∧ Ms = [[aO b5 (.slice ao sq.length c') ky rt gn]]
  | 3, _ => ∃ ao2 c2, v = .slice ao2 sl.length c2 ∧ Ms = [[sO ao2 sl.length c2 sl]]
  | 4, [_, y] => ∃ ao2 c2, v = .slice ao2 (sq.length + sl.length) c2 ∧ Ms = [[.own 47 1 ao2 (sq.length + sl.length) c2 (c16 sq ++ c16 sl)], y]
  | 6, [[.own T2 sz ao2 n2 c2 xs], _] => v = undef ∧ Ms = [[.own T2 sz ao2 n2 c2 xs], [aO b5 (.slice ao2 n2 c2) ky rt gn]]
  | _, _ => False
abbrev RdI (s : Int) (b4 b5 : Nat) (A : Option Addr) (n c : Nat) (j : Nat) (a : Ak) (ao : Option Addr) (c' : Nat) (R : List Ro) : St :=
  ⟨[(0, .int .u32 s), (4, .pointer (some ⟨b4, 0, none⟩)), (5, .pointer (some ⟨b5, 0, none⟩)), (17, .slice A n c), (18, .int .i64 n), (19, .int .i64 j)], [aO b4 (.slice none 0 0) false 0 false, aO b5 (.slice ao a.sq.length c') a.ky a.rt a.gn, sO ao a.sq.length c' a.sq], R⟩
set_option maxHeartbeats 64000000 in
theorem pRead (s : Int) (l : List Pkt) (vs : List Value) (A : Option Addr) (n c : Nat) (R : List Ro) (hS : SQ R 1 A n c (one1 vs)) (hP : PksV R l vs) (hl : l.length ≤ 1000) (hok : ∀ p ∈ l, p.ok 1000) :
    Fn Try.prog 14 #[.int .u32 s, .slice A n c] [] R (fun v L' R' => ∃ ao c', v = .agg #[.slice ao (rdA s l).sq.length c', .bool (rdA s l).ky, .int .u64 (rdA s l).rt, .bool (rdA s l).gn] ∧ L' = [sO ao (rdA s l).sq.length c' (rdA s l).sq] ∧ R' = []) := by
  have hn : n = l.length := by rw [← hS.len, one1_len, hP.1]
  subst hn
  refine fn_intro Try.func14 rfl Try.ntmps14 rfl (fun E => ?_)
  (repeat (first | ((first | (apply wo_v; rfl) ); (· first | (apply pv_ev; rfl) | (apply g_bi; first | (apply pv_len_sl; rfl) ) )) | apply wo_nil | apply wc_seq | apply wc_region | (apply wo_alloc; rfl; intro bx) ))
  rename_i b4
  obtain ⟨b5, hb5⟩ : ∃ g, g = bx := ⟨_, rfl⟩
  subst hb5
  refine wc_own0 47 1 ?_
  refine wc_join0 (fun st => ∃ ao c', st = ⟨[(4, .pointer (some ⟨b4, 0, none⟩)), (5, .pointer (some ⟨b5, 0, none⟩))], [aO b4 (.slice none 0 0) false 0 false, aO b5 (.slice ao (rdA s l).sq.length c') (rdA s l).ky (rdA s l).rt (rdA s l).gn, sO ao (rdA s l).sq.length c' (rdA s l).sq], R⟩) ?_ ?_
  · refine wc_block ?_
    refine wc_loop' (fun q st => ∃ (j : Nat) (a : Ak) (ao : Option Addr) (c' : Nat), q = l.length - j ∧ j ≤ l.length ∧ a = rdA s (l.take j) ∧ a.sq.length ≤ 17000 * j ∧ st = RdI s b4 b5 A l.length c j a ao c' R) ⟨0, ⟨[], false, 0, false⟩, none, 0, rfl, Nat.zero_le _, rfl, Nat.le_refl _, rfl⟩ (wk_mk (by (repeat (first | apply wkf_nil | (apply wkf_cons; rfl))); done) (by (repeat (first | apply sub_nil | (apply sub_cons; (· (repeat (first | apply sel_here | apply sel_there)))))); done) (by first | exact fun _ h => h | (intro r hr; cases hr; done) | (simp; done) | exact fun _ h => List.mem_append_left _ h | (intro r hr; simp [hr]; done))) ?_
    rintro q st ⟨j, a, ao, c', rfl, hj, ha, hal, rfl⟩
    by_cases hlt : j < l.length
    · obtain ⟨p, hp⟩ : ∃ p, l[j]? = some p := ⟨_, List.getElem?_eq_getElem hlt⟩
      obtain ⟨v, hv, hpv⟩ := hP.2 j p hp
      have hr := one1_at hv
      have hpo := hok p (List.mem_of_getElem? hp)
      have hnx := rdA_take (s := s) hp
      rw [← ha] at hnx
      have hnl := stepA_len (s := s) (a := a) hpo
      obtain ⟨a0, o0, rfl, hmem⟩ := hS.pos (by omega)
      obtain ⟨sq, ky, rt, gn⟩ := a
      have fin : ∀ (a2 : Ak) (ao2 : Option Addr) (c2 : Nat), a2 = stepA s ⟨sq, ky, rt, gn⟩ p → ∀ st', Wk st' (RdI s b4 b5 (some ⟨a0, o0, none⟩) l.length c (j + 1) a2 ao2 c2 R) →
          ∃ m' st'', m' < l.length - j ∧ Wk st' st'' ∧ (∃ (j : Nat) (a : Ak) (ao : Option Addr) (c' : Nat), m' = l.length - j ∧ j ≤ l.length ∧ a = rdA s (l.take j) ∧ a.sq.length ≤ 17000 * j ∧ st'' = RdI s b4 b5 (some ⟨a0, o0, none⟩) l.length c j a ao c' R) := fun a2 ao2 c2 h2 st' hw =>
        loop_end ⟨j + 1, a2, ao2, c2, rfl, by omega, by rw [h2, hnx], by rw [h2]; dsimp only at hal hnl; omega, rfl⟩ (by omega) hw
      dsimp only at hal
      dsimp only [RdI]
      have key := fun (a2 : Ak) (ao2 : Option Addr) (c2 : Nat) (h : a2 = stepA s ⟨sq, ky, rt, gn⟩ p) => fin a2 ao2 c2 h
      dsimp only [RdI] at key
      clear fin
      cases p with
      | other kd ct bd =>
        obtain rfl := hpv
        (repeat (first | ((first | (apply wo_v; rfl) ); (· first | (apply pv_ev; rfl) | (apply g_load; first | (apply pv_ld; rfl; (· (repeat (first | apply sel_there))); rfl) | (apply pv_ld_ownf; rfl; (· (repeat (first | fail ))); (· assumption); rfl) | (apply pv_ld_own1; rfl; (· (repeat (first | apply sel_there))); (· assumption)) | (apply pv_ld_rof; rfl; (· (first | assumption )); (· assumption); rfl) | (apply pv_ld_ro1; rfl; (· (first | assumption )); (· assumption)) ) | (apply g_bin; first | (apply a_add; rfl; rfl; infer_instance; omega) ) | (apply g_idx; first | (apply pv_idx; rfl; rfl; omega) ) | (apply pv_tas; rfl; infer_instance) )) | apply wo_nil | apply wc_seq | apply wc_region | apply wc_block | apply wc_skip | (apply wc_true; rfl) | (apply wc_false; rfl) | (apply a_dec_t; rfl; (· first | assumption | omega)) ))
        exact key ⟨sq, ky, rt, gn⟩ ao c' rfl _ (wk_mk (by (repeat (first | apply wkf_nil | (apply wkf_cons; rfl))); done) (by (repeat (first | apply sub_nil )); done) (by first | exact fun _ h => h | (intro r hr; cases hr; done) | (simp; done) | exact fun _ h => List.mem_append_left _ h | (intro r hr; simp [hr]; done)))
      | sender s1 s2 s3 s4 s5 bl =>
        obtain ⟨A1, n1, c1, rfl, hS1⟩ := hpv
        (repeat (first | ((first | (apply wo_v; rfl) ); (· first | (apply pv_ev; rfl) | (apply g_load; first | (apply pv_ld; rfl; (· (repeat (first | apply sel_there))); rfl) | (apply pv_ld_ownf; rfl; (· (repeat (first | fail ))); (· assumption); rfl) | (apply pv_ld_own1; rfl; (· (repeat (first | apply sel_there))); (· assumption)) | (apply pv_ld_rof; rfl; (· (first | assumption )); (· assumption); rfl) | (apply pv_ld_ro1; rfl; (· (first | assumption )); (· assumption)) ) | (apply g_bin; first | (apply a_add; rfl; rfl; infer_instance; omega) ) | (apply g_idx; first | (apply pv_idx; rfl; rfl; omega) ) | (apply pv_tas; rfl; infer_instance) )) | apply wo_nil | apply wc_seq | apply wc_region | apply wc_block | apply wc_skip | (apply wc_true; rfl) | (apply wc_false; rfl) | (apply a_dec_t; rfl; (· first | assumption | omega)) ))
        exact key ⟨sq, ky, rt, gn⟩ ao c' rfl _ (wk_mk (by (repeat (first | apply wkf_nil | (apply wkf_cons; rfl))); done) (by (repeat (first | apply sub_nil )); done) (by first | exact fun _ h => h | (intro r hr; cases hr; done) | (simp; done) | exact fun _ h => List.mem_append_left _ h | (intro r hr; simp [hr]; done)))
      | receiver s1 bl =>
        obtain ⟨A1, n1, c1, rfl, hS1⟩ := hpv
        (repeat (first | ((first | (apply wo_v; rfl) ); (· first | (apply pv_ev; rfl) | (apply g_load; first | (apply pv_ld; rfl; (· (repeat (first | apply sel_there))); rfl) | (apply pv_ld_ownf; rfl; (· (repeat (first | fail ))); (· assumption); rfl) | (apply pv_ld_own1; rfl; (· (repeat (first | apply sel_there))); (· assumption)) | (apply pv_ld_rof; rfl; (· (first | assumption )); (· assumption); rfl) | (apply pv_ld_ro1; rfl; (· (first | assumption )); (· assumption)) ) | (apply g_bin; first | (apply a_add; rfl; rfl; infer_instance; omega) ) | (apply g_idx; first | (apply pv_idx; rfl; rfl; omega) ) | (apply pv_tas; rfl; infer_instance) )) | apply wo_nil | apply wc_seq | apply wc_region | apply wc_block | apply wc_skip | (apply wc_true; rfl) | (apply wc_false; rfl) | (apply a_dec_t; rfl; (· first | assumption | omega)) ))
        exact key ⟨sq, ky, rt, gn⟩ ao c' rfl _ (wk_mk (by (repeat (first | apply wkf_nil | (apply wkf_cons; rfl))); done) (by (repeat (first | apply sub_nil )); done) (by first | exact fun _ h => h | (intro r hr; cases hr; done) | (simp; done) | exact fun _ h => List.mem_append_left _ h | (intro r hr; simp [hr]; done)))
      | sdes ch =>
        obtain ⟨A1, n1, c1, rows, rfl, hS1, hS2⟩ := hpv
        (repeat (first | ((first | (apply wo_v; rfl) ); (· first | (apply pv_ev; rfl) | (apply g_load; first | (apply pv_ld; rfl; (· (repeat (first | apply sel_there))); rfl) | (apply pv_ld_ownf; rfl; (· (repeat (first | fail ))); (· assumption); rfl) | (apply pv_ld_own1; rfl; (· (repeat (first | apply sel_there))); (· assumption)) | (apply pv_ld_rof; rfl; (· (first | assumption )); (· assumption); rfl) | (apply pv_ld_ro1; rfl; (· (first | assumption )); (· assumption)) ) | (apply g_bin; first | (apply a_add; rfl; rfl; infer_instance; omega) ) | (apply g_idx; first | (apply pv_idx; rfl; rfl; omega) ) | (apply pv_tas; rfl; infer_instance) )) | apply wo_nil | apply wc_seq | apply wc_region | apply wc_block | apply wc_skip | (apply wc_true; rfl) | (apply wc_false; rfl) | (apply a_dec_t; rfl; (· first | assumption | omega)) ))
        exact key ⟨sq, ky, rt, gn⟩ ao c' rfl _ (wk_mk (by (repeat (first | apply wkf_nil | (apply wkf_cons; rfl))); done) (by (repeat (first | apply sub_nil )); done) (by first | exact fun _ h => h | (intro r hr; cases hr; done) | (simp; done) | exact fun _ h => List.mem_append_left _ h | (intro r hr; simp [hr]; done)))
      | pli f0 to =>
        obtain rfl := hpv
        cases ky with
        | true =>
          (repeat (first | ((first | (apply wo_v; rfl) ); (· first | (apply pv_ev; rfl) | (apply pv_fld; rfl) | (apply g_load; first | (apply pv_ld; rfl; (· (repeat (first | apply sel_here | apply sel_there))); rfl) | (apply pv_ld_ownf; rfl; (· (repeat (first | fail ))); (· assumption); rfl) | (apply pv_ld_own1; rfl; (· (repeat (first | apply sel_there))); (· assumption)) | (apply pv_ld_rof; rfl; (· (first | assumption )); (· assumption); rfl) | (apply pv_ld_ro1; rfl; (· (first | assumption )); (· assumption)) ) | (apply g_pick; first | (apply pv_pick_t; rfl; rfl) ) | (apply g_bin; first | (apply a_add; rfl; rfl; infer_instance; omega) ) | (apply g_idx; first | (apply pv_idx; rfl; rfl; omega) ) | (apply pv_tas; rfl; infer_instance) )) | apply wo_nil | apply wc_seq | apply wc_region | apply wc_block | apply wc_skip | (apply wc_true; rfl) | (apply wc_false; rfl) | (apply a_dec_t; rfl; (· first | assumption | omega)) | (apply wo_run; rfl; rfl) | (apply wo_skip; rfl; rfl; rfl; rfl) | (apply wo_st; rfl; rfl; rfl; (· (repeat (first | apply sel_here | apply sel_there))); (· (repeat (first | apply SetAt.here | apply SetAt.there))); rfl) | (apply wo_alloc; rfl; intro bx) | (apply wo_sta; rfl; rfl; rfl; rfl; (· (repeat (first | apply sel_here ))); (· (repeat (first | apply LayAt.nil | apply LayAt.here ))); rfl) ))
          exact key ⟨sq, true, rt, gn⟩ ao c' rfl _ (wk_mk (by (repeat (first | apply wkf_nil | (apply wkf_cons; rfl))); done) (by (repeat (first | apply sub_nil | (apply sub_cons; (· (repeat (first | apply sel_here | apply sel_there)))))); done) (by first | exact fun _ h => h | (intro r hr; cases hr; done) | (simp; done) | exact fun _ h => List.mem_append_left _ h | (intro r hr; simp [hr]; done)))
        | false =>
          (repeat (first | ((first | (apply wo_v; rfl) ); (· first | (apply pv_ev; rfl) | (apply pv_fld; rfl) | (apply g_load; first | (apply pv_ld; rfl; (· (repeat (first | apply sel_here | apply sel_there))); rfl) | (apply pv_ld_ownf; rfl; (· (repeat (first | fail ))); (· assumption); rfl) | (apply pv_ld_own1; rfl; (· (repeat (first | apply sel_there))); (· assumption)) | (apply pv_ld_rof; rfl; (· (first | assumption )); (· assumption); rfl) | (apply pv_ld_ro1; rfl; (· (first | assumption )); (· assumption)) ) | (apply g_pick; first | (apply pv_pick_t; rfl; rfl) | (apply pv_pick_f; rfl; rfl)) | (apply g_bin; first | (apply a_add; rfl; rfl; infer_instance; omega) ) | (apply g_idx; first | (apply pv_idx; rfl; rfl; omega) ) | (apply pv_tas; rfl; infer_instance) )) | apply wo_nil | apply wc_seq | apply wc_region | apply wc_block | apply wc_skip | (apply wc_true; rfl) | (apply wc_false; rfl) | (apply a_dec_t; rfl; (· first | assumption | omega)) | (apply wo_run; rfl; rfl) | (apply wo_st; rfl; rfl; rfl; (· (repeat (first | apply sel_here | apply sel_there))); (· (repeat (first | apply SetAt.here | apply SetAt.there))); rfl) | (apply wo_alloc; rfl; intro bx) | (apply wo_sta; rfl; rfl; rfl; rfl; (· (repeat (first | apply sel_here ))); (· (repeat (first | apply LayAt.nil | apply LayAt.here ))); rfl) ))
          exact key ⟨sq, decide (to = s), rt, gn⟩ ao c' rfl _ (wk_mk (by (repeat (first | apply wkf_nil | (apply wkf_cons; rfl))); done) (by (repeat (first | apply sub_nil | (apply sub_cons; (· (repeat (first | apply sel_here | apply sel_there)))))); done) (by first | exact fun _ h => h | (intro r hr; cases hr; done) | (simp; done) | exact fun _ h => List.mem_append_left _ h | (intro r hr; simp [hr]; done)))
      | remb f0 r1 ss =>
        obtain ⟨A1, n1, c1, rfl, hS1⟩ := hpv
        have hq := pRate b5 (.slice ao sq.length c') rfl ky rt gn s f0 r1 ss A1 n1 c1 R hS1 (by have := hpo.2.2.2; omega) hpo.2.1.1
        (repeat (first | ((first | (apply wo_v; rfl) ); (· first | (apply pv_ev; rfl) | (apply g_load; first | (apply pv_ld; rfl; (· (repeat (first | apply sel_there))); rfl) | (apply pv_lda; rfl; (· (repeat (first | apply sel_here ))); (· (repeat (first | apply Cut.here0 | apply Cut.here )))) | (apply pv_ld_ownf; rfl; (· (repeat (first | fail ))); (· assumption); rfl) | (apply pv_ld_own1; rfl; (· (repeat (first | apply sel_there))); (· assumption)) | (apply pv_ld_rof; rfl; (· (first | assumption )); (· assumption); rfl) | (apply pv_ld_ro1; rfl; (· (first | assumption )); (· assumption)) ) | (apply g_idx; first | (apply pv_idx; rfl; rfl; omega) ) | (apply pv_tas; rfl; infer_instance) )) | apply wo_nil | apply wc_seq | apply wc_region | apply wc_block | apply wc_skip | (apply wc_true; rfl) | (apply wc_false; rfl) | (apply a_dec_t; rfl; (· first | assumption | omega)) | (apply wo_alloc; rfl; intro bx) | (apply wo_sta; rfl; rfl; rfl; rfl; (· (repeat (first | apply sel_here ))); (· (repeat (first | apply LayAt.nil | apply LayAt.here ))); rfl) ))
        (refine wo_call (hq) rfl (by (repeat (first | apply sub_nil | (apply sub_cons; (· (repeat (first | apply sel_here | apply sel_there)))))); done) (by first | exact fun _ h => h | (intro r hr; cases hr; done) | (simp; done) | exact fun _ h => List.mem_append_left _ h | (intro r hr; simp [hr]; done)) rfl ?_; rintro v L' R' ⟨rfl, rfl, rfl⟩ H' hH RR hR; simp only [List.cons_append, List.nil_append] at hH hR; subst hH; have hR := hR.symm; subst hR)
        (repeat (first | ((first | (apply wo_v; rfl) ); (· first | (apply pv_ev; rfl) | (apply g_bin; first | (apply a_add; rfl; rfl; infer_instance; omega) ) )) | apply wo_nil | apply wc_region ))
        exact key ⟨sq, ky, rtM s r1 ss rt, gn⟩ ao c' rfl _ (wk_mk (by (repeat (first | apply wkf_nil | (apply wkf_cons; rfl))); done) (by (repeat (first | apply sub_nil | (apply sub_cons; (· (repeat (first | apply sel_here | apply sel_there)))))); done) (by first | exact fun _ h => h | (intro r hr; cases hr; done) | (simp; done) | exact fun _ h => List.mem_append_left _ h | (intro r hr; simp [hr]; done)))
      | nack f0 to ps =>
        obtain ⟨A1, n1, c1, rfl, hS1⟩ := hpv
        by_cases hto : to = s
        · have hq := nSeqs f0 to ps A1 n1 c1 R hS1 (by have := hpo.2.2.2; omega) hpo.2.2.1
          have hsl := seqL_len ps
          have hpl : ps.length ≤ 1000 := hpo.2.2.2
          have hstep : stepA s ⟨sq, ky, rt, gn⟩ (.nack f0 to ps) = ⟨sq ++ seqL ps, ky, rt, gn⟩ := by unfold stepA; simp only; rw [if_pos hto]
          (repeat (first | ((first | (apply wo_v; rfl) ); (· first | (apply pv_ev; rfl) | (apply pv_fld; rfl) | (apply g_load; first | (apply pv_ld; rfl; (· (repeat (first | apply sel_here | apply sel_there))); rfl) | (apply pv_ld_ownf; rfl; (· (repeat (first | fail ))); (· assumption); rfl) | (apply pv_ld_own1; rfl; (· (repeat (first | apply sel_there))); (· assumption)) | (apply pv_ld_rof; rfl; (· (first | assumption )); (· assumption); rfl) | (apply pv_ld_ro1; rfl; (· (first | assumption )); (· assumption)) ) | (apply g_idx; first | (apply pv_idx; rfl; rfl; omega) ) | (apply pv_tas; rfl; infer_instance) )) | apply wo_nil | apply wc_seq | apply wc_region | apply wc_block | apply wc_skip | (apply wc_true; rfl) | (apply wc_false; rfl) | (apply a_dec_t; rfl; (· first | assumption | omega)) | (apply wo_alloc; rfl; intro bx) | (apply wo_sta; rfl; rfl; rfl; rfl; (· (repeat (first | apply sel_here ))); (· (repeat (first | apply LayAt.nil | apply LayAt.here ))); rfl) ))
          generalize hsq : seqL ps = sl at hq hsl hstep
          (refine wc_regM [0, 1, 2] (aslL [(1, [0]), (3, [2]), (4, [1, 2]), (6, [1, 0])]) (tblN b5 ao c' sq ky rt gn sl) ([nkO bx f0 to (.slice A1 n1 c1), aO b4 (.slice none 0 0) false 0 false]) (fm [(0, [aO b5 (.slice ao sq.length c') ky rt gn]), (1, [sO ao sq.length c' sq]), (2, [])]) mixed (by kernel_rfl) (by kernel_rfl) (by decide) (aslL_ok (by decide)) (by (repeat (first | (apply prm_cons; (· (repeat (first | apply sel_here )))) | apply List.Perm.nil )); done) ?_; (repeat (first | (apply HdM.val; rfl; rfl; (· first | apply gok_none ); (· first | (apply pv_ev; rfl) | (apply pv_fld; rfl) )) )))
          (refine hm_eff (cs := [0]) rfl (by decide) rfl rfl (by first | exact gok_none | exact gok_run rfl rfl) (fun a ha => outc_mono (outc_ld (L := [aO b5 (.slice ao sq.length c') ky rt gn]) (pv_ld rfl (by (repeat (first | apply sel_here )); done) rfl) a ha) (fun v M h => ⟨[M], And.intro h.1 (congrArg (fun x => [x]) h.2), rfl, by simp⟩)) (⟨_, _, And.intro rfl rfl, rfl⟩) ?_; rintro v Ms ⟨rfl, rfl⟩ _; simp only [setls, setl, reduceIte, Nat.reduceEqDiff]; (repeat (first | (apply HdM.val; rfl; rfl; (· first | apply gok_none ); (· first | (apply pv_ev; rfl) | (apply g_load; first | (apply pv_lda; rfl; (· (repeat (first | apply sel_here ))); (· (repeat (first | apply Cut.here0 | apply Cut.here )))) ) )) )))
          (refine hm_eff (cs := [2]) rfl (by decide) rfl rfl (by first | exact gok_none | exact gok_run rfl rfl) (fun a ha => outc_mono (outc_call (F1 := _) (T := fun v M => ∃ ao2 c2, v = .slice ao2 sl.length c2 ∧ M = [sO ao2 sl.length c2 sl]) hq rfl (by (repeat (first | apply sub_nil )); done) (by first | exact fun _ h => h | (intro r hr; cases hr; done) | (simp; done) | exact fun _ h => List.mem_append_left _ h | (intro r hr; simp [hr]; done)) (by rintro v L' R' ⟨ao2, c2, rfl, rfl, _⟩; exact ⟨_, ⟨ao2, c2, rfl, rfl⟩, (by (repeat (first | (apply prm_cons; (· (repeat (first | apply sel_here )))) | apply List.Perm.nil )); done)⟩) a ha) (fun v M h => by obtain ⟨ao2, c2, h1, h2⟩ := h; exact ⟨[M], ⟨ao2, c2, h1, congrArg (fun x => [x]) h2⟩, rfl, by simp⟩)) (⟨_, _, ⟨none, 0, rfl, rfl⟩, rfl⟩) ?_; rintro v Ms ⟨ao2, c2, rfl, rfl⟩ _; simp only [setls, setl, reduceIte, Nat.reduceEqDiff]; (repeat (first | (apply HdM.val; rfl; rfl; (· first | fail ); (· first | fail )) )))
          (refine hm_eff (cs := [1, 2]) rfl (by decide) rfl rfl (by first | exact gok_none | exact gok_run rfl rfl) (fun a ha => outc_mono (outc_app_g rfl rfl (by unfold maxLen; omega) (by omega) a ha) (fun v M h => by obtain ⟨b, c, h1, h2⟩ := h; exact ⟨[[_], [_]], ⟨b, c, h1, rfl⟩, rfl, h2⟩)) (⟨_, _, ⟨none, 0, rfl, rfl⟩, rfl⟩) ?_; rintro v Ms ⟨ao3, c3, rfl, rfl⟩ _; simp only [setls, setl, reduceIte, Nat.reduceEqDiff]; (repeat (first | (apply HdM.val; rfl; rfl; (· first | apply gok_none ); (· first | (apply pv_ev; rfl) | (apply pv_fld; rfl) )) )))
          (refine hm_eff (cs := [1, 0]) rfl (by decide) rfl rfl (by first | exact gok_none | exact gok_run rfl rfl) (fun a ha => outc_mono (outc_frA (X := [sO' ao3 (sq.length + sl.length) c3 (c16 sq ++ c16 sl)]) (L := [aO b5 (.slice ao sq.length c') ky rt gn]) (outc_st rfl rfl rfl (by (repeat (first | apply SetAt.here )); done)) a ha) (fun v M h => by obtain ⟨M0, ⟨h1, h2⟩, h3⟩ := h; exact ⟨[[_], [_]], ⟨h1, rfl⟩, rfl, by rw [h3, h2]; rfl⟩)) (⟨_, _, ⟨rfl, rfl⟩, rfl⟩) ?_; rintro v Ms ⟨rfl, rfl⟩ _; simp only [setls, setl, reduceIte, Nat.reduceEqDiff]; (repeat (first | fail )))
          (refine HdM.nil ?_; intro H hH; simp only [Hp, fm, look, setl, List.flatMap_cons, List.flatMap_nil, reduceIte, Nat.reduceEqDiff, Option.getD_some, List.append_nil, List.cons_append, List.nil_append] at hH; subst hH)
          (repeat (first | ((first | (apply wo_v; rfl) ); (· first | (apply pv_ev; rfl) | (apply g_bin; first | (apply a_add; rfl; rfl; infer_instance; omega) ) )) | apply wo_nil | apply wc_region ))
          have e2 : c16 sq ++ c16 sl = c16 (sq ++ sl) := (c16_app sq sl).symm
          have e3 : sq.length + sl.length = (sq ++ sl).length := (List.length_append).symm
          rw [e2, e3]
          exact key ⟨sq ++ sl, ky, rt, gn⟩ ao3 c3 hstep.symm _ (wk_mk (by (repeat (first | apply wkf_nil | (apply wkf_cons; rfl))); done) (by (repeat (first | apply sub_nil | (apply sub_cons; (· (repeat (first | apply sel_here | apply sel_there)))))); done) (by first | exact fun _ h => h | (intro r hr; cases hr; done) | (simp; done) | exact fun _ h => List.mem_append_left _ h | (intro r hr; simp [hr]; done)))
        · have hstep : stepA s ⟨sq, ky, rt, gn⟩ (.nack f0 to ps) = ⟨sq, ky, rt, gn⟩ := by unfold stepA; simp only; rw [if_neg hto]
          (repeat (first | ((first | (apply wo_v; rfl) ); (· first | (apply pv_ev; rfl) | (apply pv_fld; rfl) | (apply g_load; first | (apply pv_ld; rfl; (· (repeat (first | apply sel_here | apply sel_there))); rfl) | (apply pv_ld_ownf; rfl; (· (repeat (first | fail ))); (· assumption); rfl) | (apply pv_ld_own1; rfl; (· (repeat (first | apply sel_there))); (· assumption)) | (apply pv_ld_rof; rfl; (· (first | assumption )); (· assumption); rfl) | (apply pv_ld_ro1; rfl; (· (first | assumption )); (· assumption)) ) | (apply g_bin; first | (apply a_add; rfl; rfl; infer_instance; omega) ) | (apply g_idx; first | (apply pv_idx; rfl; rfl; omega) ) | (apply pv_tas; rfl; infer_instance) )) | apply wo_nil | apply wc_seq | apply wc_region | apply wc_block | apply wc_skip | (apply wc_true; rfl) | (apply wc_false; rfl) | (apply a_dec_t; rfl; (· first | assumption | omega)) | (apply a_dec_f; rfl; (· first | assumption | omega)) | (apply wo_alloc; rfl; intro bx) | (apply wo_sta; rfl; rfl; rfl; rfl; (· (repeat (first | apply sel_here ))); (· (repeat (first | apply LayAt.nil | apply LayAt.here ))); rfl) ))
          exact key ⟨sq, ky, rt, gn⟩ ao c' hstep.symm _ (wk_mk (by (repeat (first | apply wkf_nil | (apply wkf_cons; rfl))); done) (by (repeat (first | apply sub_nil | (apply sub_cons; (· (repeat (first | apply sel_here | apply sel_there)))))); done) (by first | exact fun _ h => h | (intro r hr; cases hr; done) | (simp; done) | exact fun _ h => List.mem_append_left _ h | (intro r hr; simp [hr]; done)))
      | fir f0 os =>
        obtain ⟨A1, n1, c1, rfl, hS1⟩ := hpv
        have hn1 : n1 = os.length := by rw [← hS1.len, ordV_len]
        subst hn1
        have hpl : os.length ≤ 1000 := hpo.2.2
        (repeat (first | ((first | (apply wo_v; rfl) ); (· first | (apply pv_ev; rfl) | (apply pv_fld; rfl) | (apply g_load; first | (apply pv_ld; rfl; (· (repeat (first | apply sel_here | apply sel_there))); rfl) | (apply pv_ld_ownf; rfl; (· (repeat (first | fail ))); (· assumption); rfl) | (apply pv_ld_own1; rfl; (· (repeat (first | apply sel_there))); (· assumption)) | (apply pv_ld_rof; rfl; (· (first | assumption )); (· assumption); rfl) | (apply pv_ld_ro1; rfl; (· (first | assumption )); (· assumption)) ) | (apply g_bi; first | (apply pv_len_sl; rfl) ) | (apply g_idx; first | (apply pv_idx; rfl; rfl; omega) ) | (apply pv_tas; rfl; infer_instance) )) | apply wo_nil | apply wc_seq | apply wc_region | apply wc_block | apply wc_skip | (apply wc_true; rfl) | (apply wc_false; rfl) | (apply a_dec_t; rfl; (· first | assumption | omega)) | (apply wo_alloc; rfl; intro bx) | (apply wo_sta; rfl; rfl; rfl; rfl; (· (repeat (first | apply sel_here ))); (· (repeat (first | apply LayAt.nil | apply LayAt.here ))); rfl) ))
        refine wc_loop' (fun q st => ∃ (j2 : Nat) (k2 : Bool), q = os.length - j2 ∧ j2 ≤ os.length ∧ k2 = (ky || (os.take j2).any fun o => decide (o.1 = s)) ∧ st = ⟨[(0, .int .u32 s), (4, .pointer (some ⟨b4, 0, none⟩)), (5, .pointer (some ⟨b5, 0, none⟩)), (17, .slice (some ⟨a0, o0, none⟩) l.length c), (18, .int .i64 l.length), (19, .int .i64 j), (53, .slice A1 os.length c1), (54, .int .i64 os.length), (55, .int .i64 j2)], [aO b4 (.slice none 0 0) false 0 false, aO b5 (.slice ao sq.length c') k2 rt gn, sO ao sq.length c' sq], R⟩) ⟨0, ky, rfl, Nat.zero_le _, by simp, rfl⟩ (wk_mk (by (repeat (first | apply wkf_nil | (apply wkf_cons; rfl))); done) (by (repeat (first | apply sub_nil | (apply sub_cons; (· (repeat (first | apply sel_here | apply sel_there)))))); done) (by first | exact fun _ h => h | (intro r hr; cases hr; done) | (simp; done) | exact fun _ h => List.mem_append_left _ h | (intro r hr; simp [hr]; done))) ?_
        rintro q st ⟨j2, k2, rfl, hj2, hk2, rfl⟩
        by_cases hlt2 : j2 < os.length
        · obtain ⟨o, ho⟩ : ∃ o, os[j2]? = some o := ⟨_, List.getElem?_eq_getElem hlt2⟩
          have hr2 := ordV_at ho
          have hk3 := any_take (f := fun o => decide (o.1 = s)) ho
          obtain ⟨a1, o1, rfl, hmem1⟩ := hS1.pos (by omega)
          cases k2 with
          | true =>
            (repeat (first | ((first | (apply wo_v; rfl) ); (· first | (apply pv_ev; rfl) | (apply pv_fld; rfl) | (apply g_load; first | (apply pv_ld; rfl; (· (repeat (first | apply sel_here | apply sel_there))); rfl) | (apply pv_lda; rfl; (· (repeat (first | apply sel_there))); (· (repeat (first | fail )))) | (apply pv_ld_owna; rfl; (· (repeat (first | apply sel_there))); (· assumption)) | (apply pv_ld_roa; rfl; (· (first | assumption )); (· assumption))) | (apply g_pick; first | (apply pv_pick_t; rfl; rfl) ) | (apply g_bin; first | (apply a_add; rfl; rfl; infer_instance; omega) ) | (apply g_idx; first | (apply pv_idx; rfl; rfl; omega) ) )) | apply wo_nil | apply wc_seq | apply wc_region | apply wc_block | apply wc_skip | (apply wc_true; rfl) | (apply wc_false; rfl) | (apply a_dec_t; rfl; (· first | assumption | omega)) | (apply wo_run; rfl; rfl) | (apply wo_skip; rfl; rfl; rfl; rfl) | (apply wo_st; rfl; rfl; rfl; (· (repeat (first | apply sel_here | apply sel_there))); (· (repeat (first | apply SetAt.here | apply SetAt.there))); rfl) | (apply wo_alloc; rfl; intro bx) | (apply wo_sta; rfl; rfl; rfl; rfl; (· (repeat (first | apply sel_here ))); (· (repeat (first | apply LayAt.nil | apply LayAt.here ))); rfl) ))
            exact loop_end ⟨j2 + 1, true, rfl, by omega, by rw [hk3, ← Bool.or_assoc, ← hk2]; rfl, rfl⟩ (by omega) (wk_mk (by (repeat (first | apply wkf_nil | (apply wkf_cons; rfl))); done) (by (repeat (first | apply sub_nil | (apply sub_cons; (· (repeat (first | apply sel_here | apply sel_there)))))); done) (by first | exact fun _ h => h | (intro r hr; cases hr; done) | (simp; done) | exact fun _ h => List.mem_append_left _ h | (intro r hr; simp [hr]; done)))
          | false =>
            (repeat (first | ((first | (apply wo_v; rfl) ); (· first | (apply pv_ev; rfl) | (apply pv_fld; rfl) | (apply g_load; first | (apply pv_ld; rfl; (· (repeat (first | apply sel_here | apply sel_there))); rfl) | (apply pv_lda; rfl; (· (repeat (first | apply sel_there))); (· (repeat (first | fail )))) | (apply pv_ld_owna; rfl; (· (repeat (first | apply sel_there))); (· assumption)) | (apply pv_ld_roa; rfl; (· (first | assumption )); (· assumption))) | (apply g_pick; first | (apply pv_pick_t; rfl; rfl) | (apply pv_pick_f; rfl; rfl)) | (apply g_bin; first | (apply a_add; rfl; rfl; infer_instance; omega) ) | (apply g_idx; first | (apply pv_idx; rfl; rfl; omega) ) )) | apply wo_nil | apply wc_seq | apply wc_region | apply wc_block | apply wc_skip | (apply wc_true; rfl) | (apply wc_false; rfl) | (apply a_dec_t; rfl; (· first | assumption | omega)) | (apply wo_run; rfl; rfl) | (apply wo_st; rfl; rfl; rfl; (· (repeat (first | apply sel_here | apply sel_there))); (· (repeat (first | apply SetAt.here | apply SetAt.there))); rfl) | (apply wo_alloc; rfl; intro bx) | (apply wo_sta; rfl; rfl; rfl; rfl; (· (repeat (first | apply sel_here ))); (· (repeat (first | apply LayAt.nil | apply LayAt.here ))); rfl) ))
            exact loop_end ⟨j2 + 1, decide (o.1 = s), rfl, by omega, by rw [hk3, ← Bool.or_assoc, ← hk2]; rfl, rfl⟩ (by omega) (wk_mk (by (repeat (first | apply wkf_nil | (apply wkf_cons; rfl))); done) (by (repeat (first | apply sub_nil | (apply sub_cons; (· (repeat (first | apply sel_here | apply sel_there)))))); done) (by first | exact fun _ h => h | (intro r hr; cases hr; done) | (simp; done) | exact fun _ h => List.mem_append_left _ h | (intro r hr; simp [hr]; done)))
        · have e : j2 = os.length := by omega
          subst e
          rw [List.take_length] at hk2
          (repeat (first | ((first | (apply wo_v; rfl) ); (· first | (apply pv_ev; rfl) | (apply g_bin; first | (apply a_add; rfl; rfl; infer_instance; omega) ) )) | apply wo_nil | apply wc_seq | apply wc_region | (apply wc_exit; rfl) | (apply wc_true; rfl) | (apply wc_false; rfl) | (apply a_dec_t; rfl; (· first | assumption | omega)) | (apply a_dec_f; rfl; (· first | assumption | omega)) ))
          exact key ⟨sq, k2, rt, gn⟩ ao c' (by rw [hk2]; rfl) _ (wk_mk (by (repeat (first | apply wkf_nil | (apply wkf_cons; rfl))); done) (by (repeat (first | apply sub_nil )); done) (by first | exact fun _ h => h | (intro r hr; cases hr; done) | (simp; done) | exact fun _ h => List.mem_append_left _ h | (intro r hr; simp [hr]; done)))
      | bye ss rs =>
        obtain ⟨A1, n1, c1, rfl, hS1⟩ := hpv
        have hn1 : n1 = ss.length := by rw [← hS1.len, c32_len]
        subst hn1
        have hpl : ss.length ≤ 1000 := hpo.2.1
        (repeat (first | ((first | (apply wo_v; rfl) ); (· first | (apply pv_ev; rfl) | (apply pv_fld; rfl) | (apply g_load; first | (apply pv_ld; rfl; (· (repeat (first | apply sel_here | apply sel_there))); rfl) | (apply pv_ld_ownf; rfl; (· (repeat (first | fail ))); (· assumption); rfl) | (apply pv_ld_own1; rfl; (· (repeat (first | apply sel_there))); (· assumption)) | (apply pv_ld_rof; rfl; (· (first | assumption )); (· assumption); rfl) | (apply pv_ld_ro1; rfl; (· (first | assumption )); (· assumption)) ) | (apply g_bi; first | (apply pv_len_sl; rfl) ) | (apply g_idx; first | (apply pv_idx; rfl; rfl; omega) ) | (apply pv_tas; rfl; infer_instance) )) | apply wo_nil | apply wc_seq | apply wc_region | apply wc_block | apply wc_skip | (apply wc_true; rfl) | (apply wc_false; rfl) | (apply a_dec_t; rfl; (· first | assumption | omega)) | (apply wo_alloc; rfl; intro bx) | (apply wo_sta; rfl; rfl; rfl; rfl; (· (repeat (first | apply sel_here ))); (· (repeat (first | apply LayAt.nil | apply LayAt.here ))); rfl) ))
        refine wc_loop' (fun q st => ∃ (j2 : Nat) (k2 : Bool), q = ss.length - j2 ∧ j2 ≤ ss.length ∧ k2 = (gn || (ss.take j2).any fun o => decide (o = s)) ∧ st = ⟨[(0, .int .u32 s), (4, .pointer (some ⟨b4, 0, none⟩)), (5, .pointer (some ⟨b5, 0, none⟩)), (17, .slice (some ⟨a0, o0, none⟩) l.length c), (18, .int .i64 l.length), (19, .int .i64 j), (79, .slice A1 ss.length c1), (80, .int .i64 ss.length), (81, .int .i64 j2)], [aO b4 (.slice none 0 0) false 0 false, aO b5 (.slice ao sq.length c') ky rt k2, sO ao sq.length c' sq], R⟩) ⟨0, gn, rfl, Nat.zero_le _, by simp, rfl⟩ (wk_mk (by (repeat (first | apply wkf_nil | (apply wkf_cons; rfl))); done) (by (repeat (first | apply sub_nil | (apply sub_cons; (· (repeat (first | apply sel_here | apply sel_there)))))); done) (by first | exact fun _ h => h | (intro r hr; cases hr; done) | (simp; done) | exact fun _ h => List.mem_append_left _ h | (intro r hr; simp [hr]; done))) ?_
        rintro q st ⟨j2, k2, rfl, hj2, hk2, rfl⟩
        by_cases hlt2 : j2 < ss.length
        · obtain ⟨o, ho⟩ : ∃ o, ss[j2]? = some o := ⟨_, List.getElem?_eq_getElem hlt2⟩
          have hr2 := c32_at ho
          have hk3 := any_take (f := fun o => decide (o = s)) ho
          obtain ⟨a1, o1, rfl, hmem1⟩ := hS1.pos (by omega)
          cases k2 with
          | true =>
            (repeat (first | ((first | (apply wo_v; rfl) ); (· first | (apply pv_ev; rfl) | (apply pv_fld; rfl) | (apply g_load; first | (apply pv_ld; rfl; (· (repeat (first | apply sel_here | apply sel_there))); rfl) | (apply pv_ld_ownf; rfl; (· (repeat (first | fail ))); (· assumption); rfl) | (apply pv_ld_own1; rfl; (· (repeat (first | apply sel_there))); (· assumption)) | (apply pv_ld_rof; rfl; (· (first | assumption )); (· assumption); rfl) | (apply pv_ld_ro1; rfl; (· (first | assumption )); (· assumption)) ) | (apply g_pick; first | (apply pv_pick_t; rfl; rfl) ) | (apply g_bin; first | (apply a_add; rfl; rfl; infer_instance; omega) ) | (apply g_idx; first | (apply pv_idx; rfl; rfl; omega) ) )) | apply wo_nil | apply wc_seq | apply wc_region | apply wc_block | apply wc_skip | (apply wc_true; rfl) | (apply wc_false; rfl) | (apply a_dec_t; rfl; (· first | assumption | omega)) | (apply wo_run; rfl; rfl) | (apply wo_skip; rfl; rfl; rfl; rfl) | (apply wo_st; rfl; rfl; rfl; (· (repeat (first | apply sel_here | apply sel_there))); (· (repeat (first | apply SetAt.here | apply SetAt.there))); rfl) ))
            exact loop_end ⟨j2 + 1, true, rfl, by omega, by rw [hk3, ← Bool.or_assoc, ← hk2]; rfl, rfl⟩ (by omega) (wk_mk (by (repeat (first | apply wkf_nil | (apply wkf_cons; rfl))); done) (by (repeat (first | apply sub_nil | (apply sub_cons; (· (repeat (first | apply sel_here | apply sel_there)))))); done) (by first | exact fun _ h => h | (intro r hr; cases hr; done) | (simp; done) | exact fun _ h => List.mem_append_left _ h | (intro r hr; simp [hr]; done)))
          | false =>
            (repeat (first | ((first | (apply wo_v; rfl) ); (· first | (apply pv_ev; rfl) | (apply pv_fld; rfl) | (apply g_load; first | (apply pv_ld; rfl; (· (repeat (first | apply sel_here | apply sel_there))); rfl) | (apply pv_ld_ownf; rfl; (· (repeat (first | fail ))); (· assumption); rfl) | (apply pv_ld_own1; rfl; (· (repeat (first | apply sel_there))); (· assumption)) | (apply pv_ld_rof; rfl; (· (first | assumption )); (· assumption); rfl) | (apply pv_ld_ro1; rfl; (· (first | assumption )); (· assumption)) ) | (apply g_pick; first | (apply pv_pick_t; rfl; rfl) | (apply pv_pick_f; rfl; rfl)) | (apply g_bin; first | (apply a_add; rfl; rfl; infer_instance; omega) ) | (apply g_idx; first | (apply pv_idx; rfl; rfl; omega) ) )) | apply wo_nil | apply wc_seq | apply wc_region | apply wc_block | apply wc_skip | (apply wc_true; rfl) | (apply wc_false; rfl) | (apply a_dec_t; rfl; (· first | assumption | omega)) | (apply wo_run; rfl; rfl) | (apply wo_st; rfl; rfl; rfl; (· (repeat (first | apply sel_here | apply sel_there))); (· (repeat (first | apply SetAt.here | apply SetAt.there))); rfl) ))
            exact loop_end ⟨j2 + 1, decide (o = s), rfl, by omega, by rw [hk3, ← Bool.or_assoc, ← hk2]; rfl, rfl⟩ (by omega) (wk_mk (by (repeat (first | apply wkf_nil | (apply wkf_cons; rfl))); done) (by (repeat (first | apply sub_nil | (apply sub_cons; (· (repeat (first | apply sel_here | apply sel_there)))))); done) (by first | exact fun _ h => h | (intro r hr; cases hr; done) | (simp; done) | exact fun _ h => List.mem_append_left _ h | (intro r hr; simp [hr]; done)))
        · have e : j2 = ss.length := by omega
          subst e
          rw [List.take_length] at hk2
          (repeat (first | ((first | (apply wo_v; rfl) ); (· first | (apply pv_ev; rfl) | (apply g_bin; first | (apply a_add; rfl; rfl; infer_instance; omega) ) )) | apply wo_nil | apply wc_seq | apply wc_region | (apply wc_exit; rfl) | (apply wc_true; rfl) | (apply wc_false; rfl) | (apply a_dec_t; rfl; (· first | assumption | omega)) | (apply a_dec_f; rfl; (· first | assumption | omega)) ))
          exact key ⟨sq, ky, rt, k2⟩ ao c' (by rw [hk2]; rfl) _ (wk_mk (by (repeat (first | apply wkf_nil | (apply wkf_cons; rfl))); done) (by (repeat (first | apply sub_nil )); done) (by first | exact fun _ h => h | (intro r hr; cases hr; done) | (simp; done) | exact fun _ h => List.mem_append_left _ h | (intro r hr; simp [hr]; done)))
    · have e : j = l.length := by omega
      subst e
      rw [List.take_length] at ha
      subst ha
      (repeat (first | ((first | (apply wo_v; rfl) ); (· first | (apply pv_ev; rfl) )) | apply wo_nil | apply wc_seq | apply wc_region | (apply wc_exit; rfl) | (apply wc_true; rfl) | (apply wc_false; rfl) | (apply a_dec_t; rfl; (· first | assumption | omega)) | (apply a_dec_f; rfl; (· first | assumption | omega)) ))
      exact cut_end ⟨ao, c', rfl⟩ (wk_mk (by (repeat (first | apply wkf_nil | (apply wkf_cons; rfl))); done) (by (repeat (first | apply sub_nil )); done) (by first | exact fun _ h => h | (intro r hr; cases hr; done) | (simp; done) | exact fun _ h => List.mem_append_left _ h | (intro r hr; simp [hr]; done)))
  rintro st ⟨ao, c', rfl⟩
  generalize rdA s l = a
  obtain ⟨sq, ky, rt, gn⟩ := a
  (repeat (first | ((first | (apply wo_v; rfl) ); (· first | (apply pv_ev; rfl) | (apply g_load; first | (apply pv_lda; rfl; (· (repeat (first | apply sel_here | apply sel_there))); (· (repeat (first | apply Cut.here0 | apply Cut.here )))) ) )) | apply wo_nil | apply wc_seq | apply wc_region | apply wc_ret | (apply wo_sta; rfl; rfl; rfl; rfl; (· (repeat (first | apply sel_here ))); (· (repeat (first | apply LayAt.nil | apply LayAt.here ))); rfl) ))
  exact retv rfl (by (repeat (first | apply RV.nil | (apply RV.agg; rfl; (· (repeat (first | apply sel_here ))); infer_instance; (· (repeat (first | apply Cut.here0 | apply Cut.here )))) )); done) (⟨ao, c', rfl, rfl, rfl⟩) (by (repeat (first | apply sub_nil | (apply sub_cons; (· (repeat (first | apply sel_here | apply sel_there)))))); done) (by first | exact fun _ h => h | (intro r hr; cases hr; done) | (simp; done) | exact fun _ h => List.mem_append_left _ h | (intro r hr; simp [hr]; done))
end Go.Proofs.Ytnjicnadlhfocaa

/-
  Layer 17's document: what a packet asks more.
-/
namespace Go.Proofs.Ytnjicnadlhfocaa
set_option linter.unusedSimpArgs false
set_option linter.unusedVariables false
open Go.RowKit
attribute [local irreducible] Pv WO WC Fn
set_option maxRecDepth 100000
attribute [local irreducible] ByteArray.extract

def isO : Pkt → Bool
  | .other .. => true
  | _ => false
theorem eHas (s : Int) (l : List Int) (A : Option Addr) (n c : Nat) (R : List Ro) (hS : SQ R 1 A n c (c32 l)) (hl : l.length ≤ 100000) :
    Fn Try.prog 48 #[.slice A n c, .int .u32 s] [] R (fun v L' R' => v = .bool (l.any fun x => decide (x = s)) ∧ L' = [] ∧ R' = []) := by
  have hn : n = l.length := by rw [← hS.len, c32_len]
  subst hn
  refine fn_intro Try.func48 rfl Try.ntmps48 rfl (fun E => ?_)
  (repeat (first | ((first | (apply wo_v; rfl) ); (· first | (apply pv_ev; rfl) | (apply g_bi; first | (apply pv_len_sl; rfl) ) )) | apply wo_nil | apply wc_seq | apply wc_region ))
  refine wc_block ?_
  refine wc_loop' (fun q st => ∃ (i : Nat), q = l.length - i ∧ i ≤ l.length ∧ (l.take i).any (fun x => decide (x = s)) = false ∧ st = ⟨[(1, .int .u32 s), (7, .slice A l.length c), (8, .int .i64 l.length), (9, .int .i64 i)], [], R⟩) ⟨0, rfl, Nat.zero_le _, rfl, rfl⟩ (wk_mk (by (repeat (first | apply wkf_nil | (apply wkf_cons; rfl))); done) (by (repeat (first | apply sub_nil )); done) (by first | exact fun _ h => h | (intro r hr; cases hr; done) | (simp; done) | exact fun _ h => List.mem_append_left _ h | (intro r hr; simp [hr]; done))) ?_
  rintro q st ⟨i, rfl, hi, ha, rfl⟩
  by_cases hlt : i < l.length
  · obtain ⟨x, hx⟩ : ∃ x, l[i]? = some x := ⟨_, List.getElem?_eq_getElem hlt⟩
    have hr := c32_at hx
    have hnx := any_take (f := fun x => decide (x = s)) hx
    obtain ⟨b0, o0, rfl, hmem⟩ := hS.pos (by omega)
    by_cases hxs : x = s
    · have hall : (l.any fun x => decide (x = s)) = true := List.any_eq_true.2 ⟨x, List.mem_of_getElem? hx, decide_eq_true hxs⟩
      rw [hall]
      (repeat (first | ((first | (apply wo_v; rfl) ); (· first | (apply pv_ev; rfl) )) | apply wo_nil | apply wc_seq | apply wc_region | apply wc_skip | (apply wc_true; rfl) | (apply wc_false; rfl) | (apply a_dec_t; rfl; (· first | assumption | omega)) ))
      refine wc_block ?_
      (repeat (first | ((first | (apply wo_v; rfl) ); (· first | (apply pv_ev; rfl) | (apply g_load; first | (apply pv_ld; rfl; (· (repeat (first | fail ))); rfl) | (apply pv_ld_ownf; rfl; (· (repeat (first | fail ))); (· assumption); rfl) | (apply pv_ld_own1; rfl; (· (repeat (first | fail ))); (· assumption)) | (apply pv_ld_rof; rfl; (· (first | assumption )); (· assumption); rfl) | (apply pv_ld_ro1; rfl; (· (first | assumption )); (· assumption)) ) | (apply g_idx; first | (apply pv_idx; rfl; rfl; omega) ) )) | apply wo_nil | apply wc_seq | apply wc_region | apply wc_ret | (apply wc_true; rfl) | (apply wc_false; rfl) | (apply a_dec_t; rfl; (· first | assumption | omega)) ))
      exact retv rfl (by (repeat (first | apply RV.nil | (apply RV.tmp; rfl) )); done) (⟨rfl, rfl, rfl⟩) (by (repeat (first | apply sub_nil )); done) (by first | exact fun _ h => h | (intro r hr; cases hr; done) | (simp; done) | exact fun _ h => List.mem_append_left _ h | (intro r hr; simp [hr]; done))
    · (repeat (first | ((first | (apply wo_v; rfl) ); (· first | (apply pv_ev; rfl) )) | apply wo_nil | apply wc_seq | apply wc_region | apply wc_skip | (apply wc_true; rfl) | (apply wc_false; rfl) | (apply a_dec_t; rfl; (· first | assumption | omega)) ))
      refine wc_block ?_
      (repeat (first | ((first | (apply wo_v; rfl) ); (· first | (apply pv_ev; rfl) | (apply g_load; first | (apply pv_ld; rfl; (· (repeat (first | fail ))); rfl) | (apply pv_ld_ownf; rfl; (· (repeat (first | fail ))); (· assumption); rfl) | (apply pv_ld_own1; rfl; (· (repeat (first | fail ))); (· assumption)) | (apply pv_ld_rof; rfl; (· (first | assumption )); (· assumption); rfl) | (apply pv_ld_ro1; rfl; (· (first | assumption )); (· assumption)) ) | (apply g_bin; first | (apply a_add; rfl; rfl; infer_instance; omega) ) | (apply g_idx; first | (apply pv_idx; rfl; rfl; omega) ) )) | apply wo_nil | apply wc_seq | apply wc_region | apply wc_skip | (apply wc_true; rfl) | (apply wc_false; rfl) | (apply a_dec_t; rfl; (· first | assumption | omega)) | (apply a_dec_f; rfl; (· first | assumption | omega)) ))
      exact loop_end ⟨i + 1, rfl, by omega, by rw [hnx, ha, decide_eq_false hxs]; rfl, rfl⟩ (by omega) (wk_mk (by (repeat (first | apply wkf_nil | (apply wkf_cons; rfl))); done) (by (repeat (first | apply sub_nil )); done) (by first | exact fun _ h => h | (intro r hr; cases hr; done) | (simp; done) | exact fun _ h => List.mem_append_left _ h | (intro r hr; simp [hr]; done)))
  · have e : i = l.length := by omega
    subst e
    rw [List.take_length] at ha
    rw [ha]
    (repeat (first | ((first | (apply wo_v; rfl) ); (· first | (apply pv_ev; rfl) )) | apply wo_nil | apply wc_seq | apply wc_region | (apply wc_exit; rfl) | apply wc_ret | (apply wc_true; rfl) | (apply wc_false; rfl) | (apply a_dec_t; rfl; (· first | assumption | omega)) | (apply a_dec_f; rfl; (· first | assumption | omega)) ))
    exact retv rfl (by (repeat (first | apply RV.nil | (apply RV.tmp; rfl) )); done) (⟨rfl, rfl, rfl⟩) (by (repeat (first | apply sub_nil )); done) (by first | exact fun _ h => h | (intro r hr; cases hr; done) | (simp; done) | exact fun _ h => List.mem_append_left _ h | (intro r hr; simp [hr]; done))
def srM (kd ct : Int) (o : Bool) : Int := if o = true then 0 else if kd = 205 then 4 else if kd = 206 ∧ ct = 1 then 5 else if kd = 206 ∧ ct = 4 then 6 else if kd = 206 then 7 else if kd = 203 then 3 else 0
theorem eSort (o : Bool) (kd ct ss to ntp t pk oc : Int) (A1 : Option Addr) (n1 c1 : Nat) (A2 : Option Addr) (n2 c2 : Nat) (A3 : Option Addr) (n3 c3 : Nat) (tx : ByteArray) (A4 : Option Addr) (n4 c4 : Nat) (A5 : Option Addr) (n5 c5 : Nat) (rt : Int) (R : List Ro) (r : Int) (hr : srM kd ct o = r) :
    Fn Try.prog 46 #[rfA (rfL kd ct ss to ntp t pk oc (.slice A1 n1 c1) (.slice A2 n2 c2) (.slice A3 n3 c3) tx (.slice A4 n4 c4) (.slice A5 n5 c5) rt), .bool o] [] R (fun v L' R' => v = .int .i64 r ∧ L' = [] ∧ R' = []) := by
  subst hr
  unfold srM
  cases o with
  | true =>
    refine fn_intro Try.func46 rfl Try.ntmps46 rfl (fun E => ?_)
    (repeat (first | ((first | (apply wo_v; rfl) ); (· first | (apply pv_ev; rfl) )) | apply wo_nil | apply wc_seq | apply wc_region | apply wc_ret | (apply wc_true; rfl) | (apply wo_box1; rfl; rfl; rfl; intro bx) | (apply wo_boxa; rfl; rfl; intro bx) ))
    exact retv rfl (by (repeat (first | apply RV.nil | (apply RV.tmp; rfl) )); done) (⟨rfl, rfl, rfl⟩) (by (repeat (first | apply sub_nil )); done) (by first | exact fun _ h => h | (intro r hr; cases hr; done) | (simp; done) | exact fun _ h => List.mem_append_left _ h | (intro r hr; simp [hr]; done))
  | false =>
    rw [if_neg (by simp)]
    by_cases a1 : kd = 205
    · rw [if_pos a1]
      refine fn_intro Try.func46 rfl Try.ntmps46 rfl (fun E => ?_)
      (repeat (first | ((first | (apply wo_v; rfl) ); (· first | (apply pv_ev; rfl) | (apply pv_fld; rfl) | (apply g_load; first | (apply pv_ld; rfl; (· (repeat (first | apply sel_here ))); rfl) ) )) | apply wo_nil | apply wc_seq | apply wc_region | apply wc_skip | apply wc_ret | (apply wc_true; rfl) | (apply wc_false; rfl) | (apply a_dec_t; rfl; (· first | assumption | omega)) | (apply wo_box1; rfl; rfl; rfl; intro bx) | (apply wo_boxa; rfl; rfl; intro bx) ))
      exact retv rfl (by (repeat (first | apply RV.nil | (apply RV.tmp; rfl) )); done) (⟨rfl, rfl, rfl⟩) (by (repeat (first | apply sub_nil )); done) (by first | exact fun _ h => h | (intro r hr; cases hr; done) | (simp; done) | exact fun _ h => List.mem_append_left _ h | (intro r hr; simp [hr]; done))
    rw [if_neg a1]
    by_cases a2 : kd = 206
    · by_cases a3 : ct = 1
      · rw [if_pos ⟨a2, a3⟩]
        refine fn_intro Try.func46 rfl Try.ntmps46 rfl (fun E => ?_)
        (repeat (first | ((first | (apply wo_v; rfl) ); (· first | (apply pv_ev; rfl) | (apply pv_fld; rfl) | (apply g_load; first | (apply pv_ld; rfl; (· (repeat (first | apply sel_here ))); rfl) ) | (apply g_pick; first | (apply pv_pick_t; rfl; rfl) ) )) | apply wo_nil | apply wc_seq | apply wc_region | apply wc_skip | apply wc_ret | (apply wc_true; rfl) | (apply wc_false; rfl) | (apply a_dec_t; rfl; (· first | assumption | omega)) | (apply a_dec_f; rfl; (· first | assumption | omega)) | (apply wo_run; rfl; rfl) | (apply wo_skip; rfl; rfl; rfl; rfl) | (apply wo_skip_u; rfl; rfl; rfl) | (apply a_gt; rfl; rfl; (· first | assumption | omega)) | (apply wo_box1; rfl; rfl; rfl; intro bx) | (apply wo_boxa; rfl; rfl; intro bx) ))
        exact retv rfl (by (repeat (first | apply RV.nil | (apply RV.tmp; rfl) )); done) (⟨rfl, rfl, rfl⟩) (by (repeat (first | apply sub_nil )); done) (by first | exact fun _ h => h | (intro r hr; cases hr; done) | (simp; done) | exact fun _ h => List.mem_append_left _ h | (intro r hr; simp [hr]; done))
      rw [if_neg (fun h => a3 h.2)]
      by_cases a4 : ct = 4
      · rw [if_pos ⟨a2, a4⟩]
        refine fn_intro Try.func46 rfl Try.ntmps46 rfl (fun E => ?_)
        (repeat (first | ((first | (apply wo_v; rfl) ); (· first | (apply pv_ev; rfl) | (apply pv_fld; rfl) | (apply g_load; first | (apply pv_ld; rfl; (· (repeat (first | apply sel_here ))); rfl) ) | (apply g_pick; first | (apply pv_pick_t; rfl; rfl) ) )) | apply wo_nil | apply wc_seq | apply wc_region | apply wc_skip | apply wc_ret | (apply wc_true; rfl) | (apply wc_false; rfl) | (apply a_dec_t; rfl; (· first | assumption | omega)) | (apply a_dec_f; rfl; (· first | assumption | omega)) | (apply wo_run; rfl; rfl) | (apply wo_skip; rfl; rfl; rfl; rfl) | (apply wo_skip_u; rfl; rfl; rfl) | (apply a_gt; rfl; rfl; (· first | assumption | omega)) | (apply wo_box1; rfl; rfl; rfl; intro bx) | (apply wo_boxa; rfl; rfl; intro bx) ))
        exact retv rfl (by (repeat (first | apply RV.nil | (apply RV.tmp; rfl) )); done) (⟨rfl, rfl, rfl⟩) (by (repeat (first | apply sub_nil )); done) (by first | exact fun _ h => h | (intro r hr; cases hr; done) | (simp; done) | exact fun _ h => List.mem_append_left _ h | (intro r hr; simp [hr]; done))
      rw [if_neg (fun h => a4 h.2), if_pos a2]
      refine fn_intro Try.func46 rfl Try.ntmps46 rfl (fun E => ?_)
      (repeat (first | ((first | (apply wo_v; rfl) ); (· first | (apply pv_ev; rfl) | (apply pv_fld; rfl) | (apply g_load; first | (apply pv_ld; rfl; (· (repeat (first | apply sel_here ))); rfl) ) | (apply g_pick; first | (apply pv_pick_t; rfl; rfl) ) )) | apply wo_nil | apply wc_seq | apply wc_region | apply wc_skip | apply wc_ret | (apply wc_true; rfl) | (apply wc_false; rfl) | (apply a_dec_t; rfl; (· first | assumption | omega)) | (apply a_dec_f; rfl; (· first | assumption | omega)) | (apply wo_run; rfl; rfl) | (apply wo_skip; rfl; rfl; rfl; rfl) | (apply wo_skip_u; rfl; rfl; rfl) | (apply a_gt; rfl; rfl; (· first | assumption | omega)) | (apply wo_box1; rfl; rfl; rfl; intro bx) | (apply wo_boxa; rfl; rfl; intro bx) ))
      exact retv rfl (by (repeat (first | apply RV.nil | (apply RV.tmp; rfl) )); done) (⟨rfl, rfl, rfl⟩) (by (repeat (first | apply sub_nil )); done) (by first | exact fun _ h => h | (intro r hr; cases hr; done) | (simp; done) | exact fun _ h => List.mem_append_left _ h | (intro r hr; simp [hr]; done))
    rw [if_neg (fun h => a2 h.1), if_neg (fun h => a2 h.1), if_neg a2]
    by_cases a5 : kd = 203
    · rw [if_pos a5]
      refine fn_intro Try.func46 rfl Try.ntmps46 rfl (fun E => ?_)
      (repeat (first | ((first | (apply wo_v; rfl) ); (· first | (apply pv_ev; rfl) | (apply pv_fld; rfl) | (apply g_load; first | (apply pv_ld; rfl; (· (repeat (first | apply sel_here ))); rfl) ) | (apply g_pick; first | (apply pv_pick_t; rfl; rfl) | (apply pv_pick_f; rfl; rfl)) )) | apply wo_nil | apply wc_seq | apply wc_region | apply wc_skip | apply wc_ret | (apply wc_true; rfl) | (apply wc_false; rfl) | (apply a_dec_t; rfl; (· first | assumption | omega)) | (apply a_dec_f; rfl; (· first | assumption | omega)) | (apply wo_run; rfl; rfl) | (apply wo_skip; rfl; rfl; rfl; rfl) | (apply wo_skip_u; rfl; rfl; rfl) | (apply a_gt; rfl; rfl; (· first | assumption | omega)) | (apply a_gf; rfl; rfl; (· first | assumption | omega)) | (apply wo_box1; rfl; rfl; rfl; intro bx) | (apply wo_boxa; rfl; rfl; intro bx) ))
      exact retv rfl (by (repeat (first | apply RV.nil | (apply RV.tmp; rfl) )); done) (⟨rfl, rfl, rfl⟩) (by (repeat (first | apply sub_nil )); done) (by first | exact fun _ h => h | (intro r hr; cases hr; done) | (simp; done) | exact fun _ h => List.mem_append_left _ h | (intro r hr; simp [hr]; done))
    · rw [if_neg a5]
      refine fn_intro Try.func46 rfl Try.ntmps46 rfl (fun E => ?_)
      (repeat (first | ((first | (apply wo_v; rfl) ); (· first | (apply pv_ev; rfl) | (apply pv_fld; rfl) | (apply g_load; first | (apply pv_ld; rfl; (· (repeat (first | apply sel_here ))); rfl) ) | (apply g_pick; first | (apply pv_pick_t; rfl; rfl) | (apply pv_pick_f; rfl; rfl)) )) | apply wo_nil | apply wc_seq | apply wc_region | apply wc_skip | apply wc_ret | (apply wc_true; rfl) | (apply wc_false; rfl) | (apply a_dec_t; rfl; (· first | assumption | omega)) | (apply a_dec_f; rfl; (· first | assumption | omega)) | (apply wo_run; rfl; rfl) | (apply wo_skip; rfl; rfl; rfl; rfl) | (apply wo_skip_u; rfl; rfl; rfl) | (apply a_gt; rfl; rfl; (· first | assumption | omega)) | (apply a_gf; rfl; rfl; (· first | assumption | omega)) | (apply wo_box1; rfl; rfl; rfl; intro bx) | (apply wo_boxa; rfl; rfl; intro bx) ))
      exact retv rfl (by (repeat (first | apply RV.nil | (apply RV.tmp; rfl) )); done) (⟨rfl, rfl, rfl⟩) (by (repeat (first | apply sub_nil )); done) (by first | exact fun _ h => h | (intro r hr; cases hr; done) | (simp; done) | exact fun _ h => List.mem_append_left _ h | (intro r hr; simp [hr]; done))
abbrev aR (b : Nat) (v : Value) (k : Bool) (r : Int) (g : Bool) : It := .ob b (.cells #[v, .bool k, .int .u64 r, .bool g] 29 (0, 0))
def tblRd (b4 : Nat) (ao : Option Addr) (c' : Nat) (sq : List Int) (ky : Bool) (rt : Int) (gn : Bool) (sl : List Int) : Nat → List (List It) → Value → List (List It) → Prop := fun k Ls v Ms => match k, Ls with
  | 0, _ => ∃ b, v = .slice (some ⟨b, 0, none⟩) 0 0 ∧ Ms = [[.own 47 1 (some ⟨b, 0, none⟩) 0 0 []]]
  | 2, _ => v = .slice ao sq.length c' ∧ Ms = [[aR b4 (.slice ao sq.length c') ky rt gn]]
  | 3, [_, y] => ∃ ao2 c2, v = .slice ao2 (0 + sq.length) c2 ∧ Ms = [[.own 47 1 ao2 (0 + sq.length) c2 ([] ++ c16 sq)], y]
  | 6, _ => ∃ ao2 c2, v = .slice ao2 sl.length c2 ∧ Ms = [[sO ao2 sl.length c2 sl]]
  | 7, [_, y] => ∃ ao2 c2, v = .slice ao2 (0 + sq.length + sl.length) c2 ∧ Ms = [[.own 47 1 ao2 (0 + sq.length + sl.length) c2 ([] ++ c16 sq ++ c16 sl)], y]
  | 9, [[.own T2 sz ao2 n2 c2 xs], _] => v = undef ∧ Ms = [[.own T2 sz ao2 n2 c2 xs], [aR b4 (.slice ao2 n2 c2) ky rt gn]]
  | _, _ => False
abbrev RdC (R : List Ro) (s : Int) (a : Ak) (p : Pkt) (w : Value) : Prop := ∀ (ao : Option Addr) (c' : Nat), Fn Try.prog 13 #[.agg #[.slice ao a.sq.length c', .bool a.ky, .int .u64 a.rt, .bool a.gn], .int .u32 s, w, .bool (isO p)] [sO ao a.sq.length c' a.sq] R (fun v L' R' => ∃ ao2 c2, v = .agg #[.slice ao2 (stepA s a p).sq.length c2, .bool (stepA s a p).ky, .int .u64 (stepA s a p).rt, .bool (stepA s a p).gn] ∧ L' = [sO ao2 (stepA s a p).sq.length c2 (stepA s a p).sq] ∧ R' = [])
theorem hNop (R : List Ro) (s : Int) (a : Ak) (p : Pkt) (kd ct ss to ntp t pk oc : Int) (A1 : Option Addr) (n1 c1 : Nat) (A2 : Option Addr) (n2 c2 : Nat) (A3 : Option Addr) (n3 c3 : Nat) (tx : ByteArray) (A4 : Option Addr) (n4 c4 : Nat) (A5 : Option Addr) (n5 c5 : Nat) (rt : Int) (h0 : srM kd ct (isO p) = 0) (hs : stepA s a p = a) :
    RdC R s a p (rfA (rfL kd ct ss to ntp t pk oc (.slice A1 n1 c1) (.slice A2 n2 c2) (.slice A3 n3 c3) tx (.slice A4 n4 c4) (.slice A5 n5 c5) rt)) := fun ao c' => by
  have qs := eSort (isO p) kd ct ss to ntp t pk oc A1 n1 c1 A2 n2 c2 A3 n3 c3 tx A4 n4 c4 A5 n5 c5 rt R 0 h0
  rw [hs]
  obtain ⟨sq, ky, ra, gn⟩ := a
  generalize isO p = o at *
  refine fn_intro Try.func13 rfl Try.ntmps13 rfl (fun E => ?_)
  (repeat (first | ((first | (apply wo_v; rfl) ); (· first | (apply pv_ev; rfl) | (apply g_load; first | (apply pv_lda; rfl; (· (repeat (first | apply sel_here | apply sel_there))); (· (repeat (first | apply Cut.here0 | apply Cut.here )))) ) )) | apply wo_nil | apply wc_seq | apply wc_region | (apply wo_box1; rfl; rfl; rfl; intro bx) | (apply wo_boxa; rfl; rfl; intro bx) | (apply wo_alloc; rfl; intro bx) ))
  (refine wo_call (qs) rfl (by (repeat (first | apply sub_nil )); done) (by first | exact fun _ h => h | (intro r hr; cases hr; done) | (simp; done) | exact fun _ h => List.mem_append_left _ h | (intro r hr; simp [hr]; done)) rfl ?_; rintro v L' R' ⟨rfl, rfl, rfl⟩ H' hH RR hR; simp only [List.cons_append, List.nil_append] at hH hR; subst hH; have hR := hR.symm; subst hR)
  (repeat (first | ((first | (apply wo_v; rfl) ); (· first | (apply pv_ev; rfl) | (apply g_load; first | (apply pv_lda; rfl; (· (repeat (first | apply sel_here | apply sel_there))); (· (repeat (first | apply Cut.here0 | apply Cut.here )))) ) )) | apply wo_nil | apply wc_seq | apply wc_region | apply wc_block | apply wc_skip | apply wc_ret | (apply wc_true; rfl) | (apply wc_false; rfl) | (apply wo_sta; rfl; rfl; rfl; rfl; (· (repeat (first | apply sel_here ))); (· (repeat (first | apply LayAt.nil | apply LayAt.here ))); rfl) ))
  exact retv rfl (by (repeat (first | apply RV.nil | (apply RV.agg; rfl; (· (repeat (first | apply sel_here ))); infer_instance; (· (repeat (first | apply Cut.here0 | apply Cut.here )))) )); done) (⟨_, _, rfl, rfl, rfl⟩) (by (repeat (first | apply sub_nil | (apply sub_cons; (· (repeat (first | apply sel_here | apply sel_there)))))); done) (by first | exact fun _ h => h | (intro r hr; cases hr; done) | (simp; done) | exact fun _ h => List.mem_append_left _ h | (intro r hr; simp [hr]; done))
theorem hPli (R : List Ro) (s : Int) (a : Ak) (fm to : Int) : RdC R s a (.pli fm to) (rfA (rfL 206 1 fm to 0 0 0 0 nilS nilS nilS E0 nilS nilS 0)) := fun ao c' => by
  have qs := eSort false 206 1 fm to 0 0 0 0 none 0 0 none 0 0 none 0 0 E0 none 0 0 none 0 0 0 R 5 (by decide)
  obtain ⟨sq, ky, ra, gn⟩ := a
  unfold isO stepA
  dsimp only
  cases ky with
  | true =>
    refine fn_intro Try.func13 rfl Try.ntmps13 rfl (fun E => ?_)
    (repeat (first | ((first | (apply wo_v; rfl) ); (· first | (apply pv_ev; rfl) | (apply g_load; first | (apply pv_lda; rfl; (· (repeat (first | apply sel_here | apply sel_there))); (· (repeat (first | apply Cut.here0 | apply Cut.here )))) ) )) | apply wo_nil | apply wc_seq | apply wc_region | (apply wo_box1; rfl; rfl; rfl; intro bx) | (apply wo_boxa; rfl; rfl; intro bx) | (apply wo_alloc; rfl; intro bx) ))
    (refine wo_call (qs) rfl (by (repeat (first | apply sub_nil )); done) (by first | exact fun _ h => h | (intro r hr; cases hr; done) | (simp; done) | exact fun _ h => List.mem_append_left _ h | (intro r hr; simp [hr]; done)) rfl ?_; rintro v L' R' ⟨rfl, rfl, rfl⟩ H' hH RR hR; simp only [List.cons_append, List.nil_append] at hH hR; subst hH; have hR := hR.symm; subst hR)
    (repeat (first | ((first | (apply wo_v; rfl) ); (· first | (apply pv_ev; rfl) | (apply pv_fld; rfl) | (apply g_load; first | (apply pv_ld; rfl; (· (repeat (first | apply sel_here | apply sel_there))); rfl) | (apply pv_lda; rfl; (· (repeat (first | apply sel_here ))); (· (repeat (first | apply Cut.here0 | apply Cut.here )))) ) | (apply g_pick; first | (apply pv_pick_t; rfl; rfl) ) )) | apply wo_nil | apply wc_seq | apply wc_region | apply wc_block | apply wc_ret | (apply wc_true; rfl) | (apply wc_false; rfl) | (apply wo_run; rfl; rfl) | (apply wo_skip; rfl; rfl; rfl; rfl) | (apply wo_st; rfl; rfl; rfl; (· (repeat (first | apply sel_here | apply sel_there))); (· (repeat (first | apply SetAt.here | apply SetAt.there))); rfl) | (apply wo_sta; rfl; rfl; rfl; rfl; (· (repeat (first | apply sel_here | apply sel_there))); (· (repeat (first | apply LayAt.nil | apply LayAt.here ))); rfl) ))
    exact retv rfl (by (repeat (first | apply RV.nil | (apply RV.agg; rfl; (· (repeat (first | apply sel_here ))); infer_instance; (· (repeat (first | apply Cut.here0 | apply Cut.here )))) )); done) (⟨_, _, rfl, rfl, rfl⟩) (by (repeat (first | apply sub_nil | (apply sub_cons; (· (repeat (first | apply sel_here | apply sel_there)))))); done) (by first | exact fun _ h => h | (intro r hr; cases hr; done) | (simp; done) | exact fun _ h => List.mem_append_left _ h | (intro r hr; simp [hr]; done))
  | false =>
    refine fn_intro Try.func13 rfl Try.ntmps13 rfl (fun E => ?_)
    (repeat (first | ((first | (apply wo_v; rfl) ); (· first | (apply pv_ev; rfl) | (apply g_load; first | (apply pv_lda; rfl; (· (repeat (first | apply sel_here | apply sel_there))); (· (repeat (first | apply Cut.here0 | apply Cut.here )))) ) )) | apply wo_nil | apply wc_seq | apply wc_region | (apply wo_box1; rfl; rfl; rfl; intro bx) | (apply wo_boxa; rfl; rfl; intro bx) | (apply wo_alloc; rfl; intro bx) ))
    (refine wo_call (qs) rfl (by (repeat (first | apply sub_nil )); done) (by first | exact fun _ h => h | (intro r hr; cases hr; done) | (simp; done) | exact fun _ h => List.mem_append_left _ h | (intro r hr; simp [hr]; done)) rfl ?_; rintro v L' R' ⟨rfl, rfl, rfl⟩ H' hH RR hR; simp only [List.cons_append, List.nil_append] at hH hR; subst hH; have hR := hR.symm; subst hR)
    (repeat (first | ((first | (apply wo_v; rfl) ); (· first | (apply pv_ev; rfl) | (apply pv_fld; rfl) | (apply g_load; first | (apply pv_ld; rfl; (· (repeat (first | apply sel_here | apply sel_there))); rfl) | (apply pv_lda; rfl; (· (repeat (first | apply sel_here ))); (· (repeat (first | apply Cut.here0 | apply Cut.here )))) ) | (apply g_pick; first | (apply pv_pick_t; rfl; rfl) | (apply pv_pick_f; rfl; rfl)) )) | apply wo_nil | apply wc_seq | apply wc_region | apply wc_block | apply wc_ret | (apply wc_true; rfl) | (apply wc_false; rfl) | (apply wo_run; rfl; rfl) | (apply wo_st; rfl; rfl; rfl; (· (repeat (first | apply sel_here | apply sel_there))); (· (repeat (first | apply SetAt.here | apply SetAt.there))); rfl) | (apply wo_sta; rfl; rfl; rfl; rfl; (· (repeat (first | apply sel_here | apply sel_there))); (· (repeat (first | apply LayAt.nil | apply LayAt.here ))); rfl) ))
    exact retv rfl (by (repeat (first | apply RV.nil | (apply RV.agg; rfl; (· (repeat (first | apply sel_here ))); infer_instance; (· (repeat (first | apply Cut.here0 | apply Cut.here )))) )); done) (⟨_, _, rfl, rfl, rfl⟩) (by (repeat (first | apply sub_nil | (apply sub_cons; (· (repeat (first | apply sel_here | apply sel_there)))))); done) (by first | exact fun _ h => h | (intro r hr; cases hr; done) | (simp; done) | exact fun _ h => List.mem_append_left _ h | (intro r hr; simp [hr]; done))
theorem hBye (R : List Ro) (s : Int) (a : Ak) (l : List Int) (rs : ByteArray) (A : Option Addr) (n c : Nat) (hS : SQ R 1 A n c (c32 l)) (hl : l.length ≤ 100000) : RdC R s a (.bye l rs) (rfA (rfL 203 l.length 0 0 0 0 0 0 nilS nilS (.slice A n c) rs nilS nilS 0)) := fun ao c' => by
  have qs := eSort false 203 l.length 0 0 0 0 0 0 none 0 0 none 0 0 A n c rs none 0 0 none 0 0 0 R 3 (by unfold srM; simp)
  have qh := eHas s l A n c R hS hl
  obtain ⟨sq, ky, ra, gn⟩ := a
  unfold isO stepA
  dsimp only
  cases gn with
  | true =>
    refine fn_intro Try.func13 rfl Try.ntmps13 rfl (fun E => ?_)
    (repeat (first | ((first | (apply wo_v; rfl) ); (· first | (apply pv_ev; rfl) | (apply g_load; first | (apply pv_lda; rfl; (· (repeat (first | apply sel_here | apply sel_there))); (· (repeat (first | apply Cut.here0 | apply Cut.here )))) ) )) | apply wo_nil | apply wc_seq | apply wc_region | (apply wo_box1; rfl; rfl; rfl; intro bx) | (apply wo_boxa; rfl; rfl; intro bx) | (apply wo_alloc; rfl; intro bx) ))
    (refine wo_call (qs) rfl (by (repeat (first | apply sub_nil )); done) (by first | exact fun _ h => h | (intro r hr; cases hr; done) | (simp; done) | exact fun _ h => List.mem_append_left _ h | (intro r hr; simp [hr]; done)) rfl ?_; rintro v L' R' ⟨rfl, rfl, rfl⟩ H' hH RR hR; simp only [List.cons_append, List.nil_append] at hH hR; subst hH; have hR := hR.symm; subst hR)
    (repeat (first | ((first | (apply wo_v; rfl) ); (· first | (apply pv_ev; rfl) | (apply pv_fld; rfl) | (apply g_load; first | (apply pv_ld; rfl; (· (repeat (first | apply sel_here | apply sel_there))); rfl) | (apply pv_lda; rfl; (· (repeat (first | apply sel_here ))); (· (repeat (first | apply Cut.here0 | apply Cut.here )))) ) | (apply g_pick; first | (apply pv_pick_t; rfl; rfl) ) )) | apply wo_nil | apply wc_seq | apply wc_region | apply wc_block | apply wc_ret | (apply wc_true; rfl) | (apply wc_false; rfl) | (apply wo_run; rfl; rfl) | (apply wo_skip; rfl; rfl; rfl; rfl) | (apply wo_st; rfl; rfl; rfl; (· (repeat (first | apply sel_here | apply sel_there))); (· (repeat (first | apply SetAt.here | apply SetAt.there))); rfl) | (apply wo_sta; rfl; rfl; rfl; rfl; (· (repeat (first | apply sel_here | apply sel_there))); (· (repeat (first | apply LayAt.nil | apply LayAt.here ))); rfl) ))
    exact retv rfl (by (repeat (first | apply RV.nil | (apply RV.agg; rfl; (· (repeat (first | apply sel_here ))); infer_instance; (· (repeat (first | apply Cut.here0 | apply Cut.here )))) )); done) (⟨_, _, rfl, rfl, rfl⟩) (by (repeat (first | apply sub_nil | (apply sub_cons; (· (repeat (first | apply sel_here | apply sel_there)))))); done) (by first | exact fun _ h => h | (intro r hr; cases hr; done) | (simp; done) | exact fun _ h => List.mem_append_left _ h | (intro r hr; simp [hr]; done))
  | false =>
    refine fn_intro Try.func13 rfl Try.ntmps13 rfl (fun E => ?_)
    (repeat (first | ((first | (apply wo_v; rfl) ); (· first | (apply pv_ev; rfl) | (apply g_load; first | (apply pv_lda; rfl; (· (repeat (first | apply sel_here | apply sel_there))); (· (repeat (first | apply Cut.here0 | apply Cut.here )))) ) )) | apply wo_nil | apply wc_seq | apply wc_region | (apply wo_box1; rfl; rfl; rfl; intro bx) | (apply wo_boxa; rfl; rfl; intro bx) | (apply wo_alloc; rfl; intro bx) ))
    (refine wo_call (qs) rfl (by (repeat (first | apply sub_nil )); done) (by first | exact fun _ h => h | (intro r hr; cases hr; done) | (simp; done) | exact fun _ h => List.mem_append_left _ h | (intro r hr; simp [hr]; done)) rfl ?_; rintro v L' R' ⟨rfl, rfl, rfl⟩ H' hH RR hR; simp only [List.cons_append, List.nil_append] at hH hR; subst hH; have hR := hR.symm; subst hR)
    (repeat (first | ((first | (apply wo_v; rfl) ); (· first | (apply pv_ev; rfl) | (apply pv_fld; rfl) | (apply g_load; first | (apply pv_ld; rfl; (· (repeat (first | apply sel_here | apply sel_there))); rfl) ) )) | apply wo_nil | apply wc_seq | apply wc_region | apply wc_block | (apply wc_true; rfl) | (apply wc_false; rfl) | (apply wo_run; rfl; rfl) ))
    (refine wo_call (qh) rfl (by (repeat (first | apply sub_nil )); done) (by first | exact fun _ h => h | (intro r hr; cases hr; done) | (simp; done) | exact fun _ h => List.mem_append_left _ h | (intro r hr; simp [hr]; done)) rfl ?_; rintro v L' R' ⟨rfl, rfl, rfl⟩ H' hH RR hR; simp only [List.cons_append, List.nil_append] at hH hR; subst hH; have hR := hR.symm; subst hR)
    (repeat (first | ((first | (apply wo_v; rfl) ); (· first | (apply pv_ev; rfl) | (apply pv_fld; rfl) | (apply g_load; first | (apply pv_lda; rfl; (· (repeat (first | apply sel_here ))); (· (repeat (first | apply Cut.here0 | apply Cut.here )))) ) | (apply g_pick; first | (apply pv_pick_t; rfl; rfl) | (apply pv_pick_f; rfl; rfl)) )) | apply wo_nil | apply wc_seq | apply wc_region | apply wc_ret | (apply wo_st; rfl; rfl; rfl; (· (repeat (first | apply sel_here | apply sel_there))); (· (repeat (first | apply SetAt.here | apply SetAt.there))); rfl) | (apply wo_sta; rfl; rfl; rfl; rfl; (· (repeat (first | apply sel_here | apply sel_there))); (· (repeat (first | apply LayAt.nil | apply LayAt.here ))); rfl) ))
    exact retv rfl (by (repeat (first | apply RV.nil | (apply RV.agg; rfl; (· (repeat (first | apply sel_here ))); infer_instance; (· (repeat (first | apply Cut.here0 | apply Cut.here )))) )); done) (⟨_, _, rfl, rfl, rfl⟩) (by (repeat (first | apply sub_nil | (apply sub_cons; (· (repeat (first | apply sel_here | apply sel_there)))))); done) (by first | exact fun _ h => h | (intro r hr; cases hr; done) | (simp; done) | exact fun _ h => List.mem_append_left _ h | (intro r hr; simp [hr]; done))
theorem rtM_any (s rt r : Int) (l : List Int) : rtM s rt l r = if (l.any fun x => decide (x = s)) = true ∧ 0 < rt ∧ (r = 0 ∨ rt < r) then rt else r := by
  unfold rtM
  have : s ∈ l ↔ (l.any fun x => decide (x = s)) = true := by simp
  by_cases h : s ∈ l
  · simp [h]
  · simp [h]
theorem hRemb (R : List Ro) (s : Int) (a : Ak) (fm rt : Int) (l : List Int) (A : Option Addr) (n c : Nat) (hS : SQ R 1 A n c (c32 l)) (hl : l.length ≤ 100000) (hrt : 0 ≤ rt) : RdC R s a (.remb fm rt l) (rfA (rfL 206 15 fm 0 0 0 0 0 nilS nilS (.slice A n c) E0 nilS nilS rt)) := fun ao c' => by
  have qs := eSort false 206 15 fm 0 0 0 0 0 none 0 0 none 0 0 A n c E0 none 0 0 none 0 0 rt R 7 (by decide)
  have qh := eHas s l A n c R hS hl
  obtain ⟨sq, ky, ra, gn⟩ := a
  unfold isO stepA
  dsimp only
  rw [rtM_any]
  cases hb : l.any fun x => decide (x = s) with
  | false =>
    rw [hb] at qh
    rw [if_neg (by simp)]
    refine fn_intro Try.func13 rfl Try.ntmps13 rfl (fun E => ?_)
    (repeat (first | ((first | (apply wo_v; rfl) ); (· first | (apply pv_ev; rfl) | (apply g_load; first | (apply pv_lda; rfl; (· (repeat (first | apply sel_here | apply sel_there))); (· (repeat (first | apply Cut.here0 | apply Cut.here )))) ) )) | apply wo_nil | apply wc_seq | apply wc_region | (apply wo_box1; rfl; rfl; rfl; intro bx) | (apply wo_boxa; rfl; rfl; intro bx) | (apply wo_alloc; rfl; intro bx) ))
    (refine wo_call (qs) rfl (by (repeat (first | apply sub_nil )); done) (by first | exact fun _ h => h | (intro r hr; cases hr; done) | (simp; done) | exact fun _ h => List.mem_append_left _ h | (intro r hr; simp [hr]; done)) rfl ?_; rintro v L' R' ⟨rfl, rfl, rfl⟩ H' hH RR hR; simp only [List.cons_append, List.nil_append] at hH hR; subst hH; have hR := hR.symm; subst hR)
    (repeat (first | ((first | (apply wo_v; rfl) ); (· first | (apply pv_ev; rfl) | (apply pv_fld; rfl) | (apply g_load; first | (apply pv_ld; rfl; (· (repeat (first | apply sel_here | apply sel_there))); rfl) ) )) | apply wo_nil | apply wc_seq | apply wc_region | apply wc_block | (apply wc_true; rfl) | (apply wc_false; rfl) ))
    (refine wo_call (qh) rfl (by (repeat (first | apply sub_nil )); done) (by first | exact fun _ h => h | (intro r hr; cases hr; done) | (simp; done) | exact fun _ h => List.mem_append_left _ h | (intro r hr; simp [hr]; done)) rfl ?_; rintro v L' R' ⟨rfl, rfl, rfl⟩ H' hH RR hR; simp only [List.cons_append, List.nil_append] at hH hR; subst hH; have hR := hR.symm; subst hR)
    (repeat (first | ((first | (apply wo_v; rfl) ); (· first | (apply pv_ev; rfl) | (apply g_load; first | (apply pv_lda; rfl; (· (repeat (first | apply sel_here | apply sel_there))); (· (repeat (first | apply Cut.here0 | apply Cut.here )))) ) | (apply g_pick; first | (apply pv_pick_t; rfl; rfl) | (apply pv_pick_f; rfl; rfl)) )) | apply wo_nil | apply wc_seq | apply wc_region | apply wc_skip | apply wc_ret | (apply wc_true; rfl) | (apply wc_false; rfl) | (apply wo_run; rfl; rfl) | (apply wo_skip; rfl; rfl; rfl; rfl) | (apply wo_skip_u; rfl; rfl; rfl) | (apply wo_sta; rfl; rfl; rfl; rfl; (· (repeat (first | apply sel_here ))); (· (repeat (first | apply LayAt.nil | apply LayAt.here ))); rfl) ))
    exact retv rfl (by (repeat (first | apply RV.nil | (apply RV.agg; rfl; (· (repeat (first | apply sel_here ))); infer_instance; (· (repeat (first | apply Cut.here0 | apply Cut.here )))) )); done) (⟨_, _, rfl, rfl, rfl⟩) (by (repeat (first | apply sub_nil | (apply sub_cons; (· (repeat (first | apply sel_here | apply sel_there)))))); done) (by first | exact fun _ h => h | (intro r hr; cases hr; done) | (simp; done) | exact fun _ h => List.mem_append_left _ h | (intro r hr; simp [hr]; done))
  | true =>
    rw [hb] at qh
    have hc : ¬ 0 < rt ∨ (0 < rt ∧ ra = 0) ∨ (0 < rt ∧ ra ≠ 0 ∧ rt < ra) ∨ (0 < rt ∧ ra ≠ 0 ∧ ¬ rt < ra) := by omega
    rcases hc with h1 | ⟨h1, h2⟩ | ⟨h1, h2, h3⟩ | ⟨h1, h2, h3⟩
    · rw [if_neg (fun h => h1 h.2.1)]
      refine fn_intro Try.func13 rfl Try.ntmps13 rfl (fun E => ?_)
      (repeat (first | ((first | (apply wo_v; rfl) ); (· first | (apply pv_ev; rfl) | (apply g_load; first | (apply pv_lda; rfl; (· (repeat (first | apply sel_here | apply sel_there))); (· (repeat (first | apply Cut.here0 | apply Cut.here )))) ) )) | apply wo_nil | apply wc_seq | apply wc_region | (apply wo_box1; rfl; rfl; rfl; intro bx) | (apply wo_boxa; rfl; rfl; intro bx) | (apply wo_alloc; rfl; intro bx) ))
      (refine wo_call (qs) rfl (by (repeat (first | apply sub_nil )); done) (by first | exact fun _ h => h | (intro r hr; cases hr; done) | (simp; done) | exact fun _ h => List.mem_append_left _ h | (intro r hr; simp [hr]; done)) rfl ?_; rintro v L' R' ⟨rfl, rfl, rfl⟩ H' hH RR hR; simp only [List.cons_append, List.nil_append] at hH hR; subst hH; have hR := hR.symm; subst hR)
      (repeat (first | ((first | (apply wo_v; rfl) ); (· first | (apply pv_ev; rfl) | (apply pv_fld; rfl) | (apply g_load; first | (apply pv_ld; rfl; (· (repeat (first | apply sel_here | apply sel_there))); rfl) ) )) | apply wo_nil | apply wc_seq | apply wc_region | apply wc_block | (apply wc_true; rfl) | (apply wc_false; rfl) ))
      (refine wo_call (qh) rfl (by (repeat (first | apply sub_nil )); done) (by first | exact fun _ h => h | (intro r hr; cases hr; done) | (simp; done) | exact fun _ h => List.mem_append_left _ h | (intro r hr; simp [hr]; done)) rfl ?_; rintro v L' R' ⟨rfl, rfl, rfl⟩ H' hH RR hR; simp only [List.cons_append, List.nil_append] at hH hR; subst hH; have hR := hR.symm; subst hR)
      (repeat (first | ((first | (apply wo_v; rfl) ); (· first | (apply pv_ev; rfl) | (apply pv_fld; rfl) | (apply g_load; first | (apply pv_ld; rfl; (· (repeat (first | apply sel_here | apply sel_there))); rfl) | (apply pv_lda; rfl; (· (repeat (first | apply sel_here | apply sel_there))); (· (repeat (first | apply Cut.here0 | apply Cut.here )))) ) | (apply g_pick; first | (apply pv_pick_t; rfl; rfl) | (apply pv_pick_f; rfl; rfl)) )) | apply wo_nil | apply wc_seq | apply wc_region | apply wc_skip | apply wc_ret | (apply wc_true; rfl) | (apply wc_false; rfl) | (apply wo_run; rfl; rfl) | (apply wo_skip; rfl; rfl; rfl; rfl) | (apply wo_skip_u; rfl; rfl; rfl) | (apply a_gt; rfl; rfl; (· first | assumption | omega)) | (apply a_gf; rfl; rfl; (· first | assumption | omega)) | (apply wo_sta; rfl; rfl; rfl; rfl; (· (repeat (first | apply sel_here ))); (· (repeat (first | apply LayAt.nil | apply LayAt.here ))); rfl) ))
      exact retv rfl (by (repeat (first | apply RV.nil | (apply RV.agg; rfl; (· (repeat (first | apply sel_here ))); infer_instance; (· (repeat (first | apply Cut.here0 | apply Cut.here )))) )); done) (⟨_, _, rfl, rfl, rfl⟩) (by (repeat (first | apply sub_nil | (apply sub_cons; (· (repeat (first | apply sel_here | apply sel_there)))))); done) (by first | exact fun _ h => h | (intro r hr; cases hr; done) | (simp; done) | exact fun _ h => List.mem_append_left _ h | (intro r hr; simp [hr]; done))
    · rw [if_pos ⟨rfl, h1, .inl h2⟩]
      refine fn_intro Try.func13 rfl Try.ntmps13 rfl (fun E => ?_)
      (repeat (first | ((first | (apply wo_v; rfl) ); (· first | (apply pv_ev; rfl) | (apply g_load; first | (apply pv_lda; rfl; (· (repeat (first | apply sel_here | apply sel_there))); (· (repeat (first | apply Cut.here0 | apply Cut.here )))) ) )) | apply wo_nil | apply wc_seq | apply wc_region | (apply wo_box1; rfl; rfl; rfl; intro bx) | (apply wo_boxa; rfl; rfl; intro bx) | (apply wo_alloc; rfl; intro bx) ))
      (refine wo_call (qs) rfl (by (repeat (first | apply sub_nil )); done) (by first | exact fun _ h => h | (intro r hr; cases hr; done) | (simp; done) | exact fun _ h => List.mem_append_left _ h | (intro r hr; simp [hr]; done)) rfl ?_; rintro v L' R' ⟨rfl, rfl, rfl⟩ H' hH RR hR; simp only [List.cons_append, List.nil_append] at hH hR; subst hH; have hR := hR.symm; subst hR)
      (repeat (first | ((first | (apply wo_v; rfl) ); (· first | (apply pv_ev; rfl) | (apply pv_fld; rfl) | (apply g_load; first | (apply pv_ld; rfl; (· (repeat (first | apply sel_here | apply sel_there))); rfl) ) )) | apply wo_nil | apply wc_seq | apply wc_region | apply wc_block | (apply wc_true; rfl) | (apply wc_false; rfl) ))
      (refine wo_call (qh) rfl (by (repeat (first | apply sub_nil )); done) (by first | exact fun _ h => h | (intro r hr; cases hr; done) | (simp; done) | exact fun _ h => List.mem_append_left _ h | (intro r hr; simp [hr]; done)) rfl ?_; rintro v L' R' ⟨rfl, rfl, rfl⟩ H' hH RR hR; simp only [List.cons_append, List.nil_append] at hH hR; subst hH; have hR := hR.symm; subst hR)
      (repeat (first | ((first | (apply wo_v; rfl) ); (· first | (apply pv_ev; rfl) | (apply pv_fld; rfl) | (apply g_load; first | (apply pv_ld; rfl; (· (repeat (first | apply sel_here | apply sel_there))); rfl) | (apply pv_lda; rfl; (· (repeat (first | apply sel_here ))); (· (repeat (first | apply Cut.here0 | apply Cut.here )))) ) | (apply g_pick; first | (apply pv_pick_t; rfl; rfl) ) )) | apply wo_nil | apply wc_seq | apply wc_region | apply wc_ret | (apply wc_true; rfl) | (apply wo_run; rfl; rfl) | (apply wo_skip; rfl; rfl; rfl; rfl) | (apply wo_skip_u; rfl; rfl; rfl) | (apply a_gt; rfl; rfl; (· first | assumption | omega)) | (apply wo_st; rfl; rfl; rfl; (· (repeat (first | apply sel_here | apply sel_there))); (· (repeat (first | apply SetAt.here | apply SetAt.there))); rfl) | (apply wo_sta; rfl; rfl; rfl; rfl; (· (repeat (first | apply sel_here | apply sel_there))); (· (repeat (first | apply LayAt.nil | apply LayAt.here ))); rfl) ))
      exact retv rfl (by (repeat (first | apply RV.nil | (apply RV.agg; rfl; (· (repeat (first | apply sel_here ))); infer_instance; (· (repeat (first | apply Cut.here0 | apply Cut.here )))) )); done) (⟨_, _, rfl, rfl, rfl⟩) (by (repeat (first | apply sub_nil | (apply sub_cons; (· (repeat (first | apply sel_here | apply sel_there)))))); done) (by first | exact fun _ h => h | (intro r hr; cases hr; done) | (simp; done) | exact fun _ h => List.mem_append_left _ h | (intro r hr; simp [hr]; done))
    · rw [if_pos ⟨rfl, h1, .inr h3⟩]
      refine fn_intro Try.func13 rfl Try.ntmps13 rfl (fun E => ?_)
      (repeat (first | ((first | (apply wo_v; rfl) ); (· first | (apply pv_ev; rfl) | (apply g_load; first | (apply pv_lda; rfl; (· (repeat (first | apply sel_here | apply sel_there))); (· (repeat (first | apply Cut.here0 | apply Cut.here )))) ) )) | apply wo_nil | apply wc_seq | apply wc_region | (apply wo_box1; rfl; rfl; rfl; intro bx) | (apply wo_boxa; rfl; rfl; intro bx) | (apply wo_alloc; rfl; intro bx) ))
      (refine wo_call (qs) rfl (by (repeat (first | apply sub_nil )); done) (by first | exact fun _ h => h | (intro r hr; cases hr; done) | (simp; done) | exact fun _ h => List.mem_append_left _ h | (intro r hr; simp [hr]; done)) rfl ?_; rintro v L' R' ⟨rfl, rfl, rfl⟩ H' hH RR hR; simp only [List.cons_append, List.nil_append] at hH hR; subst hH; have hR := hR.symm; subst hR)
      (repeat (first | ((first | (apply wo_v; rfl) ); (· first | (apply pv_ev; rfl) | (apply pv_fld; rfl) | (apply g_load; first | (apply pv_ld; rfl; (· (repeat (first | apply sel_here | apply sel_there))); rfl) ) )) | apply wo_nil | apply wc_seq | apply wc_region | apply wc_block | (apply wc_true; rfl) | (apply wc_false; rfl) ))
      (refine wo_call (qh) rfl (by (repeat (first | apply sub_nil )); done) (by first | exact fun _ h => h | (intro r hr; cases hr; done) | (simp; done) | exact fun _ h => List.mem_append_left _ h | (intro r hr; simp [hr]; done)) rfl ?_; rintro v L' R' ⟨rfl, rfl, rfl⟩ H' hH RR hR; simp only [List.cons_append, List.nil_append] at hH hR; subst hH; have hR := hR.symm; subst hR)
      (repeat (first | ((first | (apply wo_v; rfl) ); (· first | (apply pv_ev; rfl) | (apply pv_fld; rfl) | (apply g_load; first | (apply pv_ld; rfl; (· (repeat (first | apply sel_here | apply sel_there))); rfl) | (apply pv_lda; rfl; (· (repeat (first | apply sel_here ))); (· (repeat (first | apply Cut.here0 | apply Cut.here )))) ) | (apply g_pick; first | (apply pv_pick_t; rfl; rfl) | (apply pv_pick_f; rfl; rfl)) )) | apply wo_nil | apply wc_seq | apply wc_region | apply wc_ret | (apply wc_true; rfl) | (apply wc_false; rfl) | (apply a_dec_t; rfl; (· first | assumption | omega)) | (apply wo_run; rfl; rfl) | (apply wo_skip; rfl; rfl; rfl; rfl) | (apply wo_skip_u; rfl; rfl; rfl) | (apply a_gt; rfl; rfl; (· first | assumption | omega)) | (apply a_gf; rfl; rfl; (· first | assumption | omega)) | (apply wo_st; rfl; rfl; rfl; (· (repeat (first | apply sel_here | apply sel_there))); (· (repeat (first | apply SetAt.here | apply SetAt.there))); rfl) | (apply wo_sta; rfl; rfl; rfl; rfl; (· (repeat (first | apply sel_here | apply sel_there))); (· (repeat (first | apply LayAt.nil | apply LayAt.here ))); rfl) ))
      exact retv rfl (by (repeat (first | apply RV.nil | (apply RV.agg; rfl; (· (repeat (first | apply sel_here ))); infer_instance; (· (repeat (first | apply Cut.here0 | apply Cut.here )))) )); done) (⟨_, _, rfl, rfl, rfl⟩) (by (repeat (first | apply sub_nil | (apply sub_cons; (· (repeat (first | apply sel_here | apply sel_there)))))); done) (by first | exact fun _ h => h | (intro r hr; cases hr; done) | (simp; done) | exact fun _ h => List.mem_append_left _ h | (intro r hr; simp [hr]; done))
    · rw [if_neg (fun h => by rcases h.2.2 with h | h; exact h2 h; exact h3 h)]
      refine fn_intro Try.func13 rfl Try.ntmps13 rfl (fun E => ?_)
      (repeat (first | ((first | (apply wo_v; rfl) ); (· first | (apply pv_ev; rfl) | (apply g_load; first | (apply pv_lda; rfl; (· (repeat (first | apply sel_here | apply sel_there))); (· (repeat (first | apply Cut.here0 | apply Cut.here )))) ) )) | apply wo_nil | apply wc_seq | apply wc_region | (apply wo_box1; rfl; rfl; rfl; intro bx) | (apply wo_boxa; rfl; rfl; intro bx) | (apply wo_alloc; rfl; intro bx) ))
      (refine wo_call (qs) rfl (by (repeat (first | apply sub_nil )); done) (by first | exact fun _ h => h | (intro r hr; cases hr; done) | (simp; done) | exact fun _ h => List.mem_append_left _ h | (intro r hr; simp [hr]; done)) rfl ?_; rintro v L' R' ⟨rfl, rfl, rfl⟩ H' hH RR hR; simp only [List.cons_append, List.nil_append] at hH hR; subst hH; have hR := hR.symm; subst hR)
      (repeat (first | ((first | (apply wo_v; rfl) ); (· first | (apply pv_ev; rfl) | (apply pv_fld; rfl) | (apply g_load; first | (apply pv_ld; rfl; (· (repeat (first | apply sel_here | apply sel_there))); rfl) ) )) | apply wo_nil | apply wc_seq | apply wc_region | apply wc_block | (apply wc_true; rfl) | (apply wc_false; rfl) ))
      (refine wo_call (qh) rfl (by (repeat (first | apply sub_nil )); done) (by first | exact fun _ h => h | (intro r hr; cases hr; done) | (simp; done) | exact fun _ h => List.mem_append_left _ h | (intro r hr; simp [hr]; done)) rfl ?_; rintro v L' R' ⟨rfl, rfl, rfl⟩ H' hH RR hR; simp only [List.cons_append, List.nil_append] at hH hR; subst hH; have hR := hR.symm; subst hR)
      (repeat (first | ((first | (apply wo_v; rfl) ); (· first | (apply pv_ev; rfl) | (apply pv_fld; rfl) | (apply g_load; first | (apply pv_ld; rfl; (· (repeat (first | apply sel_here | apply sel_there))); rfl) | (apply pv_lda; rfl; (· (repeat (first | apply sel_here | apply sel_there))); (· (repeat (first | apply Cut.here0 | apply Cut.here )))) ) | (apply g_pick; first | (apply pv_pick_t; rfl; rfl) | (apply pv_pick_f; rfl; rfl)) )) | apply wo_nil | apply wc_seq | apply wc_region | apply wc_skip | apply wc_ret | (apply wc_true; rfl) | (apply wc_false; rfl) | (apply a_dec_t; rfl; (· first | assumption | omega)) | (apply a_dec_f; rfl; (· first | assumption | omega)) | (apply wo_run; rfl; rfl) | (apply wo_skip; rfl; rfl; rfl; rfl) | (apply wo_skip_u; rfl; rfl; rfl) | (apply a_gt; rfl; rfl; (· first | assumption | omega)) | (apply a_gf; rfl; rfl; (· first | assumption | omega)) | (apply wo_sta; rfl; rfl; rfl; rfl; (· (repeat (first | apply sel_here ))); (· (repeat (first | apply LayAt.nil | apply LayAt.here ))); rfl) ))
      exact retv rfl (by (repeat (first | apply RV.nil | (apply RV.agg; rfl; (· (repeat (first | apply sel_here ))); infer_instance; (· (repeat (first | apply Cut.here0 | apply Cut.here )))) )); done) (⟨_, _, rfl, rfl, rfl⟩) (by (repeat (first | apply sub_nil | (apply sub_cons; (· (repeat (first | apply sel_here | apply sel_there)))))); done) (by first | exact fun _ h => h | (intro r hr; cases hr; done) | (simp; done) | exact fun _ h => List.mem_append_left _ h | (intro r hr; simp [hr]; done))
theorem hFir (R : List Ro) (s : Int) (a : Ak) (fm : Int) (os : List (Int × Int)) (A : Option Addr) (n c : Nat) (hS : SQ R 2 A n c (ordV os)) (hl : os.length ≤ 100000) : RdC R s a (.fir fm os) (rfA (rfL 206 4 fm 0 0 0 0 0 nilS nilS nilS E0 nilS (.slice A n c) 0)) := fun ao c' => by
  have hn : n = os.length := by rw [← hS.len, ordV_len]
  subst hn
  have qs := eSort false 206 4 fm 0 0 0 0 0 none 0 0 none 0 0 none 0 0 E0 none 0 0 A os.length c 0 R 6 (by decide)
  obtain ⟨sq, ky, ra, gn⟩ := a
  unfold isO stepA
  dsimp only
  refine fn_intro Try.func13 rfl Try.ntmps13 rfl (fun E => ?_)
  (repeat (first | ((first | (apply wo_v; rfl) ); (· first | (apply pv_ev; rfl) | (apply g_load; first | (apply pv_lda; rfl; (· (repeat (first | apply sel_here | apply sel_there))); (· (repeat (first | apply Cut.here0 | apply Cut.here )))) ) )) | apply wo_nil | apply wc_seq | apply wc_region | (apply wo_box1; rfl; rfl; rfl; intro bx) | (apply wo_boxa; rfl; rfl; intro bx) | (apply wo_alloc; rfl; intro bx) ))
  rename_i b4 b6
  obtain ⟨b8, hb8⟩ : ∃ g, g = bx := ⟨_, rfl⟩
  subst hb8
  (refine wo_call (qs) rfl (by (repeat (first | apply sub_nil )); done) (by first | exact fun _ h => h | (intro r hr; cases hr; done) | (simp; done) | exact fun _ h => List.mem_append_left _ h | (intro r hr; simp [hr]; done)) rfl ?_; rintro v L' R' ⟨rfl, rfl, rfl⟩ H' hH RR hR; simp only [List.cons_append, List.nil_append] at hH hR; subst hH; have hR := hR.symm; subst hR)
  (repeat (first | ((first | (apply wo_v; rfl) ); (· first | (apply pv_ev; rfl) | (apply pv_fld; rfl) | (apply g_load; first | (apply pv_ld; rfl; (· (repeat (first | apply sel_here | apply sel_there))); rfl) ) | (apply g_bi; first | (apply pv_len_sl; rfl) ) )) | apply wo_nil | apply wc_seq | apply wc_region | apply wc_block | (apply wc_true; rfl) | (apply wc_false; rfl) ))
  refine wc_loop' (fun q st => ∃ (j : Nat) (k : Bool), q = os.length - j ∧ j ≤ os.length ∧ k = (ky || (os.take j).any fun o => decide (o.1 = s)) ∧ st = ⟨[(1, .int .u32 s), (4, .pointer (some ⟨b4, 0, none⟩)), (8, .pointer (some ⟨b8, 0, none⟩)), (43, .slice A os.length c), (44, .int .i64 os.length), (45, .int .i64 j)], [aR b8 (.slice none 0 0) false 0 false, aR b4 (.slice ao sq.length c') k ra gn, sO ao sq.length c' sq], R⟩) ⟨0, ky, rfl, Nat.zero_le _, by simp, rfl⟩ (wk_mk (by (repeat (first | apply wkf_nil | (apply wkf_cons; rfl))); done) (by (repeat (first | apply sub_nil | (apply sub_cons; (· (repeat (first | apply sel_here | apply sel_there)))))); done) (by first | exact fun _ h => h | (intro r hr; cases hr; done) | (simp; done) | exact fun _ h => List.mem_append_left _ h | (intro r hr; simp [hr]; done))) ?_
  rintro q st ⟨j, k, rfl, hj, hk, rfl⟩
  by_cases hlt : j < os.length
  · obtain ⟨o, ho⟩ : ∃ o, os[j]? = some o := ⟨_, List.getElem?_eq_getElem hlt⟩
    have hr := ordV_at ho
    have hk3 := any_take (f := fun o => decide (o.1 = s)) ho
    obtain ⟨a1, o1, rfl, hmem1⟩ := hS.pos (by omega)
    cases k with
    | true =>
      (repeat (first | ((first | (apply wo_v; rfl) ); (· first | (apply pv_ev; rfl) | (apply pv_fld; rfl) | (apply g_load; first | (apply pv_ld; rfl; (· (repeat (first | apply sel_here | apply sel_there))); rfl) | (apply pv_lda; rfl; (· (repeat (first | apply sel_there))); (· (repeat (first | fail )))) | (apply pv_ld_owna; rfl; (· (repeat (first | apply sel_there))); (· assumption)) | (apply pv_ld_roa; rfl; (· (first | assumption )); (· assumption))) | (apply g_pick; first | (apply pv_pick_t; rfl; rfl) ) | (apply g_bin; first | (apply a_add; rfl; rfl; infer_instance; omega) ) | (apply g_idx; first | (apply pv_idx; rfl; rfl; omega) ) )) | apply wo_nil | apply wc_seq | apply wc_region | apply wc_block | apply wc_skip | (apply wc_true; rfl) | (apply wc_false; rfl) | (apply a_dec_t; rfl; (· first | assumption | omega)) | (apply wo_run; rfl; rfl) | (apply wo_skip; rfl; rfl; rfl; rfl) | (apply wo_st; rfl; rfl; rfl; (· (repeat (first | apply sel_here | apply sel_there))); (· (repeat (first | apply SetAt.here | apply SetAt.there))); rfl) | (apply wo_alloc; rfl; intro bx) | (apply wo_sta; rfl; rfl; rfl; rfl; (· (repeat (first | apply sel_here ))); (· (repeat (first | apply LayAt.nil | apply LayAt.here ))); rfl) ))
      exact loop_end ⟨j + 1, true, rfl, by omega, by rw [hk3, ← Bool.or_assoc, ← hk]; rfl, rfl⟩ (by omega) (wk_mk (by (repeat (first | apply wkf_nil | (apply wkf_cons; rfl))); done) (by (repeat (first | apply sub_nil | (apply sub_cons; (· (repeat (first | apply sel_here | apply sel_there)))))); done) (by first | exact fun _ h => h | (intro r hr; cases hr; done) | (simp; done) | exact fun _ h => List.mem_append_left _ h | (intro r hr; simp [hr]; done)))
    | false =>
      (repeat (first | ((first | (apply wo_v; rfl) ); (· first | (apply pv_ev; rfl) | (apply pv_fld; rfl) | (apply g_load; first | (apply pv_ld; rfl; (· (repeat (first | apply sel_here | apply sel_there))); rfl) | (apply pv_lda; rfl; (· (repeat (first | apply sel_there))); (· (repeat (first | fail )))) | (apply pv_ld_owna; rfl; (· (repeat (first | apply sel_there))); (· assumption)) | (apply pv_ld_roa; rfl; (· (first | assumption )); (· assumption))) | (apply g_pick; first | (apply pv_pick_t; rfl; rfl) | (apply pv_pick_f; rfl; rfl)) | (apply g_bin; first | (apply a_add; rfl; rfl; infer_instance; omega) ) | (apply g_idx; first | (apply pv_idx; rfl; rfl; omega) ) )) | apply wo_nil | apply wc_seq | apply wc_region | apply wc_block | apply wc_skip | (apply wc_true; rfl) | (apply wc_false; rfl) | (apply a_dec_t; rfl; (· first | assumption | omega)) | (apply wo_run; rfl; rfl) | (apply wo_st; rfl; rfl; rfl; (· (repeat (first | apply sel_here | apply sel_there))); (· (repeat (first | apply SetAt.here | apply SetAt.there))); rfl) | (apply wo_alloc; rfl; intro bx) | (apply wo_sta; rfl; rfl; rfl; rfl; (· (repeat (first | apply sel_here ))); (· (repeat (first | apply LayAt.nil | apply LayAt.here ))); rfl) ))
      exact loop_end ⟨j + 1, decide (o.1 = s), rfl, by omega, by rw [hk3, ← Bool.or_assoc, ← hk]; rfl, rfl⟩ (by omega) (wk_mk (by (repeat (first | apply wkf_nil | (apply wkf_cons; rfl))); done) (by (repeat (first | apply sub_nil | (apply sub_cons; (· (repeat (first | apply sel_here | apply sel_there)))))); done) (by first | exact fun _ h => h | (intro r hr; cases hr; done) | (simp; done) | exact fun _ h => List.mem_append_left _ h | (intro r hr; simp [hr]; done)))
  · have e : j = os.length := by omega
    subst e
    rw [List.take_length] at hk
    rw [← hk]
    (repeat (first | ((first | (apply wo_v; rfl) ); (· first | (apply pv_ev; rfl) | (apply g_load; first | (apply pv_lda; rfl; (· (repeat (first | apply sel_here | apply sel_there))); (· (repeat (first | apply Cut.here0 | apply Cut.here )))) ) )) | apply wo_nil | apply wc_seq | apply wc_region | (apply wc_exit; rfl) | apply wc_ret | (apply wc_true; rfl) | (apply wc_false; rfl) | (apply a_dec_t; rfl; (· first | assumption | omega)) | (apply a_dec_f; rfl; (· first | assumption | omega)) | (apply wo_sta; rfl; rfl; rfl; rfl; (· (repeat (first | apply sel_here ))); (· (repeat (first | apply LayAt.nil | apply LayAt.here ))); rfl) ))
    exact retv rfl (by (repeat (first | apply RV.nil | (apply RV.agg; rfl; (· (repeat (first | apply sel_here ))); infer_instance; (· (repeat (first | apply Cut.here0 | apply Cut.here )))) )); done) (⟨_, _, rfl, rfl, rfl⟩) (by (repeat (first | apply sub_nil | (apply sub_cons; (· (repeat (first | apply sel_here | apply sel_there)))))); done) (by first | exact fun _ h => h | (intro r hr; cases hr; done) | (simp; done) | exact fun _ h => List.mem_append_left _ h | (intro r hr; simp [hr]; done))
theorem hNack (R : List Ro) (s : Int) (ak : Ak) (f0 to : Int) (ps : List (Int × Int)) (A : Option Addr) (n c : Nat) (hS : SQ R 2 A n c (pairV ps)) (hl : ps.length ≤ 1000) (hbp : ∀ x ∈ ps, in16 x.1 ∧ in16 x.2) (hal : ak.sq.length ≤ 1000000) : RdC R s ak (.nack f0 to ps) (rfA (rfL 205 1 f0 to 0 0 0 0 nilS nilS nilS E0 (.slice A n c) nilS 0)) := fun ao c' => by
  have qs := eSort false 205 1 f0 to 0 0 0 0 none 0 0 none 0 0 none 0 0 E0 A n c none 0 0 0 R 4 (by decide)
  have hq := eSeqs ps A n c R hS (by omega) hbp
  have hsl := seqL_len ps
  obtain ⟨sq, ky, ra, gn⟩ := ak
  dsimp only at hal
  unfold isO stepA
  dsimp only
  by_cases hto : to = s
  · rw [if_pos hto]
    generalize seqL ps = sl at *
    refine fn_intro Try.func13 rfl Try.ntmps13 rfl (fun E => ?_)
    (repeat (first | ((first | (apply wo_v; rfl) ); (· first | (apply pv_ev; rfl) | (apply g_load; first | (apply pv_lda; rfl; (· (repeat (first | apply sel_here | apply sel_there))); (· (repeat (first | apply Cut.here0 | apply Cut.here )))) ) )) | apply wo_nil | apply wc_seq | apply wc_region | (apply wo_box1; rfl; rfl; rfl; intro bx) | (apply wo_boxa; rfl; rfl; intro bx) | (apply wo_alloc; rfl; intro bx) ))
    rename_i b4 b6
    obtain ⟨b8, hb8⟩ : ∃ g, g = bx := ⟨_, rfl⟩
    subst hb8
    (refine wo_call (qs) rfl (by (repeat (first | apply sub_nil )); done) (by first | exact fun _ h => h | (intro r hr; cases hr; done) | (simp; done) | exact fun _ h => List.mem_append_left _ h | (intro r hr; simp [hr]; done)) rfl ?_; rintro v L' R' ⟨rfl, rfl, rfl⟩ H' hH RR hR; simp only [List.cons_append, List.nil_append] at hH hR; subst hH; have hR := hR.symm; subst hR)
    (repeat (first | ((first | (apply wo_v; rfl) ); (· first | (apply pv_ev; rfl) | (apply pv_fld; rfl) | (apply g_load; first | (apply pv_ld; rfl; (· (repeat (first | apply sel_here | apply sel_there))); rfl) ) )) | apply wo_nil | apply wc_seq | apply wc_region | apply wc_block | (apply wc_true; rfl) | (apply wc_false; rfl) | (apply a_dec_t; rfl; (· first | assumption | omega)) ))
    (refine wc_regM [0, 1, 2, 3] (aslL [(0, [1]), (2, [0]), (3, [1, 2]), (6, [3]), (7, [1, 3]), (9, [1, 0])]) (tblRd b4 ao c' sq ky ra gn sl) ([aR b8 (.slice none 0 0) false 0 false, rfO b6 (rfL 205 1 f0 to 0 0 0 0 nilS nilS nilS E0 (.slice A n c) nilS 0)]) (fm [(0, [aR b4 (.slice ao sq.length c') ky ra gn]), (1, []), (2, [sO ao sq.length c' sq]), (3, [])]) mixed (by kernel_rfl) (by kernel_rfl) (by decide) (aslL_ok (by decide)) (by (repeat (first | (apply prm_cons; (· (repeat (first | apply sel_here )))) | apply List.Perm.nil )); done) ?_; (repeat (first | (apply HdM.val; rfl; rfl; (· first | fail ); (· first | fail )) )))
    (refine hm_eff (cs := [1]) rfl (by decide) rfl rfl (by first | exact gok_none | exact gok_run rfl rfl) (fun a ha => outc_mono (outc_bsl (by (repeat (first | apply Rws'.nil )); done) rfl rfl rfl a ha) (fun v M h => Exists.elim h fun b h => ⟨[M], Exists.intro b (And.intro h.1 (congrArg (fun x => [x]) h.2)), rfl, by simp⟩)) (⟨_, _, Exists.intro 0 (And.intro rfl rfl), rfl⟩) ?_; rintro v Ms ⟨b9, rfl, rfl⟩ _; simp only [setls, setl, reduceIte, Nat.reduceEqDiff]; (repeat (first | (apply HdM.val; rfl; rfl; (· first | apply gok_none ); (· first | (apply pv_ev; rfl) | (apply pv_fld; rfl) )) )))
    (refine hm_eff (cs := [0]) rfl (by decide) rfl rfl (by first | exact gok_none | exact gok_run rfl rfl) (fun a ha => outc_mono (outc_ld (L := [aR b4 (.slice ao sq.length c') ky ra gn]) (pv_ld rfl (by (repeat (first | apply sel_here )); done) rfl) a ha) (fun v M h => ⟨[M], And.intro h.1 (congrArg (fun x => [x]) h.2), rfl, by simp⟩)) (⟨_, _, And.intro rfl rfl, rfl⟩) ?_; rintro v Ms ⟨rfl, rfl⟩ _; simp only [setls, setl, reduceIte, Nat.reduceEqDiff]; (repeat (first | (apply HdM.val; rfl; rfl; (· first | fail ); (· first | fail )) )))
    (refine hm_eff (cs := [1, 2]) rfl (by decide) rfl rfl (by first | exact gok_none | exact gok_run rfl rfl) (fun a ha => outc_mono (outc_app_g rfl rfl (by unfold maxLen; omega) (by omega) a ha) (fun v M h => by obtain ⟨b, c, h1, h2⟩ := h; exact ⟨[[_], [_]], ⟨b, c, h1, rfl⟩, rfl, h2⟩)) (⟨_, _, ⟨none, 0, rfl, rfl⟩, rfl⟩) ?_; rintro v Ms ⟨ao3, c3, rfl, rfl⟩ _; simp only [setls, setl, reduceIte, Nat.reduceEqDiff]; (repeat (first | (apply HdM.val; rfl; rfl; (· first | apply gok_none ); (· first | (apply pv_ev; rfl) | (apply pv_fld; rfl) | (apply g_load; first | (apply pv_ld; rfl; (· (repeat (first | apply sel_here | apply sel_there))); rfl) ) )) )))
    (refine hm_eff (cs := [3]) rfl (by decide) rfl rfl (by first | exact gok_none | exact gok_run rfl rfl) (fun a ha => outc_mono (outc_call (F1 := _) (T := fun v M => ∃ ao2 c2, v = .slice ao2 sl.length c2 ∧ M = [sO ao2 sl.length c2 sl]) hq rfl (by (repeat (first | apply sub_nil )); done) (by first | exact fun _ h => h | (intro r hr; cases hr; done) | (simp; done) | exact fun _ h => List.mem_append_left _ h | (intro r hr; simp [hr]; done)) (by rintro v L' R' ⟨ao2, c2, rfl, rfl, _⟩; exact ⟨_, ⟨ao2, c2, rfl, rfl⟩, (by (repeat (first | (apply prm_cons; (· (repeat (first | apply sel_here )))) | apply List.Perm.nil )); done)⟩) a ha) (fun v M h => by obtain ⟨ao2, c2, h1, h2⟩ := h; exact ⟨[M], ⟨ao2, c2, h1, congrArg (fun x => [x]) h2⟩, rfl, by simp⟩)) (⟨_, _, ⟨none, 0, rfl, rfl⟩, rfl⟩) ?_; rintro v Ms ⟨ao4, c4, rfl, rfl⟩ _; simp only [setls, setl, reduceIte, Nat.reduceEqDiff]; (repeat (first | (apply HdM.val; rfl; rfl; (· first | fail ); (· first | fail )) )))
    (refine hm_eff (cs := [1, 3]) rfl (by decide) rfl rfl (by first | exact gok_none | exact gok_run rfl rfl) (fun a ha => outc_mono (outc_app_g rfl rfl (by unfold maxLen; omega) (by omega) a ha) (fun v M h => by obtain ⟨b, c, h1, h2⟩ := h; exact ⟨[[_], [_]], ⟨b, c, h1, rfl⟩, rfl, h2⟩)) (⟨_, _, ⟨none, 0, rfl, rfl⟩, rfl⟩) ?_; rintro v Ms ⟨ao5, c5, rfl, rfl⟩ _; simp only [setls, setl, reduceIte, Nat.reduceEqDiff]; (repeat (first | (apply HdM.val; rfl; rfl; (· first | apply gok_none ); (· first | (apply pv_ev; rfl) | (apply pv_fld; rfl) )) )))
    (refine hm_eff (cs := [1, 0]) rfl (by decide) rfl rfl (by first | exact gok_none | exact gok_run rfl rfl) (fun a ha => outc_mono (outc_frA (X := [sO' ao5 (0 + sq.length + sl.length) c5 ([] ++ c16 sq ++ c16 sl)]) (L := [aR b4 (.slice ao sq.length c') ky ra gn]) (outc_st rfl rfl rfl (by (repeat (first | apply SetAt.here )); done)) a ha) (fun v M h => by obtain ⟨M0, ⟨h1, h2⟩, h3⟩ := h; exact ⟨[[_], [_]], ⟨h1, rfl⟩, rfl, by rw [h3, h2]; rfl⟩)) (⟨_, _, ⟨rfl, rfl⟩, rfl⟩) ?_; rintro v Ms ⟨rfl, rfl⟩ _; simp only [setls, setl, reduceIte, Nat.reduceEqDiff]; (repeat (first | fail )))
    (refine HdM.nil ?_; intro H hH; simp only [Hp, fm, look, setl, List.flatMap_cons, List.flatMap_nil, reduceIte, Nat.reduceEqDiff, Option.getD_some, List.append_nil, List.cons_append, List.nil_append] at hH; subst hH)
    (repeat (first | ((first | (apply wo_v; rfl) ); (· first | (apply pv_ev; rfl) | (apply g_load; first | (apply pv_lda; rfl; (· (repeat (first | apply sel_here | apply sel_there))); (· (repeat (first | apply Cut.here0 | apply Cut.here )))) ) )) | apply wo_nil | apply wc_seq | apply wc_region | apply wc_ret | (apply wo_sta; rfl; rfl; rfl; rfl; (· (repeat (first | apply sel_here ))); (· (repeat (first | apply LayAt.nil | apply LayAt.here ))); rfl) ))
    have e2 : c16 sq ++ c16 sl = c16 (sq ++ sl) := (c16_app sq sl).symm
    have e3 : 0 + sq.length + sl.length = (sq ++ sl).length := by rw [List.length_append]; omega
    rw [e2, e3]
    exact retv rfl (by (repeat (first | apply RV.nil | (apply RV.agg; rfl; (· (repeat (first | apply sel_here ))); infer_instance; (· (repeat (first | apply Cut.here0 | apply Cut.here )))) )); done) (⟨_, _, rfl, rfl, rfl⟩) (by (repeat (first | apply sub_nil | (apply sub_cons; (· (repeat (first | apply sel_here | apply sel_there)))))); done) (by first | exact fun _ h => h | (intro r hr; cases hr; done) | (simp; done) | exact fun _ h => List.mem_append_left _ h | (intro r hr; simp [hr]; done))
  · rw [if_neg hto]
    refine fn_intro Try.func13 rfl Try.ntmps13 rfl (fun E => ?_)
    (repeat (first | ((first | (apply wo_v; rfl) ); (· first | (apply pv_ev; rfl) | (apply g_load; first | (apply pv_lda; rfl; (· (repeat (first | apply sel_here | apply sel_there))); (· (repeat (first | apply Cut.here0 | apply Cut.here )))) ) )) | apply wo_nil | apply wc_seq | apply wc_region | (apply wo_box1; rfl; rfl; rfl; intro bx) | (apply wo_boxa; rfl; rfl; intro bx) | (apply wo_alloc; rfl; intro bx) ))
    (refine wo_call (qs) rfl (by (repeat (first | apply sub_nil )); done) (by first | exact fun _ h => h | (intro r hr; cases hr; done) | (simp; done) | exact fun _ h => List.mem_append_left _ h | (intro r hr; simp [hr]; done)) rfl ?_; rintro v L' R' ⟨rfl, rfl, rfl⟩ H' hH RR hR; simp only [List.cons_append, List.nil_append] at hH hR; subst hH; have hR := hR.symm; subst hR)
    (repeat (first | ((first | (apply wo_v; rfl) ); (· first | (apply pv_ev; rfl) | (apply pv_fld; rfl) | (apply g_load; first | (apply pv_ld; rfl; (· (repeat (first | apply sel_here | apply sel_there))); rfl) | (apply pv_lda; rfl; (· (repeat (first | apply sel_here | apply sel_there))); (· (repeat (first | apply Cut.here0 | apply Cut.here )))) ) )) | apply wo_nil | apply wc_seq | apply wc_region | apply wc_block | apply wc_skip | apply wc_ret | (apply wc_true; rfl) | (apply wc_false; rfl) | (apply a_dec_t; rfl; (· first | assumption | omega)) | (apply a_dec_f; rfl; (· first | assumption | omega)) | (apply wo_sta; rfl; rfl; rfl; rfl; (· (repeat (first | apply sel_here ))); (· (repeat (first | apply LayAt.nil | apply LayAt.here ))); rfl) ))
    exact retv rfl (by (repeat (first | apply RV.nil | (apply RV.agg; rfl; (· (repeat (first | apply sel_here ))); infer_instance; (· (repeat (first | apply Cut.here0 | apply Cut.here )))) )); done) (⟨_, _, rfl, rfl, rfl⟩) (by (repeat (first | apply sub_nil | (apply sub_cons; (· (repeat (first | apply sel_here | apply sel_there)))))); done) (by first | exact fun _ h => h | (intro r hr; cases hr; done) | (simp; done) | exact fun _ h => List.mem_append_left _ h | (intro r hr; simp [hr]; done))
/-- lists of a packet that are not too long, and numbers in their ranges -/
theorem eRead {R : List Ro} (s : Int) (ak : Ak) (hal : ak.sq.length ≤ 1000000) : ∀ {p : Pkt} {w : Value}, p.ok 1000 → RefV R p w → RdC R s ak p w
  | .sender .., w, h, hw => by
    obtain ⟨A, n, c, rfl, hS⟩ := hw
    exact hNop R s ak (.sender ..) _ _ _ _ _ _ _ _ _ _ _ _ _ _ _ _ _ _ _ _ _ _ _ _ _ (by unfold srM isO; simp) rfl
  | .receiver .., w, h, hw => by
    obtain ⟨A, n, c, rfl, hS⟩ := hw
    exact hNop R s ak (.receiver ..) _ _ _ _ _ _ _ _ _ _ _ _ _ _ _ _ _ _ _ _ _ _ _ _ _ (by unfold srM isO; simp) rfl
  | .sdes .., w, h, hw => by
    obtain ⟨A, n, c, rows, rfl, hS⟩ := hw
    exact hNop R s ak (.sdes ..) _ _ _ _ _ _ _ _ _ _ _ _ _ _ _ _ _ _ _ _ _ _ _ _ _ (by unfold srM isO; simp) rfl
  | .other .., w, h, hw => by
    obtain rfl := hw
    exact hNop R s ak (.other ..) _ _ _ _ _ _ _ _ _ _ _ _ _ _ _ _ _ _ _ _ _ _ _ _ _ (by unfold srM isO; simp) rfl
  | .bye ss rs, w, h, hw => by
    obtain ⟨A, n, c, rfl, hS⟩ := hw
    exact hBye R s ak ss rs A n c hS (by have := h.2.1; omega)
  | .nack f0 to ps, w, h, hw => by
    obtain ⟨A, n, c, rfl, hS⟩ := hw
    exact hNack R s ak f0 to ps A n c hS h.2.2.2 h.2.2.1 hal
  | .pli f0 to, w, h, hw => by
    obtain rfl := hw
    exact hPli R s ak f0 to
  | .fir f0 os, w, h, hw => by
    obtain ⟨A, n, c, rfl, hS⟩ := hw
    exact hFir R s ak f0 os A n c hS (by have := h.2.2; omega)
  | .remb f0 rt ss, w, h, hw => by
    obtain ⟨A, n, c, rfl, hS⟩ := hw
    exact hRemb R s ak f0 rt ss A n c hS (by have := h.2.2.2; omega) h.2.1.1
theorem mk_ok {m : Md} (hm : m.ok) : (mkM m).ok 1000 ∧ isO (mkM m) = decide ((bits .and .i64 m.so 255).tmod 9 = 8) := by
  have hbk := bks_ok hm
  obtain ⟨k1, k2, k3, k4, k5, k6, k7, k8, k9⟩ := hm
  have k40 : ∀ x ∈ m.nums.take 40, in32 x := fun x hx => k4 x (List.mem_of_mem_take hx)
  have hl40 : (m.nums.take 40).length ≤ 40 := by rw [List.length_take]; omega
  have f1 := fsM_le m.tx 60
  have f2 := fsM_le m.tx 257
  refine ⟨?_, ?_⟩
  · unfold mkM
    dsimp only
    split
    · refine ⟨k1, k2, fun x hx => ?_, by rw [List.length_map]; omega⟩
      obtain ⟨y, hy, rfl⟩ := List.mem_map.1 hx
      obtain ⟨y1, y2⟩ := k40 y hy
      unfold prs5 in16
      dsimp only; omega
    split
    · exact ⟨k1, k2⟩
    split
    · refine ⟨k1, fun x hx => ?_, by rw [List.length_map]; omega⟩
      obtain ⟨y, hy, rfl⟩ := List.mem_map.1 hx
      exact ⟨k40 y hy, k5⟩
    split
    · exact ⟨k1, rtM5_in k3, k40, by omega⟩
    split
    · exact ⟨k7, k6, by omega⟩
    split
    · exact ⟨k1, k3, k2, by unfold in32; omega, k1, hbk.1, by omega⟩
    split
    · exact ⟨k1, hbk.1, by omega⟩
    split
    · refine ⟨fun c hc => ?_, by simp⟩
      have hc : c = (m.a, chM m.sm m.tx) := by simpa using hc
      subst hc
      have hl := chM_len m.sm m.tx
      exact ⟨k1, by dsimp only; omega, fun x hx => by
        have h := itM5_all (sm := m.sm) (i := 0) (l := m.tx.take 4) x hx
        exact ⟨h.1, by have := h.2; omega⟩⟩
    · exact ⟨k40, by omega, by omega⟩
  · unfold mkM
    dsimp only
    split
    · rename_i h; rw [h]; rfl
    split
    · rename_i h; rw [h]; rfl
    split
    · rename_i h; rw [h]; rfl
    split
    · rename_i h; rw [h]; rfl
    split
    · rename_i h; rw [h]; rfl
    all_goals
      rename_i h8
      rw [decide_eq_false (by assumption)]
      repeat' split
      all_goals rfl
end Go.Proofs.Ytnjicnadlhfocaa

/-
  Package report: Clock; ReportClock.
-/
namespace Go.Proofs.Ytnjicnadlhfocaa
set_option linter.unusedSimpArgs false
set_option linter.unusedVariables false
open Go.RowKit
attribute [local irreducible] Pv WO WC Fn
set_option maxRecDepth 100000

abbrev clO (b : Nat) (th : Bool) (ntp t : Int) : It := .ob b (.cells #[.bool th, .int .u64 ntp, .int .u32 t] 50 (0, 0))
def atM (ntp t u : Int) : Int :=
  if (u - t) % 4294967296 < 2147483648 then (ntp + ((u - t) % 4294967296 / 90000 * 4294967296 + (u - t) % 4294967296 % 90000 * 4294967296 / 90000)) % 18446744073709551616
  else (ntp - ((4294967296 - (u - t) % 4294967296) / 90000 * 4294967296 + (4294967296 - (u - t) % 4294967296) % 90000 * 4294967296 / 90000)) % 18446744073709551616
theorem at_neg {D : Int} (ntp : Int) (h : 2147483648 ≤ D ∧ D < 4294967296) :
    (ntp + IntKind.i64.wrap (IntKind.i64.wrap (IntKind.i64.wrap ((IntKind.i64.wrap (IntKind.i32.wrap D)).tdiv 90000) * 2 ^ min (Int.toNat 32) IntKind.i64.bits) + IntKind.i64.wrap ((IntKind.i64.wrap ((IntKind.i64.wrap (IntKind.i32.wrap D)).tmod 90000 * 2 ^ min (Int.toNat 32) IntKind.i64.bits)).tdiv 90000)) % 18446744073709551616) % 18446744073709551616
      = (ntp - ((4294967296 - D) / 90000 * 4294967296 + (4294967296 - D) % 90000 * 4294967296 / 90000)) % 18446744073709551616 := by
  obtain ⟨m, hm⟩ : ∃ m, 4294967296 - D = m := ⟨_, rfl⟩
  have e0 : IntKind.i32.wrap D = -m := by rw [IntKind.wrap_i32]; omega
  have e00 : IntKind.i64.wrap (-m) = -m := IntWalk.i64_in _ (by omega)
  have e1 : (-m).tdiv 90000 = -(m / 90000) := by rw [Int.neg_tdiv, Int.tdiv_eq_ediv_of_nonneg (by omega)]
  have e2 : (-m).tmod 90000 = -(m % 90000) := by rw [Int.neg_tmod, Int.tmod_eq_emod_of_nonneg (by omega)]
  have e3 : (2 : Int) ^ min (Int.toNat 32) IntKind.i64.bits = 4294967296 := by decide
  have e4 : IntKind.i64.wrap (-(m / 90000)) = -(m / 90000) := IntWalk.i64_in _ (by omega)
  have e5 : IntKind.i64.wrap (-(m / 90000) * 4294967296) = -(m / 90000 * 4294967296) := by rw [IntWalk.i64_in _ (by omega)]; omega
  have e6 : IntKind.i64.wrap (-(m % 90000) * 4294967296) = -(m % 90000 * 4294967296) := by rw [IntWalk.i64_in _ (by omega)]; omega
  have e7 : (-(m % 90000 * 4294967296)).tdiv 90000 = -(m % 90000 * 4294967296 / 90000) := by rw [Int.neg_tdiv, Int.tdiv_eq_ediv_of_nonneg (by omega)]
  have e8 : IntKind.i64.wrap (-(m % 90000 * 4294967296 / 90000)) = -(m % 90000 * 4294967296 / 90000) := IntWalk.i64_in _ (by omega)
  have e9 : IntKind.i64.wrap (-(m / 90000 * 4294967296) + -(m % 90000 * 4294967296 / 90000)) = -(m / 90000 * 4294967296) + -(m % 90000 * 4294967296 / 90000) := IntWalk.i64_in _ (by omega)
  rw [hm, e0, e00, e1, e2, e3, e4, e5, e6, e7, e8, e9]
  omega
theorem kAtNo (b : Nat) (ntp t u : Int) : Fn Try.prog 18 #[.pointer (some ⟨b, 0, none⟩), .int .u32 u] [clO b false ntp t] [] (fun v L' R' => v = .tuple #[.int .u64 0, .bool false] ∧ L' = [clO b false ntp t] ∧ R' = []) := by
  refine fn_intro Try.func18 rfl Try.ntmps18 rfl (fun E => ?_)
  (repeat (first | ((first | (apply wo_v; rfl) ); (· first | (apply pv_ev; rfl) | (apply pv_fld; rfl) | (apply g_load; first | (apply pv_ld; rfl; (· (repeat (first | apply sel_here ))); rfl) ) | (apply g_un; first | (apply pv_not_t; rfl) | (apply pv_not_f; rfl) ) )) | apply wo_nil | apply wc_seq | apply wc_region | apply wc_ret | (apply wc_true; rfl) ))
  exact ret2 rfl rfl rfl ⟨rfl, rfl, rfl⟩ ((by (repeat (first | apply sub_nil )); done) : List.Perm _ ([_] ++ _)) (by first | exact fun _ h => h | (intro r hr; cases hr; done) | (simp; done) | exact fun _ h => List.mem_append_left _ h | (intro r hr; simp [hr]; done))
set_option maxHeartbeats 4000000 in
theorem kAt (b : Nat) (ntp t u : Int) (h1 : in64 ntp) (h2 : in32 t) (h3 : in32 u) : Fn Try.prog 18 #[.pointer (some ⟨b, 0, none⟩), .int .u32 u] [clO b true ntp t] [] (fun v L' R' => v = .tuple #[.int .u64 (atM ntp t u), .bool true] ∧ L' = [clO b true ntp t] ∧ R' = []) := by
  obtain ⟨h1a, h1b⟩ := h1
  have hD : 0 ≤ (u - t) % 4294967296 ∧ (u - t) % 4294967296 < 4294967296 := by omega
  unfold atM
  by_cases hc : (u - t) % 4294967296 < 2147483648
  · rw [if_pos hc]
    refine fn_intro Try.func18 rfl Try.ntmps18 rfl (fun E => ?_)
    (repeat (first | ((first | (apply wo_v; rfl) ); (· first | (apply pv_ev; rfl) | (apply pv_fld; rfl) | (apply g_load; first | (apply pv_ld; rfl; (· (repeat (first | apply sel_here ))); rfl) ) | (apply g_bin; first | (apply a_add; rfl; rfl; infer_instance; omega) | (apply a_sub; rfl; rfl; infer_instance; omega) | (apply a_quo; rfl; rfl; infer_instance; omega) | (apply pv_rem; rfl; rfl; omega) | (apply pv_add_s; rfl; rfl; omega) | (apply a_add_u; rfl; rfl; infer_instance) | (apply a_sub_u; rfl; rfl; infer_instance) | (apply a_shl; rfl; rfl; rfl; omega; rfl; infer_instance; omega) ) | (apply g_un; first | (apply pv_not_t; rfl) ) | (apply g_conv; first | (apply a_conv; rfl; infer_instance; infer_instance; infer_instance; omega) ) )) | apply wo_nil | apply wc_seq | apply wc_region | apply wc_skip | apply wc_ret | (apply wc_true; rfl) | (apply wc_false; rfl) ))
    exact ret2 rfl rfl rfl ⟨rfl, rfl, rfl⟩ ((by (repeat (first | apply sub_nil )); done) : List.Perm _ ([_] ++ _)) (by first | exact fun _ h => h | (intro r hr; cases hr; done) | (simp; done) | exact fun _ h => List.mem_append_left _ h | (intro r hr; simp [hr]; done))
  · rw [if_neg hc]
    refine fn_intro Try.func18 rfl Try.ntmps18 rfl (fun E => ?_)
    (repeat (first | ((first | (apply wo_v; rfl) ); (· first | (apply pv_ev; rfl) | (apply pv_fld; rfl) | (apply g_load; first | (apply pv_ld; rfl; (· (repeat (first | apply sel_here ))); rfl) ) | (apply g_bin; first | (apply a_add; rfl; rfl; infer_instance; omega) | (apply a_sub; rfl; rfl; infer_instance; omega) | (apply a_quo; rfl; rfl; infer_instance; omega) | (apply pv_quo_t; rfl; rfl; omega) | (apply pv_rem; rfl; rfl; omega) | (apply pv_rem_t; rfl; rfl; omega) | (apply pv_add_s; rfl; rfl; omega) | (apply a_add_u; rfl; rfl; infer_instance) | (apply a_sub_u; rfl; rfl; infer_instance) | (apply pv_add_w; rfl; rfl) | (apply a_shl; rfl; rfl; rfl; omega; rfl; infer_instance; omega) | (apply a_shl_u; rfl; rfl; rfl; omega; rfl; infer_instance) | (apply pv_shl; rfl; rfl; omega) ) | (apply g_un; first | (apply pv_not_t; rfl) ) | (apply g_conv; first | (apply a_conv; rfl; infer_instance; infer_instance; infer_instance; omega) | (apply a_conv_u; rfl; infer_instance; infer_instance; infer_instance) | (apply a_conv_w; rfl; infer_instance; infer_instance) ) )) | apply wo_nil | apply wc_seq | apply wc_region | apply wc_skip | apply wc_ret | (apply wc_true; rfl) | (apply wc_false; rfl) ))
    exact ret2 rfl rfl rfl ⟨by rw [at_neg ntp (by omega)], rfl, rfl⟩ ((by (repeat (first | apply sub_nil )); done) : List.Perm _ ([_] ++ _)) (by first | exact fun _ h => h | (intro r hr; cases hr; done) | (simp; done) | exact fun _ h => List.mem_append_left _ h | (intro r hr; simp [hr]; done))
abbrev seO (b : Nat) (ss ntp t pk oc : Int) (w : Value) : It := .ob b (.cells #[.int .u32 ss, .int .u64 ntp, .int .u32 t, .int .u32 pk, .int .u32 oc, w] 53 (0, 0))
def tblK (b : Nat) (th : Bool) (n0 t0 ntp t : Int) : Nat → List (List It) → Value → List (List It) → Prop := fun k _ v Ms => match k with
  | 9 => v = undef ∧ Ms = [[clO b true n0 t0]]
  | 12 => v = undef ∧ Ms = [[clO b true ntp t0]]
  | _ => v = undef ∧ Ms = [[clO b true ntp t]]
set_option maxHeartbeats 4000000 in
theorem kPut (b : Nat) (th : Bool) (n0 t0 ss ntp t pk oc : Int) (w : Value) (hw : w.oneCell' = true) : Fn Try.prog 17 #[.pointer (some ⟨b, 0, none⟩), .agg #[.int .u32 ss, .int .u64 ntp, .int .u32 t, .int .u32 pk, .int .u32 oc, w]] [clO b th n0 t0] [] (fun v L' R' => v = .tuple #[] ∧ L' = [clO b true ntp t] ∧ R' = []) := by
  refine fn_intro Try.func17 rfl Try.ntmps17 rfl (fun E => ?_)
  (repeat (first | ((first | (apply wo_v; rfl) ); (· first | (apply pv_ev; rfl) )) | apply wo_nil | apply wc_seq | apply wc_region | (apply wo_box1; rfl; rfl; rfl; intro bx) | (apply wo_boxa; rfl; rfl; intro bx) ))
  (refine wc_regM [0] (aslL [(9, [0]), (12, [0]), (15, [0])]) (tblK b th n0 t0 ntp t) ([seO bx ss ntp t pk oc w]) (fm [(0, [clO b th n0 t0])]) mixed (by kernel_rfl) (by kernel_rfl) (by decide) (aslL_ok (by decide)) (by (repeat (first | (apply prm_cons; (· (repeat (first | apply sel_here )))) | apply List.Perm.nil )); done) ?_; (repeat (first | (apply HdM.val; rfl; rfl; (· first | apply gok_none ); (· first | (apply pv_ev; rfl) | (apply pv_fld; rfl) | (apply g_load; first | (apply pv_ld; rfl; (· (repeat (first | apply sel_here ))); rfl) ) )) )))
  (refine hm_eff (cs := [0]) rfl (by decide) rfl rfl (by first | exact gok_none | exact gok_run rfl rfl) (fun a ha => outc_mono (outc_st rfl rfl rfl (by (repeat (first | apply SetAt.here )); done) a ha) (fun v M h => ⟨[M], And.intro h.1 (congrArg (fun x => [x]) h.2), rfl, by simp⟩)) ⟨_, _, And.intro rfl rfl, rfl⟩ ?_; rintro v Ms ⟨rfl, rfl⟩ _; simp only [setls, setl, reduceIte, Nat.reduceEqDiff]; (repeat (first | (apply HdM.val; rfl; rfl; (· first | apply gok_none ); (· first | (apply pv_ev; rfl) | (apply pv_fld; rfl) )) )))
  (refine hm_eff (cs := [0]) rfl (by decide) rfl rfl (by first | exact gok_none | exact gok_run rfl rfl) (fun a ha => outc_mono (outc_st rfl rfl rfl (by (repeat (first | apply SetAt.here | apply SetAt.there)); done) a ha) (fun v M h => ⟨[M], And.intro h.1 (congrArg (fun x => [x]) h.2), rfl, by simp⟩)) ⟨_, _, And.intro rfl rfl, rfl⟩ ?_; rintro v Ms ⟨rfl, rfl⟩ _; simp only [setls, setl, reduceIte, Nat.reduceEqDiff]; (repeat (first | (apply HdM.val; rfl; rfl; (· first | apply gok_none ); (· first | (apply pv_ev; rfl) | (apply pv_fld; rfl) )) )))
  (refine hm_eff (cs := [0]) rfl (by decide) rfl rfl (by first | exact gok_none | exact gok_run rfl rfl) (fun a ha => outc_mono (outc_st rfl rfl rfl (by (repeat (first | apply SetAt.here | apply SetAt.there)); done) a ha) (fun v M h => ⟨[M], And.intro h.1 (congrArg (fun x => [x]) h.2), rfl, by simp⟩)) ⟨_, _, And.intro rfl rfl, rfl⟩ ?_; rintro v Ms ⟨rfl, rfl⟩ _; simp only [setls, setl, reduceIte, Nat.reduceEqDiff]; (repeat (first | fail )))
  (refine HdM.nil ?_; intro H hH; simp only [Hp, fm, look, setl, List.flatMap_cons, List.flatMap_nil, reduceIte, Nat.reduceEqDiff, Option.getD_some, List.append_nil, List.cons_append, List.nil_append] at hH; subst hH)
  (repeat (first | fail ))
  exact ret0 rfl ⟨rfl, rfl, rfl⟩ ((by (repeat (first | apply sub_nil | (apply sub_cons; (· (repeat (first | apply sel_here | apply sel_there)))))); done) : List.Perm _ ([_] ++ _)) (by first | exact fun _ h => h | (intro r hr; cases hr; done) | (simp; done) | exact fun _ h => List.mem_append_left _ h | (intro r hr; simp [hr]; done))
theorem kTime (b : Nat) (th : Bool) (ntp t : Int) : Fn Try.prog 16 #[.pointer (some ⟨b, 0, none⟩)] [clO b th ntp t] [] (fun v L' R' => v = .tuple #[.int .u32 t, .bool th] ∧ L' = [clO b th ntp t] ∧ R' = []) := by
  refine fn_intro Try.func16 rfl Try.ntmps16 rfl (fun E => ?_)
  (repeat (first | ((first | (apply wo_v; rfl) ); (· first | (apply pv_ev; rfl) )) | apply wo_nil | apply wc_seq | apply wc_region ))
  (refine wc_quiet mixed (by kernel_rfl) ?_; (repeat (first | ((first | (apply hd_v; rfl) ); (· first | (apply pv_ev; rfl) | (apply pv_fld; rfl) | (apply g_load; first | (apply pv_ld; rfl; (· (repeat (first | apply sel_here ))); rfl) ) )) | apply Hd.nil | apply wc_ret )))
  exact ret2 rfl rfl rfl ⟨rfl, rfl, rfl⟩ ((by (repeat (first | apply sub_nil )); done) : List.Perm _ ([_] ++ _)) (by first | exact fun _ h => h | (intro r hr; cases hr; done) | (simp; done) | exact fun _ h => List.mem_append_left _ h | (intro r hr; simp [hr]; done))
abbrev seV (ss ntp t pk oc : Int) : Value := .agg #[.int .u32 ss, .int .u64 ntp, .int .u32 t, .int .u32 pk, .int .u32 oc, .slice none 0 0]
theorem kSender (b : Nat) (th : Bool) (ntp t ss tt pk oc : Int) : Fn Try.prog 15 #[.pointer (some ⟨b, 0, none⟩), .int .u32 ss, .int .u32 tt, .int .i64 pk, .int .i64 oc] [clO b th ntp t] []
    (fun v L' R' => v = (if th = true then .tuple #[seV ss ntp tt (pk % 4294967296) (oc % 4294967296), .bool true] else .tuple #[seV 0 0 0 0 0, .bool false]) ∧ L' = [clO b th ntp t] ∧ R' = []) := by
  cases th with
  | true =>
    rw [if_pos rfl]
    refine fn_intro Try.func15 rfl Try.ntmps15 rfl (fun E => ?_)
    (repeat (first | ((first | (apply wo_v; rfl) ); (· first | (apply pv_ev; rfl) | (apply pv_fld; rfl) | (apply g_load; first | (apply pv_ld; rfl; (· (repeat (first | apply sel_here | apply sel_there))); rfl) ) | (apply g_un; first | (apply pv_not_t; rfl) ) | (apply g_conv; first | (apply a_conv; rfl; infer_instance; infer_instance; infer_instance; omega) | (apply a_conv_u; rfl; infer_instance; infer_instance; infer_instance) ) | (apply g_build; apply pv_build; (· (repeat (first | apply Bld.nil | (apply Bld.one; rfl; rfl; (· (repeat (first | apply SetAt.here | apply SetAt.there)))) )))) )) | apply wo_nil | apply wc_seq | apply wc_region | apply wc_skip | apply wc_ret | (apply wc_true; rfl) | (apply wc_false; rfl) | (apply wo_alloc; rfl; intro bx) | (apply wo_sta; rfl; rfl; rfl; rfl; (· (repeat (first | apply sel_here ))); (· (repeat (first | apply LayAt.nil | apply LayAt.here ))); rfl) ))
    exact retv rfl (by (repeat (first | apply RV.nil | (apply RV.tmp; rfl) | (apply RV.agg; rfl; (· (repeat (first | apply sel_here ))); infer_instance; (· (repeat (first | apply Cut.here0 | apply Cut.here )))) )); done) (⟨rfl, rfl, rfl⟩) (by (repeat (first | apply sub_nil | (apply sub_cons; (· (repeat (first | apply sel_here | apply sel_there)))))); done) (by first | exact fun _ h => h | (intro r hr; cases hr; done) | (simp; done) | exact fun _ h => List.mem_append_left _ h | (intro r hr; simp [hr]; done))
  | false =>
    rw [if_neg (by simp)]
    refine fn_intro Try.func15 rfl Try.ntmps15 rfl (fun E => ?_)
    (repeat (first | ((first | (apply wo_v; rfl) ); (· first | (apply pv_ev; rfl) | (apply pv_fld; rfl) | (apply g_load; first | (apply pv_ld; rfl; (· (repeat (first | apply sel_here | apply sel_there))); rfl) ) | (apply g_un; first | (apply pv_not_t; rfl) | (apply pv_not_f; rfl) ) | (apply g_build; apply pv_build; (· (repeat (first | apply Bld.nil )))) )) | apply wo_nil | apply wc_seq | apply wc_region | apply wc_ret | (apply wc_true; rfl) | (apply wo_alloc; rfl; intro bx) | (apply wo_sta; rfl; rfl; rfl; rfl; (· (repeat (first | apply sel_here ))); (· (repeat (first | apply LayAt.nil | apply LayAt.here ))); rfl) ))
    exact retv rfl (by (repeat (first | apply RV.nil | (apply RV.tmp; rfl) | (apply RV.agg; rfl; (· (repeat (first | apply sel_here ))); infer_instance; (· (repeat (first | apply Cut.here0 | apply Cut.here )))) )); done) (⟨rfl, rfl, rfl⟩) (by (repeat (first | apply sub_nil | (apply sub_cons; (· (repeat (first | apply sel_here | apply sel_there)))))); done) (by first | exact fun _ h => h | (intro r hr; cases hr; done) | (simp; done) | exact fun _ h => List.mem_append_left _ h | (intro r hr; simp [hr]; done))
theorem awake17 : Fn Try.prog 11 #[] [] [] (fun v L' R' => v = .bool true ∧ L' = [] ∧ R' = []) := by
  have e1 := fun b => kAt b 0 0 45000 (by unfold in64; omega) (by unfold in32; omega) (by unfold in32; omega)
  rw [show atM 0 0 45000 = 2147483648 by decide] at e1
  have e2 := fun A n c R hS => pRead 2 [.pli 1 2] [.iface 68 (.agg #[.int .u32 1, .int .u32 2])] A n c R hS ((PksV.nil R).snoc (p := .pli 1 2) rfl) (by decide) (by intro p hp; rcases List.mem_singleton.1 hp with rfl; unfold Pkt.ok in32; omega)
  rw [show rdA 2 [.pli 1 2] = ⟨[], true, 0, false⟩ from rfl] at e2
  dsimp only at e2
  refine fn_intro Try.func11 rfl Try.ntmps11 rfl (fun E => ?_)
  (repeat (first | ((first | (apply wo_v; rfl) ); (· first | (apply pv_ev; rfl) )) | apply wo_nil | apply wc_seq | apply wc_region | (apply wo_alloc; rfl; intro bx) ))
  (refine wo_call (kAtNo bx 0 0 5) rfl (by (repeat (first | apply sub_nil )); done) (by first | exact fun _ h => h | (intro r hr; cases hr; done) | (simp; done) | exact fun _ h => List.mem_append_left _ h | (intro r hr; simp [hr]; done)) rfl ?_; rintro v L' R' ⟨rfl, rfl, rfl⟩ H' hH RR hR; simp only [List.cons_append, List.nil_append] at hH hR; subst hH; have hR := hR.symm; subst hR)
  (repeat (first | ((first | (apply wo_v; rfl) ); (· first | (apply pv_ev; rfl) | (apply g_build; apply pv_build; (· (repeat (first | apply Bld.nil )))) )) | apply wo_nil | apply wc_seq | apply wc_region ))
  (refine wo_call (kPut bx false 0 0 0 0 0 0 0 (.slice none 0 0) rfl) rfl (by (repeat (first | apply sub_nil )); done) (by first | exact fun _ h => h | (intro r hr; cases hr; done) | (simp; done) | exact fun _ h => List.mem_append_left _ h | (intro r hr; simp [hr]; done)) rfl ?_; rintro v L' R' ⟨rfl, rfl, rfl⟩ H' hH RR hR; simp only [List.cons_append, List.nil_append] at hH hR; subst hH; have hR := hR.symm; subst hR)
  (repeat (first | ((first | (apply wo_v; rfl) ); (· first | (apply pv_ev; rfl) )) | apply wo_nil | apply wc_seq | apply wc_region ))
  (refine wo_call (e1 bx) rfl (by (repeat (first | apply sub_nil )); done) (by first | exact fun _ h => h | (intro r hr; cases hr; done) | (simp; done) | exact fun _ h => List.mem_append_left _ h | (intro r hr; simp [hr]; done)) rfl ?_; rintro v L' R' ⟨rfl, rfl, rfl⟩ H' hH RR hR; simp only [List.cons_append, List.nil_append] at hH hR; subst hH; have hR := hR.symm; subst hR)
  (repeat (first | ((first | (apply wo_v; rfl) ); (· first | (apply pv_ev; rfl) | (apply g_pick; first | (apply pv_pick_t; rfl; rfl) ) | (apply g_un; first | (apply pv_not_t; rfl) | (apply pv_not_f; rfl) ) | (apply g_build; apply pv_build; (· (repeat (first | apply Bld.nil | (apply Bld.one; rfl; rfl; (· (repeat (first | apply SetAt.here | apply SetAt.there)))) )))) | (apply pv_mki; rfl; infer_instance) )) | apply wo_nil | apply wc_seq | apply wc_region | (apply wo_run; rfl; rfl) | (apply wo_bsl; (· (repeat (first | apply Rws'.nil | (apply Rws'.one; rfl; rfl; rfl) ))); rfl; rfl; rfl; rfl; intro bx) ))
  refine wo_still (ao := some ⟨bx, 0, none⟩) (n := 1) (c := 1) (by (repeat (first | apply sel_here )); done) (fun R1 hS1 => ?_)
  (refine wo_call (e2 _ _ _ _ hS1.sq) rfl (by (repeat (first | apply sub_nil )); done) (by first | exact fun _ h => h | (intro r hr; cases hr; done) | (simp; done) | exact fun _ h => List.mem_append_left _ h | (intro r hr; simp [hr]; done)) rfl ?_; rintro v L' R' ⟨ao, c', rfl, rfl, rfl⟩ H' hH RR hR; simp only [List.cons_append, List.nil_append] at hH hR; subst hH; have hR := hR.symm; subst hR)
  (repeat (first | ((first | (apply wo_v; rfl) ); (· first | (apply pv_ev; rfl) | (apply g_pick; first | (apply pv_pick_t; rfl; rfl) ) | (apply pv_field; rfl; infer_instance; rfl))) | apply wo_nil | apply wc_ret | (apply wo_run; rfl; rfl) ))
  exact ret1 rfl rfl ⟨rfl, rfl, rfl⟩ ((by (repeat (first | apply sub_nil )); done) : List.Perm _ ([] ++ _)) (by first | exact fun _ h => h | (intro r hr; cases hr; done) | (simp; done) | exact fun _ h => List.mem_append_left _ h | (intro r hr; simp [hr]; done))
end Go.Proofs.Ytnjicnadlhfocaa

/-
  Arguments that hold slices in structures, structures by value, slices of slices: what stands in the memory at the call. No program in sight.
-/
namespace Go.Proofs.Ytnjicnadlhfocaa
set_option linter.unusedSimpArgs false
set_option linter.unusedVariables false
open Go.ChangeShapes Go.WideShapes Go.ChangeAt Go.RowKit Go.Deep

inductive Fd1 where
  | one (k : TypeDesc)
  | sl (ks : List TypeDesc)
def FV1 (R : List Ro) : Fd1 → Value → Prop
  | .one k, v => FKok k v
  | .sl ks, v => ∃ (A : Option Addr) (n c : Nat) (V : Nat → Nat → Value), v = .slice A n c ∧ n ≤ c ∧ c ≤ maxLen ∧ (∀ i j k, i < n → ks[j]? = some k → FKok k (V i j)) ∧ (0 < n → ∃ b o, A = some ⟨b, o, none⟩ ∧ ⟨b, o, ks.length, rowsOf ks V n⟩ ∈ R)
def FV1s (R : List Ro) (fs : List Fd1) (row : List Value) : Prop := row.length = fs.length ∧ ∀ (j : Nat) f, fs[j]? = some f → ∃ v, row[j]? = some v ∧ FV1 R f v
theorem FV1.mono {R R' : List Ro} (h : ∀ r ∈ R, r ∈ R') {f : Fd1} {v : Value} (hv : FV1 R f v) : FV1 R' f v := by
  cases f with
  | one k => exact hv
  | sl ks =>
    obtain ⟨A, n, c, V, h1, h2, h3, h4, h5⟩ := hv
    exact ⟨A, n, c, V, h1, h2, h3, h4, fun hn => by obtain ⟨b, o, h6, h7⟩ := h5 hn; exact ⟨b, o, h6, h _ h7⟩⟩
theorem FV1s.mono {R R' : List Ro} (h : ∀ r ∈ R, r ∈ R') {fs : List Fd1} {row : List Value} (hv : FV1s R fs row) : FV1s R' fs row :=
  ⟨hv.1, fun j f hf => by obtain ⟨v, h1, h2⟩ := hv.2 j f hf; exact ⟨v, h1, h2.mono h⟩⟩
theorem FV1.one_ {R : List Ro} {f : Fd1} {v : Value} (h : FV1 R f v) : v.oneCell' = true := by
  cases f with
  | one k => exact fk_one h
  | sl ks => obtain ⟨A, n, c, V, rfl, _⟩ := h; rfl
def kindB (P : Program) (t : TypeId) (k : TypeDesc) : Bool := match P.underlying t, k with
  | some .bool, .bool => true
  | some .string, .string => true
  | some (.int q), .int q' => decide (q = q')
  | _, _ => false
theorem kindB_spec {P : Program} {t : TypeId} {k : TypeDesc} (h : kindB P t k = true) : P.underlying t = some k ∧ plainKinds [k] = true := by
  unfold kindB at h
  split at h <;> first | (rename_i h1; exact ⟨h1, rfl⟩) | (rename_i h1; have := of_decide_eq_true h; subst this; exact ⟨h1, rfl⟩) | cases h
def kindsB (P : Program) : List TypeId → List TypeDesc → Bool
  | [], [] => true
  | t :: ts, k :: ks => kindB P t k && kindsB P ts ks
  | _, _ => false
theorem kindsB_spec {P : Program} : ∀ {ts : List TypeId} {ks : List TypeDesc}, kindsB P ts ks = true → ts.map P.underlying = ks.map some ∧ plainKinds ks = true
  | [], [], _ => ⟨rfl, rfl⟩
  | t :: ts, k :: ks, h => by
    simp only [kindsB, Bool.and_eq_true] at h
    obtain ⟨h1, h2⟩ := kindB_spec h.1
    obtain ⟨h3, h4⟩ := kindsB_spec h.2
    refine ⟨by simp [h1, h3], ?_⟩
    simp only [plainKinds, List.all_cons, List.all_nil, Bool.and_true] at h2 h4 ⊢
    rw [h2, h4]; rfl
  | [], _ :: _, h => by cases h
  | _ :: _, [], h => by cases h
def fit1B (P : Program) (t : TypeId) : Fd1 → Bool
  | .one k => kindB P t k
  | .sl ks => match P.underlying t with
    | some (.slice e) => match P.underlying e with
      | some (.struct fs) => oneCellFields P fs && (P.cellsOf e == fs.size) && kindsB P (fs.toList.map (·.type)) ks && !ks.isEmpty
      | _ => (match ks with
        | [k] => kindB P e k && P.cellsOf e == 1
        | _ => false)
    | _ => false
def fit1sB (P : Program) : List TypeId → List Fd1 → Bool
  | [], [] => true
  | t :: ts, f :: fs => fit1B P t f && fit1sB P ts fs
  | _, _ => false
theorem fit1sB_at {P : Program} : ∀ {ts : List TypeId} {fs : List Fd1}, fit1sB P ts fs = true → ts.length = fs.length ∧ ∀ (j : Nat) f, fs[j]? = some f → ∃ t, ts[j]? = some t ∧ fit1B P t f = true
  | [], [], _ => ⟨rfl, fun j f h => by simp at h⟩
  | t :: ts, f :: fs, h => by
    simp only [fit1sB, Bool.and_eq_true] at h
    obtain ⟨h1, h2⟩ := fit1sB_at h.2
    refine ⟨by simp [h1], fun j g hg => ?_⟩
    cases j with
    | zero => simp at hg; subst hg; exact ⟨t, rfl, h.1⟩
    | succ j => simpa using h2 j g (by simpa using hg)
  | [], _ :: _, h => by cases h
  | _ :: _, [], h => by cases h
section
variable {H : Type} {enc : TypeId × Value → H} {P : Program} {W : World} {t e : TypeId} {a : Option Addr} {len cap : Nat} {d : DataW H} {p : List MemPlace}
theorem fv1_of {f : Fd1} {v : Value} {n : Nat} {y : DataW H × List MemPlace} (hf : fit1B P t f = true) (h : DataW.trod enc P W 0 (fun _ => true) true n t [v] = some y) : ∃ R : List Ro, (∀ r ∈ R, r.sat W) ∧ FV1 R f v := by
  cases f with
  | one k =>
    obtain ⟨h1, h2⟩ := kindB_spec hf
    exact ⟨[], (by intro r hr; cases hr), fk_of h1 (plain_of h2 (j := 0) rfl) h⟩
  | sl ks =>
    simp only [fit1B] at hf
    split at hf
    · rename_i e he
      obtain ⟨A, ln, cp, rfl⟩ : ∃ A ln cp, v = .slice A ln cp := by
        rcases open_slice he h with ⟨hcs, _⟩ | ⟨x, l, c, m, n, D, Pl, hcs, _⟩
        · simp at hcs; exact ⟨_, _, _, hcs⟩
        · simp at hcs; exact ⟨_, _, _, hcs⟩
      have hT : DataW.Trod enc P W 0 (fun _ => true) true t (.slice A ln cp) y.1 y.2 := ⟨n, h⟩
      have key : ∃ V, Rws ks W A ln cp V := by
        split at hf
        · rename_i fs hfs
          simp only [Bool.and_eq_true, beq_iff_eq, Bool.not_eq_true'] at hf
          obtain ⟨⟨⟨h1, h2⟩, h3⟩, h4⟩ := hf
          obtain ⟨h5, h6⟩ := kindsB_spec h3
          exact open_rws_struct he hfs h1 h2 ⟨by rw [← h5, List.map_map]; rfl, h6, by cases ks with | nil => simp at h4 | cons => simp⟩ hT
        · split at hf
          · rename_i k
            simp only [Bool.and_eq_true, beq_iff_eq] at hf
            exact open_rws_one he (kindB_spec hf.1) hf.2 hT
          · cases hf
      obtain ⟨V, hV⟩ := key
      have hk0 : 0 < ks.length := by
        cases ks with
        | cons => simp
        | nil =>
          split at hf
          · simp at hf
          · cases hf
      obtain ⟨R, h1, h2⟩ := rws_ro hV hk0
      exact ⟨R, h1, A, ln, cp, V, rfl, hV.1, hV.2.1, hV.2.2.2, h2⟩
    · cases hf
theorem fv1s_of {fs : List Fd1} {ts : List TypeId} {row : List Value} (hfit : fit1sB P ts fs = true) (hl : row.length = ts.length)
    (h : ∀ (j : Nat) t v, ts[j]? = some t → row[j]? = some v → ∃ n y, DataW.trod enc P W 0 (fun _ => true) true n t [v] = some y) : ∃ R : List Ro, (∀ r ∈ R, r.sat W) ∧ FV1s R fs row := by
  induction fs generalizing ts row with
  | nil =>
    cases ts with
    | nil => exact ⟨[], (by intro r hr; cases hr), by simpa using hl, fun j f hf => by simp at hf⟩
    | cons => cases hfit
  | cons f fs ih =>
    cases ts with
    | nil => cases hfit
    | cons t ts =>
      cases row with
      | nil => simp at hl
      | cons v row =>
        simp only [fit1sB, Bool.and_eq_true] at hfit
        obtain ⟨n, y, h0⟩ := h 0 t v rfl rfl
        obtain ⟨R1, g1, g2⟩ := fv1_of hfit.1 h0
        obtain ⟨R2, k1, k2, k3⟩ := ih hfit.2 (by simpa using hl) (fun j t v ht hv => h (j + 1) t v (by simpa using ht) (by simpa using hv))
        refine ⟨R1 ++ R2, fun r hr => ?_, by simp [k2], fun j g hg => ?_⟩
        · rcases List.mem_append.1 hr with hr | hr
          · exact g1 r hr
          · exact k1 r hr
        · cases j with
          | zero => simp at hg; subst hg; exact ⟨v, rfl, g2.mono fun r hr => List.mem_append_left _ hr⟩
          | succ j =>
            obtain ⟨u, h1, h2⟩ := k3 j g (by simpa using hg)
            exact ⟨u, by simpa using h1, h2.mono fun r hr => List.mem_append_right _ hr⟩
/-- a structure by value -/
theorem open_agg_deep {r : Reach} {b0 : Nat} {fs : Array Field} {Fs : List Fd1} {v : Value} (hs : P.underlying t = some (.struct fs)) (hone : oneCellFields P fs = true) (hC : P.cellsOf t = fs.size) (hfit : fit1sB P (fs.toList.map (·.type)) Fs = true)
    (hv : Value.okWide P W r b0 t v) (h : DataW.Trod enc P W 0 (fun _ => true) true t v d p) : ∃ (row : List Value) (R : List Ro), v = .agg row.toArray ∧ (∀ r ∈ R, r.sat W) ∧ FV1s R Fs row := by
  obtain ⟨cs, rfl, hsz⟩ := okWide_struct hs hv
  obtain ⟨fuel, hf⟩ := h
  obtain ⟨xs, n, _, _, hlen, hxl, hff⟩ := DataW.trod_struct hs hf
  have hcs : cs.toList.length = fs.size := by simp [hsz, hC]
  obtain ⟨R, h1, h2⟩ := fv1s_of (enc := enc) (W := W) (row := cs.toList) hfit (by simp [hsz, hC]) (fun j t' v ht hv => by
    have hj : j < fs.size := by have := (List.getElem?_eq_some_iff.1 hv).1; omega
    have hfj : fs[j]? = some fs[j] := Array.getElem?_eq_getElem hj
    obtain ⟨ho, hkc⟩ := hone_of hone j _ hfj
    have h3 := hff j _ hfj
    rw [ho, hkc] at h3
    have hd1 : ((Value.agg cs).cells.toList.drop j).take 1 = [v] := by
      have e : (Value.agg cs).cells.toList = cs.toList := rfl
      rw [e, List.drop_eq_getElem_cons (by omega)]
      have := (List.getElem?_eq_some_iff.1 hv).2
      simp [this]
    rw [hd1] at h3
    have ht2 : t' = fs[j].type := by simp [hfj] at ht; exact ht.symm
    subst ht2
    exact ⟨n, xs[j]'(by omega), h3.trans (List.getElem?_eq_getElem _)⟩)
  exact ⟨cs.toList, R, by simp, h1, h2⟩
theorem comb {Fs : List Fd1} {x : Addr} {sz : Nat} (hz : sz = Fs.length) (h0 : 0 < sz)
    (h : ∀ i, i < len → ∃ (row : List Value) (R : List Ro), (∀ r ∈ R, r.sat W) ∧ FV1s R Fs row ∧ ∀ j, j < sz → W.cell? (x.add (i * sz + j)) = row[j]?) :
    ∃ (rows : List (List Value)) (R : List Ro), (∀ r ∈ R, r.sat W) ∧ rows.length = len ∧ (∀ row ∈ rows, FV1s R Fs row) ∧ (0 < len → ∃ b o, (some x : Option Addr) = some ⟨b, o, none⟩ ∧ ⟨b, o, sz, rows⟩ ∈ R) := by
  classical
  let rowf (i : Nat) : List Value := if hi : i < len then Classical.choose (h i hi) else []
  let Rf (i : Nat) : List Ro := if hi : i < len then Classical.choose (Classical.choose_spec (h i hi)) else []
  have hspec : ∀ i, i < len → (∀ r ∈ Rf i, r.sat W) ∧ FV1s (Rf i) Fs (rowf i) ∧ ∀ j, j < sz → W.cell? (x.add (i * sz + j)) = (rowf i)[j]? := fun i hi => by
    have := Classical.choose_spec (Classical.choose_spec (h i hi))
    simp only [rowf, Rf, dif_pos hi]
    exact this
  let rows := (List.range len).map rowf
  let R0 := (List.range len).flatMap Rf
  have hR0 : ∀ r ∈ R0, r.sat W := fun r hr => by
    obtain ⟨i, hi, hr⟩ := List.mem_flatMap.1 hr
    exact (hspec i (List.mem_range.1 hi)).1 r hr
  have hrows : ∀ row ∈ rows, FV1s R0 Fs row := fun row hrow => by
    obtain ⟨i, hi, rfl⟩ := List.mem_map.1 hrow
    exact (hspec i (List.mem_range.1 hi)).2.1.mono fun r hr => List.mem_flatMap.2 ⟨i, hi, hr⟩
  rcases Nat.eq_zero_or_pos len with hl | hl
  · exact ⟨rows, R0, hR0, by simp [rows], hrows, fun h => by omega⟩
  · have hrl : ∀ i, i < len → (rowf i).length = sz := fun i hi => (hspec i hi).2.1.1.trans hz.symm
    have h00 : W.cell? (x.add (0 * sz + 0)) = some ((rowf 0)[0]'(by rw [hrl 0 hl]; exact h0)) := by
      rw [(hspec 0 hl).2.2 0 h0]; exact List.getElem?_eq_getElem _
    have hs : x.spot = none := World.cell?_spot (by simpa [Addr.add] using h00)
    obtain ⟨b, o, s⟩ := x
    simp only at hs
    subst hs
    have hadd : ∀ k, (⟨b, o, none⟩ : Addr).add k = ⟨b, o + k, none⟩ := fun k => by
      unfold Addr.add; split
      · rename_i h; simp [h]
      · rfl
    simp only [hadd] at hspec h00
    obtain ⟨cur, tt, fz, hb, _⟩ := block_of_cell h00
    have hok : RowsOk sz rows := fun row hrow => by
      obtain ⟨i, hi, rfl⟩ := List.mem_map.1 hrow
      have hi := List.mem_range.1 hi
      refine ⟨hrl i hi, fun u hu => ?_⟩
      obtain ⟨j, hj⟩ := List.mem_iff_getElem?.1 hu
      have hjl : j < Fs.length := by have := (List.getElem?_eq_some_iff.1 hj).1; rw [hrl i hi, hz] at this; exact this
      obtain ⟨v, h1, h2⟩ := (hspec i hi).2.1.2 j Fs[j] (List.getElem?_eq_getElem hjl)
      rw [hj] at h1
      obtain rfl := Option.some.inj h1
      exact h2.one_
    have hseg : Ro.sat W ⟨b, o, sz, rows⟩ := by
      refine ⟨hok, cur, tt, fz, hb, (seg_iff hok.lens).2 ?_⟩
      intro i row hi j u hj
      have hil : i < len := by have := (List.getElem?_eq_some_iff.1 hi).1; simpa [rows] using this
      have e : row = rowf i := by simp [rows, hil] at hi; exact hi.symm
      subst e
      have hjl : j < sz := by have := (List.getElem?_eq_some_iff.1 hj).1; rw [hrl i hil] at this; exact this
      have := (hspec i hil).2.2 j hjl
      rw [hj] at this
      unfold World.cell? at this
      rw [hb] at this
      simpa using this
    refine ⟨rows, ⟨b, o, sz, rows⟩ :: R0, fun r hr => ?_, by simp [rows], fun row hrow => (hrows row hrow).mono fun r hr => .tail _ hr, fun _ => ⟨b, o, rfl, .head _⟩⟩
    rcases List.mem_cons.1 hr with rfl | hr
    · exact hseg
    · exact hR0 r hr
/-- what a slice with such rows is -/
def Deep (R : List Ro) (Fs : List Fd1) (A : Option Addr) (n c : Nat) (rows : List (List Value)) : Prop :=
  n ≤ c ∧ c ≤ maxLen ∧ rows.length = n ∧ (∀ row ∈ rows, FV1s R Fs row) ∧ (0 < n → ∃ b o, A = some ⟨b, o, none⟩ ∧ ⟨b, o, Fs.length, rows⟩ ∈ R)
/-- a slice of structures -/
theorem open_sl_deep {fs : Array Field} {Fs : List Fd1} (ht : P.underlying t = some (.slice e)) (he : P.underlying e = some (.struct fs)) (hone : oneCellFields P fs = true) (hC : P.cellsOf e = fs.size) (hfit : fit1sB P (fs.toList.map (·.type)) Fs = true) (h0 : 0 < Fs.length)
    (h : DataW.Trod enc P W 0 (fun _ => true) true t (.slice a len cap) d p) : ∃ (rows : List (List Value)) (R : List Ro), (∀ r ∈ R, r.sat W) ∧ Deep R Fs a len cap rows := by
  have hsz : fs.size = Fs.length := by simpa using (fit1sB_at hfit).1
  obtain ⟨fuel, hf⟩ := h
  rcases open_slice ht hf with ⟨hcs, _⟩ | ⟨x, l, c, m, n, D, Pl, hcs, _, hl, hm, hmm, _, hi⟩
  · simp [Value.cells] at hcs
    obtain ⟨rfl, rfl, rfl⟩ := hcs
    exact ⟨[], [], (by intro r hr; cases hr), Nat.le_refl _, by simp [maxLen], rfl, (by intro row hr; cases hr), fun h => by omega⟩
  · simp [Value.cells] at hcs
    obtain ⟨rfl, rfl, rfl⟩ := hcs
    obtain ⟨rows, R, h1, h2, h3, h4⟩ := comb (W := W) (len := len) (x := x) (sz := Fs.length) rfl h0 (fun i hil => by
      obtain ⟨cs', hc, ht'⟩ := hi i (by simp at hmm; omega)
      obtain ⟨ys, n', _, _, hlen, hyl, hff⟩ := DataW.trod_struct he ht'
      obtain ⟨_, hcl, hat⟩ := World.cells?_some hc
      rw [hC, hsz] at hcl hat
      obtain ⟨R, h1, h2⟩ := fv1s_of (enc := enc) (W := W) (row := cs') hfit (by simp [hcl, hsz]) (fun j t' v ht hv => by
        have hj : j < fs.size := by have := (List.getElem?_eq_some_iff.1 hv).1; omega
        have hfj : fs[j]? = some fs[j] := Array.getElem?_eq_getElem hj
        obtain ⟨ho, hkc⟩ := hone_of hone j _ hfj
        have h3 := hff j _ hfj
        rw [ho, hkc] at h3
        have hd1 : (cs'.drop j).take 1 = [v] := by
          rw [List.drop_eq_getElem_cons (by omega)]
          have := (List.getElem?_eq_some_iff.1 hv).2
          simp [this]
        rw [hd1] at h3
        have ht2 : t' = fs[j].type := by simp [hfj] at ht; exact ht.symm
        subst ht2
        exact ⟨n', ys[j]'(by omega), h3.trans (List.getElem?_eq_getElem _)⟩)
      refine ⟨cs', R, h1, h2, fun j hj => ?_⟩
      have hadd : x.add (i * Fs.length + j) = (x.add (i * Fs.length)).add j := by rw [Go.Deep.add_add]
      rw [hadd]; exact hat j hj)
    exact ⟨rows, R, h1, hl, hm, h2, h3, h4⟩
/-- a slice of slices -/
theorem open_sls_deep {f : Fd1} (ht : P.underlying t = some (.slice e)) (hC : P.cellsOf e = 1) (hfit : fit1B P e f = true)
    (h : DataW.Trod enc P W 0 (fun _ => true) true t (.slice a len cap) d p) : ∃ (rows : List (List Value)) (R : List Ro), (∀ r ∈ R, r.sat W) ∧ Deep R [f] a len cap rows := by
  obtain ⟨fuel, hf⟩ := h
  rcases open_slice1 ht hC hf with ⟨hcs, _⟩ | ⟨x, l, c, m, n, V, D, Pl, hcs, _, hl, hm, hmm, _, hi⟩
  · simp [Value.cells] at hcs
    obtain ⟨rfl, rfl, rfl⟩ := hcs
    exact ⟨[], [], (by intro r hr; cases hr), Nat.le_refl _, by simp [maxLen], rfl, (by intro row hr; cases hr), fun h => by omega⟩
  · simp [Value.cells] at hcs
    obtain ⟨rfl, rfl, rfl⟩ := hcs
    obtain ⟨rows, R, h1, h2, h3, h4⟩ := comb (W := W) (len := len) (x := x) (Fs := [f]) (sz := 1) rfl (by omega) (fun i hil => by
      obtain ⟨h1, h2⟩ := hi i (by simp at hmm; omega)
      obtain ⟨R, h3, h4⟩ := fv1_of hfit h2
      refine ⟨[V i], R, h3, ⟨rfl, fun j g hg => ?_⟩, fun j hj => ?_⟩
      · cases j with
        | zero => simp at hg; subst hg; exact ⟨V i, rfl, h4⟩
        | succ j => simp at hg
      · have : j = 0 := by omega
        subst this
        simpa using h1)
    exact ⟨rows, R, h1, hl, hm, h2, h3, h4⟩
end
end Go.Proofs.Ytnjicnadlhfocaa

/-
  Layer 5's made records, as they come as an argument.
-/
namespace Go.Proofs.Ytnjicnadlhfocaa
set_option linter.unusedSimpArgs false
set_option linter.unusedVariables false
open Go.ChangeShapes Go.WideShapes Go.ChangeAt Go.RowKit Go.Deep
set_option maxRecDepth 100000
attribute [local irreducible] ByteArray.extract

abbrev mdFd : List Fd1 := [.one (.int .i64), .one (.int .u32), .one (.int .u32), .one (.int .u64), .sl [.int .u32], .sl [.string], .one (.int .u8), .one (.int .u8), .one (.int .u8)]
theorem nums_of {R : List Ro} {v : Value} (h : FV1 R (.sl [.int .u32]) v) : ∃ A n c l, v = .slice A n c ∧ n ≤ c ∧ c ≤ maxLen ∧ SQ R 1 A n c (c32 l) ∧ ∀ x ∈ l, in32 x := by
  obtain ⟨A, n, c, V, rfl, h1, h2, h3, h4⟩ := h
  refine ⟨A, n, c, (List.range n).map fun i => match V i 0 with | .int _ z => z | _ => 0, rfl, h1, h2, ⟨by simp [c32], fun hn => ?_⟩, fun x hx => ?_⟩
  · obtain ⟨b, o, hA, hm⟩ := h4 hn
    refine ⟨b, o, hA, ?_⟩
    have e : rowsOf [.int .u32] V n = c32 ((List.range n).map fun i => match V i 0 with | .int _ z => z | _ => 0) := by
      unfold rowsOf c32
      rw [List.map_map]
      refine List.map_congr_left fun i hi => ?_
      obtain ⟨z0, hz0, _⟩ := h3 i 0 _ (List.mem_range.1 hi) rfl
      simp [hz0]
    rw [← e]; exact hm
  · obtain ⟨i, hi, rfl⟩ := List.mem_map.1 hx
    obtain ⟨z0, hz0, hw⟩ := h3 i 0 _ (List.mem_range.1 hi) rfl
    simp only [hz0]; exact bd_u32 hw
theorem strs_of {R : List Ro} {v : Value} (h : FV1 R (.sl [.string]) v) : ∃ A n c l, v = .slice A n c ∧ n ≤ c ∧ c ≤ maxLen ∧ SQ R 1 A n c (cST l) := by
  obtain ⟨A, n, c, V, rfl, h1, h2, h3, h4⟩ := h
  refine ⟨A, n, c, (List.range n).map fun i => match V i 0 with | .string s => s | _ => E0, rfl, h1, h2, ⟨by simp [cST], fun hn => ?_⟩⟩
  obtain ⟨b, o, hA, hm⟩ := h4 hn
  refine ⟨b, o, hA, ?_⟩
  have e : rowsOf [.string] V n = cST ((List.range n).map fun i => match V i 0 with | .string s => s | _ => E0) := by
    unfold rowsOf cST
    rw [List.map_map]
    refine List.map_congr_left fun i hi => ?_
    obtain ⟨s0, hs0, _⟩ := h3 i 0 _ (List.mem_range.1 hi) rfl
    simp [hs0]
  rw [← e]; exact hm
theorem row_md {R : List Ro} {row : List Value} (h : FV1s R mdFd row) : ∃ (m : Md) (A : Option Addr) (n c : Nat) (A2 : Option Addr) (n2 c2 : Nat), row = mdL m.so m.a m.b m.wide (.slice A n c) (.slice A2 n2 c2) m.sm m.ct m.kd ∧ m.ok ∧ SQ R 1 A n c (c32 m.nums) ∧ n ≤ c ∧ SQ R 1 A2 n2 c2 (cST m.tx) := by
  obtain ⟨hl, h⟩ := h
  obtain ⟨v0, e0, so, rfl, g0⟩ := h 0 _ rfl
  obtain ⟨v1, e1, a, rfl, g1⟩ := h 1 _ rfl
  obtain ⟨v2, e2, b, rfl, g2⟩ := h 2 _ rfl
  obtain ⟨v3, e3, wd, rfl, g3⟩ := h 3 _ rfl
  obtain ⟨v4, e4, h4⟩ := h 4 _ rfl
  obtain ⟨v5, e5, h5⟩ := h 5 _ rfl
  obtain ⟨v6, e6, sm, rfl, g6⟩ := h 6 _ rfl
  obtain ⟨v7, e7, ct, rfl, g7⟩ := h 7 _ rfl
  obtain ⟨v8, e8, kd, rfl, g8⟩ := h 8 _ rfl
  obtain ⟨A, n, c, l, rfl, k1, k2, k3, k4⟩ := nums_of h4
  obtain ⟨A2, n2, c2, l2, rfl, j1, j2, j3⟩ := strs_of h5
  have hn := k3.len
  have hn2 := j3.len
  rw [c32_len] at hn
  rw [cST_len] at hn2
  unfold maxLen at k2 j2
  refine ⟨⟨so, a, b, wd, l, l2, sm, ct, kd⟩, A, n, c, A2, n2, c2, ?_, ⟨bd_u32 g1, bd_u32 g2, bd_u64 g3, k4, bd_u8 g6, bd_u8 g7, bd_u8 g8, by show l.length ≤ 9223372036854775807; omega, by show l2.length ≤ 9223372036854775807; omega⟩, k3, k1, j3⟩
  match row, hl with
  | [w0, w1, w2, w3, w4, w5, w6, w7, w8], _ => simp_all
end Go.Proofs.Ytnjicnadlhfocaa

/-
  ReportReads: what packets ask of any source.
-/
namespace Go.Proofs.Ytnjicnadlhfocaa
set_option linter.unusedSimpArgs false
set_option linter.unusedVariables false
open Go.RowKit
attribute [local irreducible] Pv WO WC Fn
set_option maxRecDepth 100000
attribute [local irreducible] ByteArray.extract

theorem refV_mono {R R' : List Ro} (hR : ∀ r ∈ R, r ∈ R') : ∀ {p : Pkt} {w : Value}, RefV R p w → RefV R' p w
  | .sender .., _, h => by obtain ⟨A, n, c, h0, h1⟩ := h; exact ⟨A, n, c, h0, h1.mono hR⟩
  | .receiver .., _, h => by obtain ⟨A, n, c, h0, h1⟩ := h; exact ⟨A, n, c, h0, h1.mono hR⟩
  | .sdes .., _, h => by obtain ⟨A, n, c, rows, h0, h1, h2⟩ := h; exact ⟨A, n, c, rows, h0, h1.mono hR, h2.mono hR⟩
  | .bye .., _, h => by obtain ⟨A, n, c, h0, h1⟩ := h; exact ⟨A, n, c, h0, h1.mono hR⟩
  | .nack .., _, h => by obtain ⟨A, n, c, h0, h1⟩ := h; exact ⟨A, n, c, h0, h1.mono hR⟩
  | .pli .., _, h => h
  | .fir .., _, h => by obtain ⟨A, n, c, h0, h1⟩ := h; exact ⟨A, n, c, h0, h1.mono hR⟩
  | .remb .., _, h => by obtain ⟨A, n, c, h0, h1⟩ := h; exact ⟨A, n, c, h0, h1.mono hR⟩
  | .other .., _, h => h
abbrev alO (ao : Option Addr) (n c : Nat) (vs : List Value) : It := .own 31 1 ao n c (one1 vs)
abbrev alO' (ao : Option Addr) (n c : Nat) (xs : List (List Value)) : It := .own 31 1 ao n c xs
theorem alO_snoc (ao : Option Addr) (n c : Nat) (vs : List Value) (v : Value) : alO ao n c (vs ++ [v]) = .own 31 1 ao n c (one1 vs ++ [[v]]) := by
  rw [alO, show one1 (vs ++ [v]) = one1 vs ++ [[v]] from by simp [one1]]
theorem rdA_snoc (s : Int) (l : List Pkt) (p : Pkt) : rdA s (l ++ [p]) = stepA s (rdA s l) p := by
  unfold rdA
  rw [List.foldl_append]; rfl
def tblRr (b6 : Nat) (ao : Option Addr) (c' : Nat) (x y : Ak) : Nat → List (List It) → Value → List (List It) → Prop := fun k Ls v Ms => match k, Ls with
  | 0, _ => v = .agg #[.slice ao x.sq.length c', .bool x.ky, .int .u64 x.rt, .bool x.gn] ∧ Ms = [[aR b6 (.slice ao x.sq.length c') x.ky x.rt x.gn]]
  | 11, _ => ∃ ao2 c2, v = .agg #[.slice ao2 y.sq.length c2, .bool y.ky, .int .u64 y.rt, .bool y.gn] ∧ Ms = [[sO ao2 y.sq.length c2 y.sq]]
  | 12, [[.own T2 sz ao2 n2 c2 xs], _] => v = undef ∧ Ms = [[.own T2 sz ao2 n2 c2 xs], [aR b6 (.slice ao2 n2 c2) y.ky y.rt y.gn]]
  | _, _ => False
set_option maxHeartbeats 16000000 in
theorem reportReads_fn (s : Int) (hs : in32 s) (A : Option Addr) (n c : Nat) (rows : List (List Value)) (R : List Ro) (h : Deep R mdFd A n c rows) :
    Fn Try.prog 3 #[.int .u32 s, .slice A n c] [] R (fun v _ _ => v = .bool true) := by
  obtain ⟨d1, d2, d3, d4, d5⟩ := h
  have hmx : n ≤ 9223372036854775807 := by unfold maxLen at d2; omega
  refine fn_intro Try.func3 rfl Try.ntmps3 rfl (fun E => ?_)
  (repeat (first | ((first | (apply wo_v; rfl) ); (· first | (apply pv_ev; rfl) )) | apply wo_nil | apply wc_seq | apply wc_region ))
  (refine wo_call (awake17) rfl (by (repeat (first | apply sub_nil )); done) (by first | exact fun _ h => h | (intro r hr; cases hr; done) | (simp; done) | exact fun _ h => List.mem_append_left _ h | (intro r hr; simp [hr]; done)) rfl ?_; rintro v L' R' ⟨rfl, rfl, rfl⟩ H' hH RR hR; simp only [List.cons_append, List.nil_append] at hH hR; subst hH; have hR := hR.symm; subst hR)
  (repeat (first | ((first | (apply wo_v; rfl) ); (· first | (apply pv_ev; rfl) | (apply g_un; first | (apply pv_not_t; rfl) ) )) | apply wo_nil | apply wc_seq | apply wc_region | apply wc_skip | (apply wc_true; rfl) | (apply wc_false; rfl) | (apply wo_alloc; rfl; intro bx) ))
  obtain ⟨b6, hb6⟩ : ∃ g, g = bx := ⟨_, rfl⟩
  subst hb6
  refine wc_own0 31 1 ?_
  refine wc_own0 47 1 ?_
  refine wc_join0 (fun st => ∃ (k : Nat) (ps : List Pkt) (vs : List Value) (a1 ao : Option Addr) (c1 c' : Nat) (RG : List Ro), k ≤ 8 ∧ ps.length = k ∧ PksV RG ps vs ∧ (∀ p ∈ ps, p.ok 1000) ∧ (rdA s ps).sq.length ≤ 136000 ∧ st = ⟨[(0, .int .u32 s), (5, .slice a1 k c1), (6, .pointer (some ⟨b6, 0, none⟩))], [alO a1 k c1 vs, aR b6 (.slice ao (rdA s ps).sq.length c') (rdA s ps).ky (rdA s ps).rt (rdA s ps).gn, sO ao (rdA s ps).sq.length c' (rdA s ps).sq], RG⟩) ?_ ?_
  · refine wc_block ?_
    refine wc_loop' (fun q st => ∃ (k : Nat) (ps : List Pkt) (vs : List Value) (a1 ao : Option Addr) (c1 c' : Nat) (RG : List Ro) (x : Ak), q = 8 - k ∧ k ≤ 8 ∧ k ≤ n ∧ ps.length = k ∧ (∀ r ∈ R, r ∈ RG) ∧ PksV RG ps vs ∧ (∀ p ∈ ps, p.ok 1000) ∧ x = rdA s ps ∧ x.sq.length ≤ 17000 * k ∧ st = ⟨[(0, .int .u32 s), (1, .slice A n c), (5, .slice a1 k c1), (6, .pointer (some ⟨b6, 0, none⟩)), (7, .int .i64 k)], [alO a1 k c1 vs, aR b6 (.slice ao x.sq.length c') x.ky x.rt x.gn, sO ao x.sq.length c' x.sq], RG⟩) ⟨0, [], [], none, none, 0, 0, R, ⟨[], false, 0, false⟩, rfl, by omega, by omega, rfl, fun r hr => hr, PksV.nil _, by simp, rfl, Nat.le_refl _, rfl⟩ (wk_mk (by (repeat (first | apply wkf_nil | (apply wkf_cons; rfl))); done) (by (repeat (first | apply sub_nil | (apply sub_cons; (· (repeat (first | apply sel_here | apply sel_there)))))); done) (by first | exact fun _ h => h | (intro r hr; cases hr; done) | (simp; done) | exact fun _ h => List.mem_append_left _ h | (intro r hr; simp [hr]; done))) ?_
    rintro q st ⟨k, ps, vs, a1, ao, c1, c', RG, x, rfl, hk8, hkn, hk, hRG, hVs, hok, hx, hxl, rfl⟩
    by_cases h1 : k < n
    · by_cases h2 : k < 8
      · obtain ⟨row, hr⟩ : ∃ row, rows[k]? = some row := ⟨_, List.getElem?_eq_getElem (by omega)⟩
        obtain ⟨b0, o0, rfl, hm9⟩ := d5 (by omega)
        have hmem : (⟨b0, o0, 9, rows⟩ : Ro) ∈ RG := hRG _ hm9
        obtain ⟨m, A1, m1, e1, A2, m2, e2, rfl, hm, hS, hc, hT⟩ := row_md (d4 row (List.mem_of_getElem? hr))
        have y0 := yMake m hm A1 m1 e1 A2 m2 e2 RG (hS.mono hRG) hc (hT.mono hRG)
        obtain ⟨okp, ho⟩ := mk_ok hm
        clear hS hT hm9 d4
        generalize mkM m = p at *
        (repeat (first | ((first | (apply wo_v; rfl) ); (· first | (apply pv_ev; rfl) | (apply g_pick; first | (apply pv_pick_t; rfl; rfl) ) | (apply g_bi; first | (apply pv_len_sl; rfl) ) )) | apply wo_nil | apply wc_seq | apply wc_region | apply wc_skip | (apply wc_true; rfl) | (apply wc_false; rfl) | (apply a_dec_t; rfl; (· first | assumption | omega)) | (apply wo_run; rfl; rfl) | (apply wo_skip; rfl; rfl; rfl; rfl) | (apply wo_skip_u; rfl; rfl; rfl) | (apply a_gt; rfl; rfl; (· first | assumption | omega)) ))
        refine wc_block ?_
        (repeat (first | ((first | (apply wo_v; rfl) ); (· first | (apply pv_ev; rfl) | (apply g_load; first | (apply pv_lda; rfl; (· (repeat (first | apply sel_there))); (· (repeat (first | fail )))) | (apply pv_ld_owna; rfl; (· (repeat (first | apply sel_there))); (· assumption)) | (apply pv_ld_roa; rfl; (· (first | assumption )); (· assumption))) | (apply g_idx; first | (apply pv_idx; rfl; rfl; omega) ) )) | apply wc_seq | apply wc_region ))
        (refine wo_call (y0) rfl (by (repeat (first | apply sub_nil )); done) (by first | exact fun _ h => h | (intro r hr; cases hr; done) | (simp; done) | exact fun _ h => List.mem_append_left _ h | (intro r hr; simp [hr]; done)) rfl ?_; rintro v L' R' ⟨u, w, rfl, hP, hQ, rfl⟩ H' hH RR hR; simp only [List.cons_append, List.nil_append] at hH hR; subst hH; have hR := hR.symm; subst hR)
        have qR := fun R2 (h2 : ∀ r, r ∈ R' → r ∈ R2) => eRead (R := R2) s x (by omega) okp (refV_mono h2 hQ)
        obtain ⟨w1, w2, w3, w4, w5, w6, w7, w8, w9, w10, w11, w12, w13, w14, w15, w16, w17, w18, w19, w20, w21, w22, w23, w24, w25, rfl⟩ := ref_row hQ
        have hone := hP.one
        have mL : ∀ r, r ∈ R' → r ∈ R' ++ RG := fun r hr => List.mem_append_left _ hr
        have mG : ∀ r, r ∈ RG → r ∈ R' ++ RG := fun r hr => List.mem_append_right _ hr
        have hP := hP.mono mL
        have hVs := hVs.mono mG
        have hmem := mG _ hmem
        have hRG : ∀ r ∈ R, r ∈ R' ++ RG := fun r hr => mG r (hRG r hr)
        have qR := (qR _ mL) ao c'
        clear mL mG hQ
        rw [ho] at qR
        have hyl := stepA_len (s := s) (a := x) okp
        have hy := rdA_snoc s ps p
        rw [← hx] at hy
        generalize stepA s x p = y at *
        generalize R' ++ RG = RH at *
        (repeat (first | ((first | (apply wo_v; rfl) ); (· first | (apply pv_ev; rfl) )) | apply wo_nil | apply wc_seq | apply wc_region | (apply wo_alloc; rfl; intro bx) | (apply wo_bsl; (· (repeat (first | (apply Rws'.one; rfl; rfl; rfl) | (apply Rws'.agg; rfl; rfl; rfl)))); rfl; rfl; rfl; rfl; intro bx) | (apply wo_sta; rfl; rfl; rfl; rfl; (· (repeat (first | apply sel_here ))); (· (repeat (first | apply LayAt.nil | apply LayAt.here ))); rfl) ))
        obtain ⟨g9, hg9⟩ : ∃ g, g = bx := ⟨_, rfl⟩
        subst hg9
        refine wo_bsl (xs := [[u]]) (Rws'.one rfl hone rfl .nil) rfl rfl rfl rfl (fun bx => ?_)
        (repeat (first | ((first | (apply wo_v; rfl) ); (· first | (apply pv_ev; rfl) | (apply g_bi; first | fail ) )) ))
        refine wo_app (ao := a1) (n := k) (m := 1) rfl rfl (by (repeat (first | apply sel_here | apply sel_there)); done) (by (repeat (first | apply sel_here )); done) (by unfold maxLen; omega) (by omega) rfl (fun a3 c3 => ?_)
        (repeat (first | ((first | (apply wo_v; rfl) ); (· first | (apply pv_ev; rfl) )) | apply wo_nil ))
        obtain ⟨bs, hbs⟩ : ∃ g, g = bx := ⟨_, rfl⟩
        subst hbs
        (refine wc_regM [0, 1] (aslL [(0, [0]), (11, [1]), (12, [1, 0])]) (tblRr b6 ao c' x y) ([alO' a3 (k + 1) c3 (one1 vs ++ [[u]]), alO' (some ⟨bs, 0, none⟩) 1 1 [[u]], rfO g9 (rfL w1 w2 w3 w4 w5 w6 w7 w8 (.slice w9 w10 w11) (.slice w12 w13 w14) (.slice w15 w16 w17) w18 (.slice w19 w20 w21) (.slice w22 w23 w24) w25)]) (fm [(0, [aR b6 (.slice ao x.sq.length c') x.ky x.rt x.gn]), (1, [sO ao x.sq.length c' x.sq])]) mixed (by kernel_rfl) (by kernel_rfl) (by decide) (aslL_ok (by decide)) (by (repeat (first | (apply prm_cons; (· (repeat (first | apply sel_here )))) | apply List.Perm.nil )); done) ?_; (repeat (first | (apply HdM.val; rfl; rfl; (· first | fail ); (· first | fail )) )))
        (refine hm_eff (cs := [0]) rfl (by decide) rfl rfl (by first | exact gok_none | exact gok_run rfl rfl) (fun a ha => outc_mono (outc_ld (L := [aR b6 (.slice ao x.sq.length c') x.ky x.rt x.gn]) (pv_lda rfl (by (repeat (first | apply sel_here )); done) (by (repeat (first | apply Cut.here0 | apply Cut.here )); done)) a ha) (fun v M h => ⟨[M], And.intro h.1 (congrArg (fun x => [x]) h.2), rfl, by simp⟩)) (⟨_, _, And.intro rfl rfl, rfl⟩) ?_; rintro v Ms ⟨rfl, rfl⟩ _; simp only [setls, setl, reduceIte, Nat.reduceEqDiff]; (repeat (first | (apply HdM.val; rfl; rfl; (· first | apply gok_none ); (· first | (apply pv_ev; rfl) | (apply pv_fld; rfl) | (apply g_load; first | (apply pv_ld; rfl; (· (repeat (first | apply sel_there))); rfl) | (apply pv_lda; rfl; (· (repeat (first | apply sel_here | apply sel_there))); (· (repeat (first | apply Cut.here0 | apply Cut.here )))) | (apply pv_ld_ownf; rfl; (· (repeat (first | apply sel_there))); (· assumption); rfl) | (apply pv_ld_own1; rfl; (· (repeat (first | fail ))); (· assumption)) | (apply pv_ld_rof; rfl; (· (first | assumption )); (· assumption); rfl) ) | (apply g_bin; first | (apply pv_rem; rfl; rfl; omega) | (apply pv_rem_t; rfl; rfl; omega) | (apply pv_and; rfl; rfl) ) | (apply g_idx; first | (apply pv_idx; rfl; rfl; omega) ) )) )))
        (refine hm_eff (cs := [1]) rfl (by decide) rfl rfl (by first | exact gok_none | exact gok_run rfl rfl) (fun a ha => outc_mono (outc_call (F1 := _) (T := fun v M => ∃ ao2 c2, v = .agg #[.slice ao2 y.sq.length c2, .bool y.ky, .int .u64 y.rt, .bool y.gn] ∧ M = [sO ao2 y.sq.length c2 y.sq]) qR rfl (by (repeat (first | apply sub_nil )); done) (by first | exact fun _ h => h | (intro r hr; cases hr; done) | (simp; done) | exact fun _ h => List.mem_append_left _ h | (intro r hr; simp [hr]; done)) (by rintro v L' R' ⟨ao2, c2, rfl, rfl, _⟩; exact ⟨_, ⟨ao2, c2, rfl, rfl⟩, (by (repeat (first | (apply prm_cons; (· (repeat (first | apply sel_here )))) | apply List.Perm.nil )); done)⟩) a ha) (fun v M h => by obtain ⟨ao2, c2, h1, h2⟩ := h; exact ⟨[M], ⟨ao2, c2, h1, congrArg (fun x => [x]) h2⟩, rfl, by simp⟩)) (⟨_, _, ⟨none, 0, rfl, rfl⟩, rfl⟩) ?_; rintro v Ms ⟨ao4, c4, rfl, rfl⟩ _; simp only [setls, setl, reduceIte, Nat.reduceEqDiff]; (repeat (first | fail )))
        (refine hm_eff (cs := [1, 0]) rfl (by decide) rfl rfl (by first | exact gok_none | exact gok_run rfl rfl) (fun a ha => outc_mono (outc_frA (X := [sO ao4 y.sq.length c4 y.sq]) (L := [aR b6 (.slice ao x.sq.length c') x.ky x.rt x.gn]) (outc_sta rfl rfl rfl rfl (by (repeat (first | apply LayAt.nil | apply LayAt.here )); done)) a ha) (fun v M h => by obtain ⟨M0, ⟨h1, h2⟩, h3⟩ := h; exact ⟨[[_], [_]], ⟨h1, rfl⟩, rfl, by rw [h3, h2]; rfl⟩)) (⟨_, _, ⟨rfl, rfl⟩, rfl⟩) ?_; rintro v Ms ⟨rfl, rfl⟩ _; simp only [setls, setl, reduceIte, Nat.reduceEqDiff]; (repeat (first | fail )))
        (refine HdM.nil ?_; intro H hH; simp only [Hp, fm, look, setl, List.flatMap_cons, List.flatMap_nil, reduceIte, Nat.reduceEqDiff, Option.getD_some, List.append_nil, List.cons_append, List.nil_append] at hH; subst hH)
        (repeat (first | ((first | (apply wo_v; rfl) ); (· first | (apply pv_ev; rfl) | (apply g_bin; first | (apply a_add; rfl; rfl; infer_instance; omega) ) )) | apply wo_nil | apply wc_region ))
        exact loop_end ⟨k + 1, ps ++ [p], vs ++ [u], a3, ao4, c3, c4, RH, y, rfl, by omega, by omega, by rw [List.length_append, hk]; rfl, hRG, hVs.snoc hP, fun q hq => by
          rcases List.mem_append.1 hq with hq | hq
          · exact hok q hq
          · rcases List.mem_singleton.1 hq with rfl; exact okp, hy.symm, by omega, by rw [alO_snoc]⟩ (by omega) (wk_mk (by (repeat (first | apply wkf_nil | (apply wkf_cons; rfl))); done) (by (repeat (first | apply sub_nil | (apply sub_cons; (· (repeat (first | apply sel_here | apply sel_there)))))); done) (by first | exact fun _ h => h | (intro r hr; cases hr; done) | (simp; done) | exact fun _ h => List.mem_append_left _ h | (intro r hr; simp [hr]; done)))
      · (repeat (first | ((first | (apply wo_v; rfl) ); (· first | (apply pv_ev; rfl) | (apply g_pick; first | (apply pv_pick_t; rfl; rfl) ) | (apply g_bi; first | (apply pv_len_sl; rfl) ) )) | apply wo_nil | apply wc_seq | apply wc_region | (apply wc_exit; rfl) | (apply wc_true; rfl) | (apply wc_false; rfl) | (apply a_dec_t; rfl; (· first | assumption | omega)) | (apply a_dec_f; rfl; (· first | assumption | omega)) | (apply wo_run; rfl; rfl) | (apply wo_skip; rfl; rfl; rfl; rfl) | (apply wo_skip_u; rfl; rfl; rfl) | (apply a_gt; rfl; rfl; (· first | assumption | omega)) ))
        subst hx
        exact cut_end ⟨k, ps, vs, a1, ao, c1, c', RG, by omega, hk, hVs, hok, by omega, rfl⟩ (wk_mk (by (repeat (first | apply wkf_nil | (apply wkf_cons; rfl))); done) (by (repeat (first | apply sub_nil )); done) (by first | exact fun _ h => h | (intro r hr; cases hr; done) | (simp; done) | exact fun _ h => List.mem_append_left _ h | (intro r hr; simp [hr]; done)))
    · (repeat (first | ((first | (apply wo_v; rfl) ); (· first | (apply pv_ev; rfl) | (apply g_pick; first | (apply pv_pick_t; rfl; rfl) | (apply pv_pick_f; rfl; rfl)) | (apply g_bi; first | (apply pv_len_sl; rfl) ) )) | apply wo_nil | apply wc_seq | apply wc_region | (apply wc_exit; rfl) | (apply wc_true; rfl) | (apply wc_false; rfl) | (apply wo_run; rfl; rfl) | (apply wo_skip; rfl; rfl; rfl; rfl) | (apply wo_skip_u; rfl; rfl; rfl) | (apply a_gt; rfl; rfl; (· first | assumption | omega)) | (apply a_gf; rfl; rfl; (· first | assumption | omega)) ))
      subst hx
      exact cut_end ⟨k, ps, vs, a1, ao, c1, c', RG, by omega, hk, hVs, hok, by omega, rfl⟩ (wk_mk (by (repeat (first | apply wkf_nil | (apply wkf_cons; rfl))); done) (by (repeat (first | apply sub_nil )); done) (by first | exact fun _ h => h | (intro r hr; cases hr; done) | (simp; done) | exact fun _ h => List.mem_append_left _ h | (intro r hr; simp [hr]; done)))
  rintro st ⟨k, ps, vs, a1, ao, c1, c', RG, hk8, hk, hVs, hok, hsl, rfl⟩
  refine wc_still (ao := a1) (n := k) (c := c1) (sz := 1) (by (repeat (first | apply sel_here )); done) (fun R1 hS1 => ?_)
  have hVs := hVs.mono (R' := R1 ++ RG) (fun r hr => List.mem_append_right _ hr)
  have qr := pRead s ps vs a1 k c1 _ hS1.sq hVs (by omega) hok
  generalize rdA s ps = x at *
  obtain ⟨sq, ky, rt, gn⟩ := x
  dsimp only at qr hsl ⊢
  generalize R1 ++ RG = RH at *
  (repeat (first | ((first | (apply wo_v; rfl) ); (· first | (apply pv_ev; rfl) )) | apply wc_seq | apply wc_region ))
  (refine wo_call (qr) rfl (by (repeat (first | apply sub_nil )); done) (by first | exact fun _ h => h | (intro r hr; cases hr; done) | (simp; done) | exact fun _ h => List.mem_append_left _ h | (intro r hr; simp [hr]; done)) rfl ?_; rintro v L' R' ⟨ao2, c2, rfl, rfl, rfl⟩ H' hH RR hR; simp only [List.cons_append, List.nil_append] at hH hR; subst hH; have hR := hR.symm; subst hR)
  (repeat (first | ((first | (apply wo_v; rfl) ); (· first | (apply pv_ev; rfl) | (apply pv_fld; rfl) | (apply g_load; first | (apply pv_ld; rfl; (· (repeat (first | apply sel_here | apply sel_there))); rfl) ) | (apply g_pick; first | (apply pv_pick_t; rfl; rfl) | (apply pv_pick_f; rfl; rfl)) | (apply g_bin; first | (apply pv_neq_b; rfl; rfl) ) | (apply g_bi; first | (apply pv_len_sl; rfl) ) )) | apply wo_nil | apply wc_seq | apply wc_region | apply wc_block | apply wc_skip | (apply wc_true; rfl) | (apply wc_false; rfl) | (apply a_dec_t; rfl; (· first | assumption | omega)) | (apply a_dec_f; rfl; (· first | assumption | omega)) | (apply wo_run; rfl; rfl) | (apply wo_skip; rfl; rfl; rfl; rfl) | (apply wo_skip_u; rfl; rfl; rfl) | (apply a_gt; rfl; rfl; (· first | assumption | omega)) | (apply a_gf; rfl; rfl; (· first | assumption | omega)) | (apply a_gt; rfl; rfl; (· first | (simp; done) | (simp; omega))) | (apply a_gf; rfl; rfl; (· first | (simp; done) | (simp; omega))) | (apply wo_alloc; rfl; intro bx) | (apply wo_sta; rfl; rfl; rfl; rfl; (· (repeat (first | apply sel_here ))); (· (repeat (first | apply LayAt.nil | apply LayAt.here ))); rfl) ))
  obtain ⟨b10, hb10⟩ : ∃ g, g = bx := ⟨_, rfl⟩
  subst hb10
  refine wc_still (ao := ao2) (n := sq.length) (c := c2) (sz := 1) (by (repeat (first | apply sel_here | apply sel_there)); done) (fun R2 hS2 => ?_)
  refine wc_still (ao := ao) (n := sq.length) (c := c') (sz := 1) (by (repeat (first | apply sel_here | apply sel_there)); done) (fun R3 hS3 => ?_)
  have hS2 := (hS2.sq).mono (R' := R3 ++ (R2 ++ RH)) (fun r hr => List.mem_append_right _ hr)
  have hS3 := hS3.sq
  generalize R3 ++ (R2 ++ RH) = RJ at *
  refine wc_loop' (fun q st => ∃ (i : Nat), q = sq.length - i ∧ i ≤ sq.length ∧ st = ⟨[(6, .pointer (some ⟨b6, 0, none⟩)), (10, .pointer (some ⟨b10, 0, none⟩)), (81, .int .i64 sq.length), (82, .int .i64 i)], [.ob b10 (.cells #[.slice ao2 sq.length c2, .bool ky, .int .u64 rt, .bool gn] 45 (0, 0)), aR b6 (.slice ao sq.length c') ky rt gn], RJ⟩) ⟨0, rfl, Nat.zero_le _, rfl⟩ (wk_mk (by (repeat (first | apply wkf_nil | (apply wkf_cons; rfl))); done) (by (repeat (first | apply sub_nil )); done) (by first | exact fun _ h => h | (intro r hr; cases hr; done) | (simp; done) | exact fun _ h => List.mem_append_left _ h | (intro r hr; simp [hr]; done))) ?_
  rintro q st ⟨i, rfl, hi, rfl⟩
  by_cases hlt : i < sq.length
  · obtain ⟨z, hz⟩ : ∃ z, sq[i]? = some z := ⟨_, List.getElem?_eq_getElem hlt⟩
    have hr : (c16 sq)[i]? = some [.int .u16 z] := by simp [c16, hz]
    obtain ⟨b1, o1, rfl, hm1⟩ := hS2.pos (by omega)
    obtain ⟨b2, o2, rfl, hm2⟩ := hS3.pos (by omega)
    (repeat (first | ((first | (apply wo_v; rfl) ); (· first | (apply pv_ev; rfl) )) | apply wo_nil | apply wc_seq | apply wc_region | apply wc_block | apply wc_skip | (apply wc_true; rfl) | (apply wc_false; rfl) | (apply a_dec_t; rfl; (· first | assumption | omega)) ))
    (refine wc_quiet mixed (by kernel_rfl) ?_; (repeat (first | ((first | (apply wo_v; rfl) | (apply hd_v; rfl) ); (· first | (apply pv_ev; rfl) | (apply pv_fld; rfl) | (apply g_load; first | (apply pv_ld; rfl; (· (repeat (first | apply sel_here | apply sel_there))); rfl) | (apply pv_ld_ownf; rfl; (· (repeat (first | fail ))); (· assumption); rfl) | (apply pv_ld_own1; rfl; (· (repeat (first | apply sel_there))); (· assumption)) | (apply pv_ld_rof; rfl; (· (first | assumption )); (· assumption); rfl) | (apply pv_ld_ro1; rfl; (· (first | assumption )); (· assumption)) ) | (apply g_bin; first | (apply a_add; rfl; rfl; infer_instance; omega) ) | (apply g_idx; first | (apply pv_idx; rfl; rfl; omega) ) )) | apply wo_nil | apply Hd.nil | apply wc_region | apply wc_skip | (apply wc_true; rfl) | (apply wc_false; rfl) | (apply a_dec_t; rfl; (· first | assumption | omega)) | (apply a_dec_f; rfl; (· first | assumption | omega)) )))
    exact loop_end ⟨i + 1, rfl, by omega, rfl⟩ (by omega) (wk_mk (by (repeat (first | apply wkf_nil | (apply wkf_cons; rfl))); done) (by (repeat (first | apply sub_nil )); done) (by first | exact fun _ h => h | (intro r hr; cases hr; done) | (simp; done) | exact fun _ h => List.mem_append_left _ h | (intro r hr; simp [hr]; done)))
  · have e : i = sq.length := by omega
    subst e
    (repeat (first | ((first | (apply wo_v; rfl) ); (· first | (apply pv_ev; rfl) )) | apply wo_nil | apply wc_seq | apply wc_region | (apply wc_exit; rfl) | apply wc_ret | (apply wc_true; rfl) | (apply wc_false; rfl) | (apply a_dec_t; rfl; (· first | assumption | omega)) | (apply a_dec_f; rfl; (· first | assumption | omega)) ))
    exact ret1 rfl rfl rfl ((by (repeat (first | apply sub_nil )); done) : List.Perm _ ([] ++ _)) (by first | exact fun _ h => h | (intro r hr; cases hr; done) | (simp; done) | exact fun _ h => List.mem_append_left _ h | (intro r hr; simp [hr]; done))
theorem reportReads_walk (a : Int) (ha : 0 ≤ a ∧ a ≤ 4294967295) {w : World} (A : Option Addr) (n c : Nat) (rows : List (List Value)) (R : List Ro) (hR : ∀ r ∈ R, r.sat w) (h : Deep R mdFd A n c rows) :
    Calls Try.prog 3 #[.int .u32 a, .slice A n c] w fun e w' => e = .returned (.bool true) ∧ Below w.heap.size w w' :=
  walk_of (reportReads_fn a ha A n c rows R h) hR
end Go.Proofs.Ytnjicnadlhfocaa
