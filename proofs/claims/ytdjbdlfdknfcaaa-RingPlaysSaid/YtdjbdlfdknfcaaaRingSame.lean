/-
  RingSame: the bytes that were Put.
-/
import Derived.Test.YtdjbdlfdknfcaaaRingLaws
import Derived.Test.YtdjbdlfdknfcaaaCut
import Derived.Test.YtdjbdlfdknfcaaaSpP
namespace Go.Proofs.Ytdjbdlfdknfcaaa
set_option linter.unusedSimpArgs false
set_option linter.unusedVariables false
open Go.RowKit
attribute [local irreducible] Pv WO WC Fn
set_option maxRecDepth 100000

def lastS : List Pk → Int → Option ByteArray
  | [], _ => none
  | p :: l, n => match lastS l n with
    | some s => some s
    | none => if p.1 = n then some p.2.1 else none
theorem lastS_app (p : Pk) (n : Int) : ∀ l : List Pk, lastS (l ++ [p]) n = if p.1 = n then some p.2.1 else lastS l n
  | [] => rfl
  | q :: l => by
    rw [List.cons_append, lastS, lastS_app p n l, lastS]
    by_cases h : p.1 = n <;> simp [h]
theorem lastS_set (n : Int) {p p' : Pk} (h1 : p'.1 = p.1) (h2 : p'.2.1 = p.2.1) : ∀ (l : List Pk) (j : Nat), l[j]? = some p → lastS (l.set j p') n = lastS l n
  | [], _, h => by cases h
  | q :: l, 0, h => by
    simp only [List.getElem?_cons_zero, Option.some.injEq] at h
    subst h
    simp only [List.set_cons_zero, lastS, h1, h2]
  | q :: l, j + 1, h => by
    simp only [List.getElem?_cons_succ] at h
    simp only [List.set_cons_succ, lastS, lastS_set n h1 h2 l j h]
theorem lastS_or (n : Int) : ∀ Q : List Pk, (lastS Q n = none ∧ ∀ p ∈ Q, p.1 ≠ n) ∨ ∃ j p, Hit Q n j p ∧ lastS Q n = some p.2.1
  | [] => .inl ⟨rfl, by simp⟩
  | q :: l => by
    rcases lastS_or n l with ⟨h1, h2⟩ | ⟨j, p, ⟨h1, h2, h3⟩, h4⟩
    · by_cases hq : q.1 = n
      · refine .inr ⟨0, q, ⟨rfl, hq, fun j' p' hj hp => ?_⟩, by rw [lastS, h1]; simp [hq]⟩
        obtain ⟨j'', rfl⟩ : ∃ j'', j' = j'' + 1 := ⟨j' - 1, by omega⟩
        exact h2 p' (List.mem_of_getElem? (by simpa using hp))
      · refine .inl ⟨by rw [lastS, h1]; simp [hq], fun p hp => ?_⟩
        rcases List.mem_cons.1 hp with rfl | hp
        · exact hq
        · exact h2 p hp
    · refine .inr ⟨j + 1, p, ⟨by simpa using h1, h2, fun j' p' hj hp => ?_⟩, by rw [lastS, h4]⟩
      obtain ⟨j'', rfl⟩ : ∃ j'', j' = j'' + 1 := ⟨j' - 1, by omega⟩
      exact h3 j'' p' (by omega) (by simpa using hp)
def QG (P : Nat → Pk) (k n : Nat) : List Pk := ((List.range n).drop (n - k)).map P
theorem QG_len (P : Nat → Pk) (k n : Nat) : (QG P k n).length = min n k := by simp [QG]; omega
theorem QG_put (P : Nat → Pk) (k n : Nat) (hk : 1 ≤ k) : putQ k (QG P k n) (P n) = QG P k (n + 1) := by
  unfold putQ
  rw [QG_len]
  unfold QG
  split
  · rw [List.drop_append_of_le_length (by simp; omega), ← List.map_drop, List.drop_drop, List.range_succ, List.drop_append_of_le_length (by simp; omega), List.map_append]
    rw [show n - k + 1 = n + 1 - k by omega]; rfl
  · rw [show n - k = 0 by omega, show n + 1 - k = 0 by omega, List.range_succ]; simp
def TL (P : Nat → Pk) (d i : Nat) : List Pk := ((List.range i).drop d).map P
theorem TL_succ (P : Nat → Pk) {d i : Nat} (h : d ≤ i) : TL P d (i + 1) = TL P d i ++ [P i] := by
  unfold TL
  rw [List.range_succ, List.drop_append_of_le_length (by simp; omega), List.map_append]; rfl
theorem TL_nil (P : Nat → Pk) {d i : Nat} (h : i ≤ d) : TL P d i = [] := by
  unfold TL
  rw [List.drop_of_length_le (by simp; omega)]; rfl
def MQ (km : List (Int × Value)) (Q : List Pk) : Prop := ∀ n, alook km n = (lastS Q n).map Value.string
theorem MQ.push {km : List (Int × Value)} {Q : List Pk} (h : MQ km Q) (p : Pk) : MQ (aset km p.1 (.string p.2.1)) (Q ++ [p]) := fun n => by
  rw [alook_set, lastS_app, h n]
  by_cases hn : n = p.1
  · subst hn; simp
  · rw [if_neg hn, if_neg (fun e => hn e.symm)]
structure RQ (Q : List Pk) (i : Nat) : Prop where
  b : ∀ p ∈ Q, 0 ≤ p.2.2.1 ∧ p.2.2.1 ≤ 100 ∧ 0 ≤ p.2.2.2 ∧ p.2.2.2 ≤ i
abbrev PS (sq : Nat → Int) (tx : Nat → ByteArray) (i : Nat) : Pk := (sq i, cutS (tx i) 10, 0, 0)
set_option maxHeartbeats 64000000 in
theorem ringSame_fn (a : Int) (A B C : Option Addr) (m1 c1 m2 c2 m3 c3 : Nat) (sq : Nat → Int) (tx : Nat → ByteArray) (ak : Nat → Int) (R : List Ro)
    (hm1 : m1 ≤ 9223372036854775807) (hm2 : m2 ≤ 9223372036854775807) (hm3 : m3 ≤ 9223372036854775807)
    (hA : 0 < m1 → ∃ b o, A = some ⟨b, o, none⟩ ∧ ⟨b, o, 1, kseg .u16 sq m1⟩ ∈ R) (hB : 0 < m2 → ∃ b o, B = some ⟨b, o, none⟩ ∧ ⟨b, o, 1, sseg tx m2⟩ ∈ R) (hC : 0 < m3 → ∃ b o, C = some ⟨b, o, none⟩ ∧ ⟨b, o, 1, kseg .u16 ak m3⟩ ∈ R) :
    Fn Try.prog 5 #[.int .i64 a, .slice A m1 c1, .slice B m2 c2, .slice C m3 c3] [] R (fun v _ _ => v = .bool true) := by
  have q1 := and_31 a
  obtain ⟨k, hk⟩ : ∃ k : Nat, 1 + a % 32 = (k : Int) := ⟨(1 + a % 32).toNat, by omega⟩
  have hk1 : 1 ≤ k ∧ k ≤ 32 := by omega
  rw [← q1] at hk
  obtain ⟨N, hN⟩ : ∃ N : Nat, min (min (m1 : Int) m2) 60 = (N : Int) := ⟨min (min m1 m2) 60, by omega⟩
  have hN1 : N ≤ m1 ∧ N ≤ m2 ∧ N ≤ 60 := by omega
  refine fn_intro Try.func5 rfl Try.ntmps5 rfl (fun E => ?_)
  (repeat (first | ((first | (apply wo_v; rfl) ); (· first | (apply pv_ev; rfl) | (apply g_bin; first | (apply a_add; rfl; rfl; infer_instance; omega) | (apply pv_and; rfl; rfl) ) )) | apply wo_nil | apply wc_seq | apply wc_region ))
  rw [hk]
  (repeat (first | ((first | (apply wo_v; rfl) ); (· first | (apply pv_ev; rfl) )) ))
  (refine wo_call (ringNew_ok k 2 0 (by omega) (by omega) (by omega)) rfl (by (repeat (first | apply sub_nil )); done) (by first | exact fun _ h => h | (intro r hr; cases hr; done) | (simp; done) | exact fun _ h => List.mem_append_left _ h | (intro r hr; simp [hr]; done)) rfl ?_; rintro v L' R' ⟨g, gb, rfl, rfl, rfl⟩ H' hH RR hR; simp only [List.cons_append, List.nil_append] at hH hR; subst hH; have hR := hR.symm; subst hR)
  (repeat (first | ((first | (apply wo_v; rfl) ); (· first | (apply pv_ev; rfl) )) | apply wo_nil | apply wc_seq | apply wc_region ))
  (refine wo_call (awake16) rfl (by (repeat (first | apply sub_nil )); done) (by first | exact fun _ h => h | (intro r hr; cases hr; done) | (simp; done) | exact fun _ h => List.mem_append_left _ h | (intro r hr; simp [hr]; done)) rfl ?_; rintro v L' R' ⟨rfl, rfl, rfl⟩ H' hH RR hR; simp only [List.cons_append, List.nil_append] at hH hR; subst hH; have hR := hR.symm; subst hR)
  (repeat (first | ((first | (apply wo_v; rfl) ); (· first | (apply pv_ev; rfl) | (apply g_pick; first | (apply pv_pick_t; rfl; rfl) | (apply pv_pick_f; rfl; rfl)) | (apply g_bi; first | (apply pv_len_sl; rfl) ) | (apply g_un; first | (apply pv_not_t; rfl) ) )) | apply wo_nil | apply wc_seq | apply wc_region | apply wc_skip | (apply wc_true; rfl) | (apply wc_false; rfl) | (apply wo_run; rfl; rfl) ))
  refine wo_v rfl (pv_min3 rfl rfl rfl) ?_
  rw [hN]
  (repeat (first | ((first | (apply wo_v; rfl) ); (· first | (apply pv_ev; rfl) )) | apply wo_nil | apply wc_seq | apply wc_region ))
  refine wo_mmake .u16 rfl (fun bm => ?_)
  (repeat (first | ((first | (apply wo_v; rfl) ); (· first | (apply pv_ev; rfl) )) | apply wo_nil | apply wc_seq | apply wc_region ))
  refine wc_join0 (fun st => ∃ (S : List (Option Pk)) (km : List (Int × Value)), st = ⟨[(0, .int .i64 k), (3, .slice C m3 c3), (9, .pointer (some ⟨g, 0, none⟩)), (11, .int .i64 N), (12, .map (some bm))], rgH g gb k S N 2 0 0 ++ [.ob bm (mob .u16 km)], R⟩ ∧ Lay S N k (QG (PS sq tx) k N) ∧ MQ km (QG (PS sq tx) k N)) ?_ ?_
  · refine wc_block ?_
    refine wc_loop' (fun q st => ∃ (i : Nat) (S : List (Option Pk)) (km : List (Int × Value)), q = N - i ∧ st = ⟨[(0, .int .i64 k), (1, .slice A m1 c1), (2, .slice B m2 c2), (3, .slice C m3 c3), (9, .pointer (some ⟨g, 0, none⟩)), (11, .int .i64 N), (12, .map (some bm)), (13, .int .i64 i)], rgH g gb k S i 2 0 0 ++ [.ob bm (mob .u16 km)], R⟩
        ∧ i ≤ N ∧ Lay S i k (QG (PS sq tx) k i) ∧ MQ km (TL (PS sq tx) (N - k) i))
      ⟨0, List.replicate k none, [], rfl, rfl, Nat.zero_le _, (by rw [show QG (PS sq tx) k 0 = [] by simp [QG]]; exact Lay.new k), fun n => by rw [TL_nil _ (Nat.zero_le _)]; rfl⟩ (wk_mk (by (repeat (first | apply wkf_nil | (apply wkf_cons; rfl))); done) (by (repeat (first | apply sub_nil | (apply sub_cons; (· (repeat (first | apply sel_here | apply sel_there)))))); done) (by first | exact fun _ h => h | (intro r hr; cases hr; done) | (simp; done) | exact fun _ h => List.mem_append_left _ h | (intro r hr; simp [hr]; done))) ?_
    rintro q st ⟨i, S, km, rfl, rfl, hi, hL, hM⟩
    by_cases hlt : i < N
    · obtain ⟨b1, o1, rfl, hm1'⟩ := hA (by omega)
      obtain ⟨b2, o2, rfl, hm2'⟩ := hB (by omega)
      have hr1 := kseg_at (k := .u16) (z := sq) (show i < m1 by omega)
      have hr2 := sseg_at (S := tx) (show i < m2 by omega)
      have hL2 := hL.put hk1.1 (PS sq tx i)
      rw [QG_put _ _ _ hk1.1] at hL2
      (repeat (first | ((first | (apply wo_v; rfl) ); (· first | (apply pv_ev; rfl) )) | apply wo_nil | apply wc_seq | apply wc_region | apply wc_skip | (apply wc_true; rfl) | (apply wc_false; rfl) | (apply a_dec_t; rfl; (· first | assumption | omega)) ))
      refine wc_block ?_
      (repeat (first | ((first | (apply wo_v; rfl) ); (· first | (apply pv_ev; rfl) | (apply g_load; first | (apply pv_ld; rfl; (· (repeat (first | apply sel_there))); rfl) | (apply pv_ld_ownf; rfl; (· (repeat (first | fail ))); (· assumption); rfl) | (apply pv_ld_own1; rfl; (· (repeat (first | apply sel_there))); (· assumption)) | (apply pv_ld_rof; rfl; (· (first | assumption )); (· assumption); rfl) | (apply pv_ld_ro1; rfl; (· (first | assumption )); (· assumption)) ) | (apply g_idx; first | (apply pv_idx; rfl; rfl; omega) ) )) | apply wc_seq | apply wc_region ))
      (refine wo_call (lCut (tx i) 10) rfl (by (repeat (first | apply sub_nil )); done) (by first | exact fun _ h => h | (intro r hr; cases hr; done) | (simp; done) | exact fun _ h => List.mem_append_left _ h | (intro r hr; simp [hr]; done)) rfl ?_; rintro v L' R' ⟨rfl, rfl, rfl⟩ H' hH RR hR; simp only [List.cons_append, List.nil_append] at hH hR; subst hH; have hR := hR.symm; subst hR)
      (repeat (first | ((first | (apply wo_v; rfl) ); (· first | (apply pv_ev; rfl) | (apply g_load; first | (apply pv_ld; rfl; (· (repeat (first | apply sel_there))); rfl) | (apply pv_ld_ownf; rfl; (· (repeat (first | fail ))); (· assumption); rfl) | (apply pv_ld_own1; rfl; (· (repeat (first | apply sel_there))); (· assumption)) | (apply pv_ld_rof; rfl; (· (first | assumption )); (· assumption); rfl) | (apply pv_ld_ro1; rfl; (· (first | assumption )); (· assumption)) ) | (apply g_idx; first | (apply pv_idx; rfl; rfl; omega) ) )) | apply wo_nil | apply wc_seq | apply wc_region ))
      (refine wo_call (ringPut g gb k S i 2 0 0 (sq i) (cutS (tx i) 10) hk1.1 hL.len (by omega)) rfl (by (repeat (first | apply sub_nil )); done) (by first | exact fun _ h => h | (intro r hr; cases hr; done) | (simp; done) | exact fun _ h => List.mem_append_left _ h | (intro r hr; simp [hr]; done)) rfl ?_; rintro v L' R' ⟨rfl, rfl, rfl⟩ H' hH RR hR; simp only [List.cons_append, List.nil_append] at hH hR; subst hH; have hR := hR.symm; subst hR)
      (repeat (first | ((first | (apply wo_v; rfl) ); (· first | (apply pv_ev; rfl) | (apply g_bin; first | (apply a_sub; rfl; rfl; infer_instance; omega) ) )) | apply wo_nil | apply wc_seq | apply wc_region | (apply wc_true; rfl) | (apply wc_false; rfl) | (apply a_dec_t; rfl; (· first | assumption | omega)) | (apply a_dec_f; rfl; (· first | assumption | omega)) | (apply a_dec_t; rfl; (· first | (simp; done) | (simp; omega))) | (apply a_dec_f; rfl; (· first | (simp; done) | (simp; omega))) ))
      by_cases hd : (N : Int) - k ≤ i
      · have hM2 := hM.push (PS sq tx i)
        rw [← TL_succ _ (show N - k ≤ i by omega)] at hM2
        (repeat (first | ((first | (apply wo_v; rfl) ); (· first | (apply pv_ev; rfl) | (apply g_load; first | (apply pv_ld; rfl; (· (repeat (first | apply sel_there))); rfl) | (apply pv_ld_ownf; rfl; (· (repeat (first | fail ))); (· assumption); rfl) | (apply pv_ld_own1; rfl; (· (repeat (first | apply sel_there))); (· assumption)) | (apply pv_ld_rof; rfl; (· (first | assumption )); (· assumption); rfl) | (apply pv_ld_ro1; rfl; (· (first | assumption )); (· assumption)) ) | (apply g_bin; first | (apply a_add; rfl; rfl; infer_instance; omega) ) | (apply g_idx; first | (apply pv_idx; rfl; rfl; omega) ) )) | (apply wo_mput; rfl; rfl; rfl; (· (repeat (first | apply sel_here | apply sel_there))); rfl) | apply wo_nil | apply wc_region | (apply wc_true; rfl) | (apply wc_false; rfl) | (apply a_dec_t; rfl; (· first | assumption | omega)) ))
        exact loop_end ⟨i + 1, _, _, rfl, rfl, by omega, hL2, hM2⟩ (by omega) (wk_mk (by (repeat (first | apply wkf_nil | (apply wkf_cons; rfl))); done) (by (repeat (first | apply sub_nil | (apply sub_cons; (· (repeat (first | apply sel_here | apply sel_there)))))); done) (by first | exact fun _ h => h | (intro r hr; cases hr; done) | (simp; done) | exact fun _ h => List.mem_append_left _ h | (intro r hr; simp [hr]; done)))
      · (repeat (first | ((first | (apply wo_v; rfl) ); (· first | (apply pv_ev; rfl) | (apply g_bin; first | (apply a_add; rfl; rfl; infer_instance; omega) ) )) | apply wo_nil | apply wc_region | apply wc_skip | (apply wc_true; rfl) | (apply wc_false; rfl) | (apply a_dec_t; rfl; (· first | assumption | omega)) | (apply a_dec_f; rfl; (· first | assumption | omega)) ))
        exact loop_end ⟨i + 1, _, km, rfl, rfl, by omega, hL2, by rw [TL_nil _ (by omega)]; rw [TL_nil _ (by omega)] at hM; exact hM⟩ (by omega) (wk_mk (by (repeat (first | apply wkf_nil | (apply wkf_cons; rfl))); done) (by (repeat (first | apply sub_nil )); done) (by first | exact fun _ h => h | (intro r hr; cases hr; done) | (simp; done) | exact fun _ h => List.mem_append_left _ h | (intro r hr; simp [hr]; done)))
    · have e : i = N := by omega
      subst e
      (repeat (first | ((first | (apply wo_v; rfl) ); (· first | (apply pv_ev; rfl) )) | apply wo_nil | apply wc_seq | apply wc_region | (apply wc_exit; rfl) | (apply wc_true; rfl) | (apply wc_false; rfl) | (apply a_dec_t; rfl; (· first | assumption | omega)) | (apply a_dec_f; rfl; (· first | assumption | omega)) ))
      exact cut_end ⟨S, km, rfl, hL, hM⟩ (wk_mk (by (repeat (first | apply wkf_nil | (apply wkf_cons; rfl))); done) (by (repeat (first | apply sub_nil )); done) (by first | exact fun _ h => h | (intro r hr; cases hr; done) | (simp; done) | exact fun _ h => List.mem_append_left _ h | (intro r hr; simp [hr]; done)))
  rintro st ⟨S, km, rfl, hL, hM⟩
  have hRQ : RQ (QG (PS sq tx) k N) 0 := ⟨fun p hp => by
    obtain ⟨j, _, rfl⟩ := List.mem_map.1 hp
    simp⟩
  generalize QG (PS sq tx) k N = Q at hL hM hRQ
  (repeat (first | ((first | (apply wo_v; rfl) ); (· first | (apply pv_ev; rfl) )) | apply wo_nil | apply wc_seq | apply wc_region ))
  refine wc_join0 (fun st => ∃ (S : List (Option Pk)) (sent : Int), st = ⟨[(0, .int .i64 k), (9, .pointer (some ⟨g, 0, none⟩)), (11, .int .i64 N)], rgH g gb k S N 2 0 sent, R⟩) ?_ ?_
  · refine wc_block ?_
    refine wc_loop' (fun q st => ∃ (i : Nat) (S : List (Option Pk)) (Q : List Pk) (sent : Int), q = 40 - i ∧ st = ⟨[(0, .int .i64 k), (3, .slice C m3 c3), (9, .pointer (some ⟨g, 0, none⟩)), (11, .int .i64 N), (12, .map (some bm)), (15, .int .i64 i)], rgH g gb k S N 2 0 sent ++ [.ob bm (mob .u16 km)], R⟩
        ∧ i ≤ m3 ∧ i ≤ 40 ∧ Lay S N k Q ∧ MQ km Q ∧ RQ Q i ∧ 0 ≤ sent ∧ sent ≤ i)
      ⟨0, S, Q, 0, rfl, rfl, Nat.zero_le _, Nat.zero_le _, hL, hM, hRQ, by omega, by omega⟩ (wk_mk (by (repeat (first | apply wkf_nil | (apply wkf_cons; rfl))); done) (by (repeat (first | apply sub_nil )); done) (by first | exact fun _ h => h | (intro r hr; cases hr; done) | (simp; done) | exact fun _ h => List.mem_append_left _ h | (intro r hr; simp [hr]; done))) ?_
    clear hL hM hRQ
    rintro q st ⟨i, S, Q, sent, rfl, rfl, hi1, hi2, hL, hM, hRQ, hs1, hs2⟩
    by_cases hlt : i < m3 ∧ i < 40
    · obtain ⟨h1, h2⟩ := hlt
      obtain ⟨b1, o1, rfl, hm1'⟩ := hC (by omega)
      have hr1 := kseg_at (k := .u16) (z := ak) h1
      generalize ak i = num at hr1
      rcases lastS_or num Q with ⟨h3, h4⟩ | ⟨j, p, h3, h4⟩
      · have hk0 : alook km num = none := by rw [hM num, h3]; rfl
        (repeat (first | ((first | (apply wo_v; rfl) ); (· first | (apply pv_ev; rfl) | (apply g_pick; first | (apply pv_pick_t; rfl; rfl) ) | (apply g_bi; first | (apply pv_len_sl; rfl) ) )) | apply wo_nil | apply wc_seq | apply wc_region | apply wc_skip | (apply wc_true; rfl) | (apply wc_false; rfl) | (apply a_dec_t; rfl; (· first | assumption | omega)) | (apply wo_run; rfl; rfl) | (apply wo_skip; rfl; rfl; rfl; rfl) | (apply wo_skip_u; rfl; rfl; rfl) | (apply a_gt; rfl; rfl; (· first | assumption | omega)) ))
        refine wc_block ?_
        (repeat (first | ((first | (apply wo_v; rfl) ); (· first | (apply pv_ev; rfl) | (apply g_load; first | (apply pv_ld; rfl; (· (repeat (first | apply sel_there))); rfl) | (apply pv_ld_ownf; rfl; (· (repeat (first | fail ))); (· assumption); rfl) | (apply pv_ld_own1; rfl; (· (repeat (first | apply sel_there))); (· assumption)) | (apply pv_ld_rof; rfl; (· (first | assumption )); (· assumption); rfl) | (apply pv_ld_ro1; rfl; (· (first | assumption )); (· assumption)) ) | (apply g_idx; first | (apply pv_idx; rfl; rfl; omega) ) )) | apply wc_seq | apply wc_region ))
        (refine wo_call (ringAgain_no g gb k S N 2 0 sent num i Q hk1.1 hL (by omega) h4) rfl (by (repeat (first | apply sub_nil )); done) (by first | exact fun _ h => h | (intro r hr; cases hr; done) | (simp; done) | exact fun _ h => List.mem_append_left _ h | (intro r hr; simp [hr]; done)) rfl ?_; rintro v L' R' ⟨rfl, rfl, rfl⟩ H' hH RR hR; simp only [List.cons_append, List.nil_append] at hH hR; subst hH; have hR := hR.symm; subst hR)
        (repeat (first | ((first | (apply wo_v; rfl) ); (· first | (apply pv_ev; rfl) | (apply g_load; first | (apply pv_ld; rfl; (· (repeat (first | apply sel_there))); rfl) | (apply pv_ld_ownf; rfl; (· (repeat (first | fail ))); (· assumption); rfl) | (apply pv_ld_own1; rfl; (· (repeat (first | apply sel_there))); (· assumption)) | (apply pv_ld_rof; rfl; (· (first | assumption )); (· assumption); rfl) | (apply pv_ld_ro1; rfl; (· (first | assumption )); (· assumption)) ) | (apply g_pick; first | (apply pv_pick_t; rfl; rfl) | (apply pv_pick_f; rfl; rfl)) | (apply g_bin; first | (apply a_add; rfl; rfl; infer_instance; omega) | (apply pv_neq_b; rfl; rfl) ) | (apply g_un; first | (apply pv_not_t; rfl) | (apply pv_not_f; rfl) ) | (apply g_idx; first | (apply pv_idx; rfl; rfl; omega) ) )) | ((apply wo_v; rfl); (· first | (apply g_lk; first | (apply pv_mlko_n; rfl; rfl; (· (repeat (first | apply sel_here | apply sel_there))); (· assumption)) ) )) | apply wo_nil | apply wc_seq | apply wc_region | apply wc_skip | (apply wc_true; rfl) | (apply wc_false; rfl) | (apply wo_run; rfl; rfl) | (apply wo_skip; rfl; rfl; rfl; rfl) | (apply wo_skip_u; rfl; rfl; rfl) ))
        exact loop_end ⟨i + 1, S, Q, sent, rfl, rfl, by omega, by omega, hL, hM, ⟨fun p hp => by have := hRQ.b p hp; omega⟩, by omega, by omega⟩ (by omega) (wk_mk (by (repeat (first | apply wkf_nil | (apply wkf_cons; rfl))); done) (by (repeat (first | apply sub_nil )); done) (by first | exact fun _ h => h | (intro r hr; cases hr; done) | (simp; done) | exact fun _ h => List.mem_append_left _ h | (intro r hr; simp [hr]; done)))
      · have hk0 : alook km num = some (.string p.2.1) := by rw [hM num, h4]; rfl
        have hb := hRQ.b p (List.mem_of_getElem? h3.1)
        by_cases ht : 2 ≤ p.2.2.1
        · (repeat (first | ((first | (apply wo_v; rfl) ); (· first | (apply pv_ev; rfl) | (apply g_pick; first | (apply pv_pick_t; rfl; rfl) ) | (apply g_bi; first | (apply pv_len_sl; rfl) ) )) | apply wo_nil | apply wc_seq | apply wc_region | apply wc_skip | (apply wc_true; rfl) | (apply wc_false; rfl) | (apply a_dec_t; rfl; (· first | assumption | omega)) | (apply wo_run; rfl; rfl) | (apply wo_skip; rfl; rfl; rfl; rfl) | (apply wo_skip_u; rfl; rfl; rfl) | (apply a_gt; rfl; rfl; (· first | assumption | omega)) ))
          refine wc_block ?_
          (repeat (first | ((first | (apply wo_v; rfl) ); (· first | (apply pv_ev; rfl) | (apply g_load; first | (apply pv_ld; rfl; (· (repeat (first | apply sel_there))); rfl) | (apply pv_ld_ownf; rfl; (· (repeat (first | fail ))); (· assumption); rfl) | (apply pv_ld_own1; rfl; (· (repeat (first | apply sel_there))); (· assumption)) | (apply pv_ld_rof; rfl; (· (first | assumption )); (· assumption); rfl) | (apply pv_ld_ro1; rfl; (· (first | assumption )); (· assumption)) ) | (apply g_idx; first | (apply pv_idx; rfl; rfl; omega) ) )) | apply wc_seq | apply wc_region ))
          (refine wo_call (ringAgain_tries g gb k S N 2 0 sent num i Q hk1.1 hL (by omega) j p h3 ht) rfl (by (repeat (first | apply sub_nil )); done) (by first | exact fun _ h => h | (intro r hr; cases hr; done) | (simp; done) | exact fun _ h => List.mem_append_left _ h | (intro r hr; simp [hr]; done)) rfl ?_; rintro v L' R' ⟨rfl, rfl, rfl⟩ H' hH RR hR; simp only [List.cons_append, List.nil_append] at hH hR; subst hH; have hR := hR.symm; subst hR)
          (repeat (first | ((first | (apply wo_v; rfl) ); (· first | (apply pv_ev; rfl) | (apply g_load; first | (apply pv_ld; rfl; (· (repeat (first | apply sel_there))); rfl) | (apply pv_ld_ownf; rfl; (· (repeat (first | fail ))); (· assumption); rfl) | (apply pv_ld_own1; rfl; (· (repeat (first | apply sel_there))); (· assumption)) | (apply pv_ld_rof; rfl; (· (first | assumption )); (· assumption); rfl) | (apply pv_ld_ro1; rfl; (· (first | assumption )); (· assumption)) ) | (apply g_pick; first | (apply pv_pick_t; rfl; rfl) | (apply pv_pick_f; rfl; rfl)) | (apply g_bin; first | (apply a_add; rfl; rfl; infer_instance; omega) | (apply pv_neq_b; rfl; rfl) ) | (apply g_un; first | (apply pv_not_t; rfl) ) | (apply g_idx; first | (apply pv_idx; rfl; rfl; omega) ) )) | ((apply wo_v; rfl); (· first | (apply g_lk; first | (apply pv_mlko_n; rfl; rfl; (· (repeat (first | apply sel_here | apply sel_there))); (· assumption)) | (apply pv_mlko_s; rfl; rfl; (· (repeat (first | apply sel_here | apply sel_there))); (· assumption))) )) | apply wo_nil | apply wc_seq | apply wc_region | apply wc_skip | (apply wc_true; rfl) | (apply wc_false; rfl) | (apply wo_run; rfl; rfl) | (apply wo_skip; rfl; rfl; rfl; rfl) | (apply wo_skip_u; rfl; rfl; rfl) ))
          exact loop_end ⟨i + 1, S, Q, sent, rfl, rfl, by omega, by omega, hL, hM, ⟨fun p hp => by have := hRQ.b p hp; omega⟩, by omega, by omega⟩ (by omega) (wk_mk (by (repeat (first | apply wkf_nil | (apply wkf_cons; rfl))); done) (by (repeat (first | apply sub_nil )); done) (by first | exact fun _ h => h | (intro r hr; cases hr; done) | (simp; done) | exact fun _ h => List.mem_append_left _ h | (intro r hr; simp [hr]; done)))
        · have hL2 := hL.set h3.lt (p.1, p.2.1, p.2.2.1 + 1, (i : Int))
          have hM2 : MQ km (Q.set j (p.1, p.2.1, p.2.2.1 + 1, (i : Int))) := fun n => by rw [hM n, lastS_set n (p := p) (p' := (p.1, p.2.1, p.2.2.1 + 1, (i : Int))) rfl rfl Q j h3.1]
          have hRQ2 : RQ (Q.set j (p.1, p.2.1, p.2.2.1 + 1, (i : Int))) (i + 1) := ⟨fun x hx => by
            rcases List.mem_or_eq_of_mem_set hx with hx | rfl
            · have := hRQ.b x hx; omega
            · simp only; omega⟩
          have hg : ¬ (0 < p.2.2.1 ∧ (i : Int) - p.2.2.2 < 0) := by omega
          obtain ⟨pn, ps, pa, pl⟩ := p
          dsimp only at *
          (repeat (first | ((first | (apply wo_v; rfl) ); (· first | (apply pv_ev; rfl) | (apply g_pick; first | (apply pv_pick_t; rfl; rfl) ) | (apply g_bi; first | (apply pv_len_sl; rfl) ) )) | apply wo_nil | apply wc_seq | apply wc_region | apply wc_skip | (apply wc_true; rfl) | (apply wc_false; rfl) | (apply a_dec_t; rfl; (· first | assumption | omega)) | (apply wo_run; rfl; rfl) | (apply wo_skip; rfl; rfl; rfl; rfl) | (apply wo_skip_u; rfl; rfl; rfl) | (apply a_gt; rfl; rfl; (· first | assumption | omega)) ))
          refine wc_block ?_
          (repeat (first | ((first | (apply wo_v; rfl) ); (· first | (apply pv_ev; rfl) | (apply g_load; first | (apply pv_ld; rfl; (· (repeat (first | apply sel_there))); rfl) | (apply pv_ld_ownf; rfl; (· (repeat (first | fail ))); (· assumption); rfl) | (apply pv_ld_own1; rfl; (· (repeat (first | apply sel_there))); (· assumption)) | (apply pv_ld_rof; rfl; (· (first | assumption )); (· assumption); rfl) | (apply pv_ld_ro1; rfl; (· (first | assumption )); (· assumption)) ) | (apply g_idx; first | (apply pv_idx; rfl; rfl; omega) ) )) | apply wc_seq | apply wc_region ))
          (refine wo_call (ringAgain_ok g gb k S N 2 0 sent num i Q hk1.1 hL (by omega) j (pn, ps, pa, pl) h3 ht hg (by dsimp only; omega) (by dsimp only; omega) (by omega)) rfl (by (repeat (first | apply sub_nil )); done) (by first | exact fun _ h => h | (intro r hr; cases hr; done) | (simp; done) | exact fun _ h => List.mem_append_left _ h | (intro r hr; simp [hr]; done)) rfl ?_; rintro v L' R' ⟨rfl, rfl, rfl⟩ H' hH RR hR; simp only [List.cons_append, List.nil_append] at hH hR; subst hH; have hR := hR.symm; subst hR)
          (repeat (first | ((first | (apply wo_v; rfl) ); (· first | (apply pv_ev; rfl) | (apply g_load; first | (apply pv_ld; rfl; (· (repeat (first | apply sel_there))); rfl) | (apply pv_ld_ownf; rfl; (· (repeat (first | fail ))); (· assumption); rfl) | (apply pv_ld_own1; rfl; (· (repeat (first | apply sel_there))); (· assumption)) | (apply pv_ld_rof; rfl; (· (first | assumption )); (· assumption); rfl) | (apply pv_ld_ro1; rfl; (· (first | assumption )); (· assumption)) ) | (apply g_pick; first | (apply pv_pick_t; rfl; rfl) | (apply pv_pick_f; rfl; rfl)) | (apply g_bin; first | (apply a_add; rfl; rfl; infer_instance; omega) | (apply pv_neq_b; rfl; rfl) | (apply pv_neq_s; rfl; rfl) ) | (apply g_un; first | (apply pv_not_t; rfl) ) | (apply g_idx; first | (apply pv_idx; rfl; rfl; omega) ) )) | ((apply wo_v; rfl); (· first | (apply g_lk; first | (apply pv_mlko_n; rfl; rfl; (· (repeat (first | apply sel_here | apply sel_there))); (· assumption)) | (apply pv_mlko_s; rfl; rfl; (· (repeat (first | apply sel_here | apply sel_there))); (· assumption))) )) | apply wo_nil | apply wc_seq | apply wc_region | apply wc_skip | (apply wc_true; rfl) | (apply wc_false; rfl) | (apply wo_run; rfl; rfl) | (apply wo_skip; rfl; rfl; rfl; rfl) | (apply wo_skip_u; rfl; rfl; rfl) | (apply a_gt; rfl; rfl; (· first | assumption | omega)) | (apply a_gf; rfl; rfl; (· first | assumption | omega)) | (apply a_gt; rfl; rfl; (· first | (simp; done) | (simp; omega))) | (apply a_gf; rfl; rfl; (· first | (simp; done) | (simp; omega))) ))
          exact loop_end ⟨i + 1, _, _, sent + 1, rfl, rfl, by omega, by omega, hL2, hM2, hRQ2, by omega, by omega⟩ (by omega) (wk_mk (by (repeat (first | apply wkf_nil | (apply wkf_cons; rfl))); done) (by (repeat (first | apply sub_nil )); done) (by first | exact fun _ h => h | (intro r hr; cases hr; done) | (simp; done) | exact fun _ h => List.mem_append_left _ h | (intro r hr; simp [hr]; done)))
    · have hex2 : ¬ (i < m3) ∨ (i < m3 ∧ ¬ i < 40) := by omega
      rcases hex2 with h | ⟨h, h'⟩
      all_goals
        (repeat (first | ((first | (apply wo_v; rfl) ); (· first | (apply pv_ev; rfl) | (apply g_pick; first | (apply pv_pick_t; rfl; rfl) | (apply pv_pick_f; rfl; rfl)) | (apply g_bi; first | (apply pv_len_sl; rfl) ) )) | apply wo_nil | apply wc_seq | apply wc_region | (apply wc_exit; rfl) | (apply wc_true; rfl) | (apply wc_false; rfl) | (apply a_dec_t; rfl; (· first | assumption | omega)) | (apply a_dec_f; rfl; (· first | assumption | omega)) | (apply wo_run; rfl; rfl) | (apply wo_skip; rfl; rfl; rfl; rfl) | (apply wo_skip_u; rfl; rfl; rfl) | (apply a_gt; rfl; rfl; (· first | assumption | omega)) | (apply a_gf; rfl; rfl; (· first | assumption | omega)) ))
        exact cut_end ⟨S, sent, rfl⟩ (wk_mk (by (repeat (first | apply wkf_nil | (apply wkf_cons; rfl))); done) (by (repeat (first | apply sub_nil )); done) (by first | exact fun _ h => h | (intro r hr; cases hr; done) | (simp; done) | exact fun _ h => List.mem_append_left _ h | (intro r hr; simp [hr]; done)))
  rintro st ⟨S, sent, rfl⟩
  (repeat (first | ((first | (apply wo_v; rfl) ); (· first | (apply pv_ev; rfl) )) | apply wc_seq | apply wc_region ))
  (refine wo_call (ringLenR g gb k S N 2 0 sent (min N k) rfl) rfl (by (repeat (first | apply sub_nil )); done) (by first | exact fun _ h => h | (intro r hr; cases hr; done) | (simp; done) | exact fun _ h => List.mem_append_left _ h | (intro r hr; simp [hr]; done)) rfl ?_; rintro v L' R' ⟨rfl, rfl, rfl⟩ H' hH RR hR; simp only [List.cons_append, List.nil_append] at hH hR; subst hH; have hR := hR.symm; subst hR)
  (repeat (first | ((first | (apply wo_v; rfl) ); (· first | (apply pv_ev; rfl) | (apply g_bi; first | (apply pv_min; rfl; rfl) ) )) | apply wo_nil | apply wc_ret ))
  exact ret1 rfl rfl (by simp) ((by (repeat (first | apply sub_nil )); done) : List.Perm _ ([] ++ _)) (by first | exact fun _ h => h | (intro r hr; cases hr; done) | (simp; done) | exact fun _ h => List.mem_append_left _ h | (intro r hr; simp [hr]; done))
theorem ringSame_walk (a : Int) (ha : -9223372036854775808 ≤ a ∧ a ≤ 9223372036854775807) (A : Option Addr) (n c : Nat) (V : Nat → Nat → Value) {w : World} (hV : Rws [.int .u16] w A n c V)
    (B : Option Addr) (n2 c2 : Nat) (V2 : Nat → Nat → Value) (hV2 : Rws [.string] w B n2 c2 V2) (C : Option Addr) (n3 c3 : Nat) (V3 : Nat → Nat → Value) (hV3 : Rws [.int .u16] w C n3 c3 V3) :
    Calls Try.prog 5 #[.int .i64 a, .slice A n c, .slice B n2 c2, .slice C n3 c3] w fun e w' => e = .returned (.bool true) ∧ Below w.heap.size w w' := by
  obtain ⟨z1, R1, h1, _, h2, h3⟩ := rws_k hV
  obtain ⟨z2, R2, g1, _, g2, g3⟩ := rws_s hV2
  obtain ⟨z3, R3, f1, _, f2, f3⟩ := rws_k hV3
  refine walk_of (R := R1 ++ (R2 ++ R3)) (ringSame_fn a A B C n c n2 c2 n3 c3 z1 z2 z3 _ h3 g3 f3 (fun h => ?_) (fun h => ?_) (fun h => ?_)) (fun r hr => ?_)
  · obtain ⟨b, o, h4, h5⟩ := h2 h; exact ⟨b, o, h4, List.mem_append_left _ h5⟩
  · obtain ⟨b, o, h4, h5⟩ := g2 h; exact ⟨b, o, h4, List.mem_append_right _ (List.mem_append_left _ h5)⟩
  · obtain ⟨b, o, h4, h5⟩ := f2 h; exact ⟨b, o, h4, List.mem_append_right _ (List.mem_append_right _ h5)⟩
  · rcases List.mem_append.1 hr with hr | hr
    · exact h1 r hr
    · rcases List.mem_append.1 hr with hr | hr
      · exact g1 r hr
      · exact f1 r hr
end Go.Proofs.Ytdjbdlfdknfcaaa
