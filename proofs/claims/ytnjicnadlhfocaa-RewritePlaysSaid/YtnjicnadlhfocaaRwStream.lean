/-
  RewriteStream: one source, numbers that rise by one, times that never fall.
-/
import Derived.Test.YtnjicnadlhfocaaRwLaws
import Derived.Test.YtnjicnadlhfocaaRwM
import Derived.Test.YtnjicnadlhfocaaDeep
namespace Go.Proofs.Ytnjicnadlhfocaa
set_option linter.unusedSimpArgs false
set_option linter.unusedVariables false
open Go.RowKit
attribute [local irreducible] Pv WO WC Fn
set_option maxRecDepth 100000
attribute [local irreducible] ByteArray.extract

theorem uHalf32 : Fn Try.prog 65 #[] [] [] (fun v L' R' => v = .int .u32 2147483648 ∧ L' = [] ∧ R' = []) := by
  refine fn_intro Try.func65 rfl Try.ntmps65 rfl (fun E => ?_)
  (repeat (first | ((first | (apply wo_v; rfl) ); (· first | (apply pv_ev; rfl) | (apply g_bin; first | (apply a_add; rfl; rfl; infer_instance; omega) | (apply a_sub; rfl; rfl; infer_instance; omega) | (apply a_sub_u; rfl; rfl; infer_instance) | (apply a_shr; rfl; rfl; rfl; omega; rfl) ) )) | apply wo_nil | apply wc_seq | apply wc_region | apply wc_ret ))
  exact ret1 rfl rfl ⟨rfl, rfl, rfl⟩ ((by (repeat (first | apply sub_nil )); done) : List.Perm _ ([] ++ _)) (by first | exact fun _ h => h | (intro r hr; cases hr; done) | (simp; done) | exact fun _ h => List.mem_append_left _ h | (intro r hr; simp [hr]; done))
theorem uDist32 (a b d : Int) (hd : (a - b) % 4294967296 = d) (h : d < 2147483648) : Fn Try.prog 36 #[.int .u32 a, .int .u32 b] [] [] (fun v L' R' => v = .int .i64 d ∧ L' = [] ∧ R' = []) := by
  have h0 : 0 ≤ d := by omega
  refine fn_intro Try.func36 rfl Try.ntmps36 rfl (fun E => ?_)
  (repeat (first | ((first | (apply wo_v; rfl) ); (· first | (apply pv_ev; rfl) | (apply g_bin; first | (apply a_sub; rfl; rfl; infer_instance; omega) | (apply a_sub_u; rfl; rfl; infer_instance) ) )) | apply wo_nil | apply wc_seq | apply wc_region ))
  rw [hd]
  (repeat (first | ((first | (apply wo_v; rfl) ); (· first | (apply pv_ev; rfl) )) ))
  (refine wo_call (uHalf32) rfl (by (repeat (first | apply sub_nil )); done) (by first | exact fun _ h => h | (intro r hr; cases hr; done) | (simp; done) | exact fun _ h => List.mem_append_left _ h | (intro r hr; simp [hr]; done)) rfl ?_; rintro v L' R' ⟨rfl, rfl, rfl⟩ H' hH RR hR; simp only [List.cons_append, List.nil_append] at hH hR; subst hH; have hR := hR.symm; subst hR)
  (repeat (first | ((first | (apply wo_v; rfl) ); (· first | (apply pv_ev; rfl) | (apply g_conv; first | (apply a_conv; rfl; infer_instance; infer_instance; infer_instance; omega) ) )) | apply wo_nil | apply wc_seq | apply wc_region | apply wc_ret | (apply wc_true; rfl) | (apply wc_false; rfl) | (apply a_dec_t; rfl; (· first | assumption | omega)) ))
  exact ret1 rfl rfl ⟨rfl, rfl, rfl⟩ ((by (repeat (first | apply sub_nil )); done) : List.Perm _ ([] ++ _)) (by first | exact fun _ h => h | (intro r hr; cases hr; done) | (simp; done) | exact fun _ h => List.mem_append_left _ h | (intro r hr; simp [hr]; done))
theorem sqI_add (s : Int) (n : Nat) : ∀ j, sqI s (n + j) = sqI (sqI s n) j
  | 0 => rfl
  | j + 1 => by rw [← Nat.add_assoc, sqI, sqI, sqI_add s n j]
theorem sqI_mod {s : Int} (h : 0 ≤ s ∧ s ≤ 65535) : ∀ j : Nat, sqI s j = (s + j) % 65536
  | 0 => by simp only [sqI]; omega
  | j + 1 => by rw [sqI, sqI_mod h j]; omega
theorem pkN_at {vi : Bool} {kd sq t ss pic lv : Int} {U : List Un} : ∀ {i : Nat}, i ≤ U.length → ∀ {j : Nat} {p : Pm}, (pkN vi kd sq t ss pic lv U i)[j]? = some p → p.ss = ss ∧ p.kd = kd ∧ p.sq = sqI sq j ∧ p.t = t
  | 0, _, j, p, h => by simp [pkN] at h
  | i + 1, hi, j, p, h => by
    have hl := pkN_len vi kd sq t ss pic lv U i (by omega)
    rw [pkN, List.getElem?_eq_getElem (show i < U.length by omega)] at h
    simp only at h
    by_cases hj : j < i
    · rw [List.getElem?_append_left (by omega)] at h
      exact pkN_at (by omega) h
    · rw [List.getElem?_append_right (by omega), hl] at h
      have : j - i = 0 := by
        have := (List.getElem?_eq_some_iff.1 h).1; simp at this; omega
      rw [this] at h
      simp at h
      subst h
      have e : j = i := by omega
      subst e
      exact ⟨rfl, rfl, rfl, rfl⟩
structure SI (s0 : Int) (P : List Pm) (sq la : Int) (be : Bool) : Prop where
  sq_ : sq = sqI s0 P.length
  each : ∀ j p, P[j]? = some p → p.ss = 7 ∧ p.kd = 96 ∧ p.sq = sqI s0 j
  step : ∀ j p q, P[j]? = some p → P[j + 1]? = some q → (q.t - p.t) % 4294967296 < 2147483648
  last : ∀ j p, P[j]? = some p → j + 1 = P.length → p.t = la % 4294967296
  nil : be = false → P = []
theorem SI.push {s0 sq la la2 : Int} {P : List Pm} {be : Bool} (h : SI s0 P sq la be) {vi : Bool} {pic lv : Int} {U : List Un} {n : Nat} (hn : n = U.length) (h0 : 0 < n) (hla : be = true → la ≤ la2 ∧ la2 < la + 2147483648) :
    SI s0 (P ++ pkN vi 96 sq (la2 % 4294967296) 7 pic lv U n) (sqI sq n) la2 true := by
  obtain ⟨h1, h2, h3, h4, h5⟩ := h
  have hl := pkN_len vi 96 sq (la2 % 4294967296) 7 pic lv U n (by omega)
  have ha := fun j p => pkN_at (vi := vi) (kd := 96) (sq := sq) (t := la2 % 4294967296) (ss := 7) (pic := pic) (lv := lv) (U := U) (i := n) (by omega) (j := j) (p := p)
  generalize pkN vi 96 sq (la2 % 4294967296) 7 pic lv U n = Q at hl ha
  refine ⟨by rw [List.length_append, hl, sqI_add, ← h1], fun j p hj => ?_, fun j p q hj hj1 => ?_, fun j p hj hjl => ?_, fun e => by cases e⟩
  · by_cases hjl : j < P.length
    · rw [List.getElem?_append_left hjl] at hj; exact h2 j p hj
    · rw [List.getElem?_append_right (by omega)] at hj
      obtain ⟨a1, a2, a3, _⟩ := ha _ _ hj
      refine ⟨a1, a2, ?_⟩
      rw [a3, h1, ← sqI_add]
      congr 1; omega
  · by_cases hjl : j + 1 < P.length
    · rw [List.getElem?_append_left (by omega)] at hj
      rw [List.getElem?_append_left hjl] at hj1
      exact h3 j p q hj hj1
    · rw [List.getElem?_append_right (by omega)] at hj1
      obtain ⟨_, _, _, b4⟩ := ha _ _ hj1
      by_cases hjl2 : j < P.length
      · rw [List.getElem?_append_left hjl2] at hj
        have c4 := h4 j p hj (by omega)
        rw [b4, c4]
        have hbe : be = true := by
          cases be with
          | true => rfl
          | false => rw [h5 rfl] at hjl2; simp at hjl2
        have := hla hbe
        omega
      · rw [List.getElem?_append_right (by omega)] at hj
        obtain ⟨_, _, _, c4⟩ := ha _ _ hj
        rw [b4, c4]; omega
  · rw [List.length_append] at hjl
    rw [List.getElem?_append_right (by omega)] at hj
    exact (ha _ _ hj).2.2.2
theorem tm_step {src sh la now s : Int} {be : Bool} {i : Nat} (hi : i ≤ 100) (h0 : 0 ≤ now ∧ now ≤ 4400000000) (h1 : 0 ≤ la) (h2 : be = true → now + sh ≤ la + 65535 * (i + 1)) (h3 : -4400000000 ≤ sh) :
    (be = true → la ≤ laM src sh la be s now ∧ laM src sh la be s now ≤ la + 65535 * 101) ∧ (be = false → laM src sh la be s now = now) ∧ now + shM src sh la be s now ≤ laM src sh la be s now ∧ -4400000000 ≤ shM src sh la be s now := by
  cases be with
  | false => simp [laM, shM]
  | true =>
    have := h2 rfl
    by_cases h : s = src
    · subst h
      rw [laM_same, shM_same]
      refine ⟨fun _ => by omega, fun e => (by cases e), by omega, by omega⟩
    · rw [laM_new h, shM_new h]
      refine ⟨fun _ => by omega, fun e => (by cases e), by omega, by omega⟩
abbrev a15Fd : List Fd1 := [.one (.int .i64), .one (.int .i64), .one .bool, .sl [.string]]
theorem sseg_of {R : List Ro} {v : Value} (h : FV1 R (.sl [.string]) v) : ∃ A n c tx, v = .slice A n c ∧ n ≤ c ∧ c ≤ maxLen ∧ (0 < n → ∃ b o, A = some ⟨b, o, none⟩ ∧ ⟨b, o, 1, sseg tx n⟩ ∈ R) := by
  obtain ⟨A, n, c, V, rfl, h1, h2, h3, h4⟩ := h
  refine ⟨A, n, c, fun i => match V i 0 with | .string z => z | _ => ByteArray.empty, rfl, h1, h2, fun hn => ?_⟩
  obtain ⟨b, o, hA, hm⟩ := h4 hn
  refine ⟨b, o, hA, ?_⟩
  have e : rowsOf [.string] V n = sseg (fun i => match V i 0 with | .string z => z | _ => ByteArray.empty) n := by
    unfold rowsOf sseg
    refine List.map_congr_left fun i hi => ?_
    obtain ⟨z0, hz0, _⟩ := h3 i 0 _ (List.mem_range.1 hi) rfl
    simp [hz0]
  rw [← e]; exact hm
theorem row_a15 {R : List Ro} {row : List Value} (h : FV1s R a15Fd row) : ∃ src lt bk A n c tx, row = acR src lt bk A n c ∧ n ≤ c ∧ c ≤ maxLen ∧ (0 < n → ∃ b o, A = some ⟨b, o, none⟩ ∧ ⟨b, o, 1, sseg tx n⟩ ∈ R) := by
  obtain ⟨hl, h⟩ := h
  obtain ⟨v0, e0, kd, rfl, _⟩ := h 0 _ rfl
  obtain ⟨v1, e1, N, rfl, _⟩ := h 1 _ rfl
  obtain ⟨v2, e2, S, rfl⟩ := h 2 _ rfl
  obtain ⟨v3, e3, h3⟩ := h 3 _ rfl
  obtain ⟨A, n, c, z, rfl, h4, h5, h6⟩ := sseg_of h3
  refine ⟨kd, N, S, A, n, c, z, ?_, h4, h5, h6⟩
  match row, hl with
  | [w0, w1, w2, w3], _ => simp_all
theorem mdU_tx (tx : Nat → ByteArray) (t : Int) (n i : Nat) : ∀ u ∈ mdU tx t n i, u.tx.size ≤ 1000 ∧ u.ti = t := fun u hu => by
  obtain ⟨j, _, rfl⟩ := List.mem_map.1 hu
  exact ⟨Nat.le_trans (cutS_size _ _) (by omega), rfl⟩
theorem nl_b {lv : Int} (h : -1 ≤ lv ∧ lv ≤ 300) (t : ByteArray) : -1 ≤ nlM lv t ∧ nlM lv t ≤ 300 := by unfold nlM; split <;> omega
def tblR (ot : It) (Q P : List Pm) : Nat → List (List It) → Value → List (List It) → Prop := fun k Ls v Ms => match k, Ls with
  | 8, _ => ∃ b o c, v = .slice (some ⟨b, o, none⟩) Q.length c ∧ Ms = [[ot], [pkO (some ⟨b, o, none⟩) c Q]]
  | _, [_, y] => ∃ ao c, v = .slice ao (P.length + Q.length) c ∧ Ms = [[.own pkT 11 ao (P.length + Q.length) c (prs' P ++ prs' Q)], y]
  | _, _ => False
def tblR0 (P : List Pm) : Nat → List (List It) → Value → List (List It) → Prop := fun k _ v Ms => match k with
  | 8 => v = .slice none 0 0 ∧ Ms = [[]]
  | _ => ∃ ao c, v = .slice ao (P.length + 0) c ∧ Ms = [[.own pkT 11 ao (P.length + 0) c (prs' P ++ [])]]
abbrev tuK (ao : Option Addr) (n c : Nat) (U : List Un) : It := .own 165 7 ao n c (urs U)
set_option maxHeartbeats 64000000 in
theorem rewriteStream_fn (s0 : Int) (hs0 : 0 ≤ s0 ∧ s0 ≤ 65535) (A : Option Addr) (m c0 : Nat) (rows : List (List Value)) (R : List Ro) (h : Deep R a15Fd A m c0 rows) :
    Fn Try.prog 9 #[.int .u16 s0, .slice A m c0] [] R (fun v _ _ => v = .bool true) := by
  obtain ⟨d1, d2, d3, d4, d5⟩ := h
  have hmx : m ≤ 9223372036854775807 := by unfold maxLen at d2; omega
  refine fn_intro Try.func9 rfl Try.ntmps9 rfl (fun E => ?_)
  (repeat (first | ((first | (apply wo_v; rfl) ); (· first | (apply pv_ev; rfl) )) | apply wo_nil | apply wc_seq | apply wc_region ))
  (refine wo_call (awake15) rfl (by (repeat (first | apply sub_nil )); done) (by first | exact fun _ h => h | (intro r hr; cases hr; done) | (simp; done) | exact fun _ h => List.mem_append_left _ h | (intro r hr; simp [hr]; done)) rfl ?_; rintro v L' R' ⟨rfl, rfl⟩ H' hH RR hR; simp only [List.cons_append, List.nil_append] at hH hR; subst hH; have hR := hR.symm; subst hR)
  (repeat (first | ((first | (apply wo_v; rfl) ); (· first | (apply pv_ev; rfl) | (apply g_un; first | (apply pv_not_t; rfl) ) )) | apply wo_nil | apply wc_seq | apply wc_region | apply wc_skip | (apply wc_true; rfl) | (apply wc_false; rfl) ))
  (refine wo_call (rwNew true 7 96 s0 96 (by decide)) rfl (by (repeat (first | apply sub_nil )); done) (by first | exact fun _ h => h | (intro r hr; cases hr; done) | (simp; done) | exact fun _ h => List.mem_append_left _ h | (intro r hr; simp [hr]; done)) rfl ?_; rintro v L' R' ⟨g, rfl, rfl, rfl⟩ H' hH RR hR; simp only [List.cons_append, List.nil_append] at hH hR; subst hH; have hR := hR.symm; subst hR)
  (repeat (first | ((first | (apply wo_v; rfl) ); (· first | (apply pv_ev; rfl) )) | apply wo_nil | apply wc_seq | apply wc_region ))
  refine wc_join0 (fun st => ∃ (ao : Option Addr) (c : Nat) (P : List Pm) (sq la : Int) (be : Bool) (RR : List Ro), st = ⟨[(0, .int .u16 s0), (6, .slice ao P.length c)], [pkO ao c P], RR⟩ ∧ SI s0 P sq la be ∧ P.length ≤ 320) ?_ ?_
  · refine wc_block ?_
    refine wc_own0 pkT 11 ?_
    refine wc_loop' (fun q st => ∃ (i : Nat) (ao : Option Addr) (c : Nat) (P : List Pm) (sq pic lv src sh la : Int) (be : Bool) (fr pk by_ now : Int) (RR : List Ro), q = 81 - i ∧ st = ⟨[(0, .int .u16 s0), (1, .slice A m c0), (5, .pointer (some ⟨g, 0, none⟩)), (6, .slice ao P.length c), (7, .int .i64 now), (8, .int .i64 i)], [otI g true 7 96 sq pic lv src sh la be fr pk by_, pkO ao c P], RR⟩
        ∧ (∀ r ∈ R, r ∈ RR) ∧ SI s0 P sq la be ∧ P.length ≤ 4 * i ∧ i ≤ 80 ∧ i ≤ m ∧ 0 ≤ now ∧ now ≤ 4294900000 + 65535 * i ∧ 0 ≤ la ∧ la ≤ 4400000000 + 65535 * 101 * i ∧ (be = true → now + sh ≤ la + 65535 * i) ∧ -4400000000 ≤ sh ∧ sh ≤ 10000000000 ∧ (be = false → sh = 0) ∧ -1 ≤ pic ∧ pic ≤ 40000 ∧ -1 ≤ lv ∧ lv ≤ 300 ∧ 0 ≤ fr ∧ fr ≤ i ∧ 0 ≤ pk ∧ pk ≤ 4 * i ∧ 0 ≤ by_ ∧ by_ ≤ 4032 * i)
      ⟨0, none, 0, [], s0, -1, -1, 0, 0, 0, false, 0, 0, 0, 4294900000, _, rfl, rfl, fun r h => List.mem_append_right _ h, ⟨rfl, by simp, by simp, by simp, fun _ => rfl⟩, by simp, by omega, by omega, by omega, by omega, by omega, by omega, fun e => (by cases e), by omega, by omega, fun _ => rfl, by omega, by omega, by omega, by omega, by omega, by omega, by omega, by omega, by omega, by omega⟩ (wk_mk (by (repeat (first | apply wkf_nil | (apply wkf_cons; rfl))); done) (by (repeat (first | apply sub_nil | (apply sub_cons; (· (repeat (first | apply sel_here | apply sel_there)))))); done) (by first | exact fun _ h => h | (intro r hr; cases hr; done) | (simp; done) | exact fun _ h => List.mem_append_left _ h | (intro r hr; simp [hr]; done))) ?_
    rintro q st ⟨i, ao, c, P, sq, pic, lv, src, sh, la, be, fr, pk, by_, now, RR, rfl, rfl, hRR, hSI, hPl, hi1, hi2, n1, n2, l1, l2, k1, k2, k3, k4, p1, p2, v1, v2, f1, f2, g1, g2, y1, y2⟩
    by_cases hlt : i < m ∧ i < 80
    · obtain ⟨h1, h2⟩ := hlt
      obtain ⟨b, o, rfl, hmem⟩ := d5 (by omega)
      replace hmem : ⟨b, o, 4, rows⟩ ∈ RR := hRR _ hmem
      obtain ⟨row, hr⟩ : ∃ row, rows[i]? = some row := ⟨_, List.getElem?_eq_getElem (by omega)⟩
      obtain ⟨sx, lt, bk, A2, an, ac, tx, rfl, hn2c, hc2, hA2⟩ := row_a15 (d4 row (List.mem_of_getElem? hr))
      unfold maxLen at hc2
      replace hA2 : 0 < an → ∃ b o, A2 = some ⟨b, o, none⟩ ∧ ⟨b, o, 1, sseg tx an⟩ ∈ RR := fun h => by obtain ⟨b, o, h3, h4⟩ := hA2 h; exact ⟨b, o, h3, hRR _ h4⟩
      have hLt := lLater now sx lt bk A2 an ac (by omega)
      have hnw : 0 ≤ ltM now lt bk ∧ ltM now lt bk ≤ now + 65535 := by unfold ltM; split <;> omega
      generalize ltM now lt bk = nw at hLt hnw
      have hMd := lMade sx lt bk A2 an ac tx nw RR (by omega) hA2
      have hml := mdU_len tx nw an (min an 4)
      have hmt := mdU_tx tx nw an (min an 4)
      generalize mdU tx nw an (min an 4) = U at hMd hml hmt
      clear d4
      (repeat (first | ((first | (apply wo_v; rfl) ); (· first | (apply pv_ev; rfl) | (apply g_pick; first | (apply pv_pick_t; rfl; rfl) ) | (apply g_bi; first | (apply pv_len_sl; rfl) ) )) | apply wo_nil | apply wc_seq | apply wc_region | apply wc_skip | (apply wc_true; rfl) | (apply wc_false; rfl) | (apply a_dec_t; rfl; (· first | assumption | omega)) | (apply wo_run; rfl; rfl) | (apply wo_skip; rfl; rfl; rfl; rfl) | (apply wo_skip_u; rfl; rfl; rfl) | (apply a_gt; rfl; rfl; (· first | assumption | omega)) ))
      refine wc_block ?_
      (repeat (first | ((first | (apply wo_v; rfl) ); (· first | (apply pv_ev; rfl) | (apply g_load; first | (apply pv_lda; rfl; (· (repeat (first | apply sel_there))); (· (repeat (first | fail )))) | (apply pv_ld_owna; rfl; (· (repeat (first | apply sel_there))); (· assumption)) | (apply pv_ld_roa; rfl; (· (first | assumption )); (· assumption))) | (apply g_idx; first | (apply pv_idx; rfl; rfl; omega) ) )) | apply wc_seq | apply wc_region ))
      (refine wo_call (hLt) rfl (by (repeat (first | apply sub_nil )); done) (by first | exact fun _ h => h | (intro r hr; cases hr; done) | (simp; done) | exact fun _ h => List.mem_append_left _ h | (intro r hr; simp [hr]; done)) rfl ?_; rintro v L' R' ⟨rfl, rfl, rfl⟩ H' hH RR hR; simp only [List.cons_append, List.nil_append] at hH hR; subst hH; have hR := hR.symm; subst hR)
      (repeat (first | ((first | (apply wo_v; rfl) ); (· first | (apply pv_ev; rfl) | (apply g_load; first | (apply pv_lda; rfl; (· (repeat (first | apply sel_there))); (· (repeat (first | fail )))) | (apply pv_ld_owna; rfl; (· (repeat (first | apply sel_there))); (· assumption)) | (apply pv_ld_roa; rfl; (· (first | assumption )); (· assumption))) | (apply g_idx; first | (apply pv_idx; rfl; rfl; omega) ) )) | apply wo_nil | apply wc_seq | apply wc_region ))
      (refine wo_call (hMd) rfl (by (repeat (first | apply sub_nil )); done) (by first | exact fun _ h => h | (intro r hr; cases hr; done) | (simp; done) | exact fun _ h => List.mem_append_left _ h | (intro r hr; simp [hr]; done)) rfl ?_; rintro v L' R' ⟨au, cu, at2, ct, rfl, rfl, rfl⟩ H' hH RR hR; simp only [List.cons_append, List.nil_append] at hH hR; subst hH; have hR := hR.symm; subst hR)
      (repeat (first | ((first | (apply wo_v; rfl) ); (· first | (apply pv_ev; rfl) )) | apply wo_nil | (apply wo_alloc; rfl; intro bx) | (apply wo_sta; rfl; rfl; rfl; rfl; (· (repeat (first | apply sel_here ))); (· (repeat (first | apply LayAt.nil | apply LayAt.here ))); rfl) ))
      refine wc_still (e := 109) (by (repeat (first | apply sel_here | apply sel_there)); done) (fun R2 hS => ?_)
      replace hRR : ∀ r ∈ R, r ∈ R2 ++ RR := fun r h => List.mem_append_right _ (hRR r h)
      replace hmem : ⟨b, o, 4, rows⟩ ∈ R2 ++ RR := List.mem_append_right _ hmem
      generalize R2 ++ RR = RR2 at hS hRR hmem
      clear hLt hMd hA2
      rcases U with _ | ⟨u, U⟩
      · (refine wc_regM [1, 2] (aslL [(8, [1]), (9, [2])]) (tblR0 P) ([ffI bx au 0 cu, tuO at2 ct [], otI g true 7 96 sq pic lv src sh la be fr pk by_]) (fm [(1, []), (2, [pkO ao c P])]) mixed (by kernel_rfl) (by kernel_rfl) (by decide) (aslL_ok (by decide)) (by (repeat (first | (apply prm_cons; (· (repeat (first | apply sel_here )))) | apply List.Perm.nil )); done) ?_; (repeat (first | (apply HdM.val; rfl; rfl; (· first | apply gok_none ); (· first | (apply pv_ev; rfl) | (apply pv_fld; rfl) | (apply g_load; first | (apply pv_ld; rfl; (· (repeat (first | apply sel_there))); rfl) | (apply pv_lda; rfl; (· (repeat (first | apply sel_here ))); (· (repeat (first | apply Cut.here0 | apply Cut.here )))) | (apply pv_ld_ownf; rfl; (· (repeat (first | apply sel_there))); (· assumption); rfl) | (apply pv_ld_own1; rfl; (· (repeat (first | fail ))); (· assumption)) | (apply pv_ld_rof; rfl; (· (first | assumption )); (· assumption); rfl) ) | (apply g_idx; first | (apply pv_idx; rfl; rfl; omega) ) )) )))
        (refine hm_eff (cs := [1]) rfl (by decide) rfl rfl (by first | exact gok_none | exact gok_run rfl rfl) (fun a ha => outc_mono (outc_call (F1 := _) (T := fun v M => v = .slice none 0 0 ∧ M = []) (rwFrame0 g true 7 96 sq pic lv src sh la be fr pk by_ sx au cu) rfl (by (repeat (first | apply sub_nil | (apply sub_cons; (· (repeat (first | apply sel_here | apply sel_there)))))); done) (by first | exact fun _ h => h | (intro r hr; cases hr; done) | (simp; done) | exact fun _ h => List.mem_append_left _ h | (intro r hr; simp [hr]; done)) (by rintro v L' R' ⟨rfl, rfl, _⟩; exact ⟨_, ⟨rfl, rfl⟩, (by (repeat (first | (apply prm_cons; (· (repeat (first | apply sel_here | apply sel_there)))) | apply List.Perm.nil )); done)⟩) a ha) (fun v M h => ⟨[[]], And.intro h.1 rfl, rfl, h.2⟩)) ⟨_, _, And.intro rfl rfl, rfl⟩ ?_; rintro v Ms ⟨rfl, rfl⟩ _; simp only [setls, setl, reduceIte, Nat.reduceEqDiff]; (repeat (first | (apply HdM.val; rfl; rfl; (· first | fail ); (· first | fail )) )))
        (refine hm_eff (cs := [2]) rfl (by decide) rfl rfl (by first | exact gok_none | exact gok_run rfl rfl) (fun a ha => outc_mono (outc_app_sr rfl rfl (SR.nil RR2 11) (by unfold maxLen; omega) (by omega) a ha) (fun v M h => Exists.elim h fun b h => Exists.elim h fun c h => ⟨[M], Exists.intro b (Exists.intro c (And.intro h.1 (congrArg (fun x => [x]) h.2))), rfl, by simp⟩)) (⟨_, _, Exists.intro none (Exists.intro 0 (And.intro rfl rfl)), rfl⟩) ?_; rintro v Ms ⟨ao5, c5, rfl, rfl⟩ _; simp only [setls, setl, reduceIte, Nat.reduceEqDiff]; (repeat (first | (apply HdM.val; rfl; rfl; (· first | apply gok_none ); (· first | (apply pv_ev; rfl) )) )))
        (refine HdM.nil ?_; intro H hH; simp only [Hp, fm, look, setl, List.flatMap_cons, List.flatMap_nil, reduceIte, Nat.reduceEqDiff, Option.getD_some, List.append_nil, List.cons_append, List.nil_append] at hH; subst hH)
        (repeat (first | ((first | (apply wo_v; rfl) ); (· first | (apply pv_ev; rfl) | (apply g_bin; first | (apply a_add; rfl; rfl; infer_instance; omega) ) )) | apply wo_nil | apply wc_region ))
        exact loop_end ⟨i + 1, ao5, c5, P, sq, pic, lv, src, sh, la, be, fr, pk, by_, nw, RR2, rfl, rfl, hRR, hSI, by omega, by omega, by omega, by omega, by omega, by omega, by omega, fun e => by have := k1 e; omega, by omega, by omega, k4, by omega, by omega, by omega, by omega, by omega, by omega, by omega, by omega, by omega, by omega⟩ (by omega) (wk_mk (by (repeat (first | apply wkf_nil | (apply wkf_cons; rfl))); done) (by (repeat (first | apply sub_nil | (apply sub_cons; (· (repeat (first | apply sel_here | apply sel_there)))))); done) (by first | exact fun _ h => h | (intro r hr; cases hr; done) | (simp; done) | exact fun _ h => List.mem_append_left _ h | (intro r hr; simp [hr]; done)))
      · have hti : u.ti = nw := (hmt u (.head _)).2
        have hF := rwFrame g true 7 96 sq pic lv src sh la be fr pk by_ sx au (u :: U).length cu u U RR2 hS (by omega) ⟨p1, p2, v1, v2⟩ (by omega) (fun x hx => (hmt x hx).1) (by simp at hml; omega)
        rw [hti] at hF
        have htm := tm_step (s := sx) (now := nw) (i := i) (by omega) (by omega) l1 (fun e => by have := k1 e; omega) k2 (src := src) (sh := sh) (la := la) (be := be)
        generalize laM src sh la be sx nw = la2, shM src sh la be sx nw = sh2 at hF htm
        have hpc : picM true pic = (pic + 1) % 32768 := rfl
        have hlv : lvM true lv u.tx = nlM lv u.tx := rfl
        have hlb := nl_b ⟨v1, v2⟩ u.tx
        rw [hpc, hlv] at hF
        generalize nlM lv u.tx = lv2 at hF hlb
        have hSI2 := hSI.push (la2 := la2) (vi := true) (pic := (pic + 1) % 32768) (lv := lv2) (U := u :: U) rfl (by simp) (fun e => by have := htm.1 e; omega)
        have hby := byN_b true ((pic + 1) % 32768) lv2 (u :: U) (fun x hx => (hmt x hx).1) (u :: U).length
        have hQl := pkN_len true 96 sq (la2 % 4294967296) 7 ((pic + 1) % 32768) lv2 (u :: U) _ (Nat.le_refl _)
        generalize pkN true 96 sq (la2 % 4294967296) 7 ((pic + 1) % 32768) lv2 (u :: U) (u :: U).length = Q at hF hSI2 hQl
        generalize byN true ((pic + 1) % 32768) lv2 (u :: U) (u :: U).length = by2 at hF hby
        generalize sqI sq (u :: U).length = sq2 at hF hSI2
        have hQ4 : Q.length ≤ 4 := by omega
        generalize (u :: U).length = k at hF hml hQl hby hS ⊢
        (refine wc_regM [0, 1, 2] (aslL [(8, [0, 1]), (9, [2, 1])]) (tblR (otI g true 7 96 sq2 ((pic + 1) % 32768) lv2 sx sh2 la2 true (fr + 1) (pk + k) (by_ + by2)) Q P) ([ffI bx au k cu, tuO at2 ct (u :: U)]) (fm [(0, [otI g true 7 96 sq pic lv src sh la be fr pk by_]), (1, []), (2, [pkO ao c P])]) mixed (by kernel_rfl) (by kernel_rfl) (by decide) (aslL_ok (by decide)) (by (repeat (first | (apply prm_cons; (· (repeat (first | apply sel_here )))) | apply List.Perm.nil )); done) ?_; (repeat (first | (apply HdM.val; rfl; rfl; (· first | apply gok_none ); (· first | (apply pv_ev; rfl) | (apply pv_fld; rfl) | (apply g_load; first | (apply pv_ld; rfl; (· (repeat (first | apply sel_there))); rfl) | (apply pv_lda; rfl; (· (repeat (first | apply sel_here ))); (· (repeat (first | apply Cut.here0 | apply Cut.here )))) | (apply pv_ld_ownf; rfl; (· (repeat (first | apply sel_there))); (· assumption); rfl) | (apply pv_ld_own1; rfl; (· (repeat (first | fail ))); (· assumption)) | (apply pv_ld_rof; rfl; (· (first | assumption )); (· assumption); rfl) ) | (apply g_idx; first | (apply pv_idx; rfl; rfl; omega) ) )) )))
        (refine hm_eff (cs := [0, 1]) rfl (by decide) rfl rfl (by first | exact gok_none | exact gok_run rfl rfl) (fun a ha => outc_mono (outc_call (F1 := _) (T := fun v M => ∃ b o c, v = .slice (some ⟨b, o, none⟩) Q.length c ∧ M = [otI g true 7 96 sq2 ((pic + 1) % 32768) lv2 sx sh2 la2 true (fr + 1) (pk + k) (by_ + by2), pkO (some ⟨b, o, none⟩) c Q]) hF rfl (by (repeat (first | apply sub_nil )); done) (by first | exact fun _ h => h | (intro r hr; cases hr; done) | (simp; done) | exact fun _ h => List.mem_append_left _ h | (intro r hr; simp [hr]; done)) (by rintro v L' R' ⟨ao', c', ⟨b, o, rfl⟩, rfl, rfl, _⟩; exact ⟨_, ⟨b, o, c', rfl, rfl⟩, (by (repeat (first | (apply prm_cons; (· (repeat (first | apply sel_here )))) | apply List.Perm.nil )); done)⟩) a ha) (fun v M h => by obtain ⟨b, o, c, h1, h2⟩ := h; exact ⟨[[_], [_]], ⟨b, o, c, h1, rfl⟩, rfl, h2⟩)) (⟨_, _, ⟨0, 0, 0, rfl, rfl⟩, rfl⟩) ?_; rintro v Ms ⟨bq, oq, cq, rfl, rfl⟩ _; simp only [setls, setl, reduceIte, Nat.reduceEqDiff]; (repeat (first | (apply HdM.val; rfl; rfl; (· first | fail ); (· first | fail )) )))
        (refine hm_eff (cs := [2, 1]) rfl (by decide) rfl rfl (by first | exact gok_none | exact gok_run rfl rfl) (fun a ha => outc_mono (outc_app rfl rfl (by unfold maxLen; omega) (by omega) a ha) (fun v M h => by obtain ⟨b, c, h1, h2⟩ := h; exact ⟨[[_], [_]], ⟨b, c, h1, rfl⟩, rfl, h2⟩)) (⟨_, _, ⟨none, 0, rfl, rfl⟩, rfl⟩) ?_; rintro v Ms ⟨ao5, c5, rfl, rfl⟩ _; simp only [setls, setl, reduceIte, Nat.reduceEqDiff]; (repeat (first | (apply HdM.val; rfl; rfl; (· first | apply gok_none ); (· first | (apply pv_ev; rfl) )) )))
        (refine HdM.nil ?_; intro H hH; simp only [Hp, fm, look, setl, List.flatMap_cons, List.flatMap_nil, reduceIte, Nat.reduceEqDiff, Option.getD_some, List.append_nil, List.cons_append, List.nil_append] at hH; subst hH)
        (repeat (first | ((first | (apply wo_v; rfl) ); (· first | (apply pv_ev; rfl) | (apply g_bin; first | (apply a_add; rfl; rfl; infer_instance; omega) ) )) | apply wo_nil | apply wc_region ))
        have hla2 : 0 ≤ la2 ∧ la2 ≤ 4400000000 + 65535 * 101 * (i + 1) := by
          cases be with
          | true => have := htm.1 rfl; omega
          | false => have := htm.2.1 rfl; omega
        obtain ⟨_, _, ht3, ht4⟩ := htm
        exact loop_end ⟨i + 1, ao5, c5, P ++ Q, sq2, (pic + 1) % 32768, lv2, sx, sh2, la2, true, fr + 1, pk + k, by_ + by2, nw, RR2, rfl, by rw [show pkO ao5 c5 (P ++ Q) = .own pkT 11 ao5 (P.length + Q.length) c5 (prs' P ++ prs' Q) by simp [pkO], List.length_append], hRR, hSI2, by rw [List.length_append]; omega, by omega, by omega, by omega, by omega, by omega, by omega, fun e => by omega, by omega, by omega, fun e => (by cases e), by omega, by omega, by omega, by omega, by omega, by omega, by omega, by omega, by omega, by omega⟩ (by omega) (wk_mk (by (repeat (first | apply wkf_nil | (apply wkf_cons; rfl))); done) (by (repeat (first | apply sub_nil | (apply sub_cons; (· (repeat (first | apply sel_here | apply sel_there)))))); done) (by first | exact fun _ h => h | (intro r hr; cases hr; done) | (simp; done) | exact fun _ h => List.mem_append_left _ h | (intro r hr; simp [hr]; done)))
    · have hex2 : ¬ (i < m) ∨ (i < m ∧ ¬ i < 80) := by omega
      rcases hex2 with h | ⟨h, h'⟩
      all_goals
        (repeat (first | ((first | (apply wo_v; rfl) ); (· first | (apply pv_ev; rfl) | (apply g_pick; first | (apply pv_pick_t; rfl; rfl) | (apply pv_pick_f; rfl; rfl)) | (apply g_bi; first | (apply pv_len_sl; rfl) ) )) | apply wo_nil | apply wc_seq | apply wc_region | (apply wc_exit; rfl) | (apply wc_true; rfl) | (apply wc_false; rfl) | (apply a_dec_t; rfl; (· first | assumption | omega)) | (apply a_dec_f; rfl; (· first | assumption | omega)) | (apply wo_run; rfl; rfl) | (apply wo_skip; rfl; rfl; rfl; rfl) | (apply wo_skip_u; rfl; rfl; rfl) | (apply a_gt; rfl; rfl; (· first | assumption | omega)) | (apply a_gf; rfl; rfl; (· first | assumption | omega)) ))
        exact cut_end ⟨ao, c, P, sq, la, be, RR, rfl, hSI, by omega⟩ (wk_mk (by (repeat (first | apply wkf_nil | (apply wkf_cons; rfl))); done) (by (repeat (first | apply sub_nil | (apply sub_cons; (· (repeat (first | apply sel_here | apply sel_there)))))); done) (by first | exact fun _ h => h | (intro r hr; cases hr; done) | (simp; done) | exact fun _ h => List.mem_append_left _ h | (intro r hr; simp [hr]; done)))
  rintro st ⟨ao, c, P, sq, la, be, RR, rfl, hSI, hPl⟩
  (repeat (first | ((first | (apply wo_v; rfl) ); (· first | (apply pv_ev; rfl) | (apply g_bi; first | (apply pv_len_sl; rfl) ) )) | apply wo_nil | apply wc_seq | apply wc_region ))
  refine wc_join0 (fun st => st = ⟨[], [], RR⟩) ?_ ?_
  · refine wc_block ?_
    refine wc_loop' (fun q st => ∃ j : Nat, q = P.length - j ∧ j ≤ P.length ∧ st = ⟨[(0, .int .u16 s0), (6, .slice ao P.length c), (52, .slice ao P.length c), (53, .int .i64 P.length), (54, .int .i64 j)], [pkO ao c P], RR⟩)
      ⟨0, rfl, Nat.zero_le _, rfl⟩ (wk_mk (by (repeat (first | apply wkf_nil | (apply wkf_cons; rfl))); done) (by (repeat (first | apply sub_nil )); done) (by first | exact fun _ h => h | (intro r hr; cases hr; done) | (simp; done) | exact fun _ h => List.mem_append_left _ h | (intro r hr; simp [hr]; done))) ?_
    rintro q st ⟨j, rfl, hj, rfl⟩
    by_cases hlt : j < P.length
    · obtain ⟨p, hp⟩ : ∃ p, P[j]? = some p := ⟨_, List.getElem?_eq_getElem hlt⟩
      have hr := prs'_at hp
      have hea := hSI.each j p hp
      rw [sqI_mod hs0] at hea
      have hst : 0 < j → ∃ q, P[((j : Int) - 1).toNat]? = some q ∧ (p.t - q.t) % 4294967296 < 2147483648 := fun h0 => by
        obtain ⟨q, hq⟩ : ∃ q, P[j - 1]? = some q := ⟨_, List.getElem?_eq_getElem (by omega)⟩
        refine ⟨q, by rw [show ((j : Int) - 1).toNat = j - 1 by omega]; exact hq, hSI.step (j - 1) q p hq (by rw [show j - 1 + 1 = j by omega]; exact hp)⟩
      obtain ⟨mrk, kd, sq', t, ss, pl⟩ := p
      dsimp only at hr hea hst
      obtain ⟨rfl, rfl, rfl⟩ := hea
      refine wc_some (ao := ao) (by (repeat (first | apply sel_here )); done) (by omega) (fun b4 o4 hao => ?_)
      subst hao
      by_cases h0 : 0 < j
      · obtain ⟨qq, hq1, hq2⟩ := hst h0
        have hr2 := prs'_at hq1
        obtain ⟨mrk', kd', sq2', t', ss', pl'⟩ := qq
        dsimp only at hr2 hq2
        (repeat (first | ((first | (apply wo_v; rfl) ); (· first | (apply pv_ev; rfl) )) | apply wo_nil | apply wc_seq | apply wc_region | apply wc_skip | (apply wc_true; rfl) | (apply wc_false; rfl) | (apply a_dec_t; rfl; (· first | assumption | omega)) ))
        refine wc_block ?_
        (repeat (first | ((first | (apply wo_v; rfl) ); (· first | (apply pv_ev; rfl) | (apply pv_fld; rfl) | (apply g_load; first | (apply pv_ld; rfl; (· (repeat (first | apply sel_here ))); rfl) | (apply pv_lda; rfl; (· (repeat (first | apply sel_there))); (· (repeat (first | fail )))) | (apply pv_ld_owna; rfl; (· (repeat (first | apply sel_here ))); (· assumption)) ) | (apply g_pick; first | (apply pv_pick_t; rfl; rfl) | (apply pv_pick_f; rfl; rfl)) | (apply g_bin; first | (apply a_add; rfl; rfl; infer_instance; omega) | (apply pv_add_s; rfl; rfl; omega) | (apply a_add_u; rfl; rfl; infer_instance) ) | (apply g_conv; first | (apply a_conv; rfl; infer_instance; infer_instance; infer_instance; omega) ) | (apply g_idx; first | (apply pv_idx; rfl; rfl; omega) ) )) | apply wo_nil | apply wc_seq | apply wc_region | apply wc_skip | (apply wc_true; rfl) | (apply wc_false; rfl) | (apply wo_run; rfl; rfl) | (apply wo_skip; rfl; rfl; rfl; rfl) | (apply wo_skip_u; rfl; rfl; rfl) | (apply a_gt; rfl; rfl; (· first | assumption | omega)) | (apply a_gf; rfl; rfl; (· first | assumption | omega)) | (apply wo_alloc; rfl; intro bx) | (apply wo_sta; rfl; rfl; rfl; rfl; (· (repeat (first | apply sel_here ))); (· (repeat (first | apply LayAt.nil | apply LayAt.here ))); rfl) ))
        (refine wc_quiet mixed (by kernel_rfl) ?_; (repeat (first | ((first | (apply hd_v; rfl) ); (· first | (apply pv_ev; rfl) | (apply pv_fld; rfl) | (apply g_load; first | (apply pv_ld; rfl; (· (repeat (first | apply sel_here | apply sel_there))); rfl) | (apply pv_ld_ownf; rfl; (· (repeat (first | apply sel_here | apply sel_there))); (· assumption); rfl) ) | (apply g_bin; first | (apply a_sub; rfl; rfl; infer_instance; omega) ) | (apply g_idx; first | (apply pv_idx; rfl; rfl; omega) | (apply (pv_idx_e 0); rfl; rfl; rfl; omega) | (apply pv_idx_n; rfl; rfl; omega) ) )) | (apply Hd.run; rfl; rfl) | (apply Hd.skip; rfl; rfl; rfl; rfl) | (apply Hd.skipu; rfl; rfl; rfl) | (apply ah_gt; rfl; rfl; (· first | assumption | omega)) )))
        (refine Hd.call rfl inferInstance (Fn.mono (uDist32 t t' _ rfl hq2) (fun _ _ _ h => ⟨h.1, h.2.1⟩)) rfl (by (repeat (first | apply sub_nil )); done) (by first | exact fun _ h => h | (intro r hr; cases hr; done) | (simp; done) | exact fun _ h => List.mem_append_left _ h | (intro r hr; simp [hr]; done)) rfl ?_; (repeat (first | ((first | (apply wo_v; rfl) | (apply hd_v; rfl) ); (· first | (apply pv_ev; rfl) | (apply g_pick; first | (apply pv_pick_t; rfl; rfl) ) | (apply g_bin; first | (apply a_add; rfl; rfl; infer_instance; omega) ) )) | apply wo_nil | apply Hd.nil | apply wc_region | apply wc_skip | (apply wc_true; rfl) | (apply wc_false; rfl) | (apply a_dec_t; rfl; (· first | assumption | omega)) | (apply a_dec_f; rfl; (· first | assumption | omega)) | (apply Hd.run; rfl; rfl) )))
        exact loop_end ⟨j + 1, rfl, by omega, rfl⟩ (by omega) (wk_mk (by (repeat (first | apply wkf_nil | (apply wkf_cons; rfl))); done) (by (repeat (first | apply sub_nil | (apply sub_cons; (· (repeat (first | apply sel_here | apply sel_there)))))); done) (by first | exact fun _ h => h | (intro r hr; cases hr; done) | (simp; done) | exact fun _ h => List.mem_append_left _ h | (intro r hr; simp [hr]; done)))
      · have e0 : j = 0 := by omega
        subst e0
        (repeat (first | ((first | (apply wo_v; rfl) ); (· first | (apply pv_ev; rfl) )) | apply wo_nil | apply wc_seq | apply wc_region | apply wc_skip | (apply wc_true; rfl) | (apply wc_false; rfl) | (apply a_dec_t; rfl; (· first | assumption | omega)) ))
        refine wc_block ?_
        (repeat (first | ((first | (apply wo_v; rfl) ); (· first | (apply pv_ev; rfl) | (apply pv_fld; rfl) | (apply g_load; first | (apply pv_ld; rfl; (· (repeat (first | apply sel_here ))); rfl) | (apply pv_lda; rfl; (· (repeat (first | apply sel_there))); (· (repeat (first | fail )))) | (apply pv_ld_owna; rfl; (· (repeat (first | apply sel_here ))); (· assumption)) ) | (apply g_pick; first | (apply pv_pick_t; rfl; rfl) | (apply pv_pick_f; rfl; rfl)) | (apply g_bin; first | (apply a_add; rfl; rfl; infer_instance; omega) ) | (apply g_conv; first | (apply a_conv; rfl; infer_instance; infer_instance; infer_instance; omega) ) | (apply g_idx; first | (apply pv_idx; rfl; rfl; omega) ) )) | apply wo_nil | apply wc_seq | apply wc_region | apply wc_skip | (apply wc_true; rfl) | (apply wc_false; rfl) | (apply wo_run; rfl; rfl) | (apply wo_skip; rfl; rfl; rfl; rfl) | (apply wo_skip_u; rfl; rfl; rfl) | (apply a_gt; rfl; rfl; (· first | assumption | omega)) | (apply a_gf; rfl; rfl; (· first | assumption | omega)) | (apply wo_alloc; rfl; intro bx) | (apply wo_sta; rfl; rfl; rfl; rfl; (· (repeat (first | apply sel_here ))); (· (repeat (first | apply LayAt.nil | apply LayAt.here ))); rfl) ))
        (refine wc_quiet mixed (by kernel_rfl) ?_; (repeat (first | ((first | (apply wo_v; rfl) | (apply hd_v; rfl) ); (· first | (apply pv_ev; rfl) | (apply g_pick; first | (apply pv_pick_t; rfl; rfl) | (apply pv_pick_f; rfl; rfl)) | (apply g_bin; first | (apply a_add; rfl; rfl; infer_instance; omega) ) )) | apply wo_nil | apply Hd.nil | apply wc_region | apply wc_skip | (apply wc_true; rfl) | (apply wc_false; rfl) | (apply Hd.run; rfl; rfl) | (apply Hd.skip; rfl; rfl; rfl; rfl) )))
        exact loop_end ⟨1, rfl, by omega, rfl⟩ (by omega) (wk_mk (by (repeat (first | apply wkf_nil | (apply wkf_cons; rfl))); done) (by (repeat (first | apply sub_nil | (apply sub_cons; (· (repeat (first | apply sel_here | apply sel_there)))))); done) (by first | exact fun _ h => h | (intro r hr; cases hr; done) | (simp; done) | exact fun _ h => List.mem_append_left _ h | (intro r hr; simp [hr]; done)))
    · have e : j = P.length := by omega
      subst e
      (repeat (first | ((first | (apply wo_v; rfl) ); (· first | (apply pv_ev; rfl) )) | apply wo_nil | apply wc_seq | apply wc_region | (apply wc_exit; rfl) | (apply wc_true; rfl) | (apply wc_false; rfl) | (apply a_dec_t; rfl; (· first | assumption | omega)) | (apply a_dec_f; rfl; (· first | assumption | omega)) ))
      exact cut_end rfl (wk_mk (by (repeat (first | apply wkf_nil )); done) (by (repeat (first | apply sub_nil )); done) (by first | exact fun _ h => h | (intro r hr; cases hr; done) | (simp; done) | exact fun _ h => List.mem_append_left _ h | (intro r hr; simp [hr]; done)))
  rintro st rfl
  (repeat (first | ((first | (apply wo_v; rfl) ); (· first | (apply pv_ev; rfl) )) | apply wo_nil | apply wc_seq | apply wc_region | apply wc_ret ))
  exact ret1 rfl rfl rfl ((by (repeat (first | apply sub_nil )); done) : List.Perm _ ([] ++ _)) (by first | exact fun _ h => h | (intro r hr; cases hr; done) | (simp; done) | exact fun _ h => List.mem_append_left _ h | (intro r hr; simp [hr]; done))
theorem rewriteStream_walk (a : Int) (ha : 0 ≤ a ∧ a ≤ 65535) {w : World} (A : Option Addr) (n c : Nat) (rows : List (List Value)) (R : List Ro) (hR : ∀ r ∈ R, r.sat w) (h : Deep R a15Fd A n c rows) :
    Calls Try.prog 9 #[.int .u16 a, .slice A n c] w fun e w' => e = .returned (.bool true) ∧ Below w.heap.size w w' :=
  walk_of (rewriteStream_fn a ha A n c rows R h) hR
end Go.Proofs.Ytnjicnadlhfocaa
