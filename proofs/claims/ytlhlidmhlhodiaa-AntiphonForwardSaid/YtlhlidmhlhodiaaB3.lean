/-
  Texts of this proof, laid together (part 3 of 7).
-/
import Derived.Test.YtlhlidmhlhodiaaB2
import Derived.MapKept
import Derived.Carry
/-
  Package ring (again, beside package rewrite).
-/
namespace Go.Proofs.Ytlhlidmhlhodiaa
set_option linter.unusedSimpArgs false
set_option linter.unusedVariables false
open Go.RowKit
attribute [local irreducible] Pv WO WC Fn
set_option maxRecDepth 100000


abbrev Pk := Int × ByteArray × Int × Int
def gprow (p : Pk) : List Value := [.bool true, .int .u16 p.1, .string p.2.1, .int .i64 p.2.2.1, .int .i64 p.2.2.2]
def srow : Option Pk → List Value
  | some p => gprow p
  | none => [.bool false, .int .u16 0, .string ByteArray.empty, .int .i64 0, .int .i64 0]
abbrev rgO (g b k : Nat) (put mt mg sent : Int) : It := .ob g (.cells #[.slice (some ⟨b, 0, none⟩) k k, .int .i64 put, .int .i64 mt, .int .i64 mg, .int .i64 sent] 223 (0, 0))
abbrev slO (b k : Nat) (xs : List (List Value)) : It := .own 231 5 (some ⟨b, 0, none⟩) k k xs
abbrev rgH (g b k : Nat) (S : List (Option Pk)) (put mt mg sent : Int) : List It := [rgO g b k put mt mg sent, slO b k (S.map srow)]
theorem map_srow_none (k : Nat) : List.replicate k [.bool false, .int .u16 0, .string ByteArray.empty, .int .i64 0, .int .i64 0] = (List.replicate k none).map srow := by simp [srow]

theorem ringNew_ok (k : Nat) (mt mg : Int) (h : 1 ≤ k ∧ k ≤ 4096) (h2 : 0 ≤ mt) (h3 : 0 ≤ mg) : Fn Try.prog 44 #[.int .i64 k, .int .i64 mt, .int .i64 mg] [] []
    (fun v L' R' => ∃ g b, v = .tuple #[.pointer (some ⟨g, 0, none⟩), .int .i64 0] ∧ L' = rgH g b k (List.replicate k none) 0 mt mg 0 ∧ R' = []) := by
  refine fn_intro Try.func44 rfl Try.ntmps44 rfl (fun E => ?_)
  (repeat (first | ((first | (apply wo_v; rfl) ); (· first | (apply pv_ev; rfl) | (apply g_pick; first | (apply pv_pick_t; rfl; rfl) | (apply pv_pick_f; rfl; rfl)) )) | apply wo_nil | apply wc_seq | apply wc_region | apply wc_skip | (apply wc_true; rfl) | (apply wc_false; rfl) | (apply a_dec_t; rfl; (· first | assumption | omega)) | (apply a_dec_f; rfl; (· first | assumption | omega)) | (apply wo_run; rfl; rfl) | (apply wo_skip; rfl; rfl; rfl; rfl) | (apply wo_skip_u; rfl; rfl; rfl) | (apply a_gt; rfl; rfl; (· first | assumption | omega)) | (apply a_gf; rfl; rfl; (· first | assumption | omega)) ))
  refine wo_make rfl rfl rfl rfl (Nat.le_refl _) (by omega) (by omega) rfl rfl rfl (fun bw => ?_)
  rw [map_srow_none]
  (repeat (first | ((first | (apply wo_v; rfl) ); (· first | (apply pv_ev; rfl) | (apply g_build; apply pv_build; (· (repeat (first | apply Bld.nil | (apply Bld.one; rfl; rfl; (· (repeat (first | apply SetAt.here | apply SetAt.there)))) )))) )) | apply wo_nil | apply wc_ret | (apply wo_box1; rfl; rfl; rfl; intro bx) | (apply wo_boxa; rfl; rfl; intro bx) ))
  exact ret2 rfl rfl rfl ⟨_, _, rfl, rfl, rfl⟩ (by (repeat (first | apply sub_nil )); done) (by first | exact fun _ h => h | (intro r hr; cases hr; done) | (simp; done) | exact fun _ h => List.mem_append_left _ h | (intro r hr; simp [hr]; done))
theorem ringLen (g b k : Nat) (S : List (Option Pk)) (put mt mg sent : Int) : Fn Try.prog 162 #[.pointer (some ⟨g, 0, none⟩)] (rgH g b k S put mt mg sent) []
    (fun v L' R' => v = .int .i64 (min put k) ∧ L' = rgH g b k S put mt mg sent ∧ R' = []) := by
  refine fn_intro Try.func162 rfl Try.ntmps162 rfl (fun E => ?_)
  (repeat (first | ((first | (apply wo_v; rfl) ); (· first | (apply pv_ev; rfl) )) | apply wo_nil | apply wc_seq | apply wc_region ))
  (refine wc_quiet mixed (by kernel_rfl) ?_; (repeat (first | ((first | (apply hd_v; rfl) ); (· first | (apply pv_ev; rfl) | (apply pv_fld; rfl) | (apply g_load; first | (apply pv_ld; rfl; (· (repeat (first | apply sel_here ))); rfl) ) | (apply g_bi; first | (apply pv_len_sl; rfl) | (apply pv_min; rfl; rfl) ) )) | apply Hd.nil | apply wc_ret )))
  exact ret1 rfl rfl ⟨rfl, rfl, rfl⟩ (by (repeat (first | apply sub_nil )); done) (by first | exact fun _ h => h | (intro r hr; cases hr; done) | (simp; done) | exact fun _ h => List.mem_append_left _ h | (intro r hr; simp [hr]; done))
set_option maxHeartbeats 1000000 in
theorem ringPut (g b k : Nat) (S : List (Option Pk)) (put : Nat) (mt mg sent num : Int) (d : ByteArray) (hk : 1 ≤ k) (hS : S.length = k) (hp : put ≤ 1000000) : Fn Try.prog 48 #[.pointer (some ⟨g, 0, none⟩), .int .u16 num, .string d] (rgH g b k S put mt mg sent) []
    (fun v L' R' => v = .tuple #[] ∧ L' = rgH g b k (S.set (put % k) (some (num, d, 0, 0))) ((put + 1 : Nat) : Int) mt mg sent ∧ R' = []) := by
  have hq : ((put : Int) % (k : Int)) = ((put % k : Nat) : Int) := by simp
  have hlt : put % k < k := Nat.mod_lt _ (by omega)
  have h1 : 0 ≤ (put : Int) % (k : Int) ∧ (put : Int) % (k : Int) < (k : Int) := by rw [hq]; omega
  have hn : ((put : Int) % (k : Int)).toNat = put % k := by rw [hq]; exact Int.toNat_natCast _
  obtain ⟨row, hr⟩ : ∃ row, (S.map srow)[((put : Int) % (k : Int)).toNat]? = some row := by
    rw [hn]; exact ⟨_, List.getElem?_eq_getElem (by simp; omega)⟩
  have e1 : (S.map srow).set ((put : Int) % (k : Int)).toNat [.bool true, .int .u16 num, .string d, .int .i64 0, .int .i64 0] = (S.set (put % k) (some (num, d, 0, 0))).map srow := by
    rw [hn, List.map_set]; rfl
  have e2 : (put : Int) + 1 = ((put + 1 : Nat) : Int) := by simp
  clear hq hn
  refine fn_intro Try.func48 rfl Try.ntmps48 rfl (fun E => ?_)
  (repeat (first | apply wc_seq ))
  (refine wc_tail 18 mixed (by kernel_rfl) ?_; (repeat (first | ((first | (apply wo_v; rfl) | (apply hd_v; rfl) ); (· first | (apply pv_ev; rfl) | (apply pv_fld; rfl) | (apply g_load; first | (apply pv_ld; rfl; (· (repeat (first | apply sel_here | apply sel_there))); rfl) ) | (apply g_bin; first | (apply a_add; rfl; rfl; infer_instance; omega) | (apply pv_rem; rfl; rfl; omega) ) | (apply g_bi; first | (apply pv_len_sl; rfl) ) | (apply g_idx; first | (apply pv_idx; rfl; rfl; omega) | (apply (pv_idx_e 0); rfl; rfl; rfl; omega) | (apply pv_idx_n; rfl; rfl; omega) ) | (apply g_build; apply pv_build; (· (repeat (first | apply Bld.nil | (apply Bld.one; rfl; rfl; (· (repeat (first | apply SetAt.here | apply SetAt.there)))) )))) )) | apply wo_nil | apply Hd.nil | apply wc_region | (apply wo_st; rfl; rfl; rfl; (· (repeat (first | apply sel_here | apply sel_there))); (· (repeat (first | apply SetAt.here | apply SetAt.there))); rfl) | (apply wo_sta; rfl; rfl; rfl; rfl; (· (repeat (first | apply sel_there))); (· (repeat (first | fail ))); rfl) | (apply wo_st_owna; rfl; rfl; rfl; rfl; (· (repeat (first | apply sel_here | apply sel_there))); (· assumption); rfl) )))
  exact ret0 rfl ⟨rfl, rfl, rfl⟩ (by rw [e1, e2]; exact (by (repeat (first | apply sub_nil )); done)) (by first | exact fun _ h => h | (intro r hr; cases hr; done) | (simp; done) | exact fun _ h => List.mem_append_left _ h | (intro r hr; simp [hr]; done))

/-- the packet put i puts ago lies in slot (put - i) mod k -/
structure Lay (S : List (Option Pk)) (put k : Nat) (Q : List Pk) : Prop where
  len : S.length = k
  qlen : Q.length = min put k
  at_ : ∀ i p, 1 ≤ i → i ≤ Q.length → Q[Q.length - i]? = some p → S[(put - i) % k]? = some (some p)
set_option maxHeartbeats 4000000 in
theorem ringFind (g b k : Nat) (S : List (Option Pk)) (put : Nat) (mt mg sent num : Int) (Q : List Pk) (hk : 1 ≤ k) (hL : Lay S put k Q) (hp : put ≤ 1000000) (r : Option Addr)
    (hs : ∀ i p, 1 ≤ i → i ≤ Q.length → Q[Q.length - i]? = some p → p.1 = num → (∀ j p', 1 ≤ j → j < i → Q[Q.length - j]? = some p' → p'.1 ≠ num) → r = some ⟨b, elt 0 ((put - i) % k) 5, none⟩) (hnone : (∀ p ∈ Q, p.1 ≠ num) → r = none) :
    Fn Try.prog 143 #[.pointer (some ⟨g, 0, none⟩), .int .u16 num] (rgH g b k S put mt mg sent) []
    (fun v L' R' => v = .pointer r ∧ L' = rgH g b k S put mt mg sent ∧ R' = []) := by
  obtain ⟨l1, l2, l3⟩ := hL
  refine fn_intro Try.func143 rfl Try.ntmps143 rfl (fun E => ?_)
  (repeat (first | ((first | (apply wo_v; rfl) ); (· first | (apply pv_ev; rfl) )) | apply wo_nil | apply wc_seq | apply wc_region | apply wc_block ))
  refine wc_loop' (fun m st => ∃ (i : Nat), m = 1000001 - i ∧ st = ⟨[(0, .pointer (some ⟨g, 0, none⟩)), (1, .int .u16 num), (5, .int .i64 i)], rgH g b k S put mt mg sent, []⟩ ∧ 1 ≤ i ∧ i ≤ Q.length + 1 ∧ ∀ j p', 1 ≤ j → j < i → Q[Q.length - j]? = some p' → p'.1 ≠ num)
    ⟨1, rfl, rfl, by omega, by omega, fun j p' h1 h2 => by omega⟩ (wk_mk (by (repeat (first | apply wkf_nil | (apply wkf_cons; rfl))); done) (by (repeat (first | apply sub_nil )); done) (by first | exact fun _ h => h | (intro r hr; cases hr; done) | (simp; done) | exact fun _ h => List.mem_append_left _ h | (intro r hr; simp [hr]; done))) ?_
  rintro m st ⟨i, rfl, rfl, hi1, hi2, hnot⟩
  by_cases hlt : i ≤ Q.length
  · obtain ⟨p, hQ⟩ : ∃ p, Q[Q.length - i]? = some p := ⟨_, List.getElem?_eq_getElem (by omega)⟩
    have hS := l3 i p hi1 hlt hQ
    have hc : ((put : Int) - (i : Int)) = ((put - i : Nat) : Int) := by omega
    have hq : (((put : Int) - (i : Int)) % (k : Int)) = (((put - i) % k : Nat) : Int) := by rw [hc]; simp
    have hlt2 : (put - i) % k < k := Nat.mod_lt _ (by omega)
    have h1 : 0 ≤ ((put : Int) - (i : Int)) % (k : Int) ∧ ((put : Int) - (i : Int)) % (k : Int) < (k : Int) := by rw [hq]; omega
    have hn : (((put : Int) - (i : Int)) % (k : Int)).toNat = (put - i) % k := by rw [hq]; exact Int.toNat_natCast _
    have hr : (S.map srow)[(put - i) % k]? = some [.bool true, .int .u16 p.1, .string p.2.1, .int .i64 p.2.2.1, .int .i64 p.2.2.2] := by rw [List.getElem?_map, hS]; rfl
    clear hq hc
    (repeat (first | ((first | (apply wo_v; rfl) ); (· first | (apply pv_ev; rfl) )) | apply wc_seq | apply wc_region ))
    (refine wo_call (ringLen g b k S put mt mg sent) rfl (by (repeat (first | apply sub_nil )); done) (by first | exact fun _ h => h | (intro r hr; cases hr; done) | (simp; done) | exact fun _ h => List.mem_append_left _ h | (intro r hr; simp [hr]; done)) rfl ?_; rintro v L' R' ⟨rfl, rfl, rfl⟩ H' hH RR hR; simp only [List.cons_append, List.nil_append] at hH hR; subst hH; have hR := hR.symm; subst hR)
    (repeat (first | ((first | (apply wo_v; rfl) ); (· first | (apply pv_ev; rfl) )) | apply wo_nil | apply wc_seq | apply wc_block | apply wc_skip | (apply wc_true; rfl) | (apply wc_false; rfl) | (apply a_dec_t; rfl; (· first | assumption | omega)) ))
    (refine wc_quiet mixed (by kernel_rfl) ?_; (repeat (first | ((first | (apply wo_v; rfl) | (apply hd_v; rfl) ); (· first | (apply pv_ev; rfl) | (apply pv_fld; rfl) | (apply g_load; first | (apply pv_ld; rfl; (· (repeat (first | apply sel_here | apply sel_there))); rfl) | (apply pv_ld_ownf; rfl; (· (repeat (first | apply sel_here | apply sel_there))); (· assumption); rfl) | (apply pv_ld_own1; rfl; (· (repeat (first | fail ))); (· assumption)) | (apply pv_ld_rof; rfl; (· (first | assumption )); (· assumption); rfl) | (apply pv_ld_ro1; rfl; (· (first | assumption )); (· assumption)) ) | (apply g_bin; first | (apply a_sub; rfl; rfl; infer_instance; omega) | (apply pv_rem; rfl; rfl; omega) ) | (apply g_bi; first | (apply pv_len_sl; rfl) ) | (apply g_idx; first | (apply pv_idx; rfl; rfl; omega) | (apply (pv_idx_e 0); rfl; rfl; rfl; omega) | (apply pv_idx_n; rfl; rfl; omega) ) )) | apply Hd.nil | apply wc_seq | apply wc_region )))
    rw [hn]
    clear h1 hn
    by_cases hm : p.1 = num
    · have hres := hs i p hi1 hlt hQ hm hnot
      (repeat (first | ((first | (apply wo_v; rfl) ); (· first | (apply pv_ev; rfl) | (apply pv_fld; rfl) | (apply g_load; first | (apply pv_ld; rfl; (· (repeat (first | apply sel_there))); rfl) | (apply pv_ld_ownf; rfl; (· (repeat (first | apply sel_here | apply sel_there))); (· assumption); rfl) ) | (apply g_pick; first | (apply pv_pick_t; rfl; rfl) ) )) | apply wo_nil | apply wc_seq | apply wc_region | apply wc_ret | (apply wc_true; rfl) | (apply wc_false; rfl) | (apply a_dec_t; rfl; (· first | assumption | omega)) | (apply wo_run; rfl; rfl) ))
      exact ret1 rfl rfl ⟨by rw [hres], rfl, rfl⟩ (by (repeat (first | apply sub_nil )); done) (by first | exact fun _ h => h | (intro r hr; cases hr; done) | (simp; done) | exact fun _ h => List.mem_append_left _ h | (intro r hr; simp [hr]; done))
    · (repeat (first | ((first | (apply wo_v; rfl) ); (· first | (apply pv_ev; rfl) | (apply pv_fld; rfl) | (apply g_load; first | (apply pv_ld; rfl; (· (repeat (first | apply sel_there))); rfl) | (apply pv_ld_ownf; rfl; (· (repeat (first | apply sel_here | apply sel_there))); (· assumption); rfl) ) | (apply g_pick; first | (apply pv_pick_t; rfl; rfl) ) | (apply g_bin; first | (apply a_add; rfl; rfl; infer_instance; omega) ) )) | apply wo_nil | apply wc_region | apply wc_skip | (apply wc_true; rfl) | (apply wc_false; rfl) | (apply a_dec_t; rfl; (· first | assumption | omega)) | (apply a_dec_f; rfl; (· first | assumption | omega)) | (apply wo_run; rfl; rfl) ))
      refine loop_end ⟨i + 1, rfl, rfl, by omega, by omega, fun j p' h1 h2 h3 => ?_⟩ (by omega) (wk_mk (by (repeat (first | apply wkf_nil | (apply wkf_cons; rfl))); done) (by (repeat (first | apply sub_nil )); done) (by first | exact fun _ h => h | (intro r hr; cases hr; done) | (simp; done) | exact fun _ h => List.mem_append_left _ h | (intro r hr; simp [hr]; done)))
      by_cases hji : j = i
      · subst hji; rw [hQ] at h3; injection h3 with h3; subst h3; exact hm
      · exact hnot j p' h1 (by omega) h3
  · have hres := hnone fun p hpm => by
      obtain ⟨j, hj, hpj⟩ := List.getElem_of_mem hpm
      exact hnot (Q.length - j) p (by omega) (by omega) (by rw [show Q.length - (Q.length - j) = j by omega, List.getElem?_eq_getElem hj, hpj])
    (repeat (first | ((first | (apply wo_v; rfl) ); (· first | (apply pv_ev; rfl) )) | apply wc_seq | apply wc_region ))
    (refine wo_call (ringLen g b k S put mt mg sent) rfl (by (repeat (first | apply sub_nil )); done) (by first | exact fun _ h => h | (intro r hr; cases hr; done) | (simp; done) | exact fun _ h => List.mem_append_left _ h | (intro r hr; simp [hr]; done)) rfl ?_; rintro v L' R' ⟨rfl, rfl, rfl⟩ H' hH RR hR; simp only [List.cons_append, List.nil_append] at hH hR; subst hH; have hR := hR.symm; subst hR)
    (repeat (first | ((first | (apply wo_v; rfl) ); (· first | (apply pv_ev; rfl) )) | apply wo_nil | apply wc_seq | apply wc_region | (apply wc_exit; rfl) | apply wc_ret | (apply wc_true; rfl) | (apply wc_false; rfl) | (apply a_dec_t; rfl; (· first | assumption | omega)) | (apply a_dec_f; rfl; (· first | assumption | omega)) ))
    exact ret1 rfl rfl ⟨by rw [hres], rfl, rfl⟩ (by (repeat (first | apply sub_nil )); done) (by first | exact fun _ h => h | (intro r hr; cases hr; done) | (simp; done) | exact fun _ h => List.mem_append_left _ h | (intro r hr; simp [hr]; done))


/-- packet j is the last one of the number num -/
def Hit (Q : List Pk) (num : Int) (j : Nat) (p : Pk) : Prop := Q[j]? = some p ∧ p.1 = num ∧ ∀ j' p', j < j' → Q[j']? = some p' → p'.1 ≠ num
theorem Hit.lt {Q : List Pk} {num : Int} {j : Nat} {p : Pk} (h : Hit Q num j p) : j < Q.length := (List.getElem?_eq_some_iff.1 h.1).1
def sloc (put k len j : Nat) : Nat := (put - (len - j)) % k
theorem ringFind_no (g b k : Nat) (S : List (Option Pk)) (put : Nat) (mt mg sent num : Int) (Q : List Pk) (hk : 1 ≤ k) (hL : Lay S put k Q) (hp : put ≤ 1000000) (h : ∀ p ∈ Q, p.1 ≠ num) :
    Fn Try.prog 143 #[.pointer (some ⟨g, 0, none⟩), .int .u16 num] (rgH g b k S put mt mg sent) [] (fun v L' R' => v = .pointer none ∧ L' = rgH g b k S put mt mg sent ∧ R' = []) :=
  ringFind g b k S put mt mg sent num Q hk hL hp none (fun i p h1 h2 h3 h4 _ => absurd h4 (h p (List.mem_of_getElem? h3))) (fun _ => rfl)
theorem ringFind_hit (g b k : Nat) (S : List (Option Pk)) (put : Nat) (mt mg sent num : Int) (Q : List Pk) (hk : 1 ≤ k) (hL : Lay S put k Q) (hp : put ≤ 1000000) (j : Nat) (p : Pk) (h : Hit Q num j p) :
    Fn Try.prog 143 #[.pointer (some ⟨g, 0, none⟩), .int .u16 num] (rgH g b k S put mt mg sent) [] (fun v L' R' => v = .pointer (some ⟨b, elt 0 (sloc put k Q.length j) 5, none⟩) ∧ L' = rgH g b k S put mt mg sent ∧ R' = []) := by
  refine ringFind g b k S put mt mg sent num Q hk hL hp _ (fun i p' h1 h2 h3 h4 h5 => ?_) (fun h' => absurd h.2.1 (h' p (List.mem_of_getElem? h.1)))
  have hj := h.lt
  have : j = Q.length - i := by
    rcases Nat.lt_trichotomy j (Q.length - i) with h6 | h6 | h6
    · exact absurd h4 (h.2.2 _ p' h6 h3)
    · exact h6
    · have := h5 (Q.length - j) p (by omega) (by omega) (by rw [show Q.length - (Q.length - j) = j by omega]; exact h.1)
      exact absurd h.2.1 this
  unfold sloc
  rw [this, show Q.length - (Q.length - i) = i by omega]
theorem Lay.row {S : List (Option Pk)} {put k : Nat} {Q : List Pk} (hL : Lay S put k Q) {j : Nat} {p : Pk} (h : Q[j]? = some p) : S[sloc put k Q.length j]? = some (some p) := by
  have hj := (List.getElem?_eq_some_iff.1 h).1
  exact hL.at_ (Q.length - j) p (by omega) (by omega) (by rw [show Q.length - (Q.length - j) = j by omega]; exact h)

theorem ringGet_no (g b k : Nat) (S : List (Option Pk)) (put : Nat) (mt mg sent num : Int) (Q : List Pk) (hk : 1 ≤ k) (hL : Lay S put k Q) (hp : put ≤ 1000000) (h : ∀ p ∈ Q, p.1 ≠ num) :
    Fn Try.prog 104 #[.pointer (some ⟨g, 0, none⟩), .int .u16 num] (rgH g b k S put mt mg sent) [] (fun v L' R' => v = .tuple #[.string ⟨#[]⟩, .bool false] ∧ L' = rgH g b k S put mt mg sent ∧ R' = []) := by
  refine fn_intro Try.func104 rfl Try.ntmps104 rfl (fun E => ?_)
  (repeat (first | ((first | (apply wo_v; rfl) ); (· first | (apply pv_ev; rfl) )) | apply wo_nil | apply wc_seq | apply wc_region ))
  (refine wo_call (ringFind_no g b k S put mt mg sent num Q hk hL hp h) rfl (by (repeat (first | apply sub_nil )); done) (by first | exact fun _ h => h | (intro r hr; cases hr; done) | (simp; done) | exact fun _ h => List.mem_append_left _ h | (intro r hr; simp [hr]; done)) rfl ?_; rintro v L' R' ⟨rfl, rfl, rfl⟩ H' hH RR hR; simp only [List.cons_append, List.nil_append] at hH hR; subst hH; have hR := hR.symm; subst hR)
  (repeat (first | ((first | (apply wo_v; rfl) ); (· first | (apply pv_ev; rfl) | (apply g_bin; first | (apply pv_eql_p; rfl; rfl) ) )) | apply wo_nil | apply wc_seq | apply wc_region | apply wc_ret | (apply wc_true; rfl) ))
  exact ret2 rfl rfl rfl ⟨rfl, rfl, rfl⟩ (by (repeat (first | apply sub_nil )); done) (by first | exact fun _ h => h | (intro r hr; cases hr; done) | (simp; done) | exact fun _ h => List.mem_append_left _ h | (intro r hr; simp [hr]; done))
theorem ringGet_hit (g b k : Nat) (S : List (Option Pk)) (put : Nat) (mt mg sent num : Int) (Q : List Pk) (hk : 1 ≤ k) (hL : Lay S put k Q) (hp : put ≤ 1000000) (j : Nat) (p : Pk) (h : Hit Q num j p) :
    Fn Try.prog 104 #[.pointer (some ⟨g, 0, none⟩), .int .u16 num] (rgH g b k S put mt mg sent) [] (fun v L' R' => v = .tuple #[.string p.2.1, .bool true] ∧ L' = rgH g b k S put mt mg sent ∧ R' = []) := by
  have hr : (S.map srow)[sloc put k Q.length j]? = some [.bool true, .int .u16 p.1, .string p.2.1, .int .i64 p.2.2.1, .int .i64 p.2.2.2] := by rw [List.getElem?_map, hL.row h.1]; rfl
  refine fn_intro Try.func104 rfl Try.ntmps104 rfl (fun E => ?_)
  (repeat (first | ((first | (apply wo_v; rfl) ); (· first | (apply pv_ev; rfl) )) | apply wo_nil | apply wc_seq | apply wc_region ))
  (refine wo_call (ringFind_hit g b k S put mt mg sent num Q hk hL hp j p h) rfl (by (repeat (first | apply sub_nil )); done) (by first | exact fun _ h => h | (intro r hr; cases hr; done) | (simp; done) | exact fun _ h => List.mem_append_left _ h | (intro r hr; simp [hr]; done)) rfl ?_; rintro v L' R' ⟨rfl, rfl, rfl⟩ H' hH RR hR; simp only [List.cons_append, List.nil_append] at hH hR; subst hH; have hR := hR.symm; subst hR)
  (repeat (first | ((first | (apply wo_v; rfl) ); (· first | (apply pv_ev; rfl) | (apply pv_fld; rfl) | (apply g_load; first | (apply pv_ld; rfl; (· (repeat (first | apply sel_there))); rfl) | (apply pv_ld_ownf; rfl; (· (repeat (first | apply sel_here | apply sel_there))); (· assumption); rfl) ) | (apply g_bin; first | (apply pv_eql_p; rfl; rfl) ) )) | apply wo_nil | apply wc_seq | apply wc_region | apply wc_skip | apply wc_ret | (apply wc_true; rfl) | (apply wc_false; rfl) ))
  exact ret2 rfl rfl rfl ⟨rfl, rfl, rfl⟩ (by (repeat (first | apply sub_nil )); done) (by first | exact fun _ h => h | (intro r hr; cases hr; done) | (simp; done) | exact fun _ h => List.mem_append_left _ h | (intro r hr; simp [hr]; done))

theorem ringAgain_no (g b k : Nat) (S : List (Option Pk)) (put : Nat) (mt mg sent num now : Int) (Q : List Pk) (hk : 1 ≤ k) (hL : Lay S put k Q) (hp : put ≤ 1000000) (h : ∀ p ∈ Q, p.1 ≠ num) :
    Fn Try.prog 105 #[.pointer (some ⟨g, 0, none⟩), .int .u16 num, .int .i64 now] (rgH g b k S put mt mg sent) [] (fun v L' R' => v = .tuple #[.string ⟨#[]⟩, .int .i64 12] ∧ L' = rgH g b k S put mt mg sent ∧ R' = []) := by
  refine fn_intro Try.func105 rfl Try.ntmps105 rfl (fun E => ?_)
  (repeat (first | ((first | (apply wo_v; rfl) ); (· first | (apply pv_ev; rfl) )) | apply wo_nil | apply wc_seq | apply wc_region ))
  (refine wo_call (ringFind_no g b k S put mt mg sent num Q hk hL hp h) rfl (by (repeat (first | apply sub_nil )); done) (by first | exact fun _ h => h | (intro r hr; cases hr; done) | (simp; done) | exact fun _ h => List.mem_append_left _ h | (intro r hr; simp [hr]; done)) rfl ?_; rintro v L' R' ⟨rfl, rfl, rfl⟩ H' hH RR hR; simp only [List.cons_append, List.nil_append] at hH hR; subst hH; have hR := hR.symm; subst hR)
  (repeat (first | ((first | (apply wo_v; rfl) ); (· first | (apply pv_ev; rfl) | (apply g_bin; first | (apply pv_eql_p; rfl; rfl) ) )) | apply wo_nil | apply wc_seq | apply wc_region | apply wc_block | apply wc_ret | (apply wc_true; rfl) ))
  exact ret2 rfl rfl rfl ⟨rfl, rfl, rfl⟩ (by (repeat (first | apply sub_nil )); done) (by first | exact fun _ h => h | (intro r hr; cases hr; done) | (simp; done) | exact fun _ h => List.mem_append_left _ h | (intro r hr; simp [hr]; done))
theorem ringAgain_tries (g b k : Nat) (S : List (Option Pk)) (put : Nat) (mt mg sent num now : Int) (Q : List Pk) (hk : 1 ≤ k) (hL : Lay S put k Q) (hp : put ≤ 1000000) (j : Nat) (p : Pk) (h : Hit Q num j p) (ht : mt ≤ p.2.2.1) :
    Fn Try.prog 105 #[.pointer (some ⟨g, 0, none⟩), .int .u16 num, .int .i64 now] (rgH g b k S put mt mg sent) [] (fun v L' R' => v = .tuple #[.string ⟨#[]⟩, .int .i64 11] ∧ L' = rgH g b k S put mt mg sent ∧ R' = []) := by
  have hr : (S.map srow)[sloc put k Q.length j]? = some [.bool true, .int .u16 p.1, .string p.2.1, .int .i64 p.2.2.1, .int .i64 p.2.2.2] := by rw [List.getElem?_map, hL.row h.1]; rfl
  refine fn_intro Try.func105 rfl Try.ntmps105 rfl (fun E => ?_)
  (repeat (first | ((first | (apply wo_v; rfl) ); (· first | (apply pv_ev; rfl) )) | apply wo_nil | apply wc_seq | apply wc_region ))
  (refine wo_call (ringFind_hit g b k S put mt mg sent num Q hk hL hp j p h) rfl (by (repeat (first | apply sub_nil )); done) (by first | exact fun _ h => h | (intro r hr; cases hr; done) | (simp; done) | exact fun _ h => List.mem_append_left _ h | (intro r hr; simp [hr]; done)) rfl ?_; rintro v L' R' ⟨rfl, rfl, rfl⟩ H' hH RR hR; simp only [List.cons_append, List.nil_append] at hH hR; subst hH; have hR := hR.symm; subst hR)
  (repeat (first | ((first | (apply wo_v; rfl) ); (· first | (apply pv_ev; rfl) | (apply g_bin; first | (apply pv_eql_p; rfl; rfl) ) )) | apply wo_nil | apply wc_seq | apply wc_region | apply wc_block | (apply wc_true; rfl) | (apply wc_false; rfl) ))
  (refine wc_quiet mixed (by kernel_rfl) ?_; (repeat (first | ((first | (apply wo_v; rfl) | (apply hd_v; rfl) ); (· first | (apply pv_ev; rfl) | (apply pv_fld; rfl) | (apply g_load; first | (apply pv_ld; rfl; (· (repeat (first | apply sel_here | apply sel_there))); rfl) | (apply pv_ld_ownf; rfl; (· (repeat (first | apply sel_here | apply sel_there))); (· assumption); rfl) ) )) | apply wo_nil | apply Hd.nil | apply wc_seq | apply wc_region | apply wc_ret | (apply wc_true; rfl) | (apply wc_false; rfl) | (apply a_dec_t; rfl; (· first | assumption | omega)) )))
  exact ret2 rfl rfl rfl ⟨rfl, rfl, rfl⟩ (by (repeat (first | apply sub_nil )); done) (by first | exact fun _ h => h | (intro r hr; cases hr; done) | (simp; done) | exact fun _ h => List.mem_append_left _ h | (intro r hr; simp [hr]; done))
theorem ringAgain_gap (g b k : Nat) (S : List (Option Pk)) (put : Nat) (mt mg sent num now : Int) (Q : List Pk) (hk : 1 ≤ k) (hL : Lay S put k Q) (hp : put ≤ 1000000) (j : Nat) (p : Pk) (h : Hit Q num j p) (ht : ¬ mt ≤ p.2.2.1) (h1 : 0 < p.2.2.1) (h2 : now - p.2.2.2 < mg)
    (hb : 0 ≤ now ∧ now ≤ 1099511627776 ∧ 0 ≤ p.2.2.2 ∧ p.2.2.2 ≤ 1099511627776) :
    Fn Try.prog 105 #[.pointer (some ⟨g, 0, none⟩), .int .u16 num, .int .i64 now] (rgH g b k S put mt mg sent) [] (fun v L' R' => v = .tuple #[.string ⟨#[]⟩, .int .i64 14] ∧ L' = rgH g b k S put mt mg sent ∧ R' = []) := by
  have hr : (S.map srow)[sloc put k Q.length j]? = some [.bool true, .int .u16 p.1, .string p.2.1, .int .i64 p.2.2.1, .int .i64 p.2.2.2] := by rw [List.getElem?_map, hL.row h.1]; rfl
  refine fn_intro Try.func105 rfl Try.ntmps105 rfl (fun E => ?_)
  (repeat (first | ((first | (apply wo_v; rfl) ); (· first | (apply pv_ev; rfl) )) | apply wo_nil | apply wc_seq | apply wc_region ))
  (refine wo_call (ringFind_hit g b k S put mt mg sent num Q hk hL hp j p h) rfl (by (repeat (first | apply sub_nil )); done) (by first | exact fun _ h => h | (intro r hr; cases hr; done) | (simp; done) | exact fun _ h => List.mem_append_left _ h | (intro r hr; simp [hr]; done)) rfl ?_; rintro v L' R' ⟨rfl, rfl, rfl⟩ H' hH RR hR; simp only [List.cons_append, List.nil_append] at hH hR; subst hH; have hR := hR.symm; subst hR)
  (repeat (first | ((first | (apply wo_v; rfl) ); (· first | (apply pv_ev; rfl) | (apply g_bin; first | (apply pv_eql_p; rfl; rfl) ) )) | apply wo_nil | apply wc_seq | apply wc_region | apply wc_block | (apply wc_true; rfl) | (apply wc_false; rfl) ))
  (refine wc_quiet mixed (by kernel_rfl) ?_; (repeat (first | ((first | (apply hd_v; rfl) ); (· first | (apply pv_ev; rfl) | (apply pv_fld; rfl) | (apply g_load; first | (apply pv_ld; rfl; (· (repeat (first | apply sel_here | apply sel_there))); rfl) | (apply pv_ld_ownf; rfl; (· (repeat (first | apply sel_here | apply sel_there))); (· assumption); rfl) ) )) | apply Hd.nil | apply wc_seq | (apply wc_true; rfl) | (apply wc_false; rfl) | (apply a_dec_t; rfl; (· first | assumption | omega)) | (apply a_dec_f; rfl; (· first | assumption | omega)) )))
  (refine wc_quiet mixed (by kernel_rfl) ?_; (repeat (first | ((first | (apply wo_v; rfl) | (apply hd_v; rfl) ); (· first | (apply pv_ev; rfl) | (apply pv_fld; rfl) | (apply g_load; first | (apply pv_ld; rfl; (· (repeat (first | apply sel_here | apply sel_there))); rfl) | (apply pv_ld_ownf; rfl; (· (repeat (first | apply sel_here | apply sel_there))); (· assumption); rfl) ) | (apply g_pick; first | (apply pv_pick_t; rfl; rfl) ) | (apply g_bin; first | (apply a_sub; rfl; rfl; infer_instance; omega) ) )) | apply wo_nil | apply Hd.nil | apply wc_seq | apply wc_region | apply wc_ret | (apply wc_true; rfl) | (apply wc_false; rfl) | (apply a_dec_t; rfl; (· first | assumption | omega)) | (apply Hd.run; rfl; rfl) | (apply Hd.skip; rfl; rfl; rfl; rfl) | (apply Hd.skipu; rfl; rfl; rfl) | (apply ah_gt; rfl; rfl; (· first | assumption | omega)) )))
  exact ret2 rfl rfl rfl ⟨rfl, rfl, rfl⟩ (by (repeat (first | apply sub_nil )); done) (by first | exact fun _ h => h | (intro r hr; cases hr; done) | (simp; done) | exact fun _ h => List.mem_append_left _ h | (intro r hr; simp [hr]; done))
set_option maxHeartbeats 1000000 in
theorem ringAgain_ok (g b k : Nat) (S : List (Option Pk)) (put : Nat) (mt mg sent num now : Int) (Q : List Pk) (hk : 1 ≤ k) (hL : Lay S put k Q) (hp : put ≤ 1000000) (j : Nat) (p : Pk) (h : Hit Q num j p) (ht : ¬ mt ≤ p.2.2.1) (h1 : ¬ (0 < p.2.2.1 ∧ now - p.2.2.2 < mg))
    (hb : 0 ≤ now ∧ now ≤ 1099511627776 ∧ 0 ≤ p.2.2.2 ∧ p.2.2.2 ≤ 1099511627776) (hb2 : 0 ≤ p.2.2.1 ∧ p.2.2.1 ≤ 1000000) (hb3 : 0 ≤ sent ∧ sent ≤ 1000000) :
    Fn Try.prog 105 #[.pointer (some ⟨g, 0, none⟩), .int .u16 num, .int .i64 now] (rgH g b k S put mt mg sent) []
      (fun v L' R' => v = .tuple #[.string p.2.1, .int .i64 0] ∧ L' = rgH g b k (S.set (sloc put k Q.length j) (some (p.1, p.2.1, p.2.2.1 + 1, now))) put mt mg (sent + 1) ∧ R' = []) := by
  have hrow := hL.row h.1
  have hlt : sloc put k Q.length j < (S.map srow).length := by rw [List.length_map]; exact (List.getElem?_eq_some_iff.1 hrow).1
  have hr : (S.map srow)[sloc put k Q.length j]? = some [.bool true, .int .u16 p.1, .string p.2.1, .int .i64 p.2.2.1, .int .i64 p.2.2.2] := by rw [List.getElem?_map, hrow]; rfl
  have hr2 : ((S.map srow).set (sloc put k Q.length j) [.bool true, .int .u16 p.1, .string p.2.1, .int .i64 (p.2.2.1 + 1), .int .i64 p.2.2.2])[sloc put k Q.length j]? = some [.bool true, .int .u16 p.1, .string p.2.1, .int .i64 (p.2.2.1 + 1), .int .i64 p.2.2.2] := List.getElem?_set_self hlt
  have hr3 : (((S.map srow).set (sloc put k Q.length j) [.bool true, .int .u16 p.1, .string p.2.1, .int .i64 (p.2.2.1 + 1), .int .i64 p.2.2.2]).set (sloc put k Q.length j) [.bool true, .int .u16 p.1, .string p.2.1, .int .i64 (p.2.2.1 + 1), .int .i64 now])[sloc put k Q.length j]? = some [.bool true, .int .u16 p.1, .string p.2.1, .int .i64 (p.2.2.1 + 1), .int .i64 now] :=
    List.getElem?_set_self (by rw [List.length_set]; exact hlt)
  have e1 : ((S.map srow).set (sloc put k Q.length j) [.bool true, .int .u16 p.1, .string p.2.1, .int .i64 (p.2.2.1 + 1), .int .i64 p.2.2.2]).set (sloc put k Q.length j) [.bool true, .int .u16 p.1, .string p.2.1, .int .i64 (p.2.2.1 + 1), .int .i64 now] = (S.set (sloc put k Q.length j) (some (p.1, p.2.1, p.2.2.1 + 1, now))).map srow := by
    rw [List.set_set, List.map_set]; rfl
  have hfind := ringFind_hit g b k S put mt mg sent num Q hk hL hp j p h
  clear hL h hrow
  by_cases h2 : 0 < p.2.2.1
  · have h3 : ¬ now - p.2.2.2 < mg := fun h => h1 ⟨h2, h⟩
    clear h1
    refine fn_intro Try.func105 rfl Try.ntmps105 rfl (fun E => ?_)
    (repeat (first | ((first | (apply wo_v; rfl) ); (· first | (apply pv_ev; rfl) )) | apply wo_nil | apply wc_seq | apply wc_region ))
    (refine wo_call (hfind) rfl (by (repeat (first | apply sub_nil )); done) (by first | exact fun _ h => h | (intro r hr; cases hr; done) | (simp; done) | exact fun _ h => List.mem_append_left _ h | (intro r hr; simp [hr]; done)) rfl ?_; rintro v L' R' ⟨rfl, rfl, rfl⟩ H' hH RR hR; simp only [List.cons_append, List.nil_append] at hH hR; subst hH; have hR := hR.symm; subst hR)
    (repeat (first | ((first | (apply wo_v; rfl) ); (· first | (apply pv_ev; rfl) | (apply g_bin; first | (apply pv_eql_p; rfl; rfl) ) )) | apply wo_nil | apply wc_seq | apply wc_region | apply wc_block | (apply wc_true; rfl) | (apply wc_false; rfl) ))
    (refine wc_quiet mixed (by kernel_rfl) ?_; (repeat (first | ((first | (apply hd_v; rfl) ); (· first | (apply pv_ev; rfl) | (apply pv_fld; rfl) | (apply g_load; first | (apply pv_ld; rfl; (· (repeat (first | apply sel_here | apply sel_there))); rfl) | (apply pv_ld_ownf; rfl; (· (repeat (first | apply sel_here | apply sel_there))); (· assumption); rfl) ) )) | apply Hd.nil | apply wc_seq | (apply wc_true; rfl) | (apply wc_false; rfl) | (apply a_dec_t; rfl; (· first | assumption | omega)) | (apply a_dec_f; rfl; (· first | assumption | omega)) )))
    (refine wc_quiet mixed (by kernel_rfl) ?_; (repeat (first | ((first | (apply wo_v; rfl) | (apply hd_v; rfl) ); (· first | (apply pv_ev; rfl) | (apply pv_fld; rfl) | (apply g_load; first | (apply pv_ld; rfl; (· (repeat (first | apply sel_here | apply sel_there))); rfl) | (apply pv_ld_ownf; rfl; (· (repeat (first | apply sel_here | apply sel_there))); (· assumption); rfl) ) | (apply g_pick; first | (apply pv_pick_t; rfl; rfl) ) | (apply g_bin; first | (apply a_add; rfl; rfl; infer_instance; omega) | (apply a_sub; rfl; rfl; infer_instance; omega) ) )) | apply wo_nil | apply Hd.nil | apply wc_seq | apply wc_region | apply wc_skip | apply wc_ret | (apply wc_true; rfl) | (apply wc_false; rfl) | (apply a_dec_t; rfl; (· first | assumption | omega)) | (apply a_dec_f; rfl; (· first | assumption | omega)) | (apply wo_st; rfl; rfl; rfl; (· (repeat (first | apply sel_here | apply sel_there))); (· (repeat (first | apply SetAt.here | apply SetAt.there))); rfl) | (apply wo_st_ownf; rfl; rfl; rfl; (· (repeat (first | apply sel_here | apply sel_there))); (· assumption); (· (repeat (first | apply SetAt.here | apply SetAt.there))); rfl) | (apply Hd.run; rfl; rfl) | (apply Hd.skip; rfl; rfl; rfl; rfl) | (apply Hd.skipu; rfl; rfl; rfl) | (apply ah_gt; rfl; rfl; (· first | assumption | omega)) )))
    exact ret2 rfl rfl rfl ⟨rfl, rfl, rfl⟩ (by rw [e1]; exact (by (repeat (first | apply sub_nil )); done)) (by first | exact fun _ h => h | (intro r hr; cases hr; done) | (simp; done) | exact fun _ h => List.mem_append_left _ h | (intro r hr; simp [hr]; done))
  · clear h1
    refine fn_intro Try.func105 rfl Try.ntmps105 rfl (fun E => ?_)
    (repeat (first | ((first | (apply wo_v; rfl) ); (· first | (apply pv_ev; rfl) )) | apply wo_nil | apply wc_seq | apply wc_region ))
    (refine wo_call (hfind) rfl (by (repeat (first | apply sub_nil )); done) (by first | exact fun _ h => h | (intro r hr; cases hr; done) | (simp; done) | exact fun _ h => List.mem_append_left _ h | (intro r hr; simp [hr]; done)) rfl ?_; rintro v L' R' ⟨rfl, rfl, rfl⟩ H' hH RR hR; simp only [List.cons_append, List.nil_append] at hH hR; subst hH; have hR := hR.symm; subst hR)
    (repeat (first | ((first | (apply wo_v; rfl) ); (· first | (apply pv_ev; rfl) | (apply g_bin; first | (apply pv_eql_p; rfl; rfl) ) )) | apply wo_nil | apply wc_seq | apply wc_region | apply wc_block | (apply wc_true; rfl) | (apply wc_false; rfl) ))
    (refine wc_quiet mixed (by kernel_rfl) ?_; (repeat (first | ((first | (apply hd_v; rfl) ); (· first | (apply pv_ev; rfl) | (apply pv_fld; rfl) | (apply g_load; first | (apply pv_ld; rfl; (· (repeat (first | apply sel_here | apply sel_there))); rfl) | (apply pv_ld_ownf; rfl; (· (repeat (first | apply sel_here | apply sel_there))); (· assumption); rfl) ) )) | apply Hd.nil | apply wc_seq | (apply wc_true; rfl) | (apply wc_false; rfl) | (apply a_dec_t; rfl; (· first | assumption | omega)) | (apply a_dec_f; rfl; (· first | assumption | omega)) )))
    (refine wc_quiet mixed (by kernel_rfl) ?_; (repeat (first | ((first | (apply wo_v; rfl) | (apply hd_v; rfl) ); (· first | (apply pv_ev; rfl) | (apply pv_fld; rfl) | (apply g_load; first | (apply pv_ld; rfl; (· (repeat (first | apply sel_here | apply sel_there))); rfl) | (apply pv_ld_ownf; rfl; (· (repeat (first | apply sel_here | apply sel_there))); (· assumption); rfl) ) | (apply g_pick; first | (apply pv_pick_t; rfl; rfl) | (apply pv_pick_f; rfl; rfl)) | (apply g_bin; first | (apply a_add; rfl; rfl; infer_instance; omega) ) )) | apply wo_nil | apply Hd.nil | apply wc_seq | apply wc_region | apply wc_skip | apply wc_ret | (apply wc_true; rfl) | (apply wc_false; rfl) | (apply wo_st; rfl; rfl; rfl; (· (repeat (first | apply sel_here | apply sel_there))); (· (repeat (first | apply SetAt.here | apply SetAt.there))); rfl) | (apply wo_st_ownf; rfl; rfl; rfl; (· (repeat (first | apply sel_here | apply sel_there))); (· assumption); (· (repeat (first | apply SetAt.here | apply SetAt.there))); rfl) | (apply Hd.run; rfl; rfl) | (apply Hd.skip; rfl; rfl; rfl; rfl) | (apply Hd.skipu; rfl; rfl; rfl) | (apply ah_gt; rfl; rfl; (· first | assumption | omega)) | (apply ah_gf; rfl; rfl; (· first | assumption | omega)) )))
    exact ret2 rfl rfl rfl ⟨rfl, rfl, rfl⟩ (by rw [e1]; exact (by (repeat (first | apply sub_nil )); done)) (by first | exact fun _ h => h | (intro r hr; cases hr; done) | (simp; done) | exact fun _ h => List.mem_append_left _ h | (intro r hr; simp [hr]; done))
end Go.Proofs.Ytlhlidmhlhodiaa

/-
  Package ring: what it holds.
-/
namespace Go.Proofs.Ytlhlidmhlhodiaa
set_option linter.unusedSimpArgs false
set_option linter.unusedVariables false
open Go.RowKit
attribute [local irreducible] Pv WO WC Fn
set_option maxRecDepth 100000
theorem mod_ne {put k i i' : Nat} (h1 : i < i') (h2 : i' ≤ put) (h3 : i' - i < k) : (put - i) % k ≠ (put - i') % k := by
  intro e
  have h := Nat.sub_mod_eq_zero_of_mod_eq e
  rw [show put - i - (put - i') = i' - i by omega, Nat.mod_eq_of_lt h3] at h
  omega
theorem mod_ne' {put k i i' : Nat} (hne : i ≠ i') (hi : i ≤ put) (hi' : i' ≤ put) (h1 : i - i' < k) (h2 : i' - i < k) : (put - i) % k ≠ (put - i') % k := by
  rcases Nat.lt_or_gt_of_ne hne with h | h
  · exact mod_ne h hi' h2
  · exact (mod_ne h hi h1).symm
def putQ (k : Nat) (Q : List Pk) (p : Pk) : List Pk := if k < Q.length + 1 then (Q ++ [p]).drop 1 else Q ++ [p]
theorem Lay.new (k : Nat) : Lay (List.replicate k none) 0 k [] := ⟨by simp, by simp, fun i p h1 h2 => by simp at h2; omega⟩
theorem Lay.put {S : List (Option Pk)} {put k : Nat} {Q : List Pk} (h : Lay S put k Q) (hk : 1 ≤ k) (p : Pk) : Lay (S.set (put % k) (some p)) (put + 1) k (putQ k Q p) := by
  obtain ⟨l1, l2, l3⟩ := h
  have hlt : put % k < k := Nat.mod_lt _ (by omega)
  have hlen : (putQ k Q p).length = min (put + 1) k := by unfold putQ; split <;> simp <;> omega
  have hget : ∀ i, 1 ≤ i → i ≤ (putQ k Q p).length → (putQ k Q p)[(putQ k Q p).length - i]? = (Q ++ [p])[Q.length + 1 - i]? := by
    intro i h1 h2
    rw [hlen] at h2 ⊢
    unfold putQ
    split
    · rw [List.getElem?_drop]; congr 1; omega
    · congr 1; omega
  refine ⟨by simp [l1], hlen, fun i p' h1 h2 h3 => ?_⟩
  rw [hget i h1 h2] at h3
  by_cases hi : i = 1
  · subst hi
    rw [show Q.length + 1 - 1 = Q.length by omega, List.getElem?_append_right (Nat.le_refl _)] at h3
    simp at h3
    subst h3
    rw [show put + 1 - 1 = put by omega, List.getElem?_set_self (by omega)]
  · rw [hlen] at h2
    rw [List.getElem?_append_left (by omega), show Q.length + 1 - i = Q.length - (i - 1) by omega] at h3
    have := l3 (i - 1) p' (by omega) (by omega) h3
    rw [show put + 1 - i = put - (i - 1) by omega, List.getElem?_set_ne]
    · exact this
    · have := mod_ne (put := put) (k := k) (i := 0) (i' := i - 1) (by omega) (by omega) (by omega)
      simpa using this
theorem Lay.set {S : List (Option Pk)} {put k : Nat} {Q : List Pk} (h : Lay S put k Q) {j : Nat} (hj : j < Q.length) (p : Pk) : Lay (S.set (sloc put k Q.length j) (some p)) put k (Q.set j p) := by
  have hrow := fun q hq => h.row (j := j) (p := q) hq
  obtain ⟨l1, l2, l3⟩ := h
  refine ⟨by simp [l1], by simp [l2], fun i p' h1 h2 h3 => ?_⟩
  simp only [List.length_set] at h2 h3
  by_cases hji : j = Q.length - i
  · have hlt : sloc put k Q.length j < S.length := by
      have := hrow _ (List.getElem?_eq_getElem hj)
      exact (List.getElem?_eq_some_iff.1 this).1
    rw [← hji, List.getElem?_set_self hj] at h3
    injection h3 with h3
    subst h3
    rw [show (put - i) % k = sloc put k Q.length j by unfold sloc; congr 1; omega, List.getElem?_set_self hlt]
  · rw [List.getElem?_set_ne hji] at h3
    rw [List.getElem?_set_ne]
    · exact l3 i p' h1 h2 h3
    · unfold sloc
      exact mod_ne' (by omega) (by omega) (by omega) (by omega) (by omega)
def fnd : List Pk → Int → Option (Nat × Pk)
  | [], _ => none
  | p :: l, n => match fnd l n with
    | some x => some (x.1 + 1, x.2)
    | none => if p.1 = n then some (0, p) else none
theorem fnd_or (n : Int) : ∀ Q : List Pk, (fnd Q n = none ∧ ∀ p ∈ Q, p.1 ≠ n) ∨ ∃ j p, Hit Q n j p ∧ fnd Q n = some (j, p)
  | [] => .inl ⟨rfl, by simp⟩
  | q :: l => by
    rcases fnd_or n l with ⟨h1, h2⟩ | ⟨j, p, ⟨h1, h2, h3⟩, h4⟩
    · by_cases hq : q.1 = n
      · refine .inr ⟨0, q, ⟨rfl, hq, fun j' p' hj hp => ?_⟩, by rw [fnd, h1]; simp [hq]⟩
        obtain ⟨j'', rfl⟩ : ∃ j'', j' = j'' + 1 := ⟨j' - 1, by omega⟩
        exact h2 p' (List.mem_of_getElem? (by simpa using hp))
      · refine .inl ⟨by rw [fnd, h1]; simp [hq], fun p hp => ?_⟩
        rcases List.mem_cons.1 hp with rfl | hp
        · exact hq
        · exact h2 p hp
    · refine .inr ⟨j + 1, p, ⟨by simpa using h1, h2, fun j' p' hj hp => ?_⟩, by rw [fnd, h4]⟩
      obtain ⟨j'', rfl⟩ : ∃ j'', j' = j'' + 1 := ⟨j' - 1, by omega⟩
      exact h3 j'' p' (by omega) (by simpa using hp)
def agM (mt mg now num : Int) (Q : List Pk) : List Pk × ByteArray × Int :=
  match fnd Q num with
  | none => (Q, ⟨#[]⟩, 12)
  | some (j, p) => if mt ≤ p.2.2.1 then (Q, ⟨#[]⟩, 11) else if 0 < p.2.2.1 ∧ now - p.2.2.2 < mg then (Q, ⟨#[]⟩, 14) else (Q.set j (p.1, p.2.1, p.2.2.1 + 1, now), p.2.1, 0)
structure QB (Q : List Pk) (now : Int) : Prop where
  b : ∀ p ∈ Q, 0 ≤ p.2.2.1 ∧ p.2.2.1 ≤ 9 ∧ 0 ≤ p.2.2.2 ∧ p.2.2.2 ≤ now
theorem QB.mono {Q : List Pk} {now now' : Int} (h : QB Q now) (hn : now ≤ now') : QB Q now' := ⟨fun p hp => by have := h.b p hp; omega⟩
theorem QB.put {Q : List Pk} {now : Int} (h : QB Q now) (hn : 0 ≤ now) (k : Nat) (n : Int) (s : ByteArray) : QB (putQ k Q (n, s, 0, 0)) now := ⟨fun p hp => by
  have : p ∈ Q ++ [(n, s, 0, 0)] := by unfold putQ at hp; split at hp; exact List.mem_of_mem_drop hp; exact hp
  rcases List.mem_append.1 this with h1 | h1
  · exact h.b p h1
  · simp at h1; subst h1; simp; omega⟩
theorem QB.ag {Q : List Pk} {now mt : Int} (h : QB Q now) (hn : 0 ≤ now) (hm : mt ≤ 9) (mg num : Int) : QB (agM mt mg now num Q).1 now := by
  unfold agM
  split
  · exact h
  · split
    · exact h
    · split
      · exact h
      · rename_i j p e h1 h2
        refine ⟨fun x hx => ?_⟩
        rcases fnd_or num Q with ⟨h3, _⟩ | ⟨j', p', h3, h4⟩
        · rw [h3] at e; cases e
        · rw [h4] at e; cases e
          have := h.b p (List.mem_of_getElem? h3.1)
          rcases List.mem_or_eq_of_mem_set hx with hx | rfl
          · exact h.b x hx
          · simp only; omega
theorem agM_len (mt mg now num : Int) (Q : List Pk) : (agM mt mg now num Q).1.length = Q.length := by
  unfold agM
  split
  · rfl
  · split
    · rfl
    · split
      · rfl
      · simp
def cnt (e : Int) : Int := if e = 0 then 1 else 0
theorem ringAgainM (g b k : Nat) (S : List (Option Pk)) (put : Nat) (mt mg sent num now : Int) (Q : List Pk) (hk : 1 ≤ k) (hL : Lay S put k Q) (hp : put ≤ 1000000) (hB : QB Q now) (hn : 0 ≤ now ∧ now ≤ 1000000) (hs : 0 ≤ sent ∧ sent ≤ 1000000) :
    Fn Try.prog 105 #[.pointer (some ⟨g, 0, none⟩), .int .u16 num, .int .i64 now] (rgH g b k S put mt mg sent) []
      (fun v L' R' => ∃ S', v = .tuple #[.string (agM mt mg now num Q).2.1, .int .i64 (agM mt mg now num Q).2.2] ∧ L' = rgH g b k S' put mt mg (sent + cnt (agM mt mg now num Q).2.2) ∧ R' = [] ∧ Lay S' put k (agM mt mg now num Q).1) := by
  rcases fnd_or num Q with ⟨h1, h2⟩ | ⟨j, p, h1, h2⟩
  · rw [show agM mt mg now num Q = (Q, ⟨#[]⟩, 12) by unfold agM; rw [h1]]
    refine (ringAgain_no g b k S put mt mg sent num now Q hk hL hp h2).mono ?_
    rintro v L' R' ⟨rfl, rfl, rfl⟩
    exact ⟨S, rfl, by rw [show sent + cnt ((Q, (⟨#[]⟩ : ByteArray), (12 : Int)).2.2) = sent by simp [cnt]], rfl, hL⟩
  · have hb := hB.b p (List.mem_of_getElem? h1.1)
    by_cases ht : mt ≤ p.2.2.1
    · rw [show agM mt mg now num Q = (Q, ⟨#[]⟩, 11) by unfold agM; rw [h2]; exact if_pos ht]
      refine (ringAgain_tries g b k S put mt mg sent num now Q hk hL hp j p h1 ht).mono ?_
      rintro v L' R' ⟨rfl, rfl, rfl⟩
      exact ⟨S, rfl, by rw [show sent + cnt ((Q, (⟨#[]⟩ : ByteArray), (11 : Int)).2.2) = sent by simp [cnt]], rfl, hL⟩
    · by_cases hg : 0 < p.2.2.1 ∧ now - p.2.2.2 < mg
      · rw [show agM mt mg now num Q = (Q, ⟨#[]⟩, 14) by unfold agM; rw [h2]; exact (if_neg ht).trans (if_pos hg)]
        refine (ringAgain_gap g b k S put mt mg sent num now Q hk hL hp j p h1 ht hg.1 hg.2 (by omega)).mono ?_
        rintro v L' R' ⟨rfl, rfl, rfl⟩
        exact ⟨S, rfl, by rw [show sent + cnt ((Q, (⟨#[]⟩ : ByteArray), (14 : Int)).2.2) = sent by simp [cnt]], rfl, hL⟩
      · rw [show agM mt mg now num Q = (Q.set j (p.1, p.2.1, p.2.2.1 + 1, now), p.2.1, 0) by unfold agM; rw [h2]; exact (if_neg ht).trans (if_neg hg)]
        refine (ringAgain_ok g b k S put mt mg sent num now Q hk hL hp j p h1 ht hg (by omega) (by omega) hs).mono ?_
        rintro v L' R' ⟨rfl, rfl, rfl⟩
        exact ⟨_, rfl, by rw [show sent + cnt ((Q, p.2.1, (0 : Int)).2.2) = sent + 1 by simp [cnt]], rfl, hL.set h1.lt _⟩

abbrev gstrs (l : List ByteArray) : List (List Value) := l.map fun s => [.string s]
abbrev gstO (ao : Option Addr) (c : Nat) (l : List ByteArray) : It := .own 9 1 ao l.length c (gstrs l)
end Go.Proofs.Ytlhlidmhlhodiaa

/-
  Sparse frames: slices that are only read, whatever they are where they are empty.
-/
namespace Go.Proofs.Ytlhlidmhlhodiaa
set_option linter.unusedSimpArgs false
set_option linter.unusedVariables false
open Go.RowKit

/-- a slice that is only read, of which nothing is known where it is empty -/
structure SQ (R : List Ro) (sz : Nat) (ao : Option Addr) (n c : Nat) (xs : List (List Value)) : Prop where
  len : xs.length = n
  pos : 0 < n → ∃ b o, ao = some ⟨b, o, none⟩ ∧ ⟨b, o, sz, xs⟩ ∈ R
theorem SR.sq {R : List Ro} {sz : Nat} {ao : Option Addr} {n c : Nat} {xs : List (List Value)} (h : SR R sz ao n c xs) : SQ R sz ao n c xs := ⟨h.len, h.pos⟩
theorem SQ.mono {R R' : List Ro} {sz : Nat} {ao : Option Addr} {n c : Nat} {xs : List (List Value)} (h : SQ R sz ao n c xs) (hR : ∀ r ∈ R, r ∈ R') : SQ R' sz ao n c xs :=
  ⟨h.len, fun h0 => by obtain ⟨b, o, e, m⟩ := h.pos h0; exact ⟨b, o, e, hR _ m⟩⟩
theorem SQ.nil (R : List Ro) (sz : Nat) (ao : Option Addr) (c : Nat) : SQ R sz ao 0 c [] := ⟨rfl, fun h => absurd h (by omega)⟩
/-- a callee that only reads a slice, handed an owned one -/
theorem Fn.own {P : Program} {f : FuncId} {args : Array Value} {T sz n c : Nat} {ao : Option Addr} {xs : List (List Value)} {Q : Value → List It → Prop}
    (h : ∀ R, SQ R sz ao n c xs → Fn P f args [] R (fun v L' R' => Q v L' ∧ R' = [])) : Fn P f args [.own T sz ao n c xs] [] (fun v L' R' => ∃ L0, Q v L0 ∧ L' = L0 ++ [.own T sz ao n c xs] ∧ R' = []) := by
  intro w hw
  have hO : OwnSat w T sz ao n c xs := hw.sat _ (.head _)
  have key : ∀ R : List Ro, (∀ r ∈ R, r.sat w) → SQ R sz ao n c xs → Calls P f args w fun e w' => ∃ v L' R', e = .returned v ∧ (∃ L0, Q v L0 ∧ L' = L0 ++ [.own T sz ao n c xs] ∧ R' = []) ∧ Sat w (feet [It.own T sz ao n c xs]) (blks []) L' R' w' := fun R hR hS => by
    have h0 : Sat w (feet []) (blks R) [] R w := ⟨Frm.refl _ _, (fun x hx => by cases hx), (fun x hx => by cases hx), .nil, hR, (fun r hr x hx => by cases hx), fun r hr => .inr (.inl (mem_blks.2 ⟨r, hr, rfl⟩))⟩
    refine (h R hS w h0).mono fun e w' ⟨v, L', R', he, ⟨hq, hR'⟩, hs⟩ => ?_
    subst hR'
    have hs2 : Sat w (feet []) [] L' [] w' := ⟨hs.frm, hs.sat, hs.own, hs.dis, (fun r hr => by cases hr), (fun r hr => by cases hr), (fun r hr => by cases hr)⟩
    have := hw.step (F := [.own T sz ao n c xs]) (.refl _) (fun b hb => by cases hb) hs2
    exact ⟨v, _, _, he, ⟨L', hq, rfl, rfl⟩, by simpa using this⟩
  cases ao with
  | none =>
    have := hO.nil rfl
    have h1 := hO.le
    have h2 := hO.len
    obtain rfl : n = 0 := by omega
    obtain rfl : xs = [] := List.eq_nil_of_length_eq_zero h2
    exact key [] (fun r hr => by cases hr) (SQ.nil _ _ _ _)
  | some a =>
    obtain ⟨hsp, cur, hcur, hfit, hseg⟩ := hO.at_ a rfl
    obtain ⟨b, o, s⟩ := a
    simp only at hsp hcur hseg
    subst hsp
    exact key [⟨b, o, sz, xs⟩] (fun r hr => by rcases List.mem_singleton.1 hr with rfl; exact ⟨hO.rows, cur, T, (0, 0), hcur, hseg⟩) ⟨hO.len, fun _ => ⟨b, o, rfl, .head _⟩⟩
end Go.Proofs.Ytlhlidmhlhodiaa

/-
  Sparse frames: interface values: making one, asserting one, calling through one.
-/
namespace Go.Proofs.Ytlhlidmhlhodiaa
set_option linter.unusedSimpArgs false
set_option linter.unusedVariables false
open Go.RowKit

class TIfc (P : Program) (T : TypeId) : Prop where h : ∀ (x : Value) (w : World), (Instr.makeInterface T x).run P w = .ok (.iface T x) w
class TAs (P : Program) (xT T U : TypeId) (f : outParam (Value → Value)) : Prop where h : ∀ (v : Value) (w : World), (Instr.typeAssert (.iface T v) xT U true).run P w = .ok (f v) w
class TInv (P : Program) (T : TypeId) (m : String) (f : outParam FuncId) : Prop where h : ∀ (v : Value) (args : Array Value) (w : World), (callMethod (.iface T v) m args).run P w = .ok (.enter f (#[v] ++ args)) w
section
variable {P : Program} {N : Nat} {E : Env} {fr : List (Nat × Value)} {hp F : List It} {ro : List Ro} {T U xT : TypeId} {x : Operand} {v : Value} {Kn Kr : St → Prop} {Kx : List (Nat × (St → Prop))} {ops : Array Oper} {rest : List Oper} {dst : Option Tmp} {ty : TypeId} {pos : String} {af : Array Edge}
theorem pv_mki (hx : opd fr x = some v) (hT : TIfc P T) : Pv P ⟨fr, hp, ro⟩ (.makeInterface T x) (.iface T v) := fun N E ac w dst ty pos af g ok => by
  simp only [execOp, ok.h.eval hx]; simp [hT.h, go_sem]
theorem pv_tas {f : Value → Value} (hx : opd fr x = some (.iface T v)) (hT : TAs P xT T U f) : Pv P ⟨fr, hp, ro⟩ (.typeAssert x xT U true) (f v) := fun N E ac w dst ty pos af g ok => by
  simp only [execOp, ok.h.eval hx]; simp [hT.h, go_sem]
theorem inv_enter {f : FuncId} {m : String} {a : Act} {l : List Operand} {ats : Array TypeId} {g : Option (Nat × Bool)} (hT : TInv P T m f) (hx : a.eval x = .iface T v) (w : World) :
    (execOp a.eval ⟨dst, .call ⟨.invoke x m, l.toArray, ats⟩, ty, pos, af, g⟩).run P w = .ok (.enter f (v :: l.map a.eval).toArray) w := by
  have e : ∀ r : Array Value, (#[Value.iface T v] ++ r)[0]? = some (Value.iface T v) := fun r => by
    rw [Array.getElem?_append_left (Nat.zero_lt_one)]; rfl
  have e2 : ∀ r : Array Value, (#[Value.iface T v] ++ r).extract 1 (#[Value.iface T v] ++ r).size = r := fun r => by
    apply Array.ext'; simp
  have e3 : (execOp a.eval ⟨dst, .call ⟨.invoke x m, l.toArray, ats⟩, ty, pos, af, g⟩).run P w = (Go.invoke (.fn (.method m) #[]) (#[Value.iface T v] ++ l.toArray.map a.eval)).run P w := by
    simp only [execOp, resolve, hx, Sem.run_bind, Sem.run_pure, Result.andThen_ok]
  rw [e3]
  unfold Go.invoke
  rw [e]
  simp only [e2]
  rw [hT.h]
  simp
theorem wo_inv {f : FuncId} {m : String} {vs : List Value} {L F : List It} {R : List Ro} {Post : Value → List It → List Ro → Prop} {l : List Operand} {ats : Array TypeId}
    (hx : opd fr x = some (.iface T v)) (hT : TInv P T m f) (hF : Fn P f (v :: vs).toArray L R Post) (ha : opdL fr l = some vs) (hs : hp.Perm (L ++ F)) (hr : ∀ r ∈ R, r ∈ ro) (hd : dstOk dst N = true)
    (h : ∀ v L' R', Post v L' R' → ∀ H, H = L' ++ F → ∀ RR, RR = R' ++ ro → WO P N E ops rest ⟨putF dst v fr, H, RR⟩ Kn) :
    WO P N E ops (⟨dst, .call ⟨.invoke x m, l.toArray, ats⟩, ty, pos, af, none⟩ :: rest) ⟨fr, hp, ro⟩ Kn := by
  intro Q hQ a w ok
  unfold wpList
  rw [if_pos (by simp [Region.wanted])]
  refine .inl ?_
  unfold Oper.wp
  rw [inv_enter hT (ok.h.eval hx) w, ok.h.evalL ha]
  refine (hF w (ok.s.start hs hr)).mono fun e w' ⟨v, L', R', he, hP, hS⟩ => ?_
  subst he
  exact h v L' R' hP _ rfl _ rfl Q hQ _ w' ⟨ok.h.putF hd v, ok.s.step hs (fun b hb => by
    obtain ⟨r, h1, h2⟩ := mem_blks.1 hb; exact mem_blks.2 ⟨r, hr r h1, h2⟩) hS⟩
theorem outc_inv {f : FuncId} {m : String} {B0 : List It} {vs : List Value} {L Lc F1 : List It} {R : List Ro} {Post : Value → List It → List Ro → Prop} {TT : Value → List It → Prop} {l : List Operand} {ats : Array TypeId} {g : Option (Nat × Bool)}
    (hx : opd fr x = some (.iface T v)) (hT : TInv P T m f) (hF : Fn P f (v :: vs).toArray L R Post) (ha : opdL fr l = some vs) (hs : (Lc ++ B0).Perm (L ++ F1)) (hr : ∀ r ∈ R, r ∈ ro) (hTT : ∀ v L' R', Post v L' R' → ∃ M, TT v M ∧ (L' ++ F1).Perm (M ++ B0)) :
    ∀ a, Holds N fr a → Outc P E B0 ro ⟨dst, .call ⟨.invoke x m, l.toArray, ats⟩, ty, pos, af, g⟩ a Lc TT := fun a hh F w hw => by
  rw [inv_enter hT (hh.eval hx) w, hh.evalL ha]
  refine ⟨rfl, ?_⟩
  have hp1 : (Lc ++ (B0 ++ F)).Perm (L ++ (F1 ++ F)) := by
    rw [← List.append_assoc, ← List.append_assoc]; exact hs.append_right F
  have hw1 := hw.perm hp1
  refine (hF w (hw1.start (.refl _) hr)).mono fun e w' ⟨v, L', R', he, hP, hS⟩ => ?_
  obtain ⟨M, h1, h2⟩ := hTT v L' R' hP
  have h3 := (hw1.step (.refl _) (fun b hb => by obtain ⟨r, h1, h2⟩ := mem_blks.1 hb; exact mem_blks.2 ⟨r, hr r h1, h2⟩) hS).some_ro (fun r hr => List.mem_append_right _ hr)
  refine ⟨v, M, he, h1, h3.perm ?_⟩
  rw [← List.append_assoc, ← List.append_assoc]
  exact h2.append_right F
theorem outc_app_g {t e sz by_ n c m c2 : Nat} {B0 : List It} {ao ao2 : Option Addr} {xs ys : List (List Value)} {x y : Operand} {g : Option (Nat × Bool)} [TSl P t e sz by_] (hx : opd fr x = some (.slice ao n c)) (hy : opd fr y = some (.slice ao2 m c2))
    (b1 : n + m ≤ maxLen) (b2 : (n + m) * by_ ≤ 140737488355328) :
    ∀ a, Holds N fr a → Outc P E B0 ro ⟨dst, .call ⟨.builtin .append, #[x, y], #[t, t]⟩, ty, pos, af, g⟩ a [.own e sz ao n c xs, .own e sz ao2 m c2 ys] (fun v M => ∃ ao' c', v = .slice ao' (n + m) c' ∧ M = [.own e sz ao' (n + m) c' (xs ++ ys), .own e sz ao2 m c2 ys]) := by
  cases ao2 with
  | some ad =>
    intro a hh F w hw
    have hS2 : OwnSat w e sz (some ad) m c2 ys := hw.get (.swap _ _ _)
    obtain ⟨hsp, _⟩ := hS2.at_ _ rfl
    obtain ⟨b, o, s⟩ := ad
    simp only at hsp
    subst hsp
    exact outc_app hx hy b1 b2 a hh F w hw
  | none =>
    intro a hh F w hw
    obtain ⟨i, z, h1, h2, h3, h4, h5, h6, h7⟩ := sl_und (TSl.h (P := P) (T := t))
    have hS : OwnSat w e sz ao n c xs := hw.get (.refl _)
    have hS2 : OwnSat w e sz none m c2 ys := hw.get (.swap _ _ _)
    have hc0 := hS2.nil rfl
    have hle := hS2.le
    obtain rfl : m = 0 := by omega
    obtain rfl : ys = [] := List.eq_nil_of_length_eq_zero hS2.len
    have hr : (Builtin.append_ #[t, t] ty #[.slice ao n c, .slice none 0 c2]).run P w = .ok (.slice ao n c) w := by
      have hn0 : n + 0 ≤ c := by have := hS.le; omega
      cases ao <;> simp [Builtin.append_, run_underlying h1, sizeOf, typeInfo, h2, Builtin.lenOf, hn0, Builtin.firstCells, storeCells, go_sem] <;> (have := hS.le; omega)
    rw [exec_append (hh.eval hx) (hh.eval hy) hr]
    exact ⟨_, ⟨ao, c, rfl, rfl⟩, by simpa using hw⟩
/-- a field of a structure that is a value -/
def fld1B (P : Program) (T i : Nat) : Option Nat := match P.underlying T with
  | some (.struct fs) => match fs[i]? with
    | some f => if oneB P f.type then some f.offset else none
    | none => none
  | _ => none
class FO (P : Program) (T i : Nat) (off : outParam Nat) : Prop where h : fld1B P T i = some off
theorem pv_field {i off : Nat} {l : List Value} (hx : opd fr x = some (.agg l.toArray)) (hF : FO P T i off) (hl : l[off]? = some v) : Pv P ⟨fr, hp, ro⟩ (.field T x i) v := fun N E ac w dst ty pos af g ok => by
  have h := hF.h
  unfold fld1B at h
  split at h
  · rename_i fs hu
    split at h
    · rename_i f hf
      split at h
      · rename_i h1
        simp only [Option.some.injEq] at h
        subst h
        haveI : TOne P f.type := ⟨h1⟩
        simp only [execOp, ok.h.eval hx]
        have e := run_part_one (P := P) (T := f.type) (w := w) hl
        simp only [Instr.field, Sem.run_bind, run_underlying hu, Result.andThen_ok, hf, asAgg, Sem.run_pure, e]
      · cases h
    · cases h
  · cases h
end
theorem outc_ld {P : Program} {N : Nat} {E : Env} {fr : List (Nat × Value)} {L B0 : List It} {ro : List Ro} {op : Op} {v : Value} {dst : Option Tmp} {ty : TypeId} {pos : String} {af : Array Edge} {g : Option (Nat × Bool)} (h : Pv P ⟨fr, L, ro⟩ op v) :
    ∀ a, Holds N fr a → Outc P E B0 ro ⟨dst, op, ty, pos, af, g⟩ a L (fun v' M => v' = v ∧ M = L) := fun a hh F w hw => by
  unfold Pv at h
  rw [h N E a w dst ty pos af g ⟨hh, hw.left⟩]
  exact ⟨L, ⟨rfl, rfl⟩, hw⟩
theorem outc_fr {P : Program} {E : Env} {B0 X L : List It} {ro : List Ro} {o : Oper} {a : Act} {T : Value → List It → Prop} (h : Outc P E B0 ro o a L T) : Outc P E B0 ro o a (X ++ L) (fun v M => ∃ M0, T v M0 ∧ M = X ++ M0) := fun F w hw => by
  have pm : ∀ Y : List It, ((X ++ Y) ++ (B0 ++ F)).Perm (Y ++ (B0 ++ (X ++ F))) := fun Y => by
    rw [List.append_assoc]
    refine List.perm_append_comm.trans ?_
    rw [List.append_assoc, List.append_assoc]
    refine List.Perm.append_left Y ?_
    exact List.Perm.append_left B0 List.perm_append_comm
  have h1 := h (X ++ F) w (hw.perm (pm L))
  cases hr : (execOp a.eval o).run P w with
  | ok v w' =>
    rw [hr] at h1
    cases v with
    | value v =>
      obtain ⟨M, h2, h3⟩ := h1
      exact ⟨X ++ M, ⟨M, h2, rfl⟩, h3.perm (pm M).symm⟩
    | skip =>
      obtain ⟨M, h2, h3⟩ := h1
      exact ⟨X ++ M, ⟨M, h2, rfl⟩, h3.perm (pm M).symm⟩
    | enter f args =>
      obtain ⟨h0, h1⟩ := h1
      exact ⟨h0, h1.mono fun e w'' ⟨v, M, h2, h3, h4⟩ => ⟨v, X ++ M, h2, ⟨M, h3, rfl⟩, h4.perm (pm M).symm⟩⟩
    | _ => exact h1
  | _ => rw [hr] at h1; exact h1
theorem outc_frA {P : Program} {N : Nat} {E : Env} {fr : List (Nat × Value)} {B0 X L : List It} {ro : List Ro} {o : Oper} {T : Value → List It → Prop} (h : ∀ a, Holds N fr a → Outc P E B0 ro o a L T) : ∀ a, Holds N fr a → Outc P E B0 ro o a (X ++ L) (fun v M => ∃ M0, T v M0 ∧ M = X ++ M0) := fun a ha => outc_fr (h a ha)
end Go.Proofs.Ytlhlidmhlhodiaa

/-
  What interface values of this seat's program do, as instances. (Written by wip/tools/ifaces.py.)
-/
namespace Go.Proofs.Ytlhlidmhlhodiaa
set_option linter.unusedVariables false

instance : TIfc Try.prog 75 := ⟨fun _ _ => by kernel_rfl⟩
instance : TIfc Try.prog 77 := ⟨fun _ _ => by kernel_rfl⟩
instance : TIfc Try.prog 190 := ⟨fun _ _ => by kernel_rfl⟩
instance : TIfc Try.prog 194 := ⟨fun _ _ => by kernel_rfl⟩
instance : TIfc Try.prog 197 := ⟨fun _ _ => by kernel_rfl⟩
instance : TIfc Try.prog 267 := ⟨fun _ _ => by kernel_rfl⟩
instance : TIfc Try.prog 269 := ⟨fun _ _ => by kernel_rfl⟩
instance : TIfc Try.prog 273 := ⟨fun _ _ => by kernel_rfl⟩
instance : TIfc Try.prog 312 := ⟨fun _ _ => by kernel_rfl⟩
instance : TAs Try.prog 179 75 75 (fun v => .tuple #[v, .bool true]) := ⟨fun _ _ => by kernel_rfl⟩
instance : TAs Try.prog 179 77 75 (fun _ => .tuple #[.agg #[.int .u32 0, .int .u32 0, .slice none 0 0], .bool false]) := ⟨fun _ _ => by kernel_rfl⟩
instance : TAs Try.prog 179 190 75 (fun _ => .tuple #[.agg #[.int .u32 0, .int .u32 0, .slice none 0 0], .bool false]) := ⟨fun _ _ => by kernel_rfl⟩
instance : TAs Try.prog 179 194 75 (fun _ => .tuple #[.agg #[.int .u32 0, .int .u32 0, .slice none 0 0], .bool false]) := ⟨fun _ _ => by kernel_rfl⟩
instance : TAs Try.prog 179 197 75 (fun _ => .tuple #[.agg #[.int .u32 0, .int .u32 0, .slice none 0 0], .bool false]) := ⟨fun _ _ => by kernel_rfl⟩
instance : TAs Try.prog 179 267 75 (fun _ => .tuple #[.agg #[.int .u32 0, .int .u32 0, .slice none 0 0], .bool false]) := ⟨fun _ _ => by kernel_rfl⟩
instance : TAs Try.prog 179 269 75 (fun _ => .tuple #[.agg #[.int .u32 0, .int .u32 0, .slice none 0 0], .bool false]) := ⟨fun _ _ => by kernel_rfl⟩
instance : TAs Try.prog 179 273 75 (fun _ => .tuple #[.agg #[.int .u32 0, .int .u32 0, .slice none 0 0], .bool false]) := ⟨fun _ _ => by kernel_rfl⟩
instance : TAs Try.prog 179 312 75 (fun _ => .tuple #[.agg #[.int .u32 0, .int .u32 0, .slice none 0 0], .bool false]) := ⟨fun _ _ => by kernel_rfl⟩
instance : TAs Try.prog 179 75 77 (fun _ => .tuple #[.agg #[.int .u32 0, .int .u32 0], .bool false]) := ⟨fun _ _ => by kernel_rfl⟩
instance : TAs Try.prog 179 77 77 (fun v => .tuple #[v, .bool true]) := ⟨fun _ _ => by kernel_rfl⟩
instance : TAs Try.prog 179 190 77 (fun _ => .tuple #[.agg #[.int .u32 0, .int .u32 0], .bool false]) := ⟨fun _ _ => by kernel_rfl⟩
instance : TAs Try.prog 179 194 77 (fun _ => .tuple #[.agg #[.int .u32 0, .int .u32 0], .bool false]) := ⟨fun _ _ => by kernel_rfl⟩
instance : TAs Try.prog 179 197 77 (fun _ => .tuple #[.agg #[.int .u32 0, .int .u32 0], .bool false]) := ⟨fun _ _ => by kernel_rfl⟩
instance : TAs Try.prog 179 267 77 (fun _ => .tuple #[.agg #[.int .u32 0, .int .u32 0], .bool false]) := ⟨fun _ _ => by kernel_rfl⟩
instance : TAs Try.prog 179 269 77 (fun _ => .tuple #[.agg #[.int .u32 0, .int .u32 0], .bool false]) := ⟨fun _ _ => by kernel_rfl⟩
instance : TAs Try.prog 179 273 77 (fun _ => .tuple #[.agg #[.int .u32 0, .int .u32 0], .bool false]) := ⟨fun _ _ => by kernel_rfl⟩
instance : TAs Try.prog 179 312 77 (fun _ => .tuple #[.agg #[.int .u32 0, .int .u32 0], .bool false]) := ⟨fun _ _ => by kernel_rfl⟩
instance : TAs Try.prog 179 75 190 (fun _ => .tuple #[.agg #[.int .u32 0, .slice none 0 0], .bool false]) := ⟨fun _ _ => by kernel_rfl⟩
instance : TAs Try.prog 179 77 190 (fun _ => .tuple #[.agg #[.int .u32 0, .slice none 0 0], .bool false]) := ⟨fun _ _ => by kernel_rfl⟩
instance : TAs Try.prog 179 190 190 (fun v => .tuple #[v, .bool true]) := ⟨fun _ _ => by kernel_rfl⟩
instance : TAs Try.prog 179 194 190 (fun _ => .tuple #[.agg #[.int .u32 0, .slice none 0 0], .bool false]) := ⟨fun _ _ => by kernel_rfl⟩
instance : TAs Try.prog 179 197 190 (fun _ => .tuple #[.agg #[.int .u32 0, .slice none 0 0], .bool false]) := ⟨fun _ _ => by kernel_rfl⟩
instance : TAs Try.prog 179 267 190 (fun _ => .tuple #[.agg #[.int .u32 0, .slice none 0 0], .bool false]) := ⟨fun _ _ => by kernel_rfl⟩
instance : TAs Try.prog 179 269 190 (fun _ => .tuple #[.agg #[.int .u32 0, .slice none 0 0], .bool false]) := ⟨fun _ _ => by kernel_rfl⟩
instance : TAs Try.prog 179 273 190 (fun _ => .tuple #[.agg #[.int .u32 0, .slice none 0 0], .bool false]) := ⟨fun _ _ => by kernel_rfl⟩
instance : TAs Try.prog 179 312 190 (fun _ => .tuple #[.agg #[.int .u32 0, .slice none 0 0], .bool false]) := ⟨fun _ _ => by kernel_rfl⟩
instance : TAs Try.prog 179 75 194 (fun _ => .tuple #[.agg #[.int .u32 0, .int .u64 0, .slice none 0 0], .bool false]) := ⟨fun _ _ => by kernel_rfl⟩
instance : TAs Try.prog 179 77 194 (fun _ => .tuple #[.agg #[.int .u32 0, .int .u64 0, .slice none 0 0], .bool false]) := ⟨fun _ _ => by kernel_rfl⟩
instance : TAs Try.prog 179 190 194 (fun _ => .tuple #[.agg #[.int .u32 0, .int .u64 0, .slice none 0 0], .bool false]) := ⟨fun _ _ => by kernel_rfl⟩
instance : TAs Try.prog 179 194 194 (fun v => .tuple #[v, .bool true]) := ⟨fun _ _ => by kernel_rfl⟩
instance : TAs Try.prog 179 197 194 (fun _ => .tuple #[.agg #[.int .u32 0, .int .u64 0, .slice none 0 0], .bool false]) := ⟨fun _ _ => by kernel_rfl⟩
instance : TAs Try.prog 179 267 194 (fun _ => .tuple #[.agg #[.int .u32 0, .int .u64 0, .slice none 0 0], .bool false]) := ⟨fun _ _ => by kernel_rfl⟩
instance : TAs Try.prog 179 269 194 (fun _ => .tuple #[.agg #[.int .u32 0, .int .u64 0, .slice none 0 0], .bool false]) := ⟨fun _ _ => by kernel_rfl⟩
instance : TAs Try.prog 179 273 194 (fun _ => .tuple #[.agg #[.int .u32 0, .int .u64 0, .slice none 0 0], .bool false]) := ⟨fun _ _ => by kernel_rfl⟩
instance : TAs Try.prog 179 312 194 (fun _ => .tuple #[.agg #[.int .u32 0, .int .u64 0, .slice none 0 0], .bool false]) := ⟨fun _ _ => by kernel_rfl⟩
instance : TAs Try.prog 179 75 197 (fun _ => .tuple #[.agg #[.slice none 0 0, .string ByteArray.empty], .bool false]) := ⟨fun _ _ => by kernel_rfl⟩
instance : TAs Try.prog 179 77 197 (fun _ => .tuple #[.agg #[.slice none 0 0, .string ByteArray.empty], .bool false]) := ⟨fun _ _ => by kernel_rfl⟩
instance : TAs Try.prog 179 190 197 (fun _ => .tuple #[.agg #[.slice none 0 0, .string ByteArray.empty], .bool false]) := ⟨fun _ _ => by kernel_rfl⟩
instance : TAs Try.prog 179 194 197 (fun _ => .tuple #[.agg #[.slice none 0 0, .string ByteArray.empty], .bool false]) := ⟨fun _ _ => by kernel_rfl⟩
instance : TAs Try.prog 179 197 197 (fun v => .tuple #[v, .bool true]) := ⟨fun _ _ => by kernel_rfl⟩
instance : TAs Try.prog 179 267 197 (fun _ => .tuple #[.agg #[.slice none 0 0, .string ByteArray.empty], .bool false]) := ⟨fun _ _ => by kernel_rfl⟩
instance : TAs Try.prog 179 269 197 (fun _ => .tuple #[.agg #[.slice none 0 0, .string ByteArray.empty], .bool false]) := ⟨fun _ _ => by kernel_rfl⟩
instance : TAs Try.prog 179 273 197 (fun _ => .tuple #[.agg #[.slice none 0 0, .string ByteArray.empty], .bool false]) := ⟨fun _ _ => by kernel_rfl⟩
instance : TAs Try.prog 179 312 197 (fun _ => .tuple #[.agg #[.slice none 0 0, .string ByteArray.empty], .bool false]) := ⟨fun _ _ => by kernel_rfl⟩
instance : TAs Try.prog 179 75 274 (fun v => .tuple #[.iface 75 v, .bool true]) := ⟨fun _ _ => by kernel_rfl⟩
instance : TAs Try.prog 179 77 274 (fun v => .tuple #[.iface 77 v, .bool true]) := ⟨fun _ _ => by kernel_rfl⟩
instance : TAs Try.prog 179 190 274 (fun v => .tuple #[.iface 190 v, .bool true]) := ⟨fun _ _ => by kernel_rfl⟩
instance : TAs Try.prog 179 194 274 (fun v => .tuple #[.iface 194 v, .bool true]) := ⟨fun _ _ => by kernel_rfl⟩
instance : TAs Try.prog 179 197 274 (fun v => .tuple #[.iface 197 v, .bool true]) := ⟨fun _ _ => by kernel_rfl⟩
instance : TAs Try.prog 179 267 274 (fun v => .tuple #[.iface 267 v, .bool true]) := ⟨fun _ _ => by kernel_rfl⟩
instance : TAs Try.prog 179 269 274 (fun v => .tuple #[.iface 269 v, .bool true]) := ⟨fun _ _ => by kernel_rfl⟩
instance : TAs Try.prog 179 273 274 (fun v => .tuple #[.iface 273 v, .bool true]) := ⟨fun _ _ => by kernel_rfl⟩
instance : TAs Try.prog 179 312 274 (fun v => .tuple #[.iface 312 v, .bool true]) := ⟨fun _ _ => by kernel_rfl⟩
instance : TInv Try.prog 75 "Head" 219 := ⟨fun _ _ _ => by kernel_rfl⟩
instance : TInv Try.prog 77 "Head" 221 := ⟨fun _ _ _ => by kernel_rfl⟩
instance : TInv Try.prog 190 "Head" 228 := ⟨fun _ _ _ => by kernel_rfl⟩
instance : TInv Try.prog 194 "Head" 230 := ⟨fun _ _ _ => by kernel_rfl⟩
instance : TInv Try.prog 197 "Head" 233 := ⟨fun _ _ _ => by kernel_rfl⟩
instance : TInv Try.prog 267 "Head" 237 := ⟨fun _ _ _ => by kernel_rfl⟩
instance : TInv Try.prog 269 "Head" 240 := ⟨fun _ _ _ => by kernel_rfl⟩
instance : TInv Try.prog 273 "Head" 242 := ⟨fun _ _ _ => by kernel_rfl⟩
instance : TInv Try.prog 312 "Head" 246 := ⟨fun _ _ _ => by kernel_rfl⟩
instance : TInv Try.prog 75 "antiphon/rtcp.put" 220 := ⟨fun _ _ _ => by kernel_rfl⟩
instance : TInv Try.prog 77 "antiphon/rtcp.put" 222 := ⟨fun _ _ _ => by kernel_rfl⟩
instance : TInv Try.prog 190 "antiphon/rtcp.put" 229 := ⟨fun _ _ _ => by kernel_rfl⟩
instance : TInv Try.prog 194 "antiphon/rtcp.put" 231 := ⟨fun _ _ _ => by kernel_rfl⟩
instance : TInv Try.prog 197 "antiphon/rtcp.put" 234 := ⟨fun _ _ _ => by kernel_rfl⟩
instance : TInv Try.prog 267 "antiphon/rtcp.put" 238 := ⟨fun _ _ _ => by kernel_rfl⟩
instance : TInv Try.prog 269 "antiphon/rtcp.put" 241 := ⟨fun _ _ _ => by kernel_rfl⟩
instance : TInv Try.prog 273 "antiphon/rtcp.put" 243 := ⟨fun _ _ _ => by kernel_rfl⟩
instance : TInv Try.prog 312 "antiphon/rtcp.put" 247 := ⟨fun _ _ _ => by kernel_rfl⟩
instance : FO Try.prog 218 2 2 := ⟨by kernel_rfl⟩
instance : FO Try.prog 243 0 0 := ⟨by kernel_rfl⟩
end Go.Proofs.Ytlhlidmhlhodiaa

/-
  Drawn regions with classes: operations that only read their class need no order among themselves.
-/
namespace Go.Proofs.Ytlhlidmhlhodiaa
set_option linter.unusedSimpArgs false
set_option linter.unusedVariables false
open Go.RowKit

theorem updL_self : ∀ (cs : List Nat) (m : Nat → List It), updL m cs (cs.map m) = m
  | [], _ => rfl
  | c :: cs, m => by
    show updL (upd m c (m c)) cs (cs.map m) = m
    have e : upd m c (m c) = m := by
      funext d
      by_cases h : d = c
      · subst h; exact upd_self ..
      · exact upd_ne m (m c) (fun e => h e.symm)
    rw [e]; exact updL_self cs m
def Rdr (tbl : Nat → List (List It) → Value → List (List It) → Prop) (k : Nat) : Prop := ∀ L v Ms, tbl k L v Ms → Ms = L
section
variable {P : Program} {E : Env} {B0 : List It} {ro : List Ro} {ops : Array Oper} {cls : Nat → List Nat} {tbl : Nat → List (List It) → Value → List (List It) → Prop} {md : Region.Mode}
theorem out_rdr {i : Nat} {oi : Oper} {a : Act} {m m' : Nat → List It} {v : Value} (hr : Rdr tbl i) (h : outM P E B0 ro ops cls tbl i oi a m v m') : m' = m := by
  unfold outM at h
  split at h
  · split at h
    · exact h.2
    · obtain ⟨Ms, h1, _, rfl⟩ := h
      rw [hr _ _ _ h1]; exact updL_self _ _
  · exact h.2
theorem rOp_swapR {i j : Nat} {oi oj : Oper} {a : Act} {m : Nat → List It} {K : Act → (Nat → List It) → Prop} (hi : ops[i]? = some oi) (hj : ops[j]? = some oj) (hap : oi.apart ops oj = true) (ri : Rdr tbl i) (rj : Rdr tbl j) (hsi : ∀ cs b, oi.op ≠ .select cs b) (hsj : ∀ cs b, oj.op ≠ .select cs b)
    (H : rOpM P E B0 ro ops cls tbl i (rOpM P E B0 ro ops cls tbl j K) a m) : rOpM P E B0 ro ops cls tbl j (rOpM P E B0 ro ops cls tbl i K) a m := by
  obtain ⟨h1, h2, h3⟩ := Oper.apart_spec hap
  obtain ⟨Hs, Ho⟩ := H oi hi
  intro o ho
  obtain rfl : oj = o := by rw [hj] at ho; exact Option.some.inj ho
  refine ⟨?_, fun u m1 hu o ho => ?_⟩
  · obtain ⟨v, m1, hv⟩ := safe_outM Hs
    have := (Ho v m1 hv oj hj).1
    rw [safe_putM hsj h1, out_rdr ri hv] at this
    exact this
  · obtain rfl : oi = o := by rw [hi] at ho; exact Option.some.inj ho
    obtain rfl := out_rdr rj hu
    refine ⟨?_, fun v m2 hv => ?_⟩
    · rw [safe_putM hsi h3]
      exact Hs
    · rw [out_putM hsi h3] at hv
      obtain rfl := out_rdr ri hv
      have := (Ho v _ hv oj hj).2 u _ (by rw [out_putM hsj h1]; exact hu)
      rw [← Act.put_comm a v u h2]
      exact this
theorem wpAnyM_firstR {Q : Act → (Nat → List It) → Prop} {i : Nat} {oi : Oper} (hi : ops[i]? = some oi) (hsel : ∀ (j : Nat) (o : Oper) cs b, ops[j]? = some o → o.op ≠ .select cs b)
    (hcls : ∀ (j : Nat) (listed : Array Bool), j ≠ i → Closed md ops listed → (∀ k, k < i → listed.getD k true = true) → listed.getD i true = false → j ∈ Region.ready md ops listed → (∀ d ∈ cls j, d ∉ cls i) ∨ (Rdr tbl i ∧ Rdr tbl j)) :
    ∀ (fuel : Nat) (listed : Array Bool) (a : Act) (m : Nat → List It), Closed md ops listed → (∀ k, k < i → listed.getD k true = true) →
      (∀ j oj, ops[j]? = some oj → j ≠ i → listed.getD j true = false → (∀ e ∈ oj.after, Region.binds md e = true → e.on ≠ i) → oi.apart ops oj = true) →
      i ∈ Region.ready md ops listed → rOpM P E B0 ro ops cls tbl i (wpAnyM P E B0 ro ops cls tbl md Q fuel (listed.setIfInBounds i true)) a m → wpAnyM P E B0 ro ops cls tbl md Q (fuel + 1) listed a m := by
  intro fuel
  induction fuel with
  | zero =>
    intro listed a m _ _ _ hr H
    refine ⟨fun h => (by rw [h] at hr; cases hr), fun j hj => ?_⟩
    by_cases hji : j = i
    · subst hji; exact H
    · have := ready_mono hj hji
      obtain ⟨hs, ho⟩ := H oi hi
      obtain ⟨v, m', hv⟩ := safe_outM hs
      rw [(ho v m' hv).1] at this
      cases this
  | succ fuel ih =>
    intro listed a m hcl hpre hfree hr H
    refine ⟨fun h => (by rw [h] at hr; cases hr), fun j hj => ?_⟩
    by_cases hji : j = i
    · subst hji; exact H
    · obtain ⟨hjun, oj, hoj, hall⟩ := mem_ready.1 hj
      have hnot : ∀ e ∈ oj.after, Region.binds md e = true → e.on ≠ i := fun e he hb heq => by
        have h1 := hall e he hb
        have h0 := (mem_ready.1 hr).1
        rw [heq] at h1
        rcases Nat.lt_or_ge i listed.size with h' | h'
        · simp [h'] at h0 h1; rw [h0] at h1; cases h1
        · simp [Array.getElem?_eq_none h'] at h1
      have h1 := rOpM_mono (fun a' m' h => h.2 j (ready_mono hj hji)) H
      have f1 := hfree j oj hoj hji hjun hnot
      have f2 := hcls j listed hji hcl hpre (mem_ready.1 hr).1 hj
      have h2 := f2.elim (fun f2 => rOp_swapM hi hoj f1 f2 (fun cs b => hsel i oi cs b hi) (fun cs b => hsel j oj cs b hoj) h1) (fun f2 => rOp_swapR hi hoj f1 f2.1 f2.2 (fun cs b => hsel i oi cs b hi) (fun cs b => hsel j oj cs b hoj) h1)
      refine rOpM_mono (fun a' m' h3 => ih (listed.setIfInBounds j true) a' m' (hcl.set hj) (fun k hk => ?_) (fun k ok hk hki hun hno => ?_) (ready_mono hr (Ne.symm hji)) ?_) h2
      · by_cases hjk : j = k
        · subst hjk
          rcases Nat.lt_or_ge j listed.size with h2 | h2
          · simp [h2]
          · simp [h2]
        · rw [getD_set_ne true hjk]; exact hpre k hk
      · refine hfree k ok hk hki ?_ hno
        by_cases hjk : j = k
        · subst hjk; exact hjun
        · rw [getD_set_ne true hjk] at hun; exact hun
      · rw [Array.setIfInBounds_comm _ _ hji]
        exact h3
def clsR (md : Region.Mode) (ops : Array Oper) (cls : Nat → List Nat) (rd : List Nat) : Bool :=
  (List.range ops.size).all fun j => (List.range j).all fun i => ((cls j).all fun d => !(cls i).contains d) || (rd.contains i && rd.contains j) || reachB md ops i ops.size j
theorem clsR_spec {rd : List Nat} (h : clsR md ops cls rd = true) {i j : Nat} {oj : Oper} (hj : ops[j]? = some oj) (hij : i < j) : (∀ d ∈ cls j, d ∉ cls i) ∨ (i ∈ rd ∧ j ∈ rd) ∨ reachB md ops i ops.size j = true := by
  unfold clsR at h
  rw [List.all_eq_true] at h
  have h1 := h j (by have := (Array.getElem?_eq_some_iff.1 hj).1; simpa using this)
  rw [List.all_eq_true] at h1
  have h2 := h1 i (by simpa using hij)
  rw [Bool.or_eq_true, Bool.or_eq_true, Bool.and_eq_true] at h2
  rcases h2 with (h2 | ⟨h2, h3⟩) | h2
  · refine .inl fun d hd hd' => ?_
    rw [List.all_eq_true] at h2
    have := h2 d hd
    simp [hd'] at this
  · exact .inr (.inl ⟨by simpa using h2, by simpa using h3⟩)
  · exact .inr (.inr h2)
theorem wpAnyM_lexR {Q : Act → (Nat → List It) → Prop} {rd : List Nat} (hs : Region.noSelect ops = true) (hcl : clsR md ops cls rd = true) (hrd : ∀ k ∈ rd, Rdr tbl k) : ∀ (l : List Oper) (k : Nat) (listed : Array Bool) (a : Act) (m : Nat → List It), Closed md ops listed → ops.size = listed.size → (∀ j, l[j]? = ops[k + j]?) → (∀ j, j < k → listed.getD j true = true) →
    Region.lexFrom md ops l.length k listed = true → wpM P E B0 ro ops cls tbl Q l k a m → wpAnyM P E B0 ro ops cls tbl md Q l.length listed a m
  | [], _, _, _, _, _, _, _, _, hB, h => ⟨by simpa [Region.lexFrom] using hB, h⟩
  | o :: l, k, listed, a, m, hC, hz, hl, hk, hB, h => by
    have h0 : ops[k]? = some o := by simpa using (hl 0).symm
    simp only [List.length_cons, Region.lexFrom, Bool.and_eq_true] at hB
    obtain ⟨⟨hr, hf⟩, hB'⟩ := hB
    have hr' : k ∈ Region.ready md ops listed := by simpa using hr
    refine wpAnyM_firstR h0 (Region.noSelect_spec hs) (fun j ld hjk hCl hpre hun hj => ?_) l.length listed a m hC hk (fun j oj hj hjk hun hno => Region.free_spec h0 hf j oj hj hjk hun hno) hr' ?_
    · obtain ⟨hjun, oj, hoj, hall⟩ := mem_ready.1 hj
      have hle := lex_lt hpre hjun
      have hks : k < ld.size := by
        rcases Nat.lt_or_ge k ld.size with h' | h'
        · exact h'
        · simp [Array.getD, Nat.not_lt.2 h'] at hun
      rcases clsR_spec hcl hoj (show k < j by omega) with h1 | ⟨h1, h2⟩ | h1
      · exact .inl h1
      · exact .inr ⟨hrd _ h1, hrd _ h2⟩
      · exfalso
        obtain ⟨o2, h2, e, he, hb, hne⟩ := reach_not hCl hun hks _ _ h1
        rw [hoj] at h2
        obtain rfl := Option.some.inj h2
        rw [hall e he hb] at hne; cases hne
    · refine rOpM_mono (fun a' m' h' => wpAnyM_lexR hs hcl hrd l (k + 1) _ a' m' (hC.set hr') (by simpa using hz) (fun j => by have := hl (j + 1); simpa [Nat.add_assoc, Nat.add_comm 1 j] using this) (fun j hj => ?_) hB' h') h
      rcases Nat.lt_or_ge j k with h1 | h1
      · rw [getD_set_ne true (show k ≠ j by omega)]; exact hk j h1
      · obtain rfl : j = k := by omega
        rcases Nat.lt_or_ge j listed.size with h2 | h2
        · simp [h2]
        · simp [h2]
theorem wc_regR {N : Nat} {fr : List (Nat × Value)} {hp : List It} {Kn Kr : St → Prop} {Kx : List (Nat × (St → Prop))} {id : Nat} {l : List Oper} (rd all : List Nat) (cls : Nat → List Nat) (tbl : Nat → List (List It) → Value → List (List It) → Prop) (B0 : List It) (m0 : Nat → List It)
    (hm : P.follows .mixedOrders = true) (hB : Region.lexB .any l.toArray = true) (hcl : clsR .any l.toArray cls rd = true) (hrd : ∀ k ∈ rd, Rdr tbl k) (hn : all.Nodup) (hcs : ∀ i, (cls i).Nodup ∧ ∀ c ∈ cls i, c ∈ all) (hperm : hp.Perm (Hp B0 all m0))
    (h : HdM P N E B0 ro l.toArray cls tbl (fun fr m => ∀ H, H = Hp B0 all m → Kn ⟨fr, H, ro⟩) 0 l fr m0) : WC P N E (.region id l.toArray true) ⟨fr, hp, ro⟩ Kn Kx Kr := fun a w ok => by
  simp only [Region.lexB, Bool.and_eq_true] at hB
  have hw : Sat E.B E.S E.T (Hp B0 all m0) ro _ := (ok.s.drawn (w.drawn + 1)).perm hperm
  refine wp_region_any hm (wpAny_of_M (ro := ro) (tbl := tbl) (Q := fun a m => ∃ fr', Kn ⟨fr', Hp B0 all m, ro⟩ ∧ Holds N fr' a) hn hcs (fun a m w' hs ⟨fr', hk, ha⟩ => ⟨_, hk, ha, hs⟩) _ _ a m0 _ hw ?_)
  have := wpAnyM_lexR (P := P) (E := E) (B0 := B0) (ro := ro) (tbl := tbl) (md := .any) hB.1 hcl hrd l 0 (Array.replicate l.toArray.size false) a m0 closed0 (by simp) (by simp) (fun j hj => by omega) (by simpa using hB.2)
    (h.sound (Q := fun a m => ∃ fr', Kn ⟨fr', Hp B0 all m, ro⟩ ∧ Holds N fr' a) ⟨_, _, hw⟩ (fun fr a m hk ha => ⟨fr, hk _ rfl, ha⟩) (fun j _ => by simp) a ok.h)
  simpa using this
end
end Go.Proofs.Ytlhlidmhlhodiaa

/-
  Sparse frames: maps with whole-number keys, known whole. No program in sight.
-/
namespace Go.Proofs.Ytlhlidmhlhodiaa
set_option linter.unusedSimpArgs false
set_option linter.unusedVariables false
open Go.RowKit

def mEnt (k : IntKind) : Nat → List (Int × Value) → List MapEntry
  | _, [] => []
  | n, (a, v) :: l => ⟨.int k a, v, n⟩ :: mEnt k (n + 1) l
abbrev mob (k : IntKind) (l : List (Int × Value)) : Obj := .map (mEnt k 0 l).toArray l.length
def alook : List (Int × Value) → Int → Option Value
  | [], _ => none
  | (a, v) :: l, x => if x = a then some v else alook l x
def aidx : List (Int × Value) → Int → Nat
  | [], _ => 0
  | (a, _) :: l, x => if x = a then 0 else aidx l x + 1
def aset : List (Int × Value) → Int → Value → List (Int × Value)
  | [], x, v => [(x, v)]
  | (a, u) :: l, x, v => if x = a then (a, v) :: l else (a, u) :: aset l x v
theorem mEnt_len (k : IntKind) : ∀ (l : List (Int × Value)) (n : Nat), (mEnt k n l).length = l.length
  | [], _ => rfl
  | _ :: l, n => by simp [mEnt, mEnt_len k l]
theorem alook_set (l : List (Int × Value)) (x : Int) (v : Value) (y : Int) : alook (aset l x v) y = if y = x then some v else alook l y := by
  induction l with
  | nil => simp [aset, alook]
  | cons p l ih =>
    obtain ⟨a, u⟩ := p
    unfold aset
    by_cases h : x = a
    · subst h; simp only [if_true, alook]
      by_cases h2 : y = x <;> simp [h2]
    · simp only [if_neg h, alook, ih]
      by_cases h2 : y = a
      · subst h2; simp [Ne.symm h]
      · simp [h2]
theorem aidx_lt {l : List (Int × Value)} {x : Int} {v : Value} (h : alook l x = some v) : aidx l x < l.length := by
  induction l with
  | nil => cases h
  | cons p l ih =>
    obtain ⟨a, u⟩ := p
    unfold alook at h
    unfold aidx
    by_cases h2 : x = a
    · simp [h2]
    · rw [if_neg h2] at h ⊢
      have := ih h
      simp; omega
theorem aidx_le (l : List (Int × Value)) (x : Int) : aidx l x ≤ l.length := by
  induction l with
  | nil => simp [aidx]
  | cons p l ih =>
    obtain ⟨a, u⟩ := p
    unfold aidx
    by_cases h2 : x = a
    · simp [h2]
    · rw [if_neg h2]; simp; omega
theorem aidx_none {l : List (Int × Value)} {x : Int} (h : alook l x = none) : aidx l x = l.length := by
  induction l with
  | nil => rfl
  | cons p l ih =>
    obtain ⟨a, u⟩ := p
    unfold alook at h
    unfold aidx
    by_cases h2 : x = a
    · rw [if_pos h2] at h; cases h
    · rw [if_neg h2] at h ⊢
      rw [ih h]; simp
theorem aset_none {l : List (Int × Value)} {x : Int} (v : Value) (h : alook l x = none) : aset l x v = l ++ [(x, v)] := by
  induction l with
  | nil => rfl
  | cons p l ih =>
    obtain ⟨a, u⟩ := p
    unfold alook at h
    unfold aset
    by_cases h2 : x = a
    · rw [if_pos h2] at h; cases h
    · rw [if_neg h2] at h ⊢
      rw [ih h]; rfl
theorem aset_same {l : List (Int × Value)} {x : Int} {v : Value} (h : alook l x = some v) : aset l x v = l := by
  induction l with
  | nil => cases h
  | cons p l ih =>
    obtain ⟨a, u⟩ := p
    unfold alook at h
    unfold aset
    by_cases h2 : x = a
    · rw [if_pos h2] at h ⊢; cases h; rfl
    · rw [if_neg h2] at h ⊢
      rw [ih h]
theorem aset_len_some {l : List (Int × Value)} {x : Int} {u : Value} (v : Value) (h : alook l x = some u) : (aset l x v).length = l.length := by
  induction l with
  | nil => cases h
  | cons p l ih =>
    obtain ⟨a, u⟩ := p
    unfold alook at h
    unfold aset
    by_cases h2 : x = a
    · rw [if_pos h2]; rfl
    · rw [if_neg h2] at h ⊢
      simp [ih h]
theorem aset_len_none {l : List (Int × Value)} {x : Int} (v : Value) (h : alook l x = none) : (aset l x v).length = l.length + 1 := by
  rw [aset_none v h]; simp
theorem aset_len_le (l : List (Int × Value)) (x : Int) (v : Value) : (aset l x v).length ≤ l.length + 1 := by
  cases h : alook l x with
  | none => rw [aset_len_none v h]; omega
  | some u => rw [aset_len_some v h]; omega
theorem aset_aset (l : List (Int × Value)) (x : Int) (u v : Value) : aset (aset l x u) x v = aset l x v := by
  induction l with
  | nil => simp [aset]
  | cons p l ih =>
    obtain ⟨a, z⟩ := p
    by_cases h2 : x = a
    · subst h2; simp [aset]
    · simp [aset, h2, ih]
theorem aidx_set (l : List (Int × Value)) (x : Int) (v : Value) : aidx (aset l x v) x = aidx l x := by
  induction l with
  | nil => simp [aset, aidx]
  | cons p l ih =>
    obtain ⟨a, z⟩ := p
    by_cases h2 : x = a
    · subst h2; simp [aset, aidx]
    · simp [aset, aidx, h2, ih]
theorem findNow_m (k : IntKind) (x : Int) : ∀ (l : List (Int × Value)) (n i : Nat), Instr.findNow (.int k) (.int k x) (mEnt k n l) i = some ((alook l x).map fun v => (i + aidx l x, v))
  | [], _, _ => rfl
  | (a, v) :: l, n, i => by
    have e : Instr.sameNow (.int k) (.int k x) (.int k a) = some (x == a) := by simp [Instr.sameNow]
    unfold mEnt Instr.findNow
    rw [e]
    by_cases h : x = a
    · subst h; simp [alook, aidx]
    · have hb : (x == a) = false := by simpa using h
      rw [hb]
      simp only [findNow_m k x l (n + 1) (i + 1), alook, aidx, if_neg h]
      cases alook l x <;> simp; omega
theorem mEnt_modify (k : IntKind) (x : Int) (v : Value) : ∀ (l : List (Int × Value)) (n : Nat) {u : Value}, alook l x = some u → (mEnt k n l).modify (aidx l x) (fun e => { e with key := .int k x, val := v }) = mEnt k n (aset l x v)
  | [], _, _, h => by cases h
  | (a, z) :: l, n, u, h => by
    unfold alook at h
    by_cases h2 : x = a
    · subst h2; simp [aset, aidx, mEnt]
    · rw [if_neg h2] at h
      simp only [aset, aidx, if_neg h2, mEnt, List.modify_succ_cons, mEnt_modify k x v l (n + 1) h]
theorem mEnt_modify' (k : IntKind) (x : Int) : ∀ (l : List (Int × Value)) (n : Nat) {u : Value}, alook l x = some u → (mEnt k n l).modify (aidx l x) (fun e => { e with key := .int k x }) = mEnt k n l
  | [], _, _, h => by cases h
  | (a, z) :: l, n, u, h => by
    unfold alook at h
    by_cases h2 : x = a
    · subst h2; simp [aidx, mEnt]
    · rw [if_neg h2] at h
      simp only [aidx, if_neg h2, mEnt, List.modify_succ_cons, mEnt_modify' k x l (n + 1) h]
theorem mEnt_modv (k : IntKind) (x : Int) (v : Value) : ∀ (l : List (Int × Value)) (n : Nat) {u : Value}, alook l x = some u → (mEnt k n l).modify (aidx l x) (fun e => { e with val := v }) = mEnt k n (aset l x v)
  | [], _, _, h => by cases h
  | (a, z) :: l, n, u, h => by
    unfold alook at h
    by_cases h2 : x = a
    · subst h2; simp [aset, aidx, mEnt]
    · rw [if_neg h2] at h
      simp only [aset, aidx, if_neg h2, mEnt, List.modify_succ_cons, mEnt_modv k x v l (n + 1) h]
theorem mEnt_at (k : IntKind) (x : Int) : ∀ (l : List (Int × Value)) (n : Nat) {u : Value}, alook l x = some u → (mEnt k n l)[aidx l x]? = some ⟨.int k x, u, n + aidx l x⟩
  | [], _, _, h => by cases h
  | (a, z) :: l, n, u, h => by
    unfold alook at h
    by_cases h2 : x = a
    · subst h2
      rw [if_pos rfl] at h; cases h
      simp [aidx, mEnt]
    · rw [if_neg h2] at h
      simp only [aidx, if_neg h2, mEnt, List.getElem?_cons_succ, mEnt_at k x l (n + 1) h]
      simp; omega
theorem mEnt_push (k : IntKind) (x : Int) (v : Value) : ∀ (l : List (Int × Value)) (n : Nat), mEnt k n l ++ [⟨.int k x, v, n + l.length⟩] = mEnt k n (l ++ [(x, v)])
  | [], _ => rfl
  | (a, z) :: l, n => by
    have := mEnt_push k x v l (n + 1)
    simp only [mEnt, List.cons_append, List.length_cons, List.cons.injEq, true_and]
    rw [← this]
    have e : n + (l.length + 1) = n + 1 + l.length := by omega
    rw [e]
theorem mEnt_find (k : IntKind) : ∀ (l : List (Int × Value)) (n j : Nat), j < l.length → (mEnt k n l).findIdx? (fun e => (e.born : Int) == ((n + j : Nat) : Int)) = some j
  | [], _, _, h => by simp at h
  | (a, z) :: l, n, 0, h => by simp [mEnt, List.findIdx?_cons]
  | (a, z) :: l, n, j + 1, h => by
    have h' := mEnt_find k l (n + 1) j (by simpa using h)
    have e : n + 1 + j = n + (j + 1) := by omega
    rw [e] at h'
    unfold mEnt
    rw [List.findIdx?_cons]
    have hb : (((n : Nat) : Int) == ((n + (j + 1) : Nat) : Int)) = false := by simp; omega
    simp only [hb]
    rw [h']; rfl
/-! contracts of the older kind turned into these -/
section
variable {P : Program} {f : FuncId} {args : Array Value} {g : Nat} {T : TypeId} {cs : Array Value}
theorem sat_none {w w' : World} (h : Below w.heap.size w w') : Sat w (feet []) (blks []) [] [] w' :=
  ⟨⟨h.os, h.tape, h.output, h.size, fun k hk _ => h.block k hk⟩, (by intro x hx; cases hx), (by intro x hx; cases hx), .nil, (by intro r hr; cases hr), (by intro r hr; cases hr), (by intro r hr; cases hr)⟩
theorem fn_pure {v : Value} (h : ∀ w, Calls P f args w fun e w' => e = .returned v ∧ Below w.heap.size w w') : Fn P f args [] [] (fun u L' R' => u = v ∧ L' = [] ∧ R' = []) :=
  fun w _ => (h w).mono fun _ _ ⟨h1, h2⟩ => ⟨v, [], [], h1, ⟨rfl, rfl, rfl⟩, sat_none h2⟩
theorem fn_blk {Q : Value → Array Value → Prop} (h : ∀ w, Blk w g T cs → Calls P f args w fun e w' => ∃ v cs', e = .returned v ∧ Q v cs' ∧ Blk w' g T cs' ∧ w.grownBy w' (some g)) :
    Fn P f args [.ob g (.cells cs T (0, 0))] [] (fun u L' R' => ∃ cs', Q u cs' ∧ L' = [.ob g (.cells cs' T (0, 0))] ∧ R' = []) :=
  fun w hw => (h w (hw.sat _ (.head _))).mono fun _ _ ⟨v, cs', h1, h2, h3, h4⟩ => ⟨v, _, [], h1, ⟨cs', h2, rfl, rfl⟩, Sat.relay (by simpa using Frm.grown h4) h3⟩
theorem fn_read {v : Value} (h : ∀ w, Blk w g T cs → Calls P f args w fun e w' => e = .returned v ∧ w = w') :
    Fn P f args [.ob g (.cells cs T (0, 0))] [] (fun u L' R' => u = v ∧ L' = [.ob g (.cells cs T (0, 0))] ∧ R' = []) :=
  fun w hw => (h w (hw.sat _ (.head _))).mono fun _ _ ⟨h1, h2⟩ => ⟨v, _, [], h1, ⟨rfl, rfl, rfl⟩, by subst h2; exact hw⟩
theorem fn_new {Q : Array Value → Prop} (h : ∀ w, Calls P f args w fun e w' => ∃ g cs, e = .returned (.pointer (some ⟨g, 0, none⟩)) ∧ Q cs ∧ Blk w' g T cs ∧ w.heap.size ≤ g ∧ Below w.heap.size w w') :
    Fn P f args [] [] (fun u L' R' => ∃ g cs, u = .pointer (some ⟨g, 0, none⟩) ∧ Q cs ∧ L' = [.ob g (.cells cs T (0, 0))] ∧ R' = []) :=
  fun w _ => (h w).mono fun _ w' ⟨g, cs, h1, h2, h3, h4, h5⟩ => ⟨_, _, [], h1, ⟨g, cs, rfl, h2, rfl, rfl⟩, Sat.one (L := []) ⟨h5.os, h5.tape, h5.output, h5.size, fun k hk _ => h5.block k hk⟩ h3 (fun b hb => by
    simp only [It.foot, Option.some.injEq] at hb; subst hb; exact .inr h4)⟩
end
section
variable {P : Program} {N : Nat} {E : Env} {fr : List (Nat × Value)} {hp : List It} {ro : List Ro} {Kn Kr : St → Prop} {ops : Array Oper} {rest : List Oper} {dst : Option Tmp} {ty t : TypeId} {pos : String} {af : Array Edge} {F : List It} {x y z : Operand} {k : IntKind} {b : Nat} {l : List (Int × Value)} {a : Int} {v : Value} {kt e : TypeId}
theorem pv_mlook {zv : Value} [ht : TMap P t kt e] [hk : TInt P kt k] [hz : TZV P e zv] (hx : opd fr x = some (.map (some b))) (hy : opd fr y = some (.int k a)) (hs : hp.Perm (.ob b (mob k l) :: F)) :
    Pv P ⟨fr, hp, ro⟩ (.lookup t x y true) (.tuple #[(alook l a).getD zv, .bool (alook l a).isSome]) := fun N E ac w dst ty pos af g ok => by
  have hb : w.heap[b]? = some (mob k l) := ok.s.get hs
  simp only [execOp, ok.h.eval hx, ok.h.eval hy]
  have h1 := findNow_m k a l 0 0
  have hf := MapKept.run_findKey (P := P) (w := w) hk.h h1
  have hc : ∀ em, (Instr.checkKey em 10000 kt (.int k a)).run P w = .ok () w := fun em => MapKept.run_checkKey hk.h (by simp [MapKept.IsKey]) em 9999
  cases h : alook l a with
  | none => rw [h] at hf; simp [Instr.lookup, run_underlying ht.h, MapKept.run_getObj_map hb, hc, hf, Result.andThen, run_zeroV (P := P) (T := e)]
  | some u => rw [h] at hf; simp [Instr.lookup, run_underlying ht.h, MapKept.run_getObj_map hb, hc, hf, Result.andThen]
theorem pv_mlook1 {zv : Value} [ht : TMap P t kt e] [hk : TInt P kt k] [hz : TZV P e zv] (hx : opd fr x = some (.map (some b))) (hy : opd fr y = some (.int k a)) (hs : hp.Perm (.ob b (mob k l) :: F)) :
    Pv P ⟨fr, hp, ro⟩ (.lookup t x y false) ((alook l a).getD zv) := fun N E ac w dst ty pos af g ok => by
  have hb : w.heap[b]? = some (mob k l) := ok.s.get hs
  simp only [execOp, ok.h.eval hx, ok.h.eval hy]
  have h1 := findNow_m k a l 0 0
  have hf := MapKept.run_findKey (P := P) (w := w) hk.h h1
  have hc : ∀ em, (Instr.checkKey em 10000 kt (.int k a)).run P w = .ok () w := fun em => MapKept.run_checkKey hk.h (by simp [MapKept.IsKey]) em 9999
  cases h : alook l a with
  | none => rw [h] at hf; simp [Instr.lookup, run_underlying ht.h, MapKept.run_getObj_map hb, hc, hf, Result.andThen, run_zeroV (P := P) (T := e)]
  | some u => rw [h] at hf; simp [Instr.lookup, run_underlying ht.h, MapKept.run_getObj_map hb, hc, hf, Result.andThen]
theorem pv_min3 {k : IntKind} {a b c : Int} {ats : Array TypeId} (hx : opd fr x = some (.int k a)) (hy : opd fr y = some (.int k b)) (hz : opd fr z = some (.int k c)) : Pv P ⟨fr, hp, ro⟩ (.call ⟨.builtin .min, #[x, y, z], ats⟩) (.int k (min (min a b) c)) := fun N E ac w dst ty pos af g ok => by
  have e : (if b < a then b else a) = min a b := by omega
  have e2 : (if c < min a b then c else min a b) = min (min a b) c := by omega
  simp only [execOp, resolve, List.map_toArray, List.map_cons, List.map_nil, ok.h.eval hx, ok.h.eval hy, ok.h.eval hz]; simp [invoke, builtin, Builtin.min_, Builtin.min2, e, e2, go_sem]
/-! rows of strings that came in -/
def sseg (S : Nat → ByteArray) (n : Nat) : List (List Value) := (List.range n).map fun i => [.string (S i)]
theorem sseg_at {S : Nat → ByteArray} {n i : Nat} (h : i < n) : (sseg S n)[i]? = some [.string (S i)] := by simp [sseg, h]
theorem rws_s {w : World} {A : Option Addr} {n c : Nat} {V : Nat → Nat → Value} (h : Rws [.string] w A n c V) :
    ∃ (S : Nat → ByteArray) (R : List Ro), (∀ r ∈ R, r.sat w) ∧ (∀ i, i < n → (S i).size ≤ maxLen) ∧ (0 < n → ∃ b o, A = some ⟨b, o, none⟩ ∧ ⟨b, o, 1, sseg S n⟩ ∈ R) ∧ n ≤ 9223372036854775807 := by
  obtain ⟨R, hR, h0⟩ := rws_ro h (by simp)
  obtain ⟨h1, h2, _, h4⟩ := h
  refine ⟨fun i => match V i 0 with | .string z => z | _ => ByteArray.empty, R, hR, fun i hi => ?_, fun hn => ?_, by unfold maxLen at h2; omega⟩
  · obtain ⟨z, hz, hw⟩ := h4 i 0 _ hi rfl
    simp only [hz]
    exact hw
  · obtain ⟨b, o, hA, hm⟩ := h0 hn
    refine ⟨b, o, hA, ?_⟩
    have e : rowsOf [.string] V n = sseg (fun i => match V i 0 with | .string z => z | _ => ByteArray.empty) n := by
      unfold rowsOf sseg
      refine List.map_congr_left fun i hi => ?_
      obtain ⟨z, hz, _⟩ := h4 i 0 _ (List.mem_range.1 hi) rfl
      simp [hz]
    rw [← e]; exact hm
theorem g_lk {c : Bool} (h : Pv P ⟨fr, hp, ro⟩ (.lookup t x y c) v) : Pv P ⟨fr, hp, ro⟩ (.lookup t x y c) v := h
theorem pv_mlk_s [ht : TMap P t kt e] [hk : TInt P kt k] {zv : Value} [hz : TZV P e zv] (hx : opd fr x = some (.map (some b))) (hy : opd fr y = some (.int k a)) (hs : hp.Perm (.ob b (mob k l) :: F)) (hl : alook l a = some v) : Pv P ⟨fr, hp, ro⟩ (.lookup t x y false) v := by
  have := pv_mlook1 (P := P) (ro := ro) hx hy hs (t := t); rwa [hl] at this
theorem pv_mlk_n [ht : TMap P t kt e] [hk : TInt P kt k] {zv : Value} [hz : TZV P e zv] (hx : opd fr x = some (.map (some b))) (hy : opd fr y = some (.int k a)) (hs : hp.Perm (.ob b (mob k l) :: F)) (hl : alook l a = none) : Pv P ⟨fr, hp, ro⟩ (.lookup t x y false) zv := by
  have := pv_mlook1 (P := P) (ro := ro) hx hy hs (t := t); rwa [hl] at this
theorem pv_mlko_s [ht : TMap P t kt e] [hk : TInt P kt k] {zv : Value} [hz : TZV P e zv] (hx : opd fr x = some (.map (some b))) (hy : opd fr y = some (.int k a)) (hs : hp.Perm (.ob b (mob k l) :: F)) (hl : alook l a = some v) : Pv P ⟨fr, hp, ro⟩ (.lookup t x y true) (.tuple #[v, .bool true]) := by
  have := pv_mlook (P := P) (ro := ro) hx hy hs (t := t); rwa [hl] at this
theorem pv_mlko_n [ht : TMap P t kt e] [hk : TInt P kt k] {zv : Value} [hz : TZV P e zv] (hx : opd fr x = some (.map (some b))) (hy : opd fr y = some (.int k a)) (hs : hp.Perm (.ob b (mob k l) :: F)) (hl : alook l a = none) : Pv P ⟨fr, hp, ro⟩ (.lookup t x y true) (.tuple #[zv, .bool false]) := by
  have := pv_mlook (P := P) (ro := ro) hx hy hs (t := t); rwa [hl] at this
theorem pv_mlen [ht : TMap P t kt e] (hx : opd fr x = some (.map (some b))) (hs : hp.Perm (.ob b (mob k l) :: F)) : Pv P ⟨fr, hp, ro⟩ (.call ⟨.builtin .len, #[x], #[t]⟩) (.int .i64 l.length) := fun N E ac w dst ty pos af g ok => by
  have hb : w.heap[b]? = some (mob k l) := ok.s.get hs
  simp only [execOp, resolve, List.map_toArray, List.map_cons, List.map_nil, ok.h.eval hx]; simp [invoke, builtin, Builtin.len_, run_underlying ht.h, MapKept.run_getObj_map hb, Result.andThen, goInt, mEnt_len, go_sem]
theorem wo_mmake {d : Nat} (k : IntKind) (hd : Nat.ble (d + 1) N = true)
    (h : ∀ b, WO P N E ops rest ⟨(d, .map (some b)) :: fr, .ob b (mob k []) :: hp, ro⟩ Kn) : WO P N E ops (⟨some d, .makeMap t none, ty, pos, af, none⟩ :: rest) ⟨fr, hp, ro⟩ Kn :=
  wo_eff (L := []) (.refl _) hd fun a w ok => ⟨.map (some w.heap.size), _, w.alloc (.map #[] 0), by simp only [execOp, Option.map_none, Sem.run_bind, run_makeMap, Result.andThen_ok]; rfl, Sat.fresh _, h _⟩
theorem set_frm {w : World} {b : Nat} {o o' : Obj} (hb : w.heap[b]? = some o) : Frm [b] w { w with heap := w.heap.setIfInBounds b o' } ∧ ({ w with heap := w.heap.setIfInBounds b o' } : World).heap[b]? = some o' :=
  ⟨⟨rfl, rfl, rfl, by simp, fun k _ hn => (MapKept.heap_set hb).2 k (by simpa using hn)⟩, (MapKept.heap_set hb).1⟩
theorem run_mput {w : World} [ht : TMap P t kt e] [hk : TInt P kt k] (hb : w.heap[b]? = some (mob k l)) :
    (Instr.mapUpdate t (.map (some b)) (.int k a) v).run P w = .ok () { w with heap := w.heap.setIfInBounds b (mob k (aset l a v)) } := by
  have h1 := findNow_m k a l 0 0
  have hf := MapKept.run_findKey (P := P) (w := w) hk.h h1
  have hc : (Instr.checkKey false 10000 kt (.int k a)).run P w = .ok () w := MapKept.run_checkKey hk.h (by simp [MapKept.IsKey]) false 9999
  cases h : alook l a with
  | none =>
    rw [h] at hf
    have e1 := mEnt_push k a v l 0
    rw [Nat.zero_add] at e1
    simp [Instr.mapUpdate, run_underlying ht.h, MapKept.run_getObj_map hb, hc, hf, MapKept.run_setObj_map _ hb, Result.andThen, mob, aset_none v h, e1]
  | some u =>
    rw [h] at hf
    have e1 := mEnt_modify k a v l 0 h
    have e2 := mEnt_at k a l 0 h
    have hks : (Instr.keyThatStays (.int k a) (.int k a)).run P w = .ok (.int k a) w := MapKept.run_keyThatStays (d := .int k) (by simp [MapKept.IsKey])
    simp [Instr.mapUpdate, run_underlying ht.h, MapKept.run_getObj_map hb, hc, hf, MapKept.run_setObj_map _ hb, Result.andThen, mob, aset_len_some v h, e1, e2, hks]
theorem wo_mput [ht : TMap P t kt e] [hk : TInt P kt k] (hx : opd fr x = some (.map (some b))) (hy : opd fr y = some (.int k a)) (hz : opd fr z = some v) (hs : hp.Perm (.ob b (mob k l) :: F)) (hd : dstOk dst N = true)
    (h : WO P N E ops rest ⟨putF dst undef fr, .ob b (mob k (aset l a v)) :: F, ro⟩ Kn) : WO P N E ops (⟨dst, .mapUpdate t x y z, ty, pos, af, none⟩ :: rest) ⟨fr, hp, ro⟩ Kn :=
  wo_eff_skip (L := [_]) hs hd fun ac w ok => by
    have hb : w.heap[b]? = some (mob k l) := ok.s.get hs
    refine ⟨_, _, ?_, Sat.relay (set_frm hb).1 (set_frm (o' := mob k (aset l a v)) hb).2, by simpa using h⟩
    simp only [execOp, ok.h.eval hx, ok.h.eval hy, ok.h.eval hz, Sem.run_bind, run_mput hb]; rfl
theorem wo_mentry {d : Nat} {zv : Value} [ht : TMap P t kt e] [hk : TInt P kt k] [hzv : TZV P e zv] (hx : opd fr x = some (.map (some b))) (hy : opd fr y = some (.int k a)) (hs : hp.Perm (.ob b (mob k l) :: F)) (hd : Nat.ble (d + 1) N = true)
    (h : WO P N E ops rest ⟨(d, .tuple #[(alook l a).getD zv, .int .i64 (aidx l a)]) :: fr, .ob b (mob k (aset l a ((alook l a).getD zv))) :: F, ro⟩ Kn) : WO P N E ops (⟨some d, .mapEntry t x y, ty, pos, af, none⟩ :: rest) ⟨fr, hp, ro⟩ Kn :=
  wo_eff (L := [_]) hs hd fun ac w ok => by
    have hb : w.heap[b]? = some (mob k l) := ok.s.get hs
    refine ⟨_, _, _, ?_, Sat.relay (set_frm hb).1 (set_frm (o' := mob k (aset l a ((alook l a).getD zv))) hb).2, by simpa [putF] using h⟩
    have h1 := findNow_m k a l 0 0
    have hf := MapKept.run_findKey (P := P) (w := w) hk.h h1
    have hc : (Instr.checkKey false 10000 kt (.int k a)).run P w = .ok () w := MapKept.run_checkKey hk.h (by simp [MapKept.IsKey]) false 9999
    simp only [execOp, ok.h.eval hx, ok.h.eval hy]
    cases h : alook l a with
    | none =>
      rw [h] at hf
      have e1 := mEnt_push k a zv l 0
      rw [Nat.zero_add] at e1
      simp [Instr.mapEntry, run_underlying ht.h, MapKept.run_getObj_map hb, hc, hf, MapKept.run_setObj_map _ hb, Result.andThen, mob, aset_none _ h, e1, run_zeroV (P := P) (T := e), goInt, aidx_none h]
    | some u =>
      rw [h] at hf
      have e1 := mEnt_modify' k a l 0 h
      have e2 := mEnt_at k a l 0 h
      have hks : (Instr.keyThatStays (.int k a) (.int k a)).run P w = .ok (.int k a) w := MapKept.run_keyThatStays (d := .int k) (by simp [MapKept.IsKey])
      simp [Instr.mapEntry, run_underlying ht.h, MapKept.run_getObj_map hb, hc, hf, MapKept.run_setObj_map _ hb, Result.andThen, mob, aset_same h, e1, e2, hks, goInt]
theorem wo_mstore {j : Nat} [ht : TMap P t kt e] (hx : opd fr x = some (.map (some b))) (hy : opd fr y = some (.int .i64 j)) (hz : opd fr z = some v) (hs : hp.Perm (.ob b (mob k l) :: F)) {u : Value} (hl : alook l a = some u) (hj : aidx l a = j) (hd : dstOk dst N = true)
    (h : WO P N E ops rest ⟨putF dst undef fr, .ob b (mob k (aset l a v)) :: F, ro⟩ Kn) : WO P N E ops (⟨dst, .entryStore t x y z, ty, pos, af, none⟩ :: rest) ⟨fr, hp, ro⟩ Kn :=
  wo_eff_skip (L := [_]) hs hd fun ac w ok => by
    have hb : w.heap[b]? = some (mob k l) := ok.s.get hs
    refine ⟨_, _, ?_, Sat.relay (set_frm hb).1 (set_frm (o' := mob k (aset l a v)) hb).2, by simpa using h⟩
    have e1 := mEnt_modv k a v l 0 hl
    have e2 := mEnt_find k l 0 (aidx l a) (aidx_lt hl)
    rw [Nat.zero_add] at e2
    subst hj
    simp only [execOp, ok.h.eval hx, ok.h.eval hy, ok.h.eval hz, Sem.run_bind]
    simp [Instr.entryStore, MapKept.run_getObj_map hb, MapKept.run_setObj_map _ hb, Result.andThen, asInt, asIntOf, e2, mob, e1, aset_len_some v hl, go_sem]
end
end Go.Proofs.Ytlhlidmhlhodiaa

/-
  Packets of rtcp as values.
-/
namespace Go.Proofs.Ytlhlidmhlhodiaa
set_option linter.unusedSimpArgs false
set_option linter.unusedVariables false
open Go.RowKit

structure Bk where
  ss : Int
  lo : Int
  tt : Int
  la : Int
  ji : Int
  ls : Int
  dl : Int
def Bk.ok (b : Bk) : Prop := (0 ≤ b.ss ∧ b.ss ≤ 4294967295) ∧ (0 ≤ b.lo ∧ b.lo ≤ 255) ∧ (0 ≤ b.tt ∧ b.tt ≤ 4294967295) ∧ (0 ≤ b.la ∧ b.la ≤ 4294967295) ∧ (0 ≤ b.ji ∧ b.ji ≤ 4294967295) ∧ (0 ≤ b.ls ∧ b.ls ≤ 4294967295) ∧ (0 ≤ b.dl ∧ b.dl ≤ 4294967295)
def c16 (l : List Int) : List (List Value) := l.map fun z => [.int .u16 z]
def c32 (l : List Int) : List (List Value) := l.map fun z => [.int .u32 z]
def pairV (l : List (Int × Int)) : List (List Value) := l.map fun x => [.int .u16 x.1, .int .u16 x.2]
def ordV (l : List (Int × Int)) : List (List Value) := l.map fun x => [.int .u32 x.1, .int .u8 x.2]
def itmV (l : List (Int × ByteArray)) : List (List Value) := l.map fun x => [.int .u8 x.1, .string x.2]
def blkV (l : List Bk) : List (List Value) := l.map fun b => [.int .u32 b.ss, .int .u8 b.lo, .int .u32 b.tt, .int .u32 b.la, .int .u32 b.ji, .int .u32 b.ls, .int .u32 b.dl]
theorem c16_at {l : List Int} {i : Nat} {z : Int} (h : l[i]? = some z) : (c16 l)[i]? = some [.int .u16 z] := by simp [c16, h]
theorem c32_at {l : List Int} {i : Nat} {z : Int} (h : l[i]? = some z) : (c32 l)[i]? = some [.int .u32 z] := by simp [c32, h]
theorem pairV_at {l : List (Int × Int)} {i : Nat} {x : Int × Int} (h : l[i]? = some x) : (pairV l)[i]? = some [.int .u16 x.1, .int .u16 x.2] := by simp [pairV, h]
theorem ordV_at {l : List (Int × Int)} {i : Nat} {x : Int × Int} (h : l[i]? = some x) : (ordV l)[i]? = some [.int .u32 x.1, .int .u8 x.2] := by simp [ordV, h]
theorem itmV_at {l : List (Int × ByteArray)} {i : Nat} {x : Int × ByteArray} (h : l[i]? = some x) : (itmV l)[i]? = some [.int .u8 x.1, .string x.2] := by simp [itmV, h]
theorem blkV_at {l : List Bk} {i : Nat} {b : Bk} (h : l[i]? = some b) : (blkV l)[i]? = some [.int .u32 b.ss, .int .u8 b.lo, .int .u32 b.tt, .int .u32 b.la, .int .u32 b.ji, .int .u32 b.ls, .int .u32 b.dl] := by simp [blkV, h]
theorem c16_app (a b : List Int) : c16 (a ++ b) = c16 a ++ c16 b := by simp [c16]
theorem c16_len (a : List Int) : (c16 a).length = a.length := by simp [c16]
theorem c32_len (a : List Int) : (c32 a).length = a.length := by simp [c32]
theorem pairV_len (a : List (Int × Int)) : (pairV a).length = a.length := by simp [pairV]
theorem ordV_len (a : List (Int × Int)) : (ordV a).length = a.length := by simp [ordV]
theorem itmV_len (a : List (Int × ByteArray)) : (itmV a).length = a.length := by simp [itmV]
theorem blkV_len (a : List Bk) : (blkV a).length = a.length := by simp [blkV]
inductive Pkt where
  | sender (ss ntp t pk oc : Int) (bl : List Bk)
  | receiver (ss : Int) (bl : List Bk)
  | sdes (ch : List (Int × List (Int × ByteArray)))
  | bye (ss : List Int) (rs : ByteArray)
  | nack (fm to : Int) (ps : List (Int × Int))
  | pli (fm to : Int)
  | fir (fm : Int) (os : List (Int × Int))
  | remb (fm rt : Int) (ss : List Int)
  | other (kd ct : Int) (bd : ByteArray)
def ChV (R : List Ro) (c : Int × List (Int × ByteArray)) (row : List Value) : Prop := ∃ A n k, row = [.int .u32 c.1, .slice A n k] ∧ SQ R 2 A n k (itmV c.2)
def ChsV (R : List Ro) (l : List (Int × List (Int × ByteArray))) (rows : List (List Value)) : Prop := rows.length = l.length ∧ ∀ (i : Nat) c, l[i]? = some c → ∃ row, rows[i]? = some row ∧ ChV R c row
theorem ChV.mono {R R' : List Ro} (hR : ∀ r ∈ R, r ∈ R') {c : Int × List (Int × ByteArray)} {row : List Value} (h : ChV R c row) : ChV R' c row := by
  obtain ⟨A, n, k, h1, h2⟩ := h; exact ⟨A, n, k, h1, h2.mono hR⟩
theorem ChsV.mono {R R' : List Ro} (hR : ∀ r ∈ R, r ∈ R') {l : List (Int × List (Int × ByteArray))} {rows : List (List Value)} (h : ChsV R l rows) : ChsV R' l rows :=
  ⟨h.1, fun i c hc => by obtain ⟨row, h1, h2⟩ := h.2 i c hc; exact ⟨row, h1, h2.mono hR⟩⟩
/-- a packet's value -/
def PkV (R : List Ro) : Pkt → Value → Prop
  | .sender ss ntp t pk oc bl, v => ∃ A n c, v = .iface 267 (.agg #[.int .u32 ss, .int .u64 ntp, .int .u32 t, .int .u32 pk, .int .u32 oc, .slice A n c]) ∧ SQ R 7 A n c (blkV bl)
  | .receiver ss bl, v => ∃ A n c, v = .iface 269 (.agg #[.int .u32 ss, .slice A n c]) ∧ SQ R 7 A n c (blkV bl)
  | .sdes ch, v => ∃ A n c rows, v = .iface 312 (.agg #[.slice A n c]) ∧ SQ R 2 A n c rows ∧ ChsV R ch rows
  | .bye ss rs, v => ∃ A n c, v = .iface 197 (.agg #[.slice A n c, .string rs]) ∧ SQ R 1 A n c (c32 ss)
  | .nack fm to ps, v => ∃ A n c, v = .iface 75 (.agg #[.int .u32 fm, .int .u32 to, .slice A n c]) ∧ SQ R 2 A n c (pairV ps)
  | .pli fm to, v => v = .iface 77 (.agg #[.int .u32 fm, .int .u32 to])
  | .fir fm os, v => ∃ A n c, v = .iface 190 (.agg #[.int .u32 fm, .slice A n c]) ∧ SQ R 2 A n c (ordV os)
  | .remb fm rt ss, v => ∃ A n c, v = .iface 194 (.agg #[.int .u32 fm, .int .u64 rt, .slice A n c]) ∧ SQ R 1 A n c (c32 ss)
  | .other kd ct bd, v => v = .iface 273 (.agg #[.int .u8 kd, .int .u8 ct, .string bd])
theorem PkV.mono {R R' : List Ro} (hR : ∀ r ∈ R, r ∈ R') : ∀ {p : Pkt} {v : Value}, PkV R p v → PkV R' p v
  | .sender .., _, h => by obtain ⟨A, n, c, h1, h2⟩ := h; exact ⟨A, n, c, h1, h2.mono hR⟩
  | .receiver .., _, h => by obtain ⟨A, n, c, h1, h2⟩ := h; exact ⟨A, n, c, h1, h2.mono hR⟩
  | .sdes .., _, h => by obtain ⟨A, n, c, rows, h1, h2, h3⟩ := h; exact ⟨A, n, c, rows, h1, h2.mono hR, h3.mono hR⟩
  | .bye .., _, h => by obtain ⟨A, n, c, h1, h2⟩ := h; exact ⟨A, n, c, h1, h2.mono hR⟩
  | .nack .., _, h => by obtain ⟨A, n, c, h1, h2⟩ := h; exact ⟨A, n, c, h1, h2.mono hR⟩
  | .pli .., _, h => h
  | .fir .., _, h => by obtain ⟨A, n, c, h1, h2⟩ := h; exact ⟨A, n, c, h1, h2.mono hR⟩
  | .remb .., _, h => by obtain ⟨A, n, c, h1, h2⟩ := h; exact ⟨A, n, c, h1, h2.mono hR⟩
  | .other .., _, h => h
theorem PkV.one {R : List Ro} : ∀ {p : Pkt} {v : Value}, PkV R p v → v.oneCell' = true
  | .sender .., _, h => by obtain ⟨A, n, c, rfl, h2⟩ := h; rfl
  | .receiver .., _, h => by obtain ⟨A, n, c, rfl, h2⟩ := h; rfl
  | .sdes .., _, h => by obtain ⟨A, n, c, rows, rfl, h2, h3⟩ := h; rfl
  | .bye .., _, h => by obtain ⟨A, n, c, rfl, h2⟩ := h; rfl
  | .nack .., _, h => by obtain ⟨A, n, c, rfl, h2⟩ := h; rfl
  | .pli .., _, h => by obtain rfl := h; rfl
  | .fir .., _, h => by obtain ⟨A, n, c, rfl, h2⟩ := h; rfl
  | .remb .., _, h => by obtain ⟨A, n, c, rfl, h2⟩ := h; rfl
  | .other .., _, h => by obtain rfl := h; rfl
/-- a packet's numbers lie in their ranges, its lists are not too long -/
def in8 (x : Int) : Prop := 0 ≤ x ∧ x ≤ 255
def in16 (x : Int) : Prop := 0 ≤ x ∧ x ≤ 65535
def in32 (x : Int) : Prop := 0 ≤ x ∧ x ≤ 4294967295
def in64 (x : Int) : Prop := 0 ≤ x ∧ x ≤ 18446744073709551615
def Pkt.ok (m : Nat) : Pkt → Prop
  | .sender ss ntp t pk oc bl => in32 ss ∧ in64 ntp ∧ in32 t ∧ in32 pk ∧ in32 oc ∧ (∀ b ∈ bl, b.ok) ∧ bl.length ≤ m
  | .receiver ss bl => in32 ss ∧ (∀ b ∈ bl, b.ok) ∧ bl.length ≤ m
  | .sdes ch => (∀ c ∈ ch, in32 c.1 ∧ c.2.length ≤ m ∧ ∀ x ∈ c.2, in8 x.1 ∧ x.2.size ≤ m) ∧ ch.length ≤ m
  | .bye ss rs => (∀ x ∈ ss, in32 x) ∧ ss.length ≤ m ∧ rs.size ≤ m
  | .nack fm to ps => in32 fm ∧ in32 to ∧ (∀ x ∈ ps, in16 x.1 ∧ in16 x.2) ∧ ps.length ≤ m
  | .pli fm to => in32 fm ∧ in32 to
  | .fir fm os => in32 fm ∧ (∀ x ∈ os, in32 x.1 ∧ in8 x.2) ∧ os.length ≤ m
  | .remb fm rt ss => in32 fm ∧ in64 rt ∧ (∀ x ∈ ss, in32 x) ∧ ss.length ≤ m
  | .other kd ct bd => in8 kd ∧ in8 ct ∧ bd.size ≤ m
/-- packets in a slice: interface values -/
def PksV (R : List Ro) (l : List Pkt) (vs : List Value) : Prop := vs.length = l.length ∧ ∀ (i : Nat) p, l[i]? = some p → ∃ v, vs[i]? = some v ∧ PkV R p v
def one1 (vs : List Value) : List (List Value) := vs.map fun v => [v]
theorem one1_at {vs : List Value} {i : Nat} {v : Value} (h : vs[i]? = some v) : (one1 vs)[i]? = some [v] := by simp [one1, h]
theorem one1_len (vs : List Value) : (one1 vs).length = vs.length := by simp [one1]
theorem one1_app (a b : List Value) : one1 (a ++ b) = one1 a ++ one1 b := by simp [one1]
theorem PksV.mono {R R' : List Ro} (hR : ∀ r ∈ R, r ∈ R') {l : List Pkt} {vs : List Value} (h : PksV R l vs) : PksV R' l vs :=
  ⟨h.1, fun i p hp => by obtain ⟨v, h1, h2⟩ := h.2 i p hp; exact ⟨v, h1, h2.mono hR⟩⟩
theorem PksV.nil (R : List Ro) : PksV R [] [] := ⟨rfl, fun i p h => by simp at h⟩
theorem PksV.snoc {R : List Ro} {l : List Pkt} {vs : List Value} {p : Pkt} {v : Value} (h : PksV R l vs) (hp : PkV R p v) : PksV R (l ++ [p]) (vs ++ [v]) := by
  refine ⟨by simp [h.1], fun i q hq => ?_⟩
  by_cases hi : i < l.length
  · rw [List.getElem?_append_left hi] at hq
    obtain ⟨u, h1, h2⟩ := h.2 i q hq
    exact ⟨u, by rw [List.getElem?_append_left (by rw [h.1]; exact hi)]; exact h1, h2⟩
  · rw [List.getElem?_append_right (by omega)] at hq
    have : i - l.length = 0 := by
      rcases Nat.eq_zero_or_pos (i - l.length) with h0 | h0
      · exact h0
      · rw [List.getElem?_eq_none (by simp; omega)] at hq; cases hq
    rw [this] at hq
    simp only [List.getElem?_cons_zero, Option.some.injEq] at hq
    subst hq
    exact ⟨v, by rw [List.getElem?_append_right (by rw [h.1]; omega), h.1, this]; rfl, hp⟩
end Go.Proofs.Ytlhlidmhlhodiaa

/-
  Package rtcp: Nack.Seqs.
-/
namespace Go.Proofs.Ytlhlidmhlhodiaa
set_option linter.unusedSimpArgs false
set_option linter.unusedVariables false
open Go.RowKit
attribute [local irreducible] Pv WO WC Fn
set_option maxRecDepth 100000

theorem and16_1 {a : Int} (h : 0 ≤ a ∧ a ≤ 65535) : bits .and .u16 a 1 = a % 2 := by
  obtain ⟨u, rfl⟩ := Int.eq_ofNat_of_zero_le h.1
  show IntKind.u16.wrap ((BitVec.ofInt 16 (u : Int) &&& BitVec.ofInt 16 ((1 : Nat) : Int)).toNat : Int) = _
  have hz : ∀ c : Nat, c < 2 ^ 16 → (BitVec.ofInt 16 (c : Int)).toNat = c := fun c hc => by
    rw [BitVec.ofInt_natCast, BitVec.toNat_ofNat]; exact Nat.mod_eq_of_lt hc
  rw [BitVec.toNat_and, hz u (by omega), hz 1 (by omega), Nat.and_one_is_mod, IntKind.wrap_u16]
  omega
theorem bit16 {x : Int} (h : 0 ≤ x ∧ x ≤ 65535) {i : Nat} (hi : i < 16) : bits .and .u16 (x.fdiv (2 ^ (min ((i : Int).toNat) IntKind.u16.bits))) 1 = x / 2 ^ i % 2 := by
  have e : min ((i : Int).toNat) IntKind.u16.bits = i := by
    show min i 16 = i
    omega
  have hp : (0 : Int) < 2 ^ i := Int.pow_pos (by omega)
  rw [e, Int.fdiv_eq_ediv_of_nonneg _ (Int.le_of_lt hp)]
  refine and16_1 ⟨Int.ediv_nonneg h.1 (Int.le_of_lt hp), ?_⟩
  have := Int.ediv_le_self (2 ^ i) h.1
  omega
/-- the numbers of a pair, by its first i bits -/
def seqB (p b : Int) : Nat → List Int
  | 0 => [p]
  | i + 1 => if b / 2 ^ i % 2 = 1 then seqB p b i ++ [((p + i) % 65536 + 1) % 65536] else seqB p b i
theorem seqB_len (p b : Int) : ∀ i, (seqB p b i).length ≤ i + 1
  | 0 => Nat.le_refl _
  | i + 1 => by
    have := seqB_len p b i
    rw [seqB]
    split
    · rw [List.length_append, List.length_singleton]; omega
    · omega
def seqL : List (Int × Int) → List Int
  | [] => []
  | x :: l => seqB x.1 x.2 16 ++ seqL l
theorem seqL_app : ∀ a b : List (Int × Int), seqL (a ++ b) = seqL a ++ seqL b
  | [], b => rfl
  | x :: a, b => by
    show seqB _ _ _ ++ seqL (a ++ b) = (seqB _ _ _ ++ seqL a) ++ seqL b
    rw [seqL_app a b, List.append_assoc]
theorem seqL_take {l : List (Int × Int)} {j : Nat} {x : Int × Int} (h : l[j]? = some x) : seqL (l.take (j + 1)) = seqL (l.take j) ++ seqB x.1 x.2 16 := by
  rw [List.take_add_one, h, seqL_app]
  show seqL (l.take j) ++ (seqB x.1 x.2 16 ++ []) = _
  rw [List.append_nil]
theorem seqL_len : ∀ l : List (Int × Int), (seqL l).length ≤ 17 * l.length
  | [] => Nat.le_refl _
  | x :: l => by
    have h1 := seqL_len l
    have h2 := seqB_len x.1 x.2 16
    show (seqB _ _ _ ++ seqL l).length ≤ _
    rw [List.length_append, List.length_cons]; omega
abbrev sO (ao : Option Addr) (n c : Nat) (l : List Int) : It := .own 24 1 ao n c (c16 l)
abbrev prO (b : Nat) (p q : Int) : It := .ob b (.cells #[.int .u16 p, .int .u16 q] 186 (0, 0))
abbrev nkO (b : Nat) (fm to : Int) (v : Value) : It := .ob b (.cells #[.int .u32 fm, .int .u32 to, v] 75 (0, 0))
theorem c16_snoc (ao : Option Addr) (n c : Nat) (l : List Int) (x : Int) : sO ao n c (l ++ [x]) = It.own 24 1 ao n c (c16 l ++ c16 [x]) := by rw [sO, c16_app]
set_option maxHeartbeats 8000000 in
theorem nSeqs (fm to : Int) (l : List (Int × Int)) (A : Option Addr) (n c : Nat) (R : List Ro) (hS : SQ R 2 A n c (pairV l)) (hl : l.length ≤ 100000) (hb : ∀ x ∈ l, in16 x.1 ∧ in16 x.2) :
    Fn Try.prog 91 #[.agg #[.int .u32 fm, .int .u32 to, .slice A n c]] [] R (fun v L' R' => ∃ ao c', v = .slice ao (seqL l).length c' ∧ L' = [sO ao (seqL l).length c' (seqL l)] ∧ R' = []) := by
  have hn : n = l.length := by rw [← hS.len, pairV_len]
  subst hn
  refine fn_intro Try.func91 rfl Try.ntmps91 rfl (fun E => ?_)
  (repeat (first | ((first | (apply wo_v; rfl) ); (· first | (apply pv_ev; rfl) | (apply pv_fld; rfl) | (apply g_load; first | (apply pv_ld; rfl; (· (repeat (first | apply sel_here ))); rfl) ) | (apply g_bi; first | (apply pv_len_sl; rfl) ) )) | apply wo_nil | apply wc_seq | apply wc_region | (apply wo_box1; rfl; rfl; rfl; intro bx) | (apply wo_boxa; rfl; rfl; intro bx) ))
  refine wc_own0 24 1 ?_
  refine wc_join0 (fun st => ∃ ao c', st = ⟨[(3, .slice ao (seqL l).length c')], [sO ao (seqL l).length c' (seqL l)], R⟩) ?_ ?_
  · refine wc_block ?_
    refine wc_loop' (fun q st => ∃ (i : Nat) (ao : Option Addr) (c' : Nat) (s : List Int), q = l.length - i ∧ i ≤ l.length ∧ s = seqL (l.take i) ∧ st = ⟨[(3, .slice ao s.length c'), (8, .slice A l.length c), (9, .int .i64 l.length), (10, .int .i64 i)], [sO ao s.length c' s], R⟩) ⟨0, none, 0, [], rfl, Nat.zero_le _, rfl, rfl⟩ (wk_mk (by (repeat (first | apply wkf_nil | (apply wkf_cons; rfl))); done) (by (repeat (first | apply sub_nil )); done) (by first | exact fun _ h => h | (intro r hr; cases hr; done) | (simp; done) | exact fun _ h => List.mem_append_left _ h | (intro r hr; simp [hr]; done))) ?_
    rintro q st ⟨i, ao, c', s, rfl, hi, hs, rfl⟩
    by_cases hlt : i < l.length
    · obtain ⟨⟨p, b⟩, hx⟩ : ∃ x, l[i]? = some x := ⟨_, List.getElem?_eq_getElem hlt⟩
      have hr := pairV_at hx
      obtain ⟨⟨p1, p2⟩, b1, b2⟩ := hb _ (List.mem_of_getElem? hx)
      have hnx := seqL_take hx
      have hlen : s.length ≤ 17 * i := by
        have := seqL_len (l.take i)
        rw [← hs, List.length_take] at this; omega
      rw [← hs] at hnx
      dsimp only at hr p1 p2 b1 b2 hnx
      obtain ⟨a0, o0, rfl, hmem⟩ := hS.pos (by omega)
      (repeat (first | ((first | (apply wo_v; rfl) ); (· first | (apply pv_ev; rfl) )) | apply wo_nil | apply wc_seq | apply wc_region | apply wc_skip | (apply wc_true; rfl) | (apply wc_false; rfl) | (apply a_dec_t; rfl; (· first | assumption | omega)) ))
      refine wc_block ?_
      (repeat (first | ((first | (apply wo_v; rfl) ); (· first | (apply pv_ev; rfl) | (apply pv_fld; rfl) | (apply g_load; first | (apply pv_ld; rfl; (· (repeat (first | apply sel_here ))); rfl) | (apply pv_lda; rfl; (· (repeat (first | apply sel_there))); (· (repeat (first | fail )))) | (apply pv_ld_owna; rfl; (· (repeat (first | apply sel_there))); (· assumption)) | (apply pv_ld_roa; rfl; (· (first | assumption )); (· assumption))) | (apply g_bi; first | fail ) | (apply g_idx; first | (apply pv_idx; rfl; rfl; omega) ) )) | apply wo_nil | apply wc_seq | apply wc_region | (apply wo_alloc; rfl; intro bx) | (apply wo_bsl; (· (repeat (first | apply Rws'.nil | (apply Rws'.one; rfl; rfl; rfl) ))); rfl; rfl; rfl; rfl; intro bx) | (apply wo_sta; rfl; rfl; rfl; rfl; (· (repeat (first | apply sel_here ))); (· (repeat (first | apply LayAt.nil | apply LayAt.here ))); rfl) ))
      rename_i bp
      refine wo_app rfl rfl (by (repeat (first | apply sel_here | apply sel_there)); done) (by (repeat (first | apply sel_here )); done) (by unfold maxLen; omega) (by omega) rfl (fun ao2 c2 => ?_)
      (repeat (first | ((first | (apply wo_v; rfl) ); (· first | (apply pv_ev; rfl) )) | apply wo_nil | apply wc_seq | apply wc_region ))
      refine wc_join0 (fun st => ∃ ao c', st = ⟨[(3, .slice ao (seqL (l.take (i + 1))).length c'), (8, .slice (some ⟨a0, o0, none⟩) l.length c), (9, .int .i64 l.length), (10, .int .i64 i)], [sO ao (seqL (l.take (i + 1))).length c' (seqL (l.take (i + 1)))], R⟩) ?_ ?_
      · refine wc_block ?_
        refine wc_loop' (fun q st => ∃ (j : Nat) (ao : Option Addr) (c' : Nat) (u : List Int), q = 16 - j ∧ j ≤ 16 ∧ u = s ++ seqB p b j ∧ st = ⟨[(3, .slice ao u.length c'), (5, .pointer (some ⟨bp, 0, none⟩)), (8, .slice (some ⟨a0, o0, none⟩) l.length c), (9, .int .i64 l.length), (10, .int .i64 i), (19, .int .i64 j)], [sO ao u.length c' u, prO bp p b], R⟩) ⟨0, ao2, c2, s ++ [p], rfl, Nat.zero_le _, rfl, by rw [List.length_append, List.length_singleton, c16_snoc]⟩ (wk_mk (by (repeat (first | apply wkf_nil | (apply wkf_cons; rfl))); done) (by (repeat (first | apply sub_nil | (apply sub_cons; (· (repeat (first | apply sel_here | apply sel_there)))))); done) (by first | exact fun _ h => h | (intro r hr; cases hr; done) | (simp; done) | exact fun _ h => List.mem_append_left _ h | (intro r hr; simp [hr]; done))) ?_
        clear ao2 c2 ao c'
        rintro q st ⟨j, ao, c', u, rfl, hj, hu, rfl⟩
        have hul : u.length ≤ 17 * i + 17 := by
          have := seqB_len p b j
          rw [hu, List.length_append]; omega
        by_cases hlj : j < 16
        · have hbit := bit16 ⟨b1, b2⟩ hlj
          have hs1 : seqB p b (j + 1) = if b / 2 ^ j % 2 = 1 then seqB p b j ++ [((p + j) % 65536 + 1) % 65536] else seqB p b j := rfl
          by_cases hbt : b / 2 ^ j % 2 = 1
          · rw [if_pos hbt] at hs1
            have hbt2 := hbit.trans hbt
            (repeat (first | ((first | (apply wo_v; rfl) ); (· first | (apply pv_ev; rfl) )) | apply wo_nil | apply wc_seq | apply wc_region | apply wc_skip | (apply wc_true; rfl) | (apply wc_false; rfl) | (apply a_dec_t; rfl; (· first | assumption | omega)) ))
            refine wc_block ?_
            (repeat (first | ((first | (apply wo_v; rfl) ); (· first | (apply pv_ev; rfl) | (apply pv_fld; rfl) | (apply g_load; first | (apply pv_ld; rfl; (· (repeat (first | apply sel_here | apply sel_there))); rfl) ) | (apply g_bin; first | (apply a_add; rfl; rfl; infer_instance; omega) | (apply pv_and; rfl; rfl) | (apply pv_add_s; rfl; rfl; omega) | (apply a_add_u; rfl; rfl; infer_instance) | (apply a_shr; rfl; rfl; rfl; omega; rfl) | (apply pv_shr; rfl; rfl; omega) ) | (apply g_bi; first | fail ) | (apply g_conv; first | (apply a_conv; rfl; infer_instance; infer_instance; infer_instance; omega) ) )) | apply wo_nil | apply wc_seq | apply wc_region | (apply wc_true; rfl) | (apply wc_false; rfl) | (apply a_dec_t; rfl; (· first | assumption | omega)) | (apply wo_bsl; (· (repeat (first | apply Rws'.nil | (apply Rws'.one; rfl; rfl; rfl) ))); rfl; rfl; rfl; rfl; intro bx) ))
            refine wo_app rfl rfl (by (repeat (first | apply sel_here | apply sel_there)); done) (by (repeat (first | apply sel_here )); done) (by unfold maxLen; omega) (by omega) rfl (fun ao3 c3 => ?_)
            (repeat (first | ((first | (apply wo_v; rfl) ); (· first | (apply pv_ev; rfl) | (apply g_bin; first | (apply a_add; rfl; rfl; infer_instance; omega) ) )) | apply wo_nil | apply wc_region ))
            exact loop_end ⟨j + 1, ao3, c3, u ++ [_], rfl, by omega, by rw [hs1, hu, List.append_assoc], by rw [List.length_append, List.length_singleton, c16_snoc]⟩ (by omega) (wk_mk (by (repeat (first | apply wkf_nil | (apply wkf_cons; rfl))); done) (by (repeat (first | apply sub_nil | (apply sub_cons; (· (repeat (first | apply sel_here | apply sel_there)))))); done) (by first | exact fun _ h => h | (intro r hr; cases hr; done) | (simp; done) | exact fun _ h => List.mem_append_left _ h | (intro r hr; simp [hr]; done)))
          · rw [if_neg hbt] at hs1
            have hbt2 : ¬ bits .and .u16 (b.fdiv (2 ^ (min ((j : Int).toNat) IntKind.u16.bits))) 1 = 1 := by rw [hbit]; exact hbt
            (repeat (first | ((first | (apply wo_v; rfl) ); (· first | (apply pv_ev; rfl) )) | apply wo_nil | apply wc_seq | apply wc_region | apply wc_skip | (apply wc_true; rfl) | (apply wc_false; rfl) | (apply a_dec_t; rfl; (· first | assumption | omega)) ))
            refine wc_block ?_
            (repeat (first | ((first | (apply wo_v; rfl) ); (· first | (apply pv_ev; rfl) | (apply pv_fld; rfl) | (apply g_load; first | (apply pv_ld; rfl; (· (repeat (first | apply sel_here | apply sel_there))); rfl) ) | (apply g_bin; first | (apply a_add; rfl; rfl; infer_instance; omega) | (apply pv_and; rfl; rfl) | (apply a_shr; rfl; rfl; rfl; omega; rfl) | (apply pv_shr; rfl; rfl; omega) ) )) | apply wo_nil | apply wc_seq | apply wc_region | apply wc_skip | (apply wc_true; rfl) | (apply wc_false; rfl) | (apply a_dec_t; rfl; (· first | assumption | omega)) | (apply a_dec_f; rfl; (· first | assumption | omega)) ))
            exact loop_end ⟨j + 1, ao, c', u, rfl, by omega, by rw [hs1, hu], rfl⟩ (by omega) (wk_mk (by (repeat (first | apply wkf_nil | (apply wkf_cons; rfl))); done) (by (repeat (first | apply sub_nil )); done) (by first | exact fun _ h => h | (intro r hr; cases hr; done) | (simp; done) | exact fun _ h => List.mem_append_left _ h | (intro r hr; simp [hr]; done)))
        · have e : j = 16 := by omega
          subst e
          rw [← hnx] at hu
          subst hu
          (repeat (first | ((first | (apply wo_v; rfl) ); (· first | (apply pv_ev; rfl) )) | apply wo_nil | apply wc_seq | apply wc_region | (apply wc_exit; rfl) | (apply wc_true; rfl) | (apply wc_false; rfl) ))
          exact cut_end ⟨ao, c', rfl⟩ (wk_mk (by (repeat (first | apply wkf_nil | (apply wkf_cons; rfl))); done) (by (repeat (first | apply sub_nil )); done) (by first | exact fun _ h => h | (intro r hr; cases hr; done) | (simp; done) | exact fun _ h => List.mem_append_left _ h | (intro r hr; simp [hr]; done)))
      rintro st ⟨ao, c', rfl⟩
      (repeat (first | ((first | (apply wo_v; rfl) ); (· first | (apply pv_ev; rfl) | (apply g_bin; first | (apply a_add; rfl; rfl; infer_instance; omega) ) )) | apply wo_nil | apply wc_region ))
      exact loop_end ⟨i + 1, ao, c', _, rfl, by omega, rfl, rfl⟩ (by omega) (wk_mk (by (repeat (first | apply wkf_nil | (apply wkf_cons; rfl))); done) (by (repeat (first | apply sub_nil )); done) (by first | exact fun _ h => h | (intro r hr; cases hr; done) | (simp; done) | exact fun _ h => List.mem_append_left _ h | (intro r hr; simp [hr]; done)))
    · have e : i = l.length := by omega
      subst e
      rw [List.take_length] at hs
      subst hs
      (repeat (first | ((first | (apply wo_v; rfl) ); (· first | (apply pv_ev; rfl) )) | apply wo_nil | apply wc_seq | apply wc_region | (apply wc_exit; rfl) | (apply wc_true; rfl) | (apply wc_false; rfl) | (apply a_dec_t; rfl; (· first | assumption | omega)) | (apply a_dec_f; rfl; (· first | assumption | omega)) ))
      exact cut_end ⟨ao, c', rfl⟩ (wk_mk (by (repeat (first | apply wkf_nil | (apply wkf_cons; rfl))); done) (by (repeat (first | apply sub_nil )); done) (by first | exact fun _ h => h | (intro r hr; cases hr; done) | (simp; done) | exact fun _ h => List.mem_append_left _ h | (intro r hr; simp [hr]; done)))
  rintro st ⟨ao, c', rfl⟩
  (repeat (first | ((first | (apply wo_v; rfl) ); (· first | (apply pv_ev; rfl) )) | apply wo_nil | apply wc_seq | apply wc_region | apply wc_ret ))
  exact ret1 rfl rfl ⟨ao, c', rfl, rfl, rfl⟩ ((by (repeat (first | apply sub_nil )); done) : List.Perm _ ([_] ++ _)) (by first | exact fun _ h => h | (intro r hr; cases hr; done) | (simp; done) | exact fun _ h => List.mem_append_left _ h | (intro r hr; simp [hr]; done))
end Go.Proofs.Ytlhlidmhlhodiaa

/-
  Package report: Serve.
-/
namespace Go.Proofs.Ytlhlidmhlhodiaa
set_option linter.unusedSimpArgs false
set_option linter.unusedVariables false
open Go.RowKit
attribute [local irreducible] Pv WO WC Fn
set_option maxRecDepth 100000
/-- what is served -/
def svM (mt mg now : Int) : List Int → List Pk → Int → List Pk × List ByteArray
  | [], Q, _ => (Q, [])
  | n :: l, Q, b => match fnd Q n with
    | none => svM mt mg now l Q b
    | some (_, p) => if b < p.2.1.size then (Q, []) else
      if (agM mt mg now n Q).2.2 = 0 then ((svM mt mg now l (agM mt mg now n Q).1 (b - p.2.1.size)).1, p.2.1 :: (svM mt mg now l (agM mt mg now n Q).1 (b - p.2.1.size)).2)
      else svM mt mg now l (agM mt mg now n Q).1 b
theorem svM_no {mt mg now n b : Int} {l : List Int} {Q : List Pk} (h : fnd Q n = none) : svM mt mg now (n :: l) Q b = svM mt mg now l Q b := by
  rw [svM, h]
theorem svM_big {mt mg now n b : Int} {l : List Int} {Q : List Pk} {j : Nat} {p : Pk} (h : fnd Q n = some (j, p)) (hb : b < p.2.1.size) : svM mt mg now (n :: l) Q b = (Q, []) := by
  rw [svM, h]; simp only; rw [if_pos hb]
theorem svM_ok {mt mg now n b : Int} {l : List Int} {Q : List Pk} {j : Nat} {p : Pk} (h : fnd Q n = some (j, p)) (hb : ¬ b < p.2.1.size) (he : (agM mt mg now n Q).2.2 = 0) : svM mt mg now (n :: l) Q b = ((svM mt mg now l (agM mt mg now n Q).1 (b - p.2.1.size)).1, p.2.1 :: (svM mt mg now l (agM mt mg now n Q).1 (b - p.2.1.size)).2) := by
  rw [svM, h]; simp only; rw [if_neg hb, if_pos he]
theorem svM_er {mt mg now n b : Int} {l : List Int} {Q : List Pk} {j : Nat} {p : Pk} (h : fnd Q n = some (j, p)) (hb : ¬ b < p.2.1.size) (he : ¬ (agM mt mg now n Q).2.2 = 0) : svM mt mg now (n :: l) Q b = svM mt mg now l (agM mt mg now n Q).1 b := by
  rw [svM, h]; simp only; rw [if_neg hb, if_neg he]
theorem agM_txt {mt mg now n : Int} {Q : List Pk} {j : Nat} {p : Pk} (h : fnd Q n = some (j, p)) (he : (agM mt mg now n Q).2.2 = 0) : (agM mt mg now n Q).2.1 = p.2.1 := by
  unfold agM at he ⊢
  rw [h] at he ⊢
  simp only at he ⊢
  split
  · rename_i h1; rw [if_pos h1] at he; cases he
  · rename_i h1
    rw [if_neg h1] at he
    split
    · rename_i h2; rw [if_pos h2] at he; cases he
    · rfl
theorem svM_len (mt mg now : Int) : ∀ (l : List Int) (Q : List Pk) (b : Int), (svM mt mg now l Q b).1.length = Q.length ∧ (svM mt mg now l Q b).2.length ≤ l.length
  | [], Q, b => ⟨rfl, Nat.le_refl _⟩
  | n :: l, Q, b => by
    cases h : fnd Q n with
    | none => rw [svM_no h]; have := svM_len mt mg now l Q b; exact ⟨this.1, by rw [List.length_cons]; omega⟩
    | some x =>
      obtain ⟨j, p⟩ := x
      by_cases hb : b < p.2.1.size
      · rw [svM_big h hb]; exact ⟨rfl, Nat.zero_le _⟩
      · have hal := agM_len mt mg now n Q
        by_cases he : (agM mt mg now n Q).2.2 = 0
        · rw [svM_ok h hb he]
          have := svM_len mt mg now l (agM mt mg now n Q).1 (b - p.2.1.size)
          exact ⟨by rw [← hal]; exact this.1, by simp only [List.length_cons]; omega⟩
        · rw [svM_er h hb he]
          have := svM_len mt mg now l (agM mt mg now n Q).1 b
          exact ⟨by rw [← hal]; exact this.1, by rw [List.length_cons]; omega⟩
theorem svM_QB {mt mg now : Int} (hn : 0 ≤ now) (hm : mt ≤ 9) : ∀ (l : List Int) (Q : List Pk) (b : Int), QB Q now → QB (svM mt mg now l Q b).1 now
  | [], Q, b, h => h
  | n :: l, Q, b, hB => by
    cases h : fnd Q n with
    | none => rw [svM_no h]; exact svM_QB hn hm l Q b hB
    | some x =>
      obtain ⟨j, p⟩ := x
      by_cases hb : b < p.2.1.size
      · rw [svM_big h hb]; exact hB
      · by_cases he : (agM mt mg now n Q).2.2 = 0
        · rw [svM_ok h hb he]; exact svM_QB hn hm l _ _ (hB.ag hn hm mg n)
        · rw [svM_er h hb he]; exact svM_QB hn hm l _ _ (hB.ag hn hm mg n)
def sumS : List ByteArray → Int
  | [] => 0
  | s :: l => (s.size : Int) + sumS l
theorem sumS_app : ∀ a b : List ByteArray, sumS (a ++ b) = sumS a + sumS b
  | [], b => (Int.zero_add _).symm
  | s :: a, b => by
    show (s.size : Int) + sumS (a ++ b) = (s.size : Int) + sumS a + sumS b
    rw [sumS_app a b, Int.add_assoc]
theorem sumS_take {l : List ByteArray} {j : Nat} {s : ByteArray} (h : l[j]? = some s) : sumS (l.take (j + 1)) = sumS (l.take j) + s.size := by
  rw [List.take_add_one, h, sumS_app]
  show _ + ((s.size : Int) + 0) = _
  omega
theorem sumS_nn : ∀ l : List ByteArray, 0 ≤ sumS l
  | [] => Int.le_refl _
  | s :: l => by have := sumS_nn l; show 0 ≤ (s.size : Int) + sumS l; omega
theorem svM_sum (mt mg now : Int) : ∀ (l : List Int) (Q : List Pk) (b : Int), sumS (svM mt mg now l Q b).2 ≤ max b 0
  | [], Q, b => by show (0 : Int) ≤ _; omega
  | n :: l, Q, b => by
    cases h : fnd Q n with
    | none => rw [svM_no h]; exact svM_sum mt mg now l Q b
    | some x =>
      obtain ⟨j, p⟩ := x
      by_cases hb : b < p.2.1.size
      · rw [svM_big h hb]; show (0 : Int) ≤ _; omega
      · by_cases he : (agM mt mg now n Q).2.2 = 0
        · rw [svM_ok h hb he]
          have := svM_sum mt mg now l (agM mt mg now n Q).1 (b - p.2.1.size)
          show (p.2.1.size : Int) + sumS _ ≤ _
          omega
        · rw [svM_er h hb he]; exact svM_sum mt mg now l _ b
theorem gstO_snoc (ao : Option Addr) (c : Nat) (l : List ByteArray) (s : ByteArray) : gstO ao c (l ++ [s]) = .own 9 1 ao (l.length + 1) c (gstrs l ++ [[.string s]]) := by simp [gstO]
theorem drop_cons {α : Type} {l : List α} {i : Nat} {x : α} (h : l[i]? = some x) : l.drop i = x :: l.drop (i + 1) := by
  obtain ⟨h1, h2⟩ := List.getElem?_eq_some_iff.1 h
  rw [List.drop_eq_getElem_cons h1, h2]
set_option maxHeartbeats 16000000 in
theorem pServe (g b k : Nat) (S : List (Option Pk)) (put : Nat) (mt mg sent now bytes : Int) (Q : List Pk) (l : List Int) (A : Option Addr) (n c : Nat) (R : List Ro) (x1 : Bool) (x2 : Int) (x3 : Bool) (hk : 1 ≤ k) (hL : Lay S put k Q) (hp : put ≤ 1000000) (hB : QB Q now) (hn : 0 ≤ now ∧ now ≤ 1000000) (hs : 0 ≤ sent ∧ sent ≤ 10000) (hm : mt ≤ 9)
    (hS : SQ R 1 A n c (c16 l)) (hl : l.length ≤ 1000) (hb : -9223372036854775808 ≤ bytes ∧ bytes ≤ 9223372036854775807) :
    Fn Try.prog 49 #[.pointer (some ⟨g, 0, none⟩), .agg #[.slice A n c, .bool x1, .int .u64 x2, .bool x3], .int .i64 now, .int .i64 bytes] (rgH g b k S put mt mg sent) R
      (fun v L' R' => ∃ S' sent' ao c', v = .slice ao (svM mt mg now l Q bytes).2.length c' ∧ L' = rgH g b k S' put mt mg sent' ++ [gstO ao c' (svM mt mg now l Q bytes).2] ∧ R' = [] ∧ Lay S' put k (svM mt mg now l Q bytes).1 ∧ 0 ≤ sent' ∧ sent' ≤ sent + l.length) := by
  have hnl : n = l.length := by rw [← hS.len, c16_len]
  subst hnl
  obtain ⟨QF, out, hF⟩ : ∃ QF out, svM mt mg now l Q bytes = (QF, out) := ⟨_, _, rfl⟩
  rw [hF]
  dsimp only
  refine fn_intro Try.func49 rfl Try.ntmps49 rfl (fun E => ?_)
  (repeat (first | ((first | (apply wo_v; rfl) ); (· first | (apply pv_ev; rfl) | (apply pv_fld; rfl) | (apply g_load; first | (apply pv_ld; rfl; (· (repeat (first | apply sel_here ))); rfl) ) | (apply g_bi; first | (apply pv_len_sl; rfl) ) )) | apply wo_nil | apply wc_seq | apply wc_region | (apply wo_box1; rfl; rfl; rfl; intro bx) | (apply wo_boxa; rfl; rfl; intro bx) ))
  refine wc_own0 9 1 ?_
  refine wc_join0 (fun st => ∃ S' sent' ao c', st = ⟨[(9, .slice ao out.length c')], rgH g b k S' put mt mg sent' ++ [gstO ao c' out], R⟩ ∧ Lay S' put k QF ∧ 0 ≤ sent' ∧ sent' ≤ sent + l.length) ?_ ?_
  · refine wc_block ?_
    refine wc_loop' (fun q st => ∃ (i : Nat) (S' : List (Option Pk)) (ao : Option Addr) (c' : Nat) (o : List ByteArray) (Q2 : List Pk) (s2 b2 : Int), q = l.length - i ∧ i ≤ l.length ∧ (svM mt mg now (l.drop i) Q2 b2).1 = QF ∧ o ++ (svM mt mg now (l.drop i) Q2 b2).2 = out ∧ Lay S' put k Q2 ∧ QB Q2 now ∧ (0 ≤ s2 ∧ s2 ≤ sent + i) ∧ (-9223372036854775808 ≤ b2 ∧ b2 ≤ 9223372036854775807) ∧ o.length ≤ i ∧
        st = ⟨[(0, .pointer (some ⟨g, 0, none⟩)), (2, .int .i64 now), (3, .int .i64 b2), (9, .slice ao o.length c'), (17, .slice A l.length c), (18, .int .i64 l.length), (19, .int .i64 i)], rgH g b k S' put mt mg s2 ++ [gstO ao c' o], R⟩)
      ⟨0, S, none, 0, [], Q, sent, bytes, rfl, Nat.zero_le _, by rw [List.drop_zero, hF], by rw [List.drop_zero, hF]; rfl, hL, hB, by omega, hb, Nat.le_refl _, rfl⟩ (wk_mk (by (repeat (first | apply wkf_nil | (apply wkf_cons; rfl))); done) (by (repeat (first | apply sub_nil | (apply sub_cons; (· (repeat (first | apply sel_here | apply sel_there)))))); done) (by first | exact fun _ h => h | (intro r hr; cases hr; done) | (simp; done) | exact fun _ h => List.mem_append_left _ h | (intro r hr; simp [hr]; done))) ?_
    clear hL hB hF hb
    rintro q st ⟨i, S', ao, c', o, Q2, s2, b2, rfl, hi, h1, h2, hL, hB, hs2, hb, hol, rfl⟩
    by_cases hlt : i < l.length
    · obtain ⟨x, hx⟩ : ∃ x, l[i]? = some x := ⟨_, List.getElem?_eq_getElem hlt⟩
      have hr := c16_at hx
      obtain ⟨a0, o0, rfl, hmem⟩ := hS.pos (by omega)
      rw [drop_cons hx] at h1 h2
      rcases fnd_or x Q2 with ⟨f1, f2⟩ | ⟨j, p, f1, f2⟩
      · rw [svM_no f1] at h1 h2
        (repeat (first | ((first | (apply wo_v; rfl) ); (· first | (apply pv_ev; rfl) | (apply g_load; first | (apply pv_ld; rfl; (· (repeat (first | apply sel_there))); rfl) | (apply pv_ld_ownf; rfl; (· (repeat (first | fail ))); (· assumption); rfl) | (apply pv_ld_own1; rfl; (· (repeat (first | apply sel_there))); (· assumption)) | (apply pv_ld_rof; rfl; (· (first | assumption )); (· assumption); rfl) | (apply pv_ld_ro1; rfl; (· (first | assumption )); (· assumption)) ) | (apply g_idx; first | (apply pv_idx; rfl; rfl; omega) ) )) | apply wo_nil | apply wc_seq | apply wc_region | apply wc_block | apply wc_skip | (apply wc_true; rfl) | (apply wc_false; rfl) | (apply a_dec_t; rfl; (· first | assumption | omega)) ))
        (refine wo_call (ringGet_no g b k S' put mt mg s2 x Q2 hk hL hp f2) rfl (by (repeat (first | apply sub_nil )); done) (by first | exact fun _ h => h | (intro r hr; cases hr; done) | (simp; done) | exact fun _ h => List.mem_append_left _ h | (intro r hr; simp [hr]; done)) rfl ?_; rintro v L' R' ⟨rfl, rfl, rfl⟩ H' hH RR hR; simp only [List.cons_append, List.nil_append] at hH hR; subst hH; have hR := hR.symm; subst hR)
        (repeat (first | ((first | (apply wo_v; rfl) ); (· first | (apply pv_ev; rfl) | (apply g_bin; first | (apply a_add; rfl; rfl; infer_instance; omega) ) | (apply g_un; first | (apply pv_not_t; rfl) | (apply pv_not_f; rfl) ) )) | apply wo_nil | apply wc_seq | apply wc_region | (apply wc_exit; rfl) | (apply wc_true; rfl) ))
        exact loop_end ⟨i + 1, S', ao, c', o, Q2, s2, b2, rfl, by omega, h1, h2, hL, hB, by omega, hb, by omega, rfl⟩ (by omega) (wk_mk (by (repeat (first | apply wkf_nil | (apply wkf_cons; rfl))); done) (by (repeat (first | apply sub_nil )); done) (by first | exact fun _ h => h | (intro r hr; cases hr; done) | (simp; done) | exact fun _ h => List.mem_append_left _ h | (intro r hr; simp [hr]; done)))
      · by_cases hbig : b2 < p.2.1.size
        · rw [svM_big f2 hbig] at h1 h2
          rw [List.append_nil] at h2
          dsimp only at h1 h2
          subst h1 h2
          (repeat (first | ((first | (apply wo_v; rfl) ); (· first | (apply pv_ev; rfl) | (apply g_load; first | (apply pv_ld; rfl; (· (repeat (first | apply sel_there))); rfl) | (apply pv_ld_ownf; rfl; (· (repeat (first | fail ))); (· assumption); rfl) | (apply pv_ld_own1; rfl; (· (repeat (first | apply sel_there))); (· assumption)) | (apply pv_ld_rof; rfl; (· (first | assumption )); (· assumption); rfl) | (apply pv_ld_ro1; rfl; (· (first | assumption )); (· assumption)) ) | (apply g_idx; first | (apply pv_idx; rfl; rfl; omega) ) )) | apply wo_nil | apply wc_seq | apply wc_region | apply wc_block | apply wc_skip | (apply wc_true; rfl) | (apply wc_false; rfl) | (apply a_dec_t; rfl; (· first | assumption | omega)) ))
          (refine wo_call (ringGet_hit g b k S' put mt mg s2 x Q2 hk hL hp j p f1) rfl (by (repeat (first | apply sub_nil )); done) (by first | exact fun _ h => h | (intro r hr; cases hr; done) | (simp; done) | exact fun _ h => List.mem_append_left _ h | (intro r hr; simp [hr]; done)) rfl ?_; rintro v L' R' ⟨rfl, rfl, rfl⟩ H' hH RR hR; simp only [List.cons_append, List.nil_append] at hH hR; subst hH; have hR := hR.symm; subst hR)
          (repeat (first | ((first | (apply wo_v; rfl) ); (· first | (apply pv_ev; rfl) | (apply g_bi; first | (apply pv_len_str; rfl) ) | (apply g_un; first | (apply pv_not_t; rfl) ) )) | apply wo_nil | apply wc_seq | apply wc_region | apply wc_skip | (apply wc_exit; rfl) | (apply wc_true; rfl) | (apply wc_false; rfl) | (apply a_dec_t; rfl; (· first | assumption | omega)) ))
          exact cut_end ⟨S', s2, ao, c', rfl, hL, by omega, by omega⟩ (wk_mk (by (repeat (first | apply wkf_nil | (apply wkf_cons; rfl))); done) (by (repeat (first | apply sub_nil )); done) (by first | exact fun _ h => h | (intro r hr; cases hr; done) | (simp; done) | exact fun _ h => List.mem_append_left _ h | (intro r hr; simp [hr]; done)))
        · have hag := ringAgainM g b k S' put mt mg s2 x now Q2 hk hL hp hB hn (by omega)
          have hB2 := hB.ag hn.1 hm mg x
          by_cases he : (agM mt mg now x Q2).2.2 = 0
          · rw [svM_ok f2 hbig he] at h1 h2
            rw [agM_txt f2 he, he] at hag
            generalize (agM mt mg now x Q2).1 = Q3 at h1 h2 hag hB2
            dsimp only at h1 h2
            (repeat (first | ((first | (apply wo_v; rfl) ); (· first | (apply pv_ev; rfl) | (apply g_load; first | (apply pv_ld; rfl; (· (repeat (first | apply sel_there))); rfl) | (apply pv_ld_ownf; rfl; (· (repeat (first | fail ))); (· assumption); rfl) | (apply pv_ld_own1; rfl; (· (repeat (first | apply sel_there))); (· assumption)) | (apply pv_ld_rof; rfl; (· (first | assumption )); (· assumption); rfl) | (apply pv_ld_ro1; rfl; (· (first | assumption )); (· assumption)) ) | (apply g_idx; first | (apply pv_idx; rfl; rfl; omega) ) )) | apply wo_nil | apply wc_seq | apply wc_region | apply wc_block | apply wc_skip | (apply wc_true; rfl) | (apply wc_false; rfl) | (apply a_dec_t; rfl; (· first | assumption | omega)) ))
            (refine wo_call (ringGet_hit g b k S' put mt mg s2 x Q2 hk hL hp j p f1) rfl (by (repeat (first | apply sub_nil )); done) (by first | exact fun _ h => h | (intro r hr; cases hr; done) | (simp; done) | exact fun _ h => List.mem_append_left _ h | (intro r hr; simp [hr]; done)) rfl ?_; rintro v L' R' ⟨rfl, rfl, rfl⟩ H' hH RR hR; simp only [List.cons_append, List.nil_append] at hH hR; subst hH; have hR := hR.symm; subst hR)
            (repeat (first | ((first | (apply wo_v; rfl) ); (· first | (apply pv_ev; rfl) | (apply g_bi; first | (apply pv_len_str; rfl) ) | (apply g_un; first | (apply pv_not_t; rfl) ) )) | apply wo_nil | apply wc_seq | apply wc_region | apply wc_skip | (apply wc_true; rfl) | (apply wc_false; rfl) | (apply a_dec_t; rfl; (· first | assumption | omega)) | (apply a_dec_f; rfl; (· first | assumption | omega)) ))
            (refine wo_call (hag) rfl (by (repeat (first | apply sub_nil )); done) (by first | exact fun _ h => h | (intro r hr; cases hr; done) | (simp; done) | exact fun _ h => List.mem_append_left _ h | (intro r hr; simp [hr]; done)) rfl ?_; rintro v L' R' ⟨S3, rfl, rfl, rfl, hL3⟩ H' hH RR hR; simp only [List.cons_append, List.nil_append] at hH hR; subst hH; have hR := hR.symm; subst hR)
            (repeat (first | ((first | (apply wo_v; rfl) ); (· first | (apply pv_ev; rfl) | (apply g_bin; first | (apply a_sub; rfl; rfl; infer_instance; omega) ) | (apply g_bi; first | (apply pv_len_str; rfl) ) )) | apply wo_nil | apply wc_seq | apply wc_region | apply wc_skip | (apply wc_true; rfl) | (apply wc_false; rfl) | (apply wo_bsl; (· (repeat (first | apply Rws'.nil | (apply Rws'.one; rfl; rfl; rfl) ))); rfl; rfl; rfl; rfl; intro bx) ))
            refine wo_app rfl rfl (by (repeat (first | apply sel_here | apply sel_there)); done) (by (repeat (first | apply sel_here )); done) (by unfold maxLen; omega) (by omega) rfl (fun ao2 c2 => ?_)
            (repeat (first | ((first | (apply wo_v; rfl) ); (· first | (apply pv_ev; rfl) | (apply g_bin; first | (apply a_add; rfl; rfl; infer_instance; omega) ) )) | apply wo_nil | apply wc_region ))
            rw [show cnt 0 = 1 from rfl]
            exact loop_end ⟨i + 1, S3, ao2, c2, o ++ [p.2.1], Q3, s2 + 1, b2 - p.2.1.size, rfl, by omega, h1, by rw [List.append_assoc]; exact h2, hL3, hB2, by omega, by omega, by rw [List.length_append, List.length_singleton]; omega, by rw [gstO_snoc, List.length_append, List.length_singleton]⟩ (by omega) (wk_mk (by (repeat (first | apply wkf_nil | (apply wkf_cons; rfl))); done) (by (repeat (first | apply sub_nil | (apply sub_cons; (· (repeat (first | apply sel_here | apply sel_there)))))); done) (by first | exact fun _ h => h | (intro r hr; cases hr; done) | (simp; done) | exact fun _ h => List.mem_append_left _ h | (intro r hr; simp [hr]; done)))
          · rw [svM_er f2 hbig he] at h1 h2
            generalize agM mt mg now x Q2 = r at h1 h2 hag hB2 he
            obtain ⟨Q3, s3, e3⟩ := r
            dsimp only at h1 h2 hag hB2 he
            (repeat (first | ((first | (apply wo_v; rfl) ); (· first | (apply pv_ev; rfl) | (apply g_load; first | (apply pv_ld; rfl; (· (repeat (first | apply sel_there))); rfl) | (apply pv_ld_ownf; rfl; (· (repeat (first | fail ))); (· assumption); rfl) | (apply pv_ld_own1; rfl; (· (repeat (first | apply sel_there))); (· assumption)) | (apply pv_ld_rof; rfl; (· (first | assumption )); (· assumption); rfl) | (apply pv_ld_ro1; rfl; (· (first | assumption )); (· assumption)) ) | (apply g_idx; first | (apply pv_idx; rfl; rfl; omega) ) )) | apply wo_nil | apply wc_seq | apply wc_region | apply wc_block | apply wc_skip | (apply wc_true; rfl) | (apply wc_false; rfl) | (apply a_dec_t; rfl; (· first | assumption | omega)) ))
            (refine wo_call (ringGet_hit g b k S' put mt mg s2 x Q2 hk hL hp j p f1) rfl (by (repeat (first | apply sub_nil )); done) (by first | exact fun _ h => h | (intro r hr; cases hr; done) | (simp; done) | exact fun _ h => List.mem_append_left _ h | (intro r hr; simp [hr]; done)) rfl ?_; rintro v L' R' ⟨rfl, rfl, rfl⟩ H' hH RR hR; simp only [List.cons_append, List.nil_append] at hH hR; subst hH; have hR := hR.symm; subst hR)
            (repeat (first | ((first | (apply wo_v; rfl) ); (· first | (apply pv_ev; rfl) | (apply g_bi; first | (apply pv_len_str; rfl) ) | (apply g_un; first | (apply pv_not_t; rfl) ) )) | apply wo_nil | apply wc_seq | apply wc_region | apply wc_skip | (apply wc_true; rfl) | (apply wc_false; rfl) | (apply a_dec_t; rfl; (· first | assumption | omega)) | (apply a_dec_f; rfl; (· first | assumption | omega)) ))
            (refine wo_call (hag) rfl (by (repeat (first | apply sub_nil )); done) (by first | exact fun _ h => h | (intro r hr; cases hr; done) | (simp; done) | exact fun _ h => List.mem_append_left _ h | (intro r hr; simp [hr]; done)) rfl ?_; rintro v L' R' ⟨S3, rfl, rfl, rfl, hL3⟩ H' hH RR hR; simp only [List.cons_append, List.nil_append] at hH hR; subst hH; have hR := hR.symm; subst hR)
            (repeat (first | ((first | (apply wo_v; rfl) ); (· first | (apply pv_ev; rfl) | (apply g_bin; first | (apply a_add; rfl; rfl; infer_instance; omega) ) )) | apply wo_nil | apply wc_seq | apply wc_region | (apply wc_exit; rfl) | (apply wc_true; rfl) | (apply wc_false; rfl) | (apply a_dec_t; rfl; (· first | assumption | omega)) ))
            rw [show cnt e3 = 0 from if_neg he, Int.add_zero]
            exact loop_end ⟨i + 1, S3, ao, c', o, Q3, s2, b2, rfl, by omega, h1, h2, hL3, hB2, by omega, hb, by omega, rfl⟩ (by omega) (wk_mk (by (repeat (first | apply wkf_nil | (apply wkf_cons; rfl))); done) (by (repeat (first | apply sub_nil )); done) (by first | exact fun _ h => h | (intro r hr; cases hr; done) | (simp; done) | exact fun _ h => List.mem_append_left _ h | (intro r hr; simp [hr]; done)))
    · have e : i = l.length := by omega
      subst e
      rw [List.drop_length] at h1 h2
      simp only [svM, List.append_nil] at h1 h2
      subst h1 h2
      (repeat (first | ((first | (apply wo_v; rfl) ); (· first | (apply pv_ev; rfl) )) | apply wo_nil | apply wc_seq | apply wc_region | (apply wc_exit; rfl) | (apply wc_true; rfl) | (apply wc_false; rfl) | (apply a_dec_t; rfl; (· first | assumption | omega)) | (apply a_dec_f; rfl; (· first | assumption | omega)) ))
      exact cut_end ⟨S', s2, ao, c', rfl, hL, by omega, by omega⟩ (wk_mk (by (repeat (first | apply wkf_nil | (apply wkf_cons; rfl))); done) (by (repeat (first | apply sub_nil )); done) (by first | exact fun _ h => h | (intro r hr; cases hr; done) | (simp; done) | exact fun _ h => List.mem_append_left _ h | (intro r hr; simp [hr]; done)))
  rintro st ⟨S', sent', ao, c', rfl, hL', hs1, hs2⟩
  (repeat (first | ((first | (apply wo_v; rfl) ); (· first | (apply pv_ev; rfl) )) | apply wo_nil | apply wc_seq | apply wc_region | apply wc_ret ))
  exact retv rfl (by (repeat (first | apply RV.nil | (apply RV.tmp; rfl) )); done) (⟨S', sent', ao, c', rfl, rfl, rfl, hL', hs1, hs2⟩) (by (repeat (first | apply sub_nil )); done) (by first | exact fun _ h => h | (intro r hr; cases hr; done) | (simp; done) | exact fun _ h => List.mem_append_left _ h | (intro r hr; simp [hr]; done))
end Go.Proofs.Ytlhlidmhlhodiaa

/-
  Package octet, the reader, and its reference.
-/
namespace Go.Proofs.Ytlhlidmhlhodiaa
set_option linter.unusedSimpArgs false
set_option linter.unusedVariables false
set_option linter.unusedSimpArgs false
set_option linter.unusedVariables false
open Go.RowKit
set_option maxRecDepth 100000
attribute [local irreducible] Pv WO WC Fn
attribute [local irreducible] ByteArray.extract

abbrev E0 : ByteArray := ⟨#[]⟩
abbrev rdO (g : Nat) (s : ByteArray) (e : Int) : It := .ob g (.cells #[.string s, .int .i64 e] 260 (0, 0))
abbrev rrL (s : ByteArray) (e : Int) : List Value := [.string s, .int .i64 e]
def rdB (s : ByteArray) (e n : Int) : ByteArray × ByteArray × Int :=
  if e ≠ 0 then (E0, s, e) else if n < 0 then (E0, E0, 5) else if (s.size : Int) < n then (E0, E0, 1) else (s.extract 0 n.toNat, s.extract n.toNat s.size, 0)
def rdF (s : ByteArray) (e x : Int) : ByteArray × Int := if e = 0 ∧ x ≠ 0 then (E0, x) else (s, e)
theorem octRead (s : ByteArray) : Fn Try.prog 62 #[.string s] [] [] (fun v L' R' => ∃ g, v = .pointer (some ⟨g, 0, none⟩) ∧ L' = [rdO g s 0] ∧ R' = []) := by
  refine fn_intro Try.func62 rfl Try.ntmps62 rfl (fun E => ?_)
  (repeat (first | ((first | (apply wo_v; rfl) ); (· first | (apply pv_ev; rfl) | (apply g_build; apply pv_build; (· (repeat (first | apply Bld.nil | (apply Bld.one; rfl; rfl; (· (repeat (first | apply SetAt.here )))) )))) )) | apply wo_nil | apply wc_seq | apply wc_region | apply wc_ret | (apply wo_box1; rfl; rfl; rfl; intro bx) | (apply wo_boxa; rfl; rfl; intro bx) ))
  exact retv rfl (by (repeat (first | apply RV.nil | (apply RV.tmp; rfl) )); done) ⟨_, rfl, rfl, rfl⟩ (by (repeat (first | apply sub_nil )); done) (by first | exact fun _ h => h | (intro r hr; cases hr; done) | (simp; done) | exact fun _ h => List.mem_append_left _ h | (intro r hr; simp [hr]; done))
theorem octLen (g : Nat) (s : ByteArray) (e : Int) : Fn Try.prog 84 #[.pointer (some ⟨g, 0, none⟩)] [rdO g s e] [] (fun v L' R' => v = .int .i64 s.size ∧ L' = [rdO g s e] ∧ R' = []) := by
  refine fn_intro Try.func84 rfl Try.ntmps84 rfl (fun E => ?_)
  (repeat (first | ((first | (apply wo_v; rfl) ); (· first | (apply pv_ev; rfl) | (apply pv_fld; rfl) | (apply g_load; first | (apply pv_ld; rfl; (· (repeat (first | apply sel_here ))); rfl) ) | (apply g_bi; first | (apply pv_len_str; rfl) ) )) | apply wo_nil | apply wc_seq | apply wc_region | apply wc_ret ))
  exact retv rfl (by (repeat (first | apply RV.nil | (apply RV.tmp; rfl) )); done) (⟨rfl, rfl, rfl⟩) (by (repeat (first | apply sub_nil )); done) (by first | exact fun _ h => h | (intro r hr; cases hr; done) | (simp; done) | exact fun _ h => List.mem_append_left _ h | (intro r hr; simp [hr]; done))
theorem octErr (g : Nat) (s : ByteArray) (e : Int) : Fn Try.prog 64 #[.pointer (some ⟨g, 0, none⟩)] [rdO g s e] [] (fun v L' R' => v = .int .i64 e ∧ L' = [rdO g s e] ∧ R' = []) := by
  refine fn_intro Try.func64 rfl Try.ntmps64 rfl (fun E => ?_)
  (repeat (first | ((first | (apply wo_v; rfl) ); (· first | (apply pv_ev; rfl) | (apply pv_fld; rfl) | (apply g_load; first | (apply pv_ld; rfl; (· (repeat (first | apply sel_here ))); rfl) ) )) | apply wo_nil | apply wc_seq | apply wc_region | apply wc_ret ))
  exact retv rfl (by (repeat (first | apply RV.nil | (apply RV.tmp; rfl) )); done) (⟨rfl, rfl, rfl⟩) (by (repeat (first | apply sub_nil )); done) (by first | exact fun _ h => h | (intro r hr; cases hr; done) | (simp; done) | exact fun _ h => List.mem_append_left _ h | (intro r hr; simp [hr]; done))
theorem octFail (g : Nat) (s : ByteArray) (e x : Int) : Fn Try.prog 70 #[.pointer (some ⟨g, 0, none⟩), .int .i64 x] [rdO g s e] [] (fun v L' R' => v = .tuple #[] ∧ L' = [rdO g (rdF s e x).1 (rdF s e x).2] ∧ R' = []) := by
  have h : (e = 0 ∧ x ≠ 0) ∨ (e = 0 ∧ ¬ x ≠ 0) ∨ ¬ e = 0 := by omega
  rcases h with ⟨h1, h2⟩ | ⟨h1, h2⟩ | h1
  · have hf : rdF s e x = (E0, x) := if_pos ⟨h1, h2⟩
    rw [hf]
    refine fn_intro Try.func70 rfl Try.ntmps70 rfl (fun E => ?_)
    (repeat (first | ((first | (apply wo_v; rfl) ); (· first | (apply pv_ev; rfl) | (apply pv_fld; rfl) | (apply g_load; first | (apply pv_ld; rfl; (· (repeat (first | apply sel_here ))); rfl) ) | (apply g_pick; first | (apply pv_pick_t; rfl; rfl) ) )) | apply wo_nil | apply wc_seq | apply wc_region | (apply wc_true; rfl) | (apply wc_false; rfl) | (apply a_dec_t; rfl; (· first | assumption | omega)) | (apply wo_run; rfl; rfl) | (apply wo_skip; rfl; rfl; rfl; rfl) | (apply wo_skip_u; rfl; rfl; rfl) | (apply a_gt; rfl; rfl; (· first | assumption | omega)) | (apply wo_st; rfl; rfl; rfl; (· (repeat (first | apply sel_here ))); (· (repeat (first | apply SetAt.here | apply SetAt.there))); rfl) ))
    exact ret0 rfl ⟨rfl, rfl, rfl⟩ (by (repeat (first | apply sub_nil )); done) (by first | exact fun _ h => h | (intro r hr; cases hr; done) | (simp; done) | exact fun _ h => List.mem_append_left _ h | (intro r hr; simp [hr]; done))
  · have hf : rdF s e x = (s, e) := if_neg (fun h => h2 h.2)
    rw [hf]
    refine fn_intro Try.func70 rfl Try.ntmps70 rfl (fun E => ?_)
    (repeat (first | ((first | (apply wo_v; rfl) ); (· first | (apply pv_ev; rfl) | (apply pv_fld; rfl) | (apply g_load; first | (apply pv_ld; rfl; (· (repeat (first | apply sel_here ))); rfl) ) | (apply g_pick; first | (apply pv_pick_t; rfl; rfl) ) )) | apply wo_nil | apply wc_seq | apply wc_region | apply wc_skip | (apply wc_true; rfl) | (apply wc_false; rfl) | (apply a_dec_t; rfl; (· first | assumption | omega)) | (apply a_dec_f; rfl; (· first | assumption | omega)) | (apply wo_run; rfl; rfl) | (apply wo_skip; rfl; rfl; rfl; rfl) | (apply wo_skip_u; rfl; rfl; rfl) | (apply a_gt; rfl; rfl; (· first | assumption | omega)) ))
    exact ret0 rfl ⟨rfl, rfl, rfl⟩ (by (repeat (first | apply sub_nil )); done) (by first | exact fun _ h => h | (intro r hr; cases hr; done) | (simp; done) | exact fun _ h => List.mem_append_left _ h | (intro r hr; simp [hr]; done))
  · have hf : rdF s e x = (s, e) := if_neg (fun h => h1 h.1)
    rw [hf]
    refine fn_intro Try.func70 rfl Try.ntmps70 rfl (fun E => ?_)
    (repeat (first | ((first | (apply wo_v; rfl) ); (· first | (apply pv_ev; rfl) | (apply pv_fld; rfl) | (apply g_load; first | (apply pv_ld; rfl; (· (repeat (first | apply sel_here ))); rfl) ) | (apply g_pick; first | (apply pv_pick_t; rfl; rfl) | (apply pv_pick_f; rfl; rfl)) )) | apply wo_nil | apply wc_seq | apply wc_region | apply wc_skip | (apply wc_true; rfl) | (apply wc_false; rfl) | (apply wo_run; rfl; rfl) | (apply wo_skip; rfl; rfl; rfl; rfl) | (apply wo_skip_u; rfl; rfl; rfl) | (apply a_gt; rfl; rfl; (· first | assumption | omega)) | (apply a_gf; rfl; rfl; (· first | assumption | omega)) ))
    exact ret0 rfl ⟨rfl, rfl, rfl⟩ (by (repeat (first | apply sub_nil )); done) (by first | exact fun _ h => h | (intro r hr; cases hr; done) | (simp; done) | exact fun _ h => List.mem_append_left _ h | (intro r hr; simp [hr]; done))
set_option maxHeartbeats 2000000 in
theorem octBytes (g : Nat) (s : ByteArray) (e n : Int) (hs : s.size ≤ 1099511627776) : Fn Try.prog 67 #[.pointer (some ⟨g, 0, none⟩), .int .i64 n] [rdO g s e] []
    (fun v L' R' => v = .string (rdB s e n).1 ∧ L' = [rdO g (rdB s e n).2.1 (rdB s e n).2.2] ∧ R' = []) := by
  have h : ¬ e = 0 ∨ (e = 0 ∧ n < 0) ∨ (e = 0 ∧ ¬ n < 0 ∧ (s.size : Int) < n) ∨ (e = 0 ∧ ¬ n < 0 ∧ ¬ (s.size : Int) < n) := by omega
  rcases h with h1 | ⟨rfl, h2⟩ | ⟨rfl, h2, h3⟩ | ⟨rfl, h2, h3⟩
  · have hf : rdB s e n = (E0, s, e) := if_pos h1
    rw [hf]
    refine fn_intro Try.func67 rfl Try.ntmps67 rfl (fun E => ?_)
    (repeat (first | ((first | (apply wo_v; rfl) ); (· first | (apply pv_ev; rfl) | (apply pv_fld; rfl) | (apply g_load; first | (apply pv_ld; rfl; (· (repeat (first | apply sel_here ))); rfl) ) )) | apply wo_nil | apply wc_seq | apply wc_region | apply wc_block | apply wc_ret | (apply wc_true; rfl) | (apply wc_false; rfl) | (apply a_dec_t; rfl; (· first | assumption | omega)) ))
    exact retv rfl (by (repeat (first | apply RV.nil | (apply RV.tmp; rfl) )); done) (⟨rfl, rfl, rfl⟩) (by (repeat (first | apply sub_nil )); done) (by first | exact fun _ h => h | (intro r hr; cases hr; done) | (simp; done) | exact fun _ h => List.mem_append_left _ h | (intro r hr; simp [hr]; done))
  · have hf : rdB s 0 n = (E0, E0, 5) := by unfold rdB; rw [if_neg (by omega), if_pos h2]
    rw [hf]
    refine fn_intro Try.func67 rfl Try.ntmps67 rfl (fun E => ?_)
    (repeat (first | ((first | (apply wo_v; rfl) ); (· first | (apply pv_ev; rfl) | (apply pv_fld; rfl) | (apply g_load; first | (apply pv_ld; rfl; (· (repeat (first | apply sel_here ))); rfl) ) )) | apply wo_nil | apply wc_seq | apply wc_region | apply wc_block | (apply wc_true; rfl) | (apply wc_false; rfl) | (apply a_dec_t; rfl; (· first | assumption | omega)) ))
    (refine wo_call (octFail g s 0 5) rfl (by (repeat (first | apply sub_nil )); done) (by first | exact fun _ h => h | (intro r hr; cases hr; done) | (simp; done) | exact fun _ h => List.mem_append_left _ h | (intro r hr; simp [hr]; done)) rfl ?_; rintro v L' R' ⟨rfl, rfl, rfl⟩ H' hH RR hR; simp only [List.cons_append, List.nil_append] at hH hR; subst hH; have hR := hR.symm; subst hR)
    (repeat (first | ((first | (apply wo_v; rfl) ); (· first | (apply pv_ev; rfl) )) | apply wo_nil | apply wc_seq | apply wc_region | apply wc_ret ))
    exact retv rfl (by (repeat (first | apply RV.nil | (apply RV.tmp; rfl) )); done) (⟨rfl, rfl, rfl⟩) (by (repeat (first | apply sub_nil )); done) (by first | exact fun _ h => h | (intro r hr; cases hr; done) | (simp; done) | exact fun _ h => List.mem_append_left _ h | (intro r hr; simp [hr]; done))
  · have hf : rdB s 0 n = (E0, E0, 1) := by unfold rdB; rw [if_neg (by omega), if_neg h2, if_pos h3]
    rw [hf]
    refine fn_intro Try.func67 rfl Try.ntmps67 rfl (fun E => ?_)
    (repeat (first | ((first | (apply wo_v; rfl) ); (· first | (apply pv_ev; rfl) | (apply pv_fld; rfl) | (apply g_load; first | (apply pv_ld; rfl; (· (repeat (first | apply sel_here ))); rfl) ) | (apply g_bi; first | (apply pv_len_str; rfl) ) )) | apply wo_nil | apply wc_seq | apply wc_region | apply wc_block | (apply wc_true; rfl) | (apply wc_false; rfl) | (apply a_dec_t; rfl; (· first | assumption | omega)) | (apply a_dec_f; rfl; (· first | assumption | omega)) ))
    (refine wo_call (octFail g s 0 1) rfl (by (repeat (first | apply sub_nil )); done) (by first | exact fun _ h => h | (intro r hr; cases hr; done) | (simp; done) | exact fun _ h => List.mem_append_left _ h | (intro r hr; simp [hr]; done)) rfl ?_; rintro v L' R' ⟨rfl, rfl, rfl⟩ H' hH RR hR; simp only [List.cons_append, List.nil_append] at hH hR; subst hH; have hR := hR.symm; subst hR)
    (repeat (first | ((first | (apply wo_v; rfl) ); (· first | (apply pv_ev; rfl) )) | apply wo_nil | apply wc_seq | apply wc_region | apply wc_ret ))
    exact retv rfl (by (repeat (first | apply RV.nil | (apply RV.tmp; rfl) )); done) (⟨rfl, rfl, rfl⟩) (by (repeat (first | apply sub_nil )); done) (by first | exact fun _ h => h | (intro r hr; cases hr; done) | (simp; done) | exact fun _ h => List.mem_append_left _ h | (intro r hr; simp [hr]; done))
  · have hf : rdB s 0 n = (s.extract 0 n.toNat, s.extract n.toNat s.size, 0) := by unfold rdB; rw [if_neg (by omega), if_neg h2, if_neg h3]
    rw [hf]
    refine fn_intro Try.func67 rfl Try.ntmps67 rfl (fun E => ?_)
    (repeat (first | ((first | (apply wo_v; rfl) ); (· first | (apply pv_ev; rfl) | (apply pv_fld; rfl) | (apply g_load; first | (apply pv_ld; rfl; (· (repeat (first | apply sel_here ))); rfl) ) | (apply g_bi; first | (apply pv_len_str; rfl) ) | (apply pv_cs_lo; rfl; rfl; omega) | (apply pv_cs_hi; rfl; rfl; omega) )) | apply wo_nil | apply wc_seq | apply wc_region | apply wc_block | apply wc_skip | apply wc_ret | (apply wc_true; rfl) | (apply wc_false; rfl) | (apply a_dec_t; rfl; (· first | assumption | omega)) | (apply a_dec_f; rfl; (· first | assumption | omega)) | (apply wo_st; rfl; rfl; rfl; (· (repeat (first | apply sel_here ))); (· (repeat (first | apply SetAt.here ))); rfl) ))
    exact retv rfl (by (repeat (first | apply RV.nil | (apply RV.tmp; rfl) )); done) (⟨rfl, rfl, rfl⟩) (by (repeat (first | apply sub_nil )); done) (by first | exact fun _ h => h | (intro r hr; cases hr; done) | (simp; done) | exact fun _ h => List.mem_append_left _ h | (intro r hr; simp [hr]; done))
/-! the reference -/
end Go.Proofs.Ytlhlidmhlhodiaa

/-
  Package octet: the reader's numbers, and the reference's.
-/
namespace Go.Proofs.Ytlhlidmhlhodiaa
set_option linter.unusedSimpArgs false
set_option linter.unusedVariables false
set_option linter.unusedSimpArgs false
set_option linter.unusedVariables false
open Go.RowKit
set_option maxRecDepth 100000
attribute [local irreducible] Pv WO WC Fn
attribute [local irreducible] ByteArray.extract

def valK (s : ByteArray) : Nat → Int
  | 0 => 0
  | k + 1 => valK s k * 256 + sb s k
theorem valK_b (s : ByteArray) : (∀ k, 0 ≤ valK s k) ∧ valK s 1 ≤ 255 ∧ valK s 2 ≤ 65535 ∧ valK s 3 ≤ 16777215 ∧ valK s 4 ≤ 4294967295 ∧ valK s 5 ≤ 1099511627775 ∧ valK s 6 ≤ 281474976710655 ∧ valK s 7 ≤ 72057594037927935 ∧ valK s 8 ≤ 18446744073709551615 := by
  have h := sb_b s
  refine ⟨fun k => ?_, ?_⟩
  · induction k with
    | zero => exact Int.le_refl _
    | succ k ih => have := h k; simp only [valK]; omega
  · have h0 := h 0; have h1 := h 1; have h2 := h 2; have h3 := h 3; have h4 := h 4; have h5 := h 5; have h6 := h 6; have h7 := h 7
    simp only [valK]
    omega
theorem valK_le7 (s : ByteArray) {k : Nat} (hk : k ≤ 7) : 0 ≤ valK s k ∧ valK s k ≤ 72057594037927935 := by
  obtain ⟨h0, h1, h2, h3, h4, h5, h6, h7, h8⟩ := valK_b s
  have := h0 k
  obtain rfl | rfl | rfl | rfl | rfl | rfl | rfl | rfl : k = 0 ∨ k = 1 ∨ k = 2 ∨ k = 3 ∨ k = 4 ∨ k = 5 ∨ k = 6 ∨ k = 7 := by omega
  · simp [valK]
  all_goals omega
theorem valK_le8 (s : ByteArray) {k : Nat} (hk : k ≤ 8) : 0 ≤ valK s k ∧ valK s k ≤ 18446744073709551615 := by
  by_cases h : k ≤ 7
  · have := valK_le7 s h; omega
  · obtain rfl : k = 8 := by omega
    have := valK_b s; exact ⟨this.1 8, this.2.2.2.2.2.2.2.2⟩
theorem rdB_size (s : ByteArray) (e n : Int) (hn : 0 ≤ n) : (((rdB s e n).1).size : Int) ≤ n := by
  have hE : E0.size = 0 := rfl
  unfold rdB
  split
  · simpa [hE] using hn
  · split
    · simpa [hE] using hn
    · split
      · simpa [hE] using hn
      · simp only [ByteArray.size_extract]; omega
theorem rdB_size2 (s : ByteArray) (e n : Int) : ((rdB s e n).2.1).size ≤ s.size := by
  have hE : E0.size = 0 := rfl
  unfold rdB
  split
  · exact Nat.le_refl _
  · split
    · simp [hE]
    · split
      · simp [hE]
      · simp only [ByteArray.size_extract]; omega
set_option maxHeartbeats 1000000 in
theorem octNum (g : Nat) (s b s2 : ByteArray) (e n e2 : Int) (hs : s.size ≤ 1099511627776) (hq : rdB s e (min (max n 1) 8) = (b, s2, e2)) : Fn Try.prog 121 #[.pointer (some ⟨g, 0, none⟩), .int .i64 n] [rdO g s e] []
    (fun v L' R' => v = .int .u64 (valK b b.size) ∧ L' = [rdO g s2 e2] ∧ R' = []) := by
  have hB := octBytes g s e (min (max n 1) 8) hs
  have hz := rdB_size s e (min (max n 1) 8) (by omega)
  rw [hq] at hB hz
  simp only at hB hz
  have hz8 : b.size ≤ 8 := by omega
  clear hz hq
  refine fn_intro Try.func121 rfl Try.ntmps121 rfl (fun E => ?_)
  (repeat (first | ((first | (apply wo_v; rfl) ); (· first | (apply pv_ev; rfl) | (apply g_bi; first | (apply pv_min; rfl; rfl) | (apply pv_max; rfl; rfl)) )) | apply wo_nil | apply wc_seq | apply wc_region ))
  (refine wo_call (hB) rfl (by (repeat (first | apply sub_nil )); done) (by first | exact fun _ h => h | (intro r hr; cases hr; done) | (simp; done) | exact fun _ h => List.mem_append_left _ h | (intro r hr; simp [hr]; done)) rfl ?_; rintro v L' R' ⟨rfl, rfl, rfl⟩ H' hH RR hR; simp only [List.cons_append, List.nil_append] at hH hR; subst hH; have hR := hR.symm; subst hR)
  (repeat (first | ((first | (apply wo_v; rfl) ); (· first | (apply pv_ev; rfl) | (apply g_bi; first | (apply pv_len_sl; rfl) ) | (apply g_conv; first | (apply a_conv; rfl; infer_instance; infer_instance; infer_instance; omega) | (apply a_conv_u; rfl; infer_instance; infer_instance; infer_instance) | (apply a_conv_w; rfl; infer_instance; infer_instance) ) )) | apply wo_nil | apply wc_block | (apply wo_conv_sb; rfl; rfl; intro bc cc hcc) ))
  refine wc_loop' (fun m st => ∃ (k : Nat), m = b.size - k ∧ st = ⟨[(5, .int .u64 (valK b k)), (13, .slice (some ⟨bc, 0, none⟩) b.size cc), (14, .int .i64 b.size), (15, .int .i64 k)], [rdO g s2 e2], [⟨bc, 0, 1, brows b⟩]⟩ ∧ k ≤ b.size)
    ⟨0, rfl, rfl, Nat.zero_le _⟩ (wk_mk (by (repeat (first | apply wkf_nil | (apply wkf_cons; rfl))); done) (by (repeat (first | apply sub_nil )); done) (by first | exact fun _ h => h | (intro r hr; cases hr; done) | (simp; done) | exact fun _ h => List.mem_append_left _ h | (intro r hr; simp [hr]; done))) ?_
  rintro m st ⟨k, rfl, rfl, hk⟩
  by_cases hlt : k < b.size
  · have hr := brows_at hlt
    have hv := valK_le7 b (show k ≤ 7 by omega)
    have hb := sb_b b k
    (repeat (first | ((first | (apply wo_v; rfl) ); (· first | (apply pv_ev; rfl) | (apply g_load; first | (apply pv_ld; rfl; (· (repeat (first | apply sel_there))); rfl) | (apply pv_ld_ownf; rfl; (· (repeat (first | fail ))); (· assumption); rfl) | (apply pv_ld_own1; rfl; (· (repeat (first | apply sel_there))); (· assumption)) | (apply pv_ld_rof; rfl; (· (first | assumption )); (· assumption); rfl) | (apply pv_ld_ro1; rfl; (· (first | assumption | ((repeat (first | apply List.Mem.head )); done))); (· assumption)) ) | (apply g_bin; first | (apply a_add; rfl; rfl; infer_instance; omega) | (apply (a_or 8); rfl; rfl; infer_instance; rfl; omega) | (apply a_shl; rfl; rfl; rfl; omega; rfl; infer_instance; omega) ) | (apply g_conv; first | (apply a_conv; rfl; infer_instance; infer_instance; infer_instance; omega) ) | (apply g_idx; first | (apply pv_idx; rfl; rfl; omega) ) )) | apply wo_nil | apply wc_seq | apply wc_region | apply wc_block | apply wc_skip | (apply wc_true; rfl) | (apply wc_false; rfl) | (apply a_dec_t; rfl; (· first | assumption | omega)) ))
    exact loop_end ⟨k + 1, rfl, rfl, by omega⟩ (by omega) (wk_mk (by (repeat (first | apply wkf_nil | (apply wkf_cons; rfl))); done) (by (repeat (first | apply sub_nil )); done) (by first | exact fun _ h => h | (intro r hr; cases hr; done) | (simp; done) | exact fun _ h => List.mem_append_left _ h | (intro r hr; simp [hr]; done)))
  · obtain rfl : k = b.size := by omega
    (repeat (first | ((first | (apply wo_v; rfl) ); (· first | (apply pv_ev; rfl) )) | apply wo_nil | apply wc_seq | apply wc_region | (apply wc_exit; rfl) | apply wc_ret | (apply wc_true; rfl) | (apply wc_false; rfl) | (apply a_dec_t; rfl; (· first | assumption | omega)) | (apply a_dec_f; rfl; (· first | assumption | omega)) ))
    exact retv rfl (by (repeat (first | apply RV.nil | (apply RV.tmp; rfl) )); done) (⟨rfl, rfl, rfl⟩) (by (repeat (first | apply sub_nil )); done) (by first | exact fun _ h => h | (intro r hr; cases hr; done) | (simp; done) | exact fun _ h => List.mem_append_left _ h | (intro r hr; simp [hr]; done))
theorem octU8 (g : Nat) (s b s2 : ByteArray) (e e2 : Int) (hs : s.size ≤ 1099511627776) (hq : rdB s e 1 = (b, s2, e2)) : Fn Try.prog 63 #[.pointer (some ⟨g, 0, none⟩)] [rdO g s e] []
    (fun v L' R' => v = .int .u8 (valK b b.size) ∧ L' = [rdO g s2 e2] ∧ R' = []) := by
  have hN := octNum g s b s2 e 1 e2 hs (by rw [show min (max (1 : Int) 1) 8 = 1 from rfl]; exact hq)
  have hz := rdB_size s e 1 (by omega)
  rw [hq] at hz
  have hv : 0 ≤ valK b b.size ∧ valK b b.size ≤ 255 := by
    obtain ⟨h0, h1, _⟩ := valK_b b
    have h2 := h0 b.size
    obtain h | h : b.size = 0 ∨ b.size = 1 := by simp only at hz; omega
    · rw [h]; simp [valK]
    · rw [h] at h2 ⊢; omega
  refine fn_intro Try.func63 rfl Try.ntmps63 rfl (fun E => ?_)
  (repeat (first | ((first | (apply wo_v; rfl) ); (· first | (apply pv_ev; rfl) )) | apply wo_nil | apply wc_seq | apply wc_region ))
  (refine wo_call (hN) rfl (by (repeat (first | apply sub_nil )); done) (by first | exact fun _ h => h | (intro r hr; cases hr; done) | (simp; done) | exact fun _ h => List.mem_append_left _ h | (intro r hr; simp [hr]; done)) rfl ?_; rintro v L' R' ⟨rfl, rfl, rfl⟩ H' hH RR hR; simp only [List.cons_append, List.nil_append] at hH hR; subst hH; have hR := hR.symm; subst hR)
  (repeat (first | ((first | (apply wo_v; rfl) ); (· first | (apply pv_ev; rfl) | (apply g_conv; first | (apply a_conv; rfl; infer_instance; infer_instance; infer_instance; omega) ) )) | apply wo_nil | apply wc_ret ))
  exact retv rfl (by (repeat (first | apply RV.nil | (apply RV.tmp; rfl) )); done) (⟨rfl, rfl, rfl⟩) (by (repeat (first | apply sub_nil )); done) (by first | exact fun _ h => h | (intro r hr; cases hr; done) | (simp; done) | exact fun _ h => List.mem_append_left _ h | (intro r hr; simp [hr]; done))
theorem octU16 (g : Nat) (s b s2 : ByteArray) (e e2 : Int) (hs : s.size ≤ 1099511627776) (hq : rdB s e 2 = (b, s2, e2)) : Fn Try.prog 65 #[.pointer (some ⟨g, 0, none⟩)] [rdO g s e] []
    (fun v L' R' => v = .int .u16 (valK b b.size) ∧ L' = [rdO g s2 e2] ∧ R' = []) := by
  have hN := octNum g s b s2 e 2 e2 hs (by rw [show min (max (2 : Int) 1) 8 = 2 from rfl]; exact hq)
  have hz := rdB_size s e 2 (by omega)
  rw [hq] at hz
  have hv : 0 ≤ valK b b.size ∧ valK b b.size ≤ 65535 := by
    obtain ⟨h0, h1, h1', _⟩ := valK_b b
    have h2 := h0 b.size
    obtain h | h | h : b.size = 0 ∨ b.size = 1 ∨ b.size = 2 := by simp only at hz; omega
    · rw [h]; simp [valK]
    · rw [h] at h2 ⊢; omega
    · rw [h] at h2 ⊢; omega
  refine fn_intro Try.func65 rfl Try.ntmps65 rfl (fun E => ?_)
  (repeat (first | ((first | (apply wo_v; rfl) ); (· first | (apply pv_ev; rfl) )) | apply wo_nil | apply wc_seq | apply wc_region ))
  (refine wo_call (hN) rfl (by (repeat (first | apply sub_nil )); done) (by first | exact fun _ h => h | (intro r hr; cases hr; done) | (simp; done) | exact fun _ h => List.mem_append_left _ h | (intro r hr; simp [hr]; done)) rfl ?_; rintro v L' R' ⟨rfl, rfl, rfl⟩ H' hH RR hR; simp only [List.cons_append, List.nil_append] at hH hR; subst hH; have hR := hR.symm; subst hR)
  (repeat (first | ((first | (apply wo_v; rfl) ); (· first | (apply pv_ev; rfl) | (apply g_conv; first | (apply a_conv; rfl; infer_instance; infer_instance; infer_instance; omega) ) )) | apply wo_nil | apply wc_ret ))
  exact retv rfl (by (repeat (first | apply RV.nil | (apply RV.tmp; rfl) )); done) (⟨rfl, rfl, rfl⟩) (by (repeat (first | apply sub_nil )); done) (by first | exact fun _ h => h | (intro r hr; cases hr; done) | (simp; done) | exact fun _ h => List.mem_append_left _ h | (intro r hr; simp [hr]; done))
theorem octU32 (g : Nat) (s b s2 : ByteArray) (e e2 : Int) (hs : s.size ≤ 1099511627776) (hq : rdB s e 4 = (b, s2, e2)) : Fn Try.prog 66 #[.pointer (some ⟨g, 0, none⟩)] [rdO g s e] []
    (fun v L' R' => v = .int .u32 (valK b b.size) ∧ L' = [rdO g s2 e2] ∧ R' = []) := by
  have hN := octNum g s b s2 e 4 e2 hs (by rw [show min (max (4 : Int) 1) 8 = 4 from rfl]; exact hq)
  have hz := rdB_size s e 4 (by omega)
  rw [hq] at hz
  have hv : 0 ≤ valK b b.size ∧ valK b b.size ≤ 4294967295 := by
    obtain ⟨h0, h1, h1', h1'', h1''', _⟩ := valK_b b
    have h2 := h0 b.size
    obtain h | h | h | h | h : b.size = 0 ∨ b.size = 1 ∨ b.size = 2 ∨ b.size = 3 ∨ b.size = 4 := by simp only at hz; omega
    · rw [h]; simp [valK]
    all_goals (rw [h] at h2 ⊢; omega)
  refine fn_intro Try.func66 rfl Try.ntmps66 rfl (fun E => ?_)
  (repeat (first | ((first | (apply wo_v; rfl) ); (· first | (apply pv_ev; rfl) )) | apply wo_nil | apply wc_seq | apply wc_region ))
  (refine wo_call (hN) rfl (by (repeat (first | apply sub_nil )); done) (by first | exact fun _ h => h | (intro r hr; cases hr; done) | (simp; done) | exact fun _ h => List.mem_append_left _ h | (intro r hr; simp [hr]; done)) rfl ?_; rintro v L' R' ⟨rfl, rfl, rfl⟩ H' hH RR hR; simp only [List.cons_append, List.nil_append] at hH hR; subst hH; have hR := hR.symm; subst hR)
  (repeat (first | ((first | (apply wo_v; rfl) ); (· first | (apply pv_ev; rfl) | (apply g_conv; first | (apply a_conv; rfl; infer_instance; infer_instance; infer_instance; omega) ) )) | apply wo_nil | apply wc_ret ))
  exact retv rfl (by (repeat (first | apply RV.nil | (apply RV.tmp; rfl) )); done) (⟨rfl, rfl, rfl⟩) (by (repeat (first | apply sub_nil )); done) (by first | exact fun _ h => h | (intro r hr; cases hr; done) | (simp; done) | exact fun _ h => List.mem_append_left _ h | (intro r hr; simp [hr]; done))
theorem octRest (g : Nat) (s : ByteArray) (e : Int) (hs : s.size ≤ 1099511627776) : Fn Try.prog 68 #[.pointer (some ⟨g, 0, none⟩)] [rdO g s e] []
    (fun v L' R' => v = .string (rdB s e s.size).1 ∧ L' = [rdO g (rdB s e s.size).2.1 (rdB s e s.size).2.2] ∧ R' = []) := by
  have hB := octBytes g s e s.size hs
  refine fn_intro Try.func68 rfl Try.ntmps68 rfl (fun E => ?_)
  (repeat (first | ((first | (apply wo_v; rfl) ); (· first | (apply pv_ev; rfl) )) | apply wo_nil | apply wc_seq | apply wc_region ))
  (refine wo_call (octLen g s e) rfl (by (repeat (first | apply sub_nil )); done) (by first | exact fun _ h => h | (intro r hr; cases hr; done) | (simp; done) | exact fun _ h => List.mem_append_left _ h | (intro r hr; simp [hr]; done)) rfl ?_; rintro v L' R' ⟨rfl, rfl, rfl⟩ H' hH RR hR; simp only [List.cons_append, List.nil_append] at hH hR; subst hH; have hR := hR.symm; subst hR)
  (repeat (first | ((first | (apply wo_v; rfl) ); (· first | (apply pv_ev; rfl) )) ))
  (refine wo_call (hB) rfl (by (repeat (first | apply sub_nil )); done) (by first | exact fun _ h => h | (intro r hr; cases hr; done) | (simp; done) | exact fun _ h => List.mem_append_left _ h | (intro r hr; simp [hr]; done)) rfl ?_; rintro v L' R' ⟨rfl, rfl, rfl⟩ H' hH RR hR; simp only [List.cons_append, List.nil_append] at hH hR; subst hH; have hR := hR.symm; subst hR)
  (repeat (first | ((first | (apply wo_v; rfl) ); (· first | (apply pv_ev; rfl) )) | apply wo_nil | apply wc_ret ))
  exact retv rfl (by (repeat (first | apply RV.nil | (apply RV.tmp; rfl) )); done) (⟨rfl, rfl, rfl⟩) (by (repeat (first | apply sub_nil )); done) (by first | exact fun _ h => h | (intro r hr; cases hr; done) | (simp; done) | exact fun _ h => List.mem_append_left _ h | (intro r hr; simp [hr]; done))
def rdE (s : ByteArray) (e : Int) : Int := if e = 0 ∧ s ≠ E0 then 2 else e
theorem octEnd (g : Nat) (s : ByteArray) (e : Int) (he : e ≠ 0 → s = E0) : Fn Try.prog 87 #[.pointer (some ⟨g, 0, none⟩)] [rdO g s e] []
    (fun v L' R' => v = .int .i64 (rdE s e) ∧ L' = [rdO g E0 (rdE s e)] ∧ R' = []) := by
  by_cases h1 : s = E0
  · have hf : rdE s e = e := if_neg (fun h => h.2 h1)
    rw [hf]
    subst h1
    refine fn_intro Try.func87 rfl Try.ntmps87 rfl (fun E => ?_)
    (repeat (first | ((first | (apply wo_v; rfl) ); (· first | (apply pv_ev; rfl) | (apply pv_fld; rfl) | (apply g_load; first | (apply pv_ld; rfl; (· (repeat (first | apply sel_here ))); rfl) ) | (apply g_bin; first | (apply pv_neq_s; rfl; rfl) ) )) | apply wo_nil | apply wc_seq | apply wc_region | apply wc_skip | apply wc_ret | (apply wc_true; rfl) | (apply wc_false; rfl) ))
    exact retv rfl (by (repeat (first | apply RV.nil | (apply RV.tmp; rfl) )); done) (⟨rfl, rfl, rfl⟩) (by (repeat (first | apply sub_nil )); done) (by first | exact fun _ h => h | (intro r hr; cases hr; done) | (simp; done) | exact fun _ h => List.mem_append_left _ h | (intro r hr; simp [hr]; done))
  · have h2 : e = 0 := by
      by_cases h2 : e = 0
      · exact h2
      · exact absurd (he h2) h1
    subst h2
    have hf : rdE s 0 = 2 := if_pos ⟨rfl, h1⟩
    rw [hf]
    have hF := octFail g s 0 2
    rw [show rdF s 0 2 = (E0, 2) from if_pos ⟨rfl, by omega⟩] at hF
    refine fn_intro Try.func87 rfl Try.ntmps87 rfl (fun E => ?_)
    (repeat (first | ((first | (apply wo_v; rfl) ); (· first | (apply pv_ev; rfl) | (apply pv_fld; rfl) | (apply g_load; first | (apply pv_ld; rfl; (· (repeat (first | apply sel_here ))); rfl) ) | (apply g_bin; first | (apply pv_neq_s; rfl; rfl) ) )) | apply wo_nil | apply wc_seq | apply wc_region | (apply wc_true; rfl) | (apply wc_false; rfl) | (apply a_dec_t; rfl; (· first | assumption | omega)) ))
    (refine wo_call (hF) rfl (by (repeat (first | apply sub_nil )); done) (by first | exact fun _ h => h | (intro r hr; cases hr; done) | (simp; done) | exact fun _ h => List.mem_append_left _ h | (intro r hr; simp [hr]; done)) rfl ?_; rintro v L' R' ⟨rfl, rfl, rfl⟩ H' hH RR hR; simp only [List.cons_append, List.nil_append] at hH hR; subst hH; have hR := hR.symm; subst hR)
    (repeat (first | ((first | (apply wo_v; rfl) ); (· first | (apply pv_ev; rfl) | (apply pv_fld; rfl) | (apply g_load; first | (apply pv_ld; rfl; (· (repeat (first | apply sel_here ))); rfl) ) )) | apply wo_nil | apply wc_seq | apply wc_region | apply wc_ret ))
    exact retv rfl (by (repeat (first | apply RV.nil | (apply RV.tmp; rfl) )); done) (⟨rfl, rfl, rfl⟩) (by (repeat (first | apply sub_nil )); done) (by first | exact fun _ h => h | (intro r hr; cases hr; done) | (simp; done) | exact fun _ h => List.mem_append_left _ h | (intro r hr; simp [hr]; done))
/-! the reference -/
def cutS (s : ByteArray) (n : Nat) : ByteArray := if n < s.size then s.extract 0 n else s
theorem cutS_size (s : ByteArray) (n : Nat) : (cutS s n).size ≤ n := by
  unfold cutS
  split
  · simp only [ByteArray.size_extract]; omega
  · omega
theorem octCut (s : ByteArray) (n : Nat) : Fn Try.prog 11 #[.string s, .int .i64 n] [] [] (fun v L' R' => v = .string (cutS s n) ∧ L' = [] ∧ R' = []) := by
  by_cases h : n < s.size
  · rw [show cutS s n = s.extract 0 n from if_pos h]
    refine fn_intro Try.func11 rfl Try.ntmps11 rfl (fun E => ?_)
    (repeat (first | ((first | (apply wo_v; rfl) ); (· first | (apply pv_ev; rfl) | (apply g_bi; first | (apply pv_len_str; rfl) ) | (apply pv_cs_hi; rfl; rfl; omega) )) | apply wo_nil | apply wc_seq | apply wc_region | apply wc_ret | (apply wc_true; rfl) | (apply wc_false; rfl) | (apply a_dec_t; rfl; (· first | assumption | omega)) ))
    exact retv rfl (by (repeat (first | apply RV.nil | (apply RV.tmp; rfl) )); done) (⟨by simp [outV], rfl, rfl⟩) (by (repeat (first | apply sub_nil )); done) (by first | exact fun _ h => h | (intro r hr; cases hr; done) | (simp; done) | exact fun _ h => List.mem_append_left _ h | (intro r hr; simp [hr]; done))
  · rw [show cutS s n = s from if_neg h]
    refine fn_intro Try.func11 rfl Try.ntmps11 rfl (fun E => ?_)
    (repeat (first | ((first | (apply wo_v; rfl) ); (· first | (apply pv_ev; rfl) | (apply g_bi; first | (apply pv_len_str; rfl) ) )) | apply wo_nil | apply wc_seq | apply wc_region | apply wc_skip | apply wc_ret | (apply wc_true; rfl) | (apply wc_false; rfl) | (apply a_dec_t; rfl; (· first | assumption | omega)) | (apply a_dec_f; rfl; (· first | assumption | omega)) ))
    exact retv rfl (by (repeat (first | apply RV.nil | (apply RV.tmp; rfl) )); done) (⟨rfl, rfl, rfl⟩) (by (repeat (first | apply sub_nil )); done) (by first | exact fun _ h => h | (intro r hr; cases hr; done) | (simp; done) | exact fun _ h => List.mem_append_left _ h | (intro r hr; simp [hr]; done))
end Go.Proofs.Ytlhlidmhlhodiaa

/-
  Package octet, the writer (over strings.Builder).
-/
namespace Go.Proofs.Ytlhlidmhlhodiaa
set_option linter.unusedSimpArgs false
set_option linter.unusedVariables false
set_option linter.unusedSimpArgs false
set_option linter.unusedVariables false
open Go.RowKit
attribute [local irreducible] Pv WO WC Fn
attribute [local irreducible] ByteArray.extract

instance : TUns Try.prog 338 := ⟨by kernel_rfl⟩
abbrev wrT : TypeId := 145
abbrev wrO (g : Nat) (p ao : Option Addr) (n c : Nat) : It := .ob g (.cells #[.pointer p, .slice ao n c] wrT (0, 0))
abbrev wrH (g : Nat) (p ao : Option Addr) (c : Nat) (s : ByteArray) : List It := [wrO g p ao s.size c, .own 5 1 ao s.size c (brows s)]
structure WOk (g : Nat) (p ao : Option Addr) (c : Nat) (s : ByteArray) : Prop where
  p : p = none ∨ p = some ⟨g, 0, none⟩
  b : (ao = none ∧ c = 0 ∧ s = E0) ∨ (∃ b, ao = some ⟨b, 0, none⟩ ∧ 0 < s.size)
theorem WOk.h0 {g : Nat} {p ao : Option Addr} {c : Nat} {s : ByteArray} (h : WOk g p ao c s) : ao = none ∨ ∃ b, ao = some ⟨b, 0, none⟩ := by
  rcases h.b with ⟨h, _⟩ | ⟨b, h, _⟩
  · exact .inl h
  · exact .inr ⟨b, h⟩
theorem E0_append (s : ByteArray) : E0 ++ s = s := by
  apply ByteArray.ext; simp
theorem append_E0 (s : ByteArray) : s ++ E0 = s := by
  apply ByteArray.ext; simp
theorem size_zero {s : ByteArray} (h : s.size = 0) : s = E0 := by
  apply ByteArray.ext
  exact Array.eq_empty_of_size_eq_zero h
set_option maxRecDepth 100000 in
theorem noEsc {fr : List (Nat × Value)} {hp : List It} {ro : List Ro} {x : Operand} {v : Value} {ats : Array TypeId} (hx : opd fr x = some v) : Pv Try.prog ⟨fr, hp, ro⟩ (.call ⟨.value (.func 170), #[x], ats⟩) v :=
  pv_ext Try.func170 (by kernel_rfl) (by kernel_rfl) (by kernel_rfl) (e := Extern.AbiNoEscape.same) (by kernel_rfl) hx (fun w => rfl)
theorem wrLies : liesAt Try.prog Try.prog.depth wrT (2 / Try.prog.cellsOf wrT) 0 143 1 = true := by kernel_rfl
set_option maxRecDepth 100000 in
theorem bCheck (g n c : Nat) (p ao : Option Addr) (hp : p = none ∨ p = some ⟨g, 0, none⟩) : Fn Try.prog 149 #[.pointer (some ⟨g, 0, none⟩)] [wrO g p ao n c] [] (fun v L' R' => v = .tuple #[] ∧ L' = [wrO g (some ⟨g, 0, none⟩) ao n c] ∧ R' = []) := by
  rcases hp with rfl | rfl
  · refine fn_intro Try.func149 rfl Try.ntmps149 rfl (fun E => ?_)
    (repeat (first | ((first | (apply wo_v; rfl) ); (· first | (apply pv_ev; rfl) | (apply pv_fld; rfl) | (apply g_load; first | (apply pv_ld; rfl; (· (repeat (first | apply sel_here ))); rfl) ) | (apply g_bin; first | (apply pv_eql_p; rfl; rfl) ) | (apply g_conv; first | (apply a_conv; rfl; infer_instance; infer_instance; infer_instance; omega) | (apply a_conv_u; rfl; infer_instance; infer_instance; infer_instance) | (apply a_conv_w; rfl; infer_instance; infer_instance) ) )) | apply wo_nil | apply wc_seq | apply wc_region | (apply wc_true; rfl) ))
    refine wo_v rfl (pv_tou rfl (by (repeat (first | apply sel_here )); done) rfl) ?_
    refine wo_v rfl (noEsc rfl) ?_
    refine wo_v rfl (pv_fromu rfl (by (repeat (first | apply sel_here )); done) wrLies) ?_
    (repeat (first | ((first | (apply wo_v; rfl) ); (· first | (apply pv_ev; rfl) | (apply pv_fld; rfl) )) | apply wo_nil | (apply wo_st; rfl; rfl; rfl; (· (repeat (first | apply sel_here ))); (· (repeat (first | apply SetAt.here ))); rfl) ))
    exact ret0 rfl ⟨rfl, rfl, rfl⟩ (by (repeat (first | apply sub_nil )); done) (by first | exact fun _ h => h | (intro r hr; cases hr; done) | (simp; done) | exact fun _ h => List.mem_append_left _ h | (intro r hr; simp [hr]; done))
  · refine fn_intro Try.func149 rfl Try.ntmps149 rfl (fun E => ?_)
    (repeat (first | ((first | (apply wo_v; rfl) ); (· first | (apply pv_ev; rfl) | (apply pv_fld; rfl) | (apply g_load; first | (apply pv_ld; rfl; (· (repeat (first | apply sel_here ))); rfl) ) | (apply g_bin; first | (apply pv_eql_p; rfl; rfl) | (apply pv_neq_p; rfl; rfl) | (apply pv_neq_pp; rfl; rfl) ) )) | apply wo_nil | apply wc_seq | apply wc_region | apply wc_skip | (apply wc_true; rfl) | (apply wc_false; rfl) ))
    exact ret0 rfl ⟨rfl, rfl, rfl⟩ (by (repeat (first | apply sub_nil )); done) (by first | exact fun _ h => h | (intro r hr; cases hr; done) | (simp; done) | exact fun _ h => List.mem_append_left _ h | (intro r hr; simp [hr]; done))
theorem bWriteString (g c : Nat) (p ao : Option Addr) (s z : ByteArray) (hw : WOk g p ao c s) (hz : s.size + z.size ≤ 1099511627776) : Fn Try.prog 122 #[.pointer (some ⟨g, 0, none⟩), .string z] (wrH g p ao c s) []
    (fun v L' R' => ∃ p' ao' c', v = .tuple #[.int .i64 z.size, .nilIface] ∧ L' = wrH g p' ao' c' (s ++ z) ∧ R' = [] ∧ WOk g p' ao' c' (s ++ z)) := by
  have e1 : brows s ++ brows z = brows (s ++ z) := (brows_append s z).symm
  have e2 : s.size + z.size = (s ++ z).size := by simp
  refine fn_intro Try.func122 rfl Try.ntmps122 rfl (fun E => ?_)
  (repeat (first | ((first | (apply wo_v; rfl) ); (· first | (apply pv_ev; rfl) )) | apply wo_nil | apply wc_seq | apply wc_region ))
  (refine wo_call (bCheck g s.size c p ao hw.p) rfl (by (repeat (first | apply sub_nil )); done) (by first | exact fun _ h => h | (intro r hr; cases hr; done) | (simp; done) | exact fun _ h => List.mem_append_left _ h | (intro r hr; simp [hr]; done)) rfl ?_; rintro v L' R' ⟨rfl, rfl, rfl⟩ H' hH RR hR; simp only [List.cons_append, List.nil_append] at hH hR; subst hH; have hR := hR.symm; subst hR)
  (repeat (first | ((first | (apply wo_v; rfl) ); (· first | (apply pv_ev; rfl) | (apply pv_fld; rfl) | (apply g_load; first | (apply pv_ld; rfl; (· (repeat (first | apply sel_here ))); rfl) ) | (apply g_bi; first | fail ) )) | apply wo_nil | apply wc_seq | apply wc_region ))
  refine wo_app_str rfl rfl (by (repeat (first | apply sel_here | apply sel_there)); done) hw.h0 hz rfl (fun ao' c' h1 h2 h3 => ?_)
  rw [e1, e2]
  rw [e2] at h1
  (repeat (first | ((first | (apply wo_v; rfl) ); (· first | (apply pv_ev; rfl) | (apply pv_fld; rfl) | (apply g_bi; first | (apply pv_len_str; rfl) ) )) | apply wo_nil | apply wc_seq | apply wc_region | apply wc_ret | (apply wo_st; rfl; rfl; rfl; (· (repeat (first | apply sel_here | apply sel_there))); (· (repeat (first | apply SetAt.here | apply SetAt.there))); rfl) ))
  refine retv rfl (by (repeat (first | apply RV.nil | (apply RV.tmp; rfl) )); done) ⟨some ⟨g, 0, none⟩, ao', c', rfl, rfl, rfl, ⟨.inr rfl, ?_⟩⟩ (by (repeat (first | apply sub_nil )); done) (by first | exact fun _ h => h | (intro r hr; cases hr; done) | (simp; done) | exact fun _ h => List.mem_append_left _ h | (intro r hr; simp [hr]; done))
  rcases h1 with ⟨h1, h4⟩ | ⟨b, h1⟩
  · exact .inl ⟨h1, h3 h1, size_zero h4⟩
  · refine .inr ⟨b, h1, ?_⟩
    rcases hw.b with ⟨h5, _, h6⟩ | ⟨_, _, h6⟩
    · have h7 : z.size ≠ 0 := fun h => by rw [h2 h5 h] at h1; cases h1
      omega
    · omega
theorem bLen (g n c : Nat) (p ao : Option Addr) : Fn Try.prog 131 #[.pointer (some ⟨g, 0, none⟩)] [wrO g p ao n c] [] (fun v L' R' => v = .int .i64 n ∧ L' = [wrO g p ao n c] ∧ R' = []) := by
  refine fn_intro Try.func131 rfl Try.ntmps131 rfl (fun E => ?_)
  (repeat (first | ((first | (apply wo_v; rfl) ); (· first | (apply pv_ev; rfl) | (apply pv_fld; rfl) | (apply g_load; first | (apply pv_ld; rfl; (· (repeat (first | apply sel_here ))); rfl) ) | (apply g_bi; first | (apply pv_len_sl; rfl) ) )) | apply wo_nil | apply wc_seq | apply wc_region | apply wc_ret ))
  exact retv rfl (by (repeat (first | apply RV.nil | (apply RV.tmp; rfl) )); done) (⟨rfl, rfl, rfl⟩) (by (repeat (first | apply sub_nil )); done) (by first | exact fun _ h => h | (intro r hr; cases hr; done) | (simp; done) | exact fun _ h => List.mem_append_left _ h | (intro r hr; simp [hr]; done))
theorem bString (g c : Nat) (p ao : Option Addr) (s : ByteArray) (hw : WOk g p ao c s) : Fn Try.prog 119 #[.pointer (some ⟨g, 0, none⟩)] (wrH g p ao c s) []
    (fun v L' R' => v = .string s ∧ L' = [wrO g p ao s.size c] ∧ R' = []) := by
  rcases hw.b with ⟨rfl, rfl, rfl⟩ | ⟨b, rfl, h0⟩
  · refine fn_intro Try.func119 rfl Try.ntmps119 rfl (fun E => ?_)
    (repeat (first | ((first | (apply wo_v; rfl) ); (· first | (apply pv_ev; rfl) )) | apply wo_nil | apply wc_seq | apply wc_region ))
    (refine wc_quiet mixed (by kernel_rfl) ?_; (repeat (first | ((first | (apply hd_v; rfl) ); (· first | (apply pv_ev; rfl) | (apply pv_fld; rfl) | (apply g_load; first | (apply pv_ld; rfl; (· (repeat (first | apply sel_here ))); rfl) ) | (apply g_bi; first | (apply pv_sld; rfl; omega) | (apply pv_sld0; rfl) | (apply pv_ustr0; rfl; rfl) | (apply pv_len_sl; rfl) ) )) | apply Hd.nil | apply wc_ret )))
    exact retv rfl (by (repeat (first | apply RV.nil | (apply RV.tmp; rfl) )); done) (⟨rfl, rfl, rfl⟩) (by (repeat (first | apply sub_nil )); done) (by first | exact fun _ h => h | (intro r hr; cases hr; done) | (simp; done) | exact fun _ h => List.mem_append_left _ h | (intro r hr; simp [hr]; done))
  · refine fn_intro Try.func119 rfl Try.ntmps119 rfl (fun E => ?_)
    (repeat (first | ((first | (apply wo_v; rfl) ); (· first | (apply pv_ev; rfl) )) | apply wo_nil | apply wc_seq | apply wc_region ))
    refine wc_own (t := 5) (sz := 1) (ao := some ⟨b, 0, none⟩) (n := s.size) (k := c) (xs := brows s) (by (repeat (first | apply sel_here | apply sel_there)); done) (fun hl1 hl2 hl3 => ?_)
    (refine wc_tail 10 mixed (by kernel_rfl) ?_; (repeat (first | ((first | (apply wo_v; rfl) | (apply hd_v; rfl) ); (· first | (apply pv_ev; rfl) | (apply pv_fld; rfl) | (apply g_load; first | (apply pv_ld; rfl; (· (repeat (first | apply sel_here ))); rfl) ) | (apply g_bi; first | (apply pv_sld; rfl; omega) | (apply pv_ustr0; rfl; rfl) | (apply pv_len_sl; rfl) ) )) | apply Hd.nil )))
    refine wo_ustr (e := 5) (by kernel_rfl) rfl rfl (by (repeat (first | apply sel_here | apply sel_there)); done) h0 rfl ?_
    (repeat (first | ((first | (apply wo_v; rfl) ); (· first | (apply pv_ev; rfl) )) | apply wo_nil | apply wc_ret ))
    exact retv rfl (by (repeat (first | apply RV.nil | (apply RV.tmp; rfl) )); done) (⟨rfl, rfl, rfl⟩) (by (repeat (first | apply sub_nil )); done) (by first | exact fun _ h => h | (intro r hr; cases hr; done) | (simp; done) | exact fun _ h => List.mem_append_left _ h | (intro r hr; simp [hr]; done))
end Go.Proofs.Ytlhlidmhlhodiaa

/-
  Package octet: the writer's methods.
-/
namespace Go.Proofs.Ytlhlidmhlhodiaa
set_option linter.unusedSimpArgs false
set_option linter.unusedVariables false
set_option linter.unusedSimpArgs false
set_option linter.unusedVariables false
open Go.RowKit
set_option maxRecDepth 100000
attribute [local irreducible] Pv WO WC Fn
attribute [local irreducible] ByteArray.extract

/-- one byte -/
def b1 (x : Int) : ByteArray := ⟨#[UInt8.ofNat x.toNat]⟩
theorem b1_size (x : Int) : (b1 x).size = 1 := rfl
theorem b1_rows {x : Int} (h : 0 ≤ x ∧ x ≤ 255) : brows (b1 x) = [[.int .u8 x]] := by
  have e : (((UInt8.ofNat x.toNat).toNat : Nat) : Int) = x := by
    simp only [UInt8.toNat_ofNat']; omega
  show [[Value.int .u8 (((UInt8.ofNat x.toNat).toNat : Nat) : Int)]] = _
  rw [e]
set_option maxHeartbeats 1000000 in
theorem bWriteByte (g c : Nat) (p ao : Option Addr) (s : ByteArray) (x : Int) (hx : 0 ≤ x ∧ x ≤ 255) (hw : WOk g p ao c s) (hz : s.size + 1 ≤ 1099511627776) : Fn Try.prog 130 #[.pointer (some ⟨g, 0, none⟩), .int .u8 x] (wrH g p ao c s) []
    (fun v L' R' => ∃ p' ao' c', v = .nilIface ∧ L' = wrH g p' ao' c' (s ++ b1 x) ∧ R' = [] ∧ WOk g p' ao' c' (s ++ b1 x)) := by
  have e1 : brows s ++ [[.int .u8 x]] = brows (s ++ b1 x) := by rw [brows_append, b1_rows hx]
  have e2 : s.size + 1 = (s ++ b1 x).size := by simp [b1_size]
  refine fn_intro Try.func130 rfl Try.ntmps130 rfl (fun E => ?_)
  (repeat (first | ((first | (apply wo_v; rfl) ); (· first | (apply pv_ev; rfl) )) | apply wo_nil | apply wc_seq | apply wc_region ))
  (refine wo_call (bCheck g s.size c p ao hw.p) rfl (by (repeat (first | apply sub_nil )); done) (by first | exact fun _ h => h | (intro r hr; cases hr; done) | (simp; done) | exact fun _ h => List.mem_append_left _ h | (intro r hr; simp [hr]; done)) rfl ?_; rintro v L' R' ⟨rfl, rfl, rfl⟩ H' hH RR hR; simp only [List.cons_append, List.nil_append] at hH hR; subst hH; have hR := hR.symm; subst hR)
  (repeat (first | ((first | (apply wo_v; rfl) ); (· first | (apply pv_ev; rfl) | (apply pv_fld; rfl) | (apply g_load; first | (apply pv_ld; rfl; (· (repeat (first | apply sel_here ))); rfl) ) | (apply g_bi; first | fail ) )) | apply wo_nil | apply wc_seq | apply wc_region | (apply wo_bsl; (· (repeat (first | apply Rws'.nil | (apply Rws'.one; rfl; rfl; rfl) ))); rfl; rfl; rfl; rfl; intro bx) ))
  refine wo_app0 rfl rfl (by (repeat (first | apply sel_here | apply sel_there)); done) (by (repeat (first | apply sel_here )); done) (by unfold maxLen; omega) (by omega) rfl (fun ao' c' h1 h2 h3 => ?_)
  rw [e1, e2]
  (repeat (first | ((first | (apply wo_v; rfl) ); (· first | (apply pv_ev; rfl) | (apply pv_fld; rfl) )) | apply wo_nil | apply wc_seq | apply wc_region | apply wc_ret | (apply wo_st; rfl; rfl; rfl; (· (repeat (first | apply sel_here | apply sel_there))); (· (repeat (first | apply SetAt.here | apply SetAt.there))); rfl) ))
  refine retv rfl (by (repeat (first | apply RV.nil | (apply RV.tmp; rfl) )); done) ⟨some ⟨g, 0, none⟩, ao', c', rfl, rfl, rfl, ⟨.inr rfl, .inr ?_⟩⟩ (by (repeat (first | apply sub_nil )); done) (by first | exact fun _ h => h | (intro r hr; cases hr; done) | (simp; done) | exact fun _ h => List.mem_append_left _ h | (intro r hr; simp [hr]; done))
  cases ao' with
  | none => have := h2 rfl; omega
  | some a =>
    rcases h1 a rfl with ⟨b, h⟩ | h
    · exact ⟨b, h, by omega⟩
    · rcases hw.b with ⟨h5, _, _⟩ | ⟨b, h5, _⟩
      · rw [h5] at h; cases h
      · exact ⟨b, h.trans h5, by omega⟩
abbrev byO (bl c : Nat) (z : ByteArray) : It := .own 5 1 (some ⟨bl, 0, none⟩) z.size c (brows z)
set_option maxHeartbeats 1000000 in
theorem bWrite (g c bl c2 : Nat) (p ao : Option Addr) (s z : ByteArray) (hw : WOk g p ao c s) (hz0 : 0 < z.size) (hz : s.size + z.size ≤ 1099511627776) : Fn Try.prog 118 #[.pointer (some ⟨g, 0, none⟩), .slice (some ⟨bl, 0, none⟩) z.size c2] (wrH g p ao c s ++ [byO bl c2 z]) []
    (fun v L' R' => ∃ p' ao' c', v = .tuple #[.int .i64 z.size, .nilIface] ∧ L' = wrH g p' ao' c' (s ++ z) ∧ R' = [] ∧ WOk g p' ao' c' (s ++ z)) := by
  have e1 : brows s ++ brows z = brows (s ++ z) := (brows_append s z).symm
  have e2 : s.size + z.size = (s ++ z).size := by simp
  refine fn_intro Try.func118 rfl Try.ntmps118 rfl (fun E => ?_)
  (repeat (first | ((first | (apply wo_v; rfl) ); (· first | (apply pv_ev; rfl) )) | apply wo_nil | apply wc_seq | apply wc_region ))
  (refine wo_call (bCheck g s.size c p ao hw.p) rfl (by (repeat (first | apply sub_nil )); done) (by first | exact fun _ h => h | (intro r hr; cases hr; done) | (simp; done) | exact fun _ h => List.mem_append_left _ h | (intro r hr; simp [hr]; done)) rfl ?_; rintro v L' R' ⟨rfl, rfl, rfl⟩ H' hH RR hR; simp only [List.cons_append, List.nil_append] at hH hR; subst hH; have hR := hR.symm; subst hR)
  (repeat (first | ((first | (apply wo_v; rfl) ); (· first | (apply pv_ev; rfl) | (apply pv_fld; rfl) | (apply g_load; first | (apply pv_ld; rfl; (· (repeat (first | apply sel_here ))); rfl) ) | (apply g_bi; first | fail ) )) | apply wo_nil | apply wc_seq | apply wc_region ))
  refine wo_app0 rfl rfl (ao := ao) (n := s.size) (c := c) (xs := brows s) (by (repeat (first | apply sel_here | apply sel_there)); done) (c2 := c2) (m := z.size) (ys := brows z) (by (repeat (first | apply sel_here | apply sel_there)); done) (by unfold maxLen; omega) (by omega) rfl (fun ao' c' h1 h2 h3 => ?_)
  rw [e1, e2]
  (repeat (first | ((first | (apply wo_v; rfl) ); (· first | (apply pv_ev; rfl) | (apply pv_fld; rfl) | (apply g_bi; first | (apply pv_len_sl; rfl) ) )) | apply wo_nil | apply wc_seq | apply wc_region | apply wc_ret | (apply wo_st; rfl; rfl; rfl; (· (repeat (first | apply sel_here | apply sel_there))); (· (repeat (first | apply SetAt.here | apply SetAt.there))); rfl) ))
  refine retv rfl (by (repeat (first | apply RV.nil | (apply RV.tmp; rfl) )); done) ⟨some ⟨g, 0, none⟩, ao', c', rfl, rfl, rfl, ⟨.inr rfl, .inr ?_⟩⟩ (by (repeat (first | apply sub_nil )); done) (by first | exact fun _ h => h | (intro r hr; cases hr; done) | (simp; done) | exact fun _ h => List.mem_append_left _ h | (intro r hr; simp [hr]; done))
  cases ao' with
  | none => have := h2 rfl; omega
  | some a =>
    rcases h1 a rfl with ⟨b, h⟩ | h
    · exact ⟨b, h, by omega⟩
    · rcases hw.b with ⟨h5, _, _⟩ | ⟨b, h5, _⟩
      · rw [h5] at h; cases h
      · exact ⟨b, h.trans h5, by omega⟩
theorem wU8 (g c bl c2 : Nat) (p ao : Option Addr) (s z : ByteArray) (hw : WOk g p ao c s) (hz0 : 0 < z.size) (hz : s.size + z.size ≤ 1099511627776) : Fn Try.prog 57 #[.pointer (some ⟨g, 0, none⟩), .slice (some ⟨bl, 0, none⟩) z.size c2] (wrH g p ao c s ++ [byO bl c2 z]) []
    (fun v L' R' => ∃ p' ao' c', v = .pointer (some ⟨g, 0, none⟩) ∧ L' = wrH g p' ao' c' (s ++ z) ∧ R' = [] ∧ WOk g p' ao' c' (s ++ z)) := by
  refine fn_intro Try.func57 rfl Try.ntmps57 rfl (fun E => ?_)
  (repeat (first | ((first | (apply wo_v; rfl) ); (· first | (apply pv_ev; rfl) | (apply pv_fld; rfl) )) | apply wo_nil | apply wc_seq | apply wc_region ))
  (refine wo_call (bWrite g c bl c2 p ao s z hw hz0 hz) rfl (by (repeat (first | apply sub_nil )); done) (by first | exact fun _ h => h | (intro r hr; cases hr; done) | (simp; done) | exact fun _ h => List.mem_append_left _ h | (intro r hr; simp [hr]; done)) rfl ?_; rintro v L' R' ⟨p', ao', c', rfl, rfl, rfl, hw2⟩ H' hH RR hR; simp only [List.cons_append, List.nil_append] at hH hR; subst hH; have hR := hR.symm; subst hR)
  (repeat (first | ((first | (apply wo_v; rfl) ); (· first | (apply pv_ev; rfl) )) | apply wo_nil | apply wc_seq | apply wc_region | apply wc_ret ))
  exact retv rfl (by (repeat (first | apply RV.nil | (apply RV.tmp; rfl) )); done) ⟨p', ao', c', rfl, rfl, rfl, hw2⟩ (by (repeat (first | apply sub_nil )); done) (by first | exact fun _ h => h | (intro r hr; cases hr; done) | (simp; done) | exact fun _ h => List.mem_append_left _ h | (intro r hr; simp [hr]; done))
theorem wLen (g c : Nat) (p ao : Option Addr) (n : Nat) : Fn Try.prog 90 #[.pointer (some ⟨g, 0, none⟩)] [wrO g p ao n c] [] (fun v L' R' => v = .int .i64 n ∧ L' = [wrO g p ao n c] ∧ R' = []) := by
  refine fn_intro Try.func90 rfl Try.ntmps90 rfl (fun E => ?_)
  (repeat (first | ((first | (apply wo_v; rfl) ); (· first | (apply pv_ev; rfl) | (apply pv_fld; rfl) )) | apply wo_nil | apply wc_seq | apply wc_region ))
  (refine wo_call (bLen g n c p ao) rfl (by (repeat (first | apply sub_nil )); done) (by first | exact fun _ h => h | (intro r hr; cases hr; done) | (simp; done) | exact fun _ h => List.mem_append_left _ h | (intro r hr; simp [hr]; done)) rfl ?_; rintro v L' R' ⟨rfl, rfl, rfl⟩ H' hH RR hR; simp only [List.cons_append, List.nil_append] at hH hR; subst hH; have hR := hR.symm; subst hR)
  (repeat (first | ((first | (apply wo_v; rfl) ); (· first | (apply pv_ev; rfl) )) | apply wo_nil | apply wc_ret ))
  exact retv rfl (by (repeat (first | apply RV.nil | (apply RV.tmp; rfl) )); done) (⟨rfl, rfl, rfl⟩) (by (repeat (first | apply sub_nil )); done) (by first | exact fun _ h => h | (intro r hr; cases hr; done) | (simp; done) | exact fun _ h => List.mem_append_left _ h | (intro r hr; simp [hr]; done))
theorem wText (g c : Nat) (p ao : Option Addr) (s : ByteArray) (hw : WOk g p ao c s) : Fn Try.prog 60 #[.pointer (some ⟨g, 0, none⟩)] (wrH g p ao c s) []
    (fun v L' R' => v = .string s ∧ L' = [wrO g p ao s.size c] ∧ R' = []) := by
  refine fn_intro Try.func60 rfl Try.ntmps60 rfl (fun E => ?_)
  (repeat (first | ((first | (apply wo_v; rfl) ); (· first | (apply pv_ev; rfl) | (apply pv_fld; rfl) )) | apply wo_nil | apply wc_seq | apply wc_region ))
  (refine wo_call (bString g c p ao s hw) rfl (by (repeat (first | apply sub_nil )); done) (by first | exact fun _ h => h | (intro r hr; cases hr; done) | (simp; done) | exact fun _ h => List.mem_append_left _ h | (intro r hr; simp [hr]; done)) rfl ?_; rintro v L' R' ⟨rfl, rfl, rfl⟩ H' hH RR hR; simp only [List.cons_append, List.nil_append] at hH hR; subst hH; have hR := hR.symm; subst hR)
  (repeat (first | ((first | (apply wo_v; rfl) ); (· first | (apply pv_ev; rfl) )) | apply wo_nil | apply wc_ret ))
  exact retv rfl (by (repeat (first | apply RV.nil | (apply RV.tmp; rfl) )); done) (⟨rfl, rfl, rfl⟩) (by (repeat (first | apply sub_nil )); done) (by first | exact fun _ h => h | (intro r hr; cases hr; done) | (simp; done) | exact fun _ h => List.mem_append_left _ h | (intro r hr; simp [hr]; done))
/-- a number's bytes, the highest first -/
def numS : Nat → Int → ByteArray
  | 0, _ => E0
  | k + 1, x => numS k (x / 256) ++ b1 (x % 256)
theorem numS_size : ∀ (k : Nat) (x : Int), (numS k x).size = k
  | 0, _ => rfl
  | k + 1, x => by simp [numS, numS_size k, b1_size]
def sh (x : Int) : Nat → Int
  | 0 => x
  | k + 1 => sh x k / 256
theorem sh_nonneg {x : Int} (h : 0 ≤ x) : ∀ k, 0 ≤ sh x k
  | 0 => h
  | k + 1 => by have := sh_nonneg h k; simp only [sh]; omega
theorem sh_fdiv {x : Int} (h : 0 ≤ x) : ∀ k : Nat, k ≤ 7 → x.fdiv (2 ^ (min ((8 * (k : Int)).toNat) IntKind.u64.bits)) = sh x k := by
  intro k hk
  have e : min ((8 * (k : Int)).toNat) IntKind.u64.bits = 8 * k := by
    have : IntKind.u64.bits = 64 := rfl
    omega
  rw [e, Int.fdiv_eq_ediv_of_nonneg _ (Int.le_of_lt (Int.pow_pos (by omega)))]
  clear e
  induction k with
  | zero => simp [sh]
  | succ k ih =>
    rw [sh, ← ih (by omega), show 8 * (k + 1) = 8 * k + 8 by omega, Int.pow_add, ← Int.ediv_ediv_of_nonneg (Int.le_of_lt (Int.pow_pos (by omega)))]
    rfl
end Go.Proofs.Ytlhlidmhlhodiaa

/-
  Package octet: Writer.Num, and what is made of it.
-/
namespace Go.Proofs.Ytlhlidmhlhodiaa
set_option linter.unusedSimpArgs false
set_option linter.unusedVariables false
set_option linter.unusedSimpArgs false
set_option linter.unusedVariables false
open Go.RowKit
set_option maxRecDepth 100000
attribute [local irreducible] Pv WO WC Fn
attribute [local irreducible] ByteArray.extract

def numsS (k : Nat) : List Int → ByteArray
  | [] => E0
  | x :: xs => numS k x ++ numsS k xs
theorem numsS_append (k : Nat) : ∀ a b : List Int, numsS k (a ++ b) = numsS k a ++ numsS k b
  | [], b => (E0_append _).symm
  | x :: a, b => by
    show numS k x ++ numsS k (a ++ b) = (numS k x ++ numsS k a) ++ numsS k b
    rw [numsS_append k a b, ByteArray.append_assoc]
theorem numsS_size (k : Nat) : ∀ a : List Int, (numsS k a).size = k * a.length
  | [] => rfl
  | x :: a => by
    simp only [numsS, ByteArray.size_append, numS_size, numsS_size k a, List.length_cons]
    rw [Nat.mul_add]; omega
theorem numsS_take {k : Nat} {xs : List Int} {j : Nat} {x : Int} (h : xs[j]? = some x) : numsS k (xs.take (j + 1)) = numsS k (xs.take j) ++ numS k x := by
  rw [List.take_add_one, h, numsS_append]
  show numsS k (xs.take j) ++ (numS k x ++ E0) = _
  rw [append_E0]
abbrev uO (bl c : Nat) (xs : List Int) : It := .own 78 1 (some ⟨bl, 0, none⟩) xs.length c (xs.map fun x => [.int .u64 x])
theorem WOk.ex (g : Nat) (s : ByteArray) : ∃ p ao c, WOk g p ao c s := by
  by_cases h : s.size = 0
  · exact ⟨none, none, 0, .inl rfl, .inl ⟨rfl, rfl, size_zero h⟩⟩
  · exact ⟨none, some ⟨0, 0, none⟩, 0, .inl rfl, .inr ⟨0, rfl, by omega⟩⟩
set_option maxHeartbeats 2000000 in
theorem wNum (g c bl c2 : Nat) (p ao : Option Addr) (s : ByteArray) (n : Int) (k : Nat) (xs : List Int) (hk : min (max n 1) 8 = (k : Int)) (hx : ∀ x ∈ xs, 0 ≤ x ∧ x ≤ 18446744073709551615) (hl : xs.length ≤ 1000000) (hw : WOk g p ao c s) (hz : s.size ≤ 1099000000000) :
    Fn Try.prog 120 #[.pointer (some ⟨g, 0, none⟩), .int .i64 n, .slice (some ⟨bl, 0, none⟩) xs.length c2] (wrH g p ao c s ++ [uO bl c2 xs]) []
    (fun v L' R' => ∃ p' ao' c', v = .pointer (some ⟨g, 0, none⟩) ∧ L' = wrH g p' ao' c' (s ++ numsS k xs) ∧ R' = [] ∧ WOk g p' ao' c' (s ++ numsS k xs)) := by
  have hk1 : 1 ≤ k ∧ k ≤ 8 := by omega
  refine fn_intro Try.func120 rfl Try.ntmps120 rfl (fun E => ?_)
  (repeat (first | ((first | (apply wo_v; rfl) ); (· first | (apply pv_ev; rfl) | (apply g_bi; first | (apply pv_len_sl; rfl) | (apply pv_min; rfl; rfl) | (apply pv_max; rfl; rfl)) )) | apply wo_nil | apply wc_seq | apply wc_region | apply wc_block ))
  rw [hk]
  refine wc_loop' (fun m st => ∃ (j : Nat) (p' ao' : Option Addr) (c' : Nat), m = xs.length - j ∧ st = ⟨[(0, .pointer (some ⟨g, 0, none⟩)), (1, .int .i64 k), (13, .slice (some ⟨bl, 0, none⟩) xs.length c2), (14, .int .i64 xs.length), (15, .int .i64 j)], wrH g p' ao' c' (s ++ numsS k (xs.take j)) ++ [uO bl c2 xs], []⟩ ∧ j ≤ xs.length ∧ WOk g p' ao' c' (s ++ numsS k (xs.take j)))
    ⟨0, p, ao, c, rfl, by rw [List.take_zero, show numsS k [] = E0 from rfl, append_E0], Nat.zero_le _, by rw [List.take_zero, show numsS k [] = E0 from rfl, append_E0]; exact hw⟩ (wk_mk (by (repeat (first | apply wkf_nil | (apply wkf_cons; rfl))); done) (by (repeat (first | apply sub_nil )); done) (by first | exact fun _ h => h | (intro r hr; cases hr; done) | (simp; done) | exact fun _ h => List.mem_append_left _ h | (intro r hr; simp [hr]; done))) ?_
  clear hw p ao c hk
  rintro m st ⟨j, p, ao, c, rfl, rfl, hj, hw⟩
  by_cases hlt : j < xs.length
  · obtain ⟨x, he⟩ : ∃ x, xs[j]? = some x := ⟨_, List.getElem?_eq_getElem hlt⟩
    have hr : (xs.map fun x => [Value.int .u64 x])[j]? = some [.int .u64 x] := by simp [he]
    have hxb := hx x (List.mem_of_getElem? he)
    have hS : (s ++ numsS k (xs.take j)).size + 8 ≤ 1099511627776 := by
      rw [ByteArray.size_append, numsS_size, List.length_take]
      have : k * min j xs.length ≤ 8 * 1000000 := Nat.mul_le_mul hk1.2 (by omega)
      omega
    have hnext := numsS_take (k := k) he
    obtain ⟨S0, hS0⟩ : ∃ S0, s ++ numsS k (xs.take j) = S0 := ⟨_, rfl⟩
    have hnx : s ++ numsS k (xs.take (j + 1)) = S0 ++ numS k x := by rw [hnext, ← ByteArray.append_assoc, hS0]
    rw [hS0] at hw hS ⊢
    clear hnext hS0
    (repeat (first | ((first | (apply wo_v; rfl) ); (· first | (apply pv_ev; rfl) | (apply g_load; first | (apply pv_ld; rfl; (· (repeat (first | apply sel_there))); rfl) | (apply pv_ld_ownf; rfl; (· (repeat (first | fail ))); (· assumption); rfl) | (apply pv_ld_own1; rfl; (· (repeat (first | apply sel_here | apply sel_there))); (· assumption)) ) | (apply g_bin; first | (apply a_sub; rfl; rfl; infer_instance; omega) ) | (apply g_idx; first | (apply pv_idx; rfl; rfl; omega) ) )) | apply wo_nil | apply wc_seq | apply wc_region | apply wc_block | apply wc_skip | (apply wc_true; rfl) | (apply wc_false; rfl) | (apply a_dec_t; rfl; (· first | assumption | omega)) ))
    refine wc_loop' (fun m st => ∃ (t : Nat) (z : Int) (p' ao' : Option Addr) (c' : Nat), m = k - t ∧ st = ⟨[(0, .pointer (some ⟨g, 0, none⟩)), (1, .int .i64 k), (8, .int .u64 x), (9, .int .i64 z), (13, .slice (some ⟨bl, 0, none⟩) xs.length c2), (14, .int .i64 xs.length), (15, .int .i64 j)], wrH g p' ao' c' (S0 ++ numS t (sh x (k - t))) ++ [uO bl c2 xs], []⟩ ∧ t ≤ k ∧ z = (k : Int) - 1 - (t : Int) ∧ WOk g p' ao' c' (S0 ++ numS t (sh x (k - t))))
      ⟨0, (k : Int) - 1, p, ao, c, rfl, by rw [show numS 0 (sh x (k - 0)) = E0 from rfl, append_E0], Nat.zero_le _, by omega, by rw [show numS 0 (sh x (k - 0)) = E0 from rfl, append_E0]; exact hw⟩ (wk_mk (by (repeat (first | apply wkf_nil | (apply wkf_cons; rfl))); done) (by (repeat (first | apply sub_nil )); done) (by first | exact fun _ h => h | (intro r hr; cases hr; done) | (simp; done) | exact fun _ h => List.mem_append_left _ h | (intro r hr; simp [hr]; done))) ?_
    clear hw p ao c
    rintro m st ⟨t, z, p, ao, c, rfl, rfl, ht, hz, hw⟩
    by_cases htk : t < k
    · obtain rfl : z = ((k - 1 - t : Nat) : Int) := by omega
      have hsh := sh_nonneg hxb.1 (k - 1 - t)
      have hfd := sh_fdiv hxb.1 (k - 1 - t) (by omega)
      have hs1 : numS (t + 1) (sh x (k - (t + 1))) = numS t (sh x (k - t)) ++ b1 (sh x (k - 1 - t) % 256) := by
        show numS t (sh x (k - (t + 1)) / 256) ++ b1 (sh x (k - (t + 1)) % 256) = _
        rw [show k - (t + 1) = k - 1 - t by omega, show k - t = (k - 1 - t) + 1 by omega]
        rfl
      have hsz : (S0 ++ numS t (sh x (k - t))).size + 1 ≤ 1099511627776 := by rw [ByteArray.size_append, numS_size]; omega
      have hB := fun p ao c hw => bWriteByte g c p ao (S0 ++ numS t (sh x (k - t))) (sh x (k - 1 - t) % 256) (by omega) hw hsz
      rw [ByteArray.append_assoc, ← hs1] at hB
      have hB := hB p ao c hw
      generalize S0 ++ numS t (sh x (k - t)) = S1 at hB hw hsz
      obtain ⟨S2, hS2⟩ : ∃ S2, S0 ++ numS (t + 1) (sh x (k - (t + 1))) = S2 := ⟨_, rfl⟩
      rw [hS2] at hB
      (repeat (first | ((first | (apply wo_v; rfl) ); (· first | (apply pv_ev; rfl) )) | apply wo_nil | apply wc_seq | apply wc_region | apply wc_block | apply wc_skip | (apply wc_true; rfl) ))
      (refine wc_reg [0] (asl [(8, 0)]) (fun _ _ v M => ∃ p' ao' c', v = .nilIface ∧ M = wrH g p' ao' c' S2 ∧ WOk g p' ao' c' S2) ([uO bl c2 xs]) (fm [(0, wrH g p ao c S1)]) mixed (by kernel_rfl) (by kernel_rfl) (by decide) (asl_mem (by decide)) (by (repeat (first | (apply prm_cons; (· (repeat (first | apply sel_here | apply sel_there)))) | apply List.Perm.nil )); done) ?_; (repeat (first | ((first | (apply HdE.val; rfl; rfl; (· first | apply gok_none ))); (· first | (apply pv_ev; rfl) | (apply pv_fld; rfl) | (apply g_bin; first | (apply a_mul; rfl; rfl; infer_instance; omega) | (apply a_shr; rfl; rfl; rfl; omega; rfl) | (apply pv_shr; rfl; rfl; omega) ) | (apply g_conv; first | (apply a_conv; rfl; infer_instance; infer_instance; infer_instance; omega) | (apply a_conv_u; rfl; infer_instance; infer_instance; infer_instance) ) )) )))
      rw [hfd]
      (refine he_eff rfl rfl rfl (by first | exact gok_none | exact gok_run rfl rfl) (outc_call (hB) rfl (by (repeat (first | apply sub_nil )); done) (by first | exact fun _ h => h | (intro r hr; cases hr; done) | (simp; done) | exact fun _ h => List.mem_append_left _ h | (intro r hr; simp [hr]; done)) ?_) ((by obtain ⟨p', ao', c', h⟩ := WOk.ex g S2; exact ⟨_, _, p', ao', c', rfl, rfl, h⟩)) ?_; (· rintro v L' R' ⟨p', ao', c', hv, rfl, _, hw'⟩; exact ⟨_, ⟨p', ao', c', hv, rfl, hw'⟩, (by (repeat (first | (apply prm_cons; (· (repeat (first | apply sel_here )))) | apply List.Perm.nil )); done)⟩); rintro v M ⟨p', ao', c', rfl, rfl, hw'⟩; simp only [setl, reduceIte, Nat.reduceEqDiff]; (repeat (first | fail )))
      (refine HdE.nil ?_; intro H hH; simp only [Hp, fm, look, setl, List.flatMap_cons, List.flatMap_nil, reduceIte, Nat.reduceEqDiff, Option.getD_some, List.append_nil, List.cons_append, List.nil_append] at hH; subst hH)
      (repeat (first | ((first | (apply wo_v; rfl) ); (· first | (apply pv_ev; rfl) | (apply g_bin; first | (apply a_sub; rfl; rfl; infer_instance; omega) ) )) | apply wo_nil | apply wc_region ))
      exact loop_end ⟨t + 1, ((k - 1 - t : Nat) : Int) - 1, p', ao', c', rfl, by rw [hS2], by omega, by omega, by rw [hS2]; exact hw'⟩ (by omega) (wk_mk (by (repeat (first | apply wkf_nil | (apply wkf_cons; rfl))); done) (by (repeat (first | apply sub_nil | (apply sub_cons; (· (repeat (first | apply sel_here | apply sel_there)))))); done) (by first | exact fun _ h => h | (intro r hr; cases hr; done) | (simp; done) | exact fun _ h => List.mem_append_left _ h | (intro r hr; simp [hr]; done)))
    · obtain rfl : t = k := by omega
      rw [Nat.sub_self] at hw ⊢
      rw [show sh x 0 = x from rfl, ← hnx] at hw ⊢
      subst hz
      (repeat (first | ((first | (apply wo_v; rfl) ); (· first | (apply pv_ev; rfl) | (apply g_bin; first | (apply a_add; rfl; rfl; infer_instance; omega) ) )) | apply wo_nil | apply wc_seq | apply wc_region | (apply wc_exit; rfl) | (apply wc_true; rfl) | (apply wc_false; rfl) | (apply a_dec_t; rfl; (· first | assumption | omega)) | (apply a_dec_f; rfl; (· first | assumption | omega)) ))
      exact loop_end ⟨j + 1, p, ao, c, rfl, rfl, by omega, hw⟩ (by omega) (wk_mk (by (repeat (first | apply wkf_nil | (apply wkf_cons; rfl))); done) (by (repeat (first | apply sub_nil )); done) (by first | exact fun _ h => h | (intro r hr; cases hr; done) | (simp; done) | exact fun _ h => List.mem_append_left _ h | (intro r hr; simp [hr]; done)))
  · obtain rfl : j = xs.length := by omega
    rw [List.take_length] at hw ⊢
    (repeat (first | ((first | (apply wo_v; rfl) ); (· first | (apply pv_ev; rfl) )) | apply wo_nil | apply wc_seq | apply wc_region | (apply wc_exit; rfl) | apply wc_ret | (apply wc_true; rfl) | (apply wc_false; rfl) | (apply a_dec_t; rfl; (· first | assumption | omega)) | (apply a_dec_f; rfl; (· first | assumption | omega)) ))
    exact retv rfl (by (repeat (first | apply RV.nil | (apply RV.tmp; rfl) )); done) ⟨p, ao, c, rfl, rfl, rfl, hw⟩ (by (repeat (first | apply sub_nil )); done) (by first | exact fun _ h => h | (intro r hr; cases hr; done) | (simp; done) | exact fun _ h => List.mem_append_left _ h | (intro r hr; simp [hr]; done))
end Go.Proofs.Ytlhlidmhlhodiaa
