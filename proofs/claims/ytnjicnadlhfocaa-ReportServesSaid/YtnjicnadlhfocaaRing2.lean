/-
  Package ring: Get, Again, in terms of the list of the packets that are stored.
-/
import Derived.Test.YtnjicnadlhfocaaRing
namespace Go.Proofs.Ytnjicnadlhfocaa
set_option linter.unusedSimpArgs false
set_option linter.unusedVariables false
open Go.RowKit
attribute [local irreducible] Pv WO WC Fn

/-- packet j is the last one of the number num -/
def Hit (Q : List Pk) (num : Int) (j : Nat) (p : Pk) : Prop := Q[j]? = some p ∧ p.1 = num ∧ ∀ j' p', j < j' → Q[j']? = some p' → p'.1 ≠ num
theorem Hit.lt {Q : List Pk} {num : Int} {j : Nat} {p : Pk} (h : Hit Q num j p) : j < Q.length := (List.getElem?_eq_some_iff.1 h.1).1
def sloc (put k len j : Nat) : Nat := (put - (len - j)) % k
theorem ringFind_no (g b k : Nat) (S : List (Option Pk)) (put : Nat) (mt mg sent num : Int) (Q : List Pk) (hk : 1 ≤ k) (hL : Lay S put k Q) (hp : put ≤ 1000000) (h : ∀ p ∈ Q, p.1 ≠ num) :
    Fn Try.prog 72 #[.pointer (some ⟨g, 0, none⟩), .int .u16 num] (rgH g b k S put mt mg sent) [] (fun v L' R' => v = .pointer none ∧ L' = rgH g b k S put mt mg sent ∧ R' = []) :=
  ringFind g b k S put mt mg sent num Q hk hL hp none (fun i p h1 h2 h3 h4 _ => absurd h4 (h p (List.mem_of_getElem? h3))) (fun _ => rfl)
theorem ringFind_hit (g b k : Nat) (S : List (Option Pk)) (put : Nat) (mt mg sent num : Int) (Q : List Pk) (hk : 1 ≤ k) (hL : Lay S put k Q) (hp : put ≤ 1000000) (j : Nat) (p : Pk) (h : Hit Q num j p) :
    Fn Try.prog 72 #[.pointer (some ⟨g, 0, none⟩), .int .u16 num] (rgH g b k S put mt mg sent) [] (fun v L' R' => v = .pointer (some ⟨b, elt 0 (sloc put k Q.length j) 5, none⟩) ∧ L' = rgH g b k S put mt mg sent ∧ R' = []) := by
  refine ringFind g b k S put mt mg sent num Q hk hL hp _ (fun i p' h1 h2 h3 h4 h5 => ?_) (fun h' => absurd h.2.1 (h' p (List.mem_of_getElem? h.1)))
  have hj := h.lt
  have : j = Q.length - i := by
    rcases Nat.lt_trichotomy j (Q.length - i) with h6 | h6 | h6
    · exact absurd h4 (h.2.2 _ p' h6 h3)
    · exact h6
    · have := h5 (Q.length - j) p (by omega) (by omega) (by rw [show Q.length - (Q.length - j) = j by omega]; exact h.1)
      exact absurd h.2.1 this
  unfold sloc
  rw [this, show Q.length - (Q.length - i) = i by omega]
theorem Lay.row {S : List (Option Pk)} {put k : Nat} {Q : List Pk} (hL : Lay S put k Q) {j : Nat} {p : Pk} (h : Q[j]? = some p) : S[sloc put k Q.length j]? = some (some p) := by
  have hj := (List.getElem?_eq_some_iff.1 h).1
  exact hL.at_ (Q.length - j) p (by omega) (by omega) (by rw [show Q.length - (Q.length - j) = j by omega]; exact h)

theorem ringGet_no (g b k : Nat) (S : List (Option Pk)) (put : Nat) (mt mg sent num : Int) (Q : List Pk) (hk : 1 ≤ k) (hL : Lay S put k Q) (hp : put ≤ 1000000) (h : ∀ p ∈ Q, p.1 ≠ num) :
    Fn Try.prog 50 #[.pointer (some ⟨g, 0, none⟩), .int .u16 num] (rgH g b k S put mt mg sent) [] (fun v L' R' => v = .tuple #[.string ⟨#[]⟩, .bool false] ∧ L' = rgH g b k S put mt mg sent ∧ R' = []) := by
  refine fn_intro Try.func50 rfl Try.ntmps50 rfl (fun E => ?_)
  (repeat (first | ((first | (apply wo_v; rfl) ); (· first | (apply pv_ev; rfl) )) | apply wo_nil | apply wc_seq | apply wc_region ))
  (refine wo_call (ringFind_no g b k S put mt mg sent num Q hk hL hp h) rfl (by (repeat (first | apply sub_nil )); done) (by first | exact fun _ h => h | (intro r hr; cases hr; done) | (simp; done) | exact fun _ h => List.mem_append_left _ h | (intro r hr; simp [hr]; done)) rfl ?_; rintro v L' R' ⟨rfl, rfl, rfl⟩ H' hH RR hR; simp only [List.cons_append, List.nil_append] at hH hR; subst hH; have hR := hR.symm; subst hR)
  (repeat (first | ((first | (apply wo_v; rfl) ); (· first | (apply pv_ev; rfl) | (apply g_bin; first | (apply pv_eql_p; rfl; rfl) ) )) | apply wo_nil | apply wc_seq | apply wc_region | apply wc_ret | (apply wc_true; rfl) ))
  exact ret2 rfl rfl rfl ⟨rfl, rfl, rfl⟩ (by (repeat (first | apply sub_nil )); done) (by first | exact fun _ h => h | (intro r hr; cases hr; done) | (simp; done) | exact fun _ h => List.mem_append_left _ h | (intro r hr; simp [hr]; done))
theorem ringGet_hit (g b k : Nat) (S : List (Option Pk)) (put : Nat) (mt mg sent num : Int) (Q : List Pk) (hk : 1 ≤ k) (hL : Lay S put k Q) (hp : put ≤ 1000000) (j : Nat) (p : Pk) (h : Hit Q num j p) :
    Fn Try.prog 50 #[.pointer (some ⟨g, 0, none⟩), .int .u16 num] (rgH g b k S put mt mg sent) [] (fun v L' R' => v = .tuple #[.string p.2.1, .bool true] ∧ L' = rgH g b k S put mt mg sent ∧ R' = []) := by
  have hr : (S.map srow)[sloc put k Q.length j]? = some [.bool true, .int .u16 p.1, .string p.2.1, .int .i64 p.2.2.1, .int .i64 p.2.2.2] := by rw [List.getElem?_map, hL.row h.1]; rfl
  refine fn_intro Try.func50 rfl Try.ntmps50 rfl (fun E => ?_)
  (repeat (first | ((first | (apply wo_v; rfl) ); (· first | (apply pv_ev; rfl) )) | apply wo_nil | apply wc_seq | apply wc_region ))
  (refine wo_call (ringFind_hit g b k S put mt mg sent num Q hk hL hp j p h) rfl (by (repeat (first | apply sub_nil )); done) (by first | exact fun _ h => h | (intro r hr; cases hr; done) | (simp; done) | exact fun _ h => List.mem_append_left _ h | (intro r hr; simp [hr]; done)) rfl ?_; rintro v L' R' ⟨rfl, rfl, rfl⟩ H' hH RR hR; simp only [List.cons_append, List.nil_append] at hH hR; subst hH; have hR := hR.symm; subst hR)
  (repeat (first | ((first | (apply wo_v; rfl) ); (· first | (apply pv_ev; rfl) | (apply pv_fld; rfl) | (apply g_load; first | (apply pv_ld; rfl; (· (repeat (first | apply sel_there))); rfl) | (apply pv_ld_ownf; rfl; (· (repeat (first | apply sel_here | apply sel_there))); (· assumption); rfl) ) | (apply g_bin; first | (apply pv_eql_p; rfl; rfl) ) )) | apply wo_nil | apply wc_seq | apply wc_region | apply wc_skip | apply wc_ret | (apply wc_true; rfl) | (apply wc_false; rfl) ))
  exact ret2 rfl rfl rfl ⟨rfl, rfl, rfl⟩ (by (repeat (first | apply sub_nil )); done) (by first | exact fun _ h => h | (intro r hr; cases hr; done) | (simp; done) | exact fun _ h => List.mem_append_left _ h | (intro r hr; simp [hr]; done))

theorem ringAgain_no (g b k : Nat) (S : List (Option Pk)) (put : Nat) (mt mg sent num now : Int) (Q : List Pk) (hk : 1 ≤ k) (hL : Lay S put k Q) (hp : put ≤ 1000000) (h : ∀ p ∈ Q, p.1 ≠ num) :
    Fn Try.prog 51 #[.pointer (some ⟨g, 0, none⟩), .int .u16 num, .int .i64 now] (rgH g b k S put mt mg sent) [] (fun v L' R' => v = .tuple #[.string ⟨#[]⟩, .int .i64 12] ∧ L' = rgH g b k S put mt mg sent ∧ R' = []) := by
  refine fn_intro Try.func51 rfl Try.ntmps51 rfl (fun E => ?_)
  (repeat (first | ((first | (apply wo_v; rfl) ); (· first | (apply pv_ev; rfl) )) | apply wo_nil | apply wc_seq | apply wc_region ))
  (refine wo_call (ringFind_no g b k S put mt mg sent num Q hk hL hp h) rfl (by (repeat (first | apply sub_nil )); done) (by first | exact fun _ h => h | (intro r hr; cases hr; done) | (simp; done) | exact fun _ h => List.mem_append_left _ h | (intro r hr; simp [hr]; done)) rfl ?_; rintro v L' R' ⟨rfl, rfl, rfl⟩ H' hH RR hR; simp only [List.cons_append, List.nil_append] at hH hR; subst hH; have hR := hR.symm; subst hR)
  (repeat (first | ((first | (apply wo_v; rfl) ); (· first | (apply pv_ev; rfl) | (apply g_bin; first | (apply pv_eql_p; rfl; rfl) ) )) | apply wo_nil | apply wc_seq | apply wc_region | apply wc_block | apply wc_ret | (apply wc_true; rfl) ))
  exact ret2 rfl rfl rfl ⟨rfl, rfl, rfl⟩ (by (repeat (first | apply sub_nil )); done) (by first | exact fun _ h => h | (intro r hr; cases hr; done) | (simp; done) | exact fun _ h => List.mem_append_left _ h | (intro r hr; simp [hr]; done))
theorem ringAgain_tries (g b k : Nat) (S : List (Option Pk)) (put : Nat) (mt mg sent num now : Int) (Q : List Pk) (hk : 1 ≤ k) (hL : Lay S put k Q) (hp : put ≤ 1000000) (j : Nat) (p : Pk) (h : Hit Q num j p) (ht : mt ≤ p.2.2.1) :
    Fn Try.prog 51 #[.pointer (some ⟨g, 0, none⟩), .int .u16 num, .int .i64 now] (rgH g b k S put mt mg sent) [] (fun v L' R' => v = .tuple #[.string ⟨#[]⟩, .int .i64 11] ∧ L' = rgH g b k S put mt mg sent ∧ R' = []) := by
  have hr : (S.map srow)[sloc put k Q.length j]? = some [.bool true, .int .u16 p.1, .string p.2.1, .int .i64 p.2.2.1, .int .i64 p.2.2.2] := by rw [List.getElem?_map, hL.row h.1]; rfl
  refine fn_intro Try.func51 rfl Try.ntmps51 rfl (fun E => ?_)
  (repeat (first | ((first | (apply wo_v; rfl) ); (· first | (apply pv_ev; rfl) )) | apply wo_nil | apply wc_seq | apply wc_region ))
  (refine wo_call (ringFind_hit g b k S put mt mg sent num Q hk hL hp j p h) rfl (by (repeat (first | apply sub_nil )); done) (by first | exact fun _ h => h | (intro r hr; cases hr; done) | (simp; done) | exact fun _ h => List.mem_append_left _ h | (intro r hr; simp [hr]; done)) rfl ?_; rintro v L' R' ⟨rfl, rfl, rfl⟩ H' hH RR hR; simp only [List.cons_append, List.nil_append] at hH hR; subst hH; have hR := hR.symm; subst hR)
  (repeat (first | ((first | (apply wo_v; rfl) ); (· first | (apply pv_ev; rfl) | (apply g_bin; first | (apply pv_eql_p; rfl; rfl) ) )) | apply wo_nil | apply wc_seq | apply wc_region | apply wc_block | (apply wc_true; rfl) | (apply wc_false; rfl) ))
  (refine wc_quiet mixed (by kernel_rfl) ?_; (repeat (first | ((first | (apply wo_v; rfl) | (apply hd_v; rfl) ); (· first | (apply pv_ev; rfl) | (apply pv_fld; rfl) | (apply g_load; first | (apply pv_ld; rfl; (· (repeat (first | apply sel_here | apply sel_there))); rfl) | (apply pv_ld_ownf; rfl; (· (repeat (first | apply sel_here | apply sel_there))); (· assumption); rfl) ) )) | apply wo_nil | apply Hd.nil | apply wc_seq | apply wc_region | apply wc_ret | (apply wc_true; rfl) | (apply wc_false; rfl) | (apply a_dec_t; rfl; (· first | assumption | omega)) )))
  exact ret2 rfl rfl rfl ⟨rfl, rfl, rfl⟩ (by (repeat (first | apply sub_nil )); done) (by first | exact fun _ h => h | (intro r hr; cases hr; done) | (simp; done) | exact fun _ h => List.mem_append_left _ h | (intro r hr; simp [hr]; done))
theorem ringAgain_gap (g b k : Nat) (S : List (Option Pk)) (put : Nat) (mt mg sent num now : Int) (Q : List Pk) (hk : 1 ≤ k) (hL : Lay S put k Q) (hp : put ≤ 1000000) (j : Nat) (p : Pk) (h : Hit Q num j p) (ht : ¬ mt ≤ p.2.2.1) (h1 : 0 < p.2.2.1) (h2 : now - p.2.2.2 < mg)
    (hb : 0 ≤ now ∧ now ≤ 1099511627776 ∧ 0 ≤ p.2.2.2 ∧ p.2.2.2 ≤ 1099511627776) :
    Fn Try.prog 51 #[.pointer (some ⟨g, 0, none⟩), .int .u16 num, .int .i64 now] (rgH g b k S put mt mg sent) [] (fun v L' R' => v = .tuple #[.string ⟨#[]⟩, .int .i64 14] ∧ L' = rgH g b k S put mt mg sent ∧ R' = []) := by
  have hr : (S.map srow)[sloc put k Q.length j]? = some [.bool true, .int .u16 p.1, .string p.2.1, .int .i64 p.2.2.1, .int .i64 p.2.2.2] := by rw [List.getElem?_map, hL.row h.1]; rfl
  refine fn_intro Try.func51 rfl Try.ntmps51 rfl (fun E => ?_)
  (repeat (first | ((first | (apply wo_v; rfl) ); (· first | (apply pv_ev; rfl) )) | apply wo_nil | apply wc_seq | apply wc_region ))
  (refine wo_call (ringFind_hit g b k S put mt mg sent num Q hk hL hp j p h) rfl (by (repeat (first | apply sub_nil )); done) (by first | exact fun _ h => h | (intro r hr; cases hr; done) | (simp; done) | exact fun _ h => List.mem_append_left _ h | (intro r hr; simp [hr]; done)) rfl ?_; rintro v L' R' ⟨rfl, rfl, rfl⟩ H' hH RR hR; simp only [List.cons_append, List.nil_append] at hH hR; subst hH; have hR := hR.symm; subst hR)
  (repeat (first | ((first | (apply wo_v; rfl) ); (· first | (apply pv_ev; rfl) | (apply g_bin; first | (apply pv_eql_p; rfl; rfl) ) )) | apply wo_nil | apply wc_seq | apply wc_region | apply wc_block | (apply wc_true; rfl) | (apply wc_false; rfl) ))
  (refine wc_quiet mixed (by kernel_rfl) ?_; (repeat (first | ((first | (apply hd_v; rfl) ); (· first | (apply pv_ev; rfl) | (apply pv_fld; rfl) | (apply g_load; first | (apply pv_ld; rfl; (· (repeat (first | apply sel_here | apply sel_there))); rfl) | (apply pv_ld_ownf; rfl; (· (repeat (first | apply sel_here | apply sel_there))); (· assumption); rfl) ) )) | apply Hd.nil | apply wc_seq | (apply wc_true; rfl) | (apply wc_false; rfl) | (apply a_dec_t; rfl; (· first | assumption | omega)) | (apply a_dec_f; rfl; (· first | assumption | omega)) )))
  (refine wc_quiet mixed (by kernel_rfl) ?_; (repeat (first | ((first | (apply wo_v; rfl) | (apply hd_v; rfl) ); (· first | (apply pv_ev; rfl) | (apply pv_fld; rfl) | (apply g_load; first | (apply pv_ld; rfl; (· (repeat (first | apply sel_here | apply sel_there))); rfl) | (apply pv_ld_ownf; rfl; (· (repeat (first | apply sel_here | apply sel_there))); (· assumption); rfl) ) | (apply g_pick; first | (apply pv_pick_t; rfl; rfl) ) | (apply g_bin; first | (apply a_sub; rfl; rfl; infer_instance; omega) ) )) | apply wo_nil | apply Hd.nil | apply wc_seq | apply wc_region | apply wc_ret | (apply wc_true; rfl) | (apply wc_false; rfl) | (apply a_dec_t; rfl; (· first | assumption | omega)) | (apply Hd.run; rfl; rfl) | (apply Hd.skip; rfl; rfl; rfl; rfl) | (apply Hd.skipu; rfl; rfl; rfl) | (apply ah_gt; rfl; rfl; (· first | assumption | omega)) )))
  exact ret2 rfl rfl rfl ⟨rfl, rfl, rfl⟩ (by (repeat (first | apply sub_nil )); done) (by first | exact fun _ h => h | (intro r hr; cases hr; done) | (simp; done) | exact fun _ h => List.mem_append_left _ h | (intro r hr; simp [hr]; done))
set_option maxHeartbeats 1000000 in
theorem ringAgain_ok (g b k : Nat) (S : List (Option Pk)) (put : Nat) (mt mg sent num now : Int) (Q : List Pk) (hk : 1 ≤ k) (hL : Lay S put k Q) (hp : put ≤ 1000000) (j : Nat) (p : Pk) (h : Hit Q num j p) (ht : ¬ mt ≤ p.2.2.1) (h1 : ¬ (0 < p.2.2.1 ∧ now - p.2.2.2 < mg))
    (hb : 0 ≤ now ∧ now ≤ 1099511627776 ∧ 0 ≤ p.2.2.2 ∧ p.2.2.2 ≤ 1099511627776) (hb2 : 0 ≤ p.2.2.1 ∧ p.2.2.1 ≤ 1000000) (hb3 : 0 ≤ sent ∧ sent ≤ 1000000) :
    Fn Try.prog 51 #[.pointer (some ⟨g, 0, none⟩), .int .u16 num, .int .i64 now] (rgH g b k S put mt mg sent) []
      (fun v L' R' => v = .tuple #[.string p.2.1, .int .i64 0] ∧ L' = rgH g b k (S.set (sloc put k Q.length j) (some (p.1, p.2.1, p.2.2.1 + 1, now))) put mt mg (sent + 1) ∧ R' = []) := by
  have hrow := hL.row h.1
  have hlt : sloc put k Q.length j < (S.map srow).length := by rw [List.length_map]; exact (List.getElem?_eq_some_iff.1 hrow).1
  have hr : (S.map srow)[sloc put k Q.length j]? = some [.bool true, .int .u16 p.1, .string p.2.1, .int .i64 p.2.2.1, .int .i64 p.2.2.2] := by rw [List.getElem?_map, hrow]; rfl
  have hr2 : ((S.map srow).set (sloc put k Q.length j) [.bool true, .int .u16 p.1, .string p.2.1, .int .i64 (p.2.2.1 + 1), .int .i64 p.2.2.2])[sloc put k Q.length j]? = some [.bool true, .int .u16 p.1, .string p.2.1, .int .i64 (p.2.2.1 + 1), .int .i64 p.2.2.2] := List.getElem?_set_self hlt
  have hr3 : (((S.map srow).set (sloc put k Q.length j) [.bool true, .int .u16 p.1, .string p.2.1, .int .i64 (p.2.2.1 + 1), .int .i64 p.2.2.2]).set (sloc put k Q.length j) [.bool true, .int .u16 p.1, .string p.2.1, .int .i64 (p.2.2.1 + 1), .int .i64 now])[sloc put k Q.length j]? = some [.bool true, .int .u16 p.1, .string p.2.1, .int .i64 (p.2.2.1 + 1), .int .i64 now] :=
    List.getElem?_set_self (by rw [List.length_set]; exact hlt)
  have e1 : ((S.map srow).set (sloc put k Q.length j) [.bool true, .int .u16 p.1, .string p.2.1, .int .i64 (p.2.2.1 + 1), .int .i64 p.2.2.2]).set (sloc put k Q.length j) [.bool true, .int .u16 p.1, .string p.2.1, .int .i64 (p.2.2.1 + 1), .int .i64 now] = (S.set (sloc put k Q.length j) (some (p.1, p.2.1, p.2.2.1 + 1, now))).map srow := by
    rw [List.set_set, List.map_set]; rfl
  have hfind := ringFind_hit g b k S put mt mg sent num Q hk hL hp j p h
  clear hL h hrow
  by_cases h2 : 0 < p.2.2.1
  · have h3 : ¬ now - p.2.2.2 < mg := fun h => h1 ⟨h2, h⟩
    clear h1
    refine fn_intro Try.func51 rfl Try.ntmps51 rfl (fun E => ?_)
    (repeat (first | ((first | (apply wo_v; rfl) ); (· first | (apply pv_ev; rfl) )) | apply wo_nil | apply wc_seq | apply wc_region ))
    (refine wo_call (hfind) rfl (by (repeat (first | apply sub_nil )); done) (by first | exact fun _ h => h | (intro r hr; cases hr; done) | (simp; done) | exact fun _ h => List.mem_append_left _ h | (intro r hr; simp [hr]; done)) rfl ?_; rintro v L' R' ⟨rfl, rfl, rfl⟩ H' hH RR hR; simp only [List.cons_append, List.nil_append] at hH hR; subst hH; have hR := hR.symm; subst hR)
    (repeat (first | ((first | (apply wo_v; rfl) ); (· first | (apply pv_ev; rfl) | (apply g_bin; first | (apply pv_eql_p; rfl; rfl) ) )) | apply wo_nil | apply wc_seq | apply wc_region | apply wc_block | (apply wc_true; rfl) | (apply wc_false; rfl) ))
    (refine wc_quiet mixed (by kernel_rfl) ?_; (repeat (first | ((first | (apply hd_v; rfl) ); (· first | (apply pv_ev; rfl) | (apply pv_fld; rfl) | (apply g_load; first | (apply pv_ld; rfl; (· (repeat (first | apply sel_here | apply sel_there))); rfl) | (apply pv_ld_ownf; rfl; (· (repeat (first | apply sel_here | apply sel_there))); (· assumption); rfl) ) )) | apply Hd.nil | apply wc_seq | (apply wc_true; rfl) | (apply wc_false; rfl) | (apply a_dec_t; rfl; (· first | assumption | omega)) | (apply a_dec_f; rfl; (· first | assumption | omega)) )))
    (refine wc_quiet mixed (by kernel_rfl) ?_; (repeat (first | ((first | (apply wo_v; rfl) | (apply hd_v; rfl) ); (· first | (apply pv_ev; rfl) | (apply pv_fld; rfl) | (apply g_load; first | (apply pv_ld; rfl; (· (repeat (first | apply sel_here | apply sel_there))); rfl) | (apply pv_ld_ownf; rfl; (· (repeat (first | apply sel_here | apply sel_there))); (· assumption); rfl) ) | (apply g_pick; first | (apply pv_pick_t; rfl; rfl) ) | (apply g_bin; first | (apply a_add; rfl; rfl; infer_instance; omega) | (apply a_sub; rfl; rfl; infer_instance; omega) ) )) | apply wo_nil | apply Hd.nil | apply wc_seq | apply wc_region | apply wc_skip | apply wc_ret | (apply wc_true; rfl) | (apply wc_false; rfl) | (apply a_dec_t; rfl; (· first | assumption | omega)) | (apply a_dec_f; rfl; (· first | assumption | omega)) | (apply wo_st; rfl; rfl; rfl; (· (repeat (first | apply sel_here | apply sel_there))); (· (repeat (first | apply SetAt.here | apply SetAt.there))); rfl) | (apply wo_st_ownf; rfl; rfl; rfl; (· (repeat (first | apply sel_here | apply sel_there))); (· assumption); (· (repeat (first | apply SetAt.here | apply SetAt.there))); rfl) | (apply Hd.run; rfl; rfl) | (apply Hd.skip; rfl; rfl; rfl; rfl) | (apply Hd.skipu; rfl; rfl; rfl) | (apply ah_gt; rfl; rfl; (· first | assumption | omega)) )))
    exact ret2 rfl rfl rfl ⟨rfl, rfl, rfl⟩ (by rw [e1]; exact (by (repeat (first | apply sub_nil )); done)) (by first | exact fun _ h => h | (intro r hr; cases hr; done) | (simp; done) | exact fun _ h => List.mem_append_left _ h | (intro r hr; simp [hr]; done))
  · clear h1
    refine fn_intro Try.func51 rfl Try.ntmps51 rfl (fun E => ?_)
    (repeat (first | ((first | (apply wo_v; rfl) ); (· first | (apply pv_ev; rfl) )) | apply wo_nil | apply wc_seq | apply wc_region ))
    (refine wo_call (hfind) rfl (by (repeat (first | apply sub_nil )); done) (by first | exact fun _ h => h | (intro r hr; cases hr; done) | (simp; done) | exact fun _ h => List.mem_append_left _ h | (intro r hr; simp [hr]; done)) rfl ?_; rintro v L' R' ⟨rfl, rfl, rfl⟩ H' hH RR hR; simp only [List.cons_append, List.nil_append] at hH hR; subst hH; have hR := hR.symm; subst hR)
    (repeat (first | ((first | (apply wo_v; rfl) ); (· first | (apply pv_ev; rfl) | (apply g_bin; first | (apply pv_eql_p; rfl; rfl) ) )) | apply wo_nil | apply wc_seq | apply wc_region | apply wc_block | (apply wc_true; rfl) | (apply wc_false; rfl) ))
    (refine wc_quiet mixed (by kernel_rfl) ?_; (repeat (first | ((first | (apply hd_v; rfl) ); (· first | (apply pv_ev; rfl) | (apply pv_fld; rfl) | (apply g_load; first | (apply pv_ld; rfl; (· (repeat (first | apply sel_here | apply sel_there))); rfl) | (apply pv_ld_ownf; rfl; (· (repeat (first | apply sel_here | apply sel_there))); (· assumption); rfl) ) )) | apply Hd.nil | apply wc_seq | (apply wc_true; rfl) | (apply wc_false; rfl) | (apply a_dec_t; rfl; (· first | assumption | omega)) | (apply a_dec_f; rfl; (· first | assumption | omega)) )))
    (refine wc_quiet mixed (by kernel_rfl) ?_; (repeat (first | ((first | (apply wo_v; rfl) | (apply hd_v; rfl) ); (· first | (apply pv_ev; rfl) | (apply pv_fld; rfl) | (apply g_load; first | (apply pv_ld; rfl; (· (repeat (first | apply sel_here | apply sel_there))); rfl) | (apply pv_ld_ownf; rfl; (· (repeat (first | apply sel_here | apply sel_there))); (· assumption); rfl) ) | (apply g_pick; first | (apply pv_pick_t; rfl; rfl) | (apply pv_pick_f; rfl; rfl)) | (apply g_bin; first | (apply a_add; rfl; rfl; infer_instance; omega) ) )) | apply wo_nil | apply Hd.nil | apply wc_seq | apply wc_region | apply wc_skip | apply wc_ret | (apply wc_true; rfl) | (apply wc_false; rfl) | (apply wo_st; rfl; rfl; rfl; (· (repeat (first | apply sel_here | apply sel_there))); (· (repeat (first | apply SetAt.here | apply SetAt.there))); rfl) | (apply wo_st_ownf; rfl; rfl; rfl; (· (repeat (first | apply sel_here | apply sel_there))); (· assumption); (· (repeat (first | apply SetAt.here | apply SetAt.there))); rfl) | (apply Hd.run; rfl; rfl) | (apply Hd.skip; rfl; rfl; rfl; rfl) | (apply Hd.skipu; rfl; rfl; rfl) | (apply ah_gt; rfl; rfl; (· first | assumption | omega)) | (apply ah_gf; rfl; rfl; (· first | assumption | omega)) )))
    exact ret2 rfl rfl rfl ⟨rfl, rfl, rfl⟩ (by rw [e1]; exact (by (repeat (first | apply sub_nil )); done)) (by first | exact fun _ h => h | (intro r hr; cases hr; done) | (simp; done) | exact fun _ h => List.mem_append_left _ h | (intro r hr; simp [hr]; done))
end Go.Proofs.Ytnjicnadlhfocaa
