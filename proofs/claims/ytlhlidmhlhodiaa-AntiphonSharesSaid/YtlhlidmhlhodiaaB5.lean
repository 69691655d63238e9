/-
  Texts of this proof, laid together (part 5 of 7).
-/
import Derived.Test.YtlhlidmhlhodiaaB4
/-
  Package egress, with two flows of pictures: next, Run.
-/
namespace Go.Proofs.Ytlhlidmhlhodiaa
set_option linter.unusedSimpArgs false
set_option linter.unusedVariables false
open Go.RowKit
theorem Fn.ro0 {P : Program} {f : FuncId} {args : Array Value} {L : List It} {R : List Ro} {Q : Value → List It → Prop} (h : Fn P f args L R (fun v L' R' => Q v L' ∧ R' = R)) : Fn P f args L R (fun v L' R' => Q v L' ∧ R' = []) := fun w hw =>
  (h w hw).mono fun _ _ ⟨v, L', _, he, ⟨hQ, _⟩, hS⟩ => ⟨v, L', [], he, ⟨hQ, rfl⟩, hS.some_ro (fun r hr => by cases hr)⟩
attribute [local irreducible] Pv WO WC Fn
set_option maxRecDepth 100000

theorem eFirst (q : Nat) (ao : Option Addr) (n c : Nat) (s : Int) (bk : Bool) (x : It4) (l : List It4) (R : List Ro) (hS : SR R 4 ao n c (its (x :: l))) :
    Fn Try.prog 115 #[.pointer (some ⟨q, 0, none⟩)] [Qc q 5 1000 ao n c s bk] R (fun v L' R' => v = .tuple #[.agg (itr x).toArray, .bool true] ∧ L' = [Qc q 5 1000 ao n c s bk] ∧ R' = []) := by
  have h := qFirst q 5 1000 ao n c s bk (x :: l) R hS
  have h2 : Fn Try.prog 115 #[.pointer (some ⟨q, 0, none⟩)] [Qc q 5 1000 ao n c s bk] R (fun v L' R' => (v = .tuple #[.agg (itr x).toArray, .bool true] ∧ L' = [Qc q 5 1000 ao n c s bk]) ∧ R' = R) :=
    h.mono fun v L' R' ⟨h1, h3, h4⟩ => ⟨⟨by rw [h1]; simp, h3⟩, h4⟩
  exact h2.ro0.mono fun v L' R' ⟨⟨h1, h3⟩, h4⟩ => ⟨h1, h3, h4⟩
def hdL (sz : Int) : Nat → List (List Value)
  | 0 => []
  | 1 => [[.int .i64 1, .int .i64 sz]]
  | _ => [[.int .i64 1, .int .i64 sz], [.int .i64 2, .int .i64 sz]]
abbrev hdK (ao : Option Addr) (i c : Nat) (sz : Int) : It := .own 303 2 ao i c (hdL sz i)
set_option maxHeartbeats 16000000 in
theorem eNext (e mf gs ms ml q1 q2 : Nat) (cr : Int) (at_ : Int) (gr : Bool) (y1 y2 p q sz : Int) (kl : List (Int × Value)) (a1 : Option Addr) (n1 c1 : Nat) (x1 : It4) (l1 : List It4) (k1 : Bool) (a2 : Option Addr) (n2 c2 : Nat) (x2 : It4) (l2 : List It4) (k2 : Bool) (R : List Ro) (s1 s2 : Int)
    (hk : KL kl ⟨at_, gr, y1, y2⟩) (ht : TnOk sz ⟨at_, gr, y1, y2⟩) (h : 40 ≤ p ∧ p ≤ 200 ∧ 40 ≤ q ∧ q ≤ 200 ∧ 1 ≤ sz ∧ sz ≤ 40) (hS1 : SR R 4 a1 n1 c1 (its (x1 :: l1))) (hS2 : SR R 4 a2 n2 c2 (its (x2 :: l2))) (hz1 : x1.2.1 = sz) (hz2 : x2.2.1 = sz) :
    Fn Try.prog 114 #[.pointer (some ⟨e, 0, none⟩)] [eoI e mf gs cr 0, .ob mf (mob .i64 (fmM q1 q2)), Qc q1 5 1000 a1 n1 c1 s1 k1, Qc q2 5 1000 a2 n2 c2 s2 k2, scI gs ms ml at_ gr, .ob ms (shM p q), .ob ml (mob .i64 kl)] R
      (fun v L' R' => ∃ kl', v = .tuple #[.int .i64 (chM p q sz ⟨at_, gr, y1, y2⟩).at_, .bool true] ∧ L' = [eoI e mf gs cr 0, .ob mf (mob .i64 (fmM q1 q2)), Qc q1 5 1000 a1 n1 c1 s1 k1, Qc q2 5 1000 a2 n2 c2 s2 k2, scI gs ms ml (chM p q sz ⟨at_, gr, y1, y2⟩).at_ true, .ob ms (shM p q), .ob ml (mob .i64 kl')] ∧ R' = [] ∧ KL kl' (chM p q sz ⟨at_, gr, y1, y2⟩)) := by
  have hn1 : n1 = l1.length + 1 := by rw [← hS1.len]; exact its_len (x1 :: l1)
  have hn2 : n2 = l2.length + 1 := by rw [← hS2.len]; exact its_len (x2 :: l2)
  have hF1 := eFirst q1 a1 n1 c1 s1 k1 x1 l1 R hS1
  have hF2 := eFirst q2 a2 n2 c2 s2 k2 x2 l2 R hS2
  obtain ⟨xn1, xs1, xt1, xk1⟩ := x1
  obtain ⟨xn2, xs2, xt2, xk2⟩ := x2
  dsimp only at hz1 hz2
  subst hz1
  have hIF := eIdsF e mf gs q1 q2 cr 0
  have hIT := eIdsT e mf gs q1 q2 cr 0 a1 n1 c1 s1 a2 n2 c2 s2 (by omega) (by omega) k1 k2
  have f1 := fm1 q1 q2
  have f2 := fm2 q1 q2
  have r0 : ([1, 2].map fun x : Int => [Value.int .i64 x])[0]? = some [.int .i64 1] := rfl
  have r1 : ([1, 2].map fun x : Int => [Value.int .i64 x])[1]? = some [.int .i64 2] := rfl
  refine fn_intro Try.func114 rfl Try.ntmps114 rfl (fun E => ?_)
  (repeat (first | ((first | (apply wo_v; rfl) ); (· first | (apply pv_ev; rfl) )) | apply wo_nil | apply wc_seq | apply wc_region ))
  (refine wo_call (hIF) rfl (by (repeat (first | apply sub_nil )); done) (by first | exact fun _ h => h | (intro r hr; cases hr; done) | (simp; done) | exact fun _ h => List.mem_append_left _ h | (intro r hr; simp [hr]; done)) rfl ?_; rintro v L' R' ⟨rfl, rfl, rfl⟩ H' hH RR hR; simp only [List.cons_append, List.nil_append] at hH hR; subst hH; have hR := hR.symm; subst hR)
  (repeat (first | ((first | (apply wo_v; rfl) ); (· first | (apply pv_ev; rfl) )) ))
  (refine wo_call (hIT) rfl (by (repeat (first | apply sub_nil )); done) (by first | exact fun _ h => h | (intro r hr; cases hr; done) | (simp; done) | exact fun _ h => List.mem_append_left _ h | (intro r hr; simp [hr]; done)) rfl ?_; rintro v L' R' ⟨ai, ci, rfl, rfl, rfl⟩ H' hH RR hR; simp only [List.cons_append, List.nil_append] at hH hR; subst hH; have hR := hR.symm; subst hR)
  refine wo_some (ao := ai) (n := 2) (by (repeat (first | apply sel_here )); done) (by omega) ?_
  rintro bi oi rfl
  (repeat (first | ((first | (apply wo_v; rfl) ); (· first | (apply pv_ev; rfl) )) | apply wo_nil | apply wc_seq ))
  (refine wc_quiet mixed (by kernel_rfl) ?_; (repeat (first | ((first | (apply wo_v; rfl) | (apply hd_v; rfl) ); (· first | (apply pv_ev; rfl) | (apply g_pick; first | (apply pv_pick_t; rfl; rfl) | (apply pv_pick_f; rfl; rfl)) | (apply g_bi; first | (apply pv_len_sl; rfl) ) )) | apply wo_nil | apply Hd.nil | apply wc_seq | apply wc_region | apply wc_block | apply wc_skip | (apply wc_true; rfl) | (apply wc_false; rfl) | (apply Hd.run; rfl; rfl) | (apply Hd.skip; rfl; rfl; rfl; rfl) | (apply Hd.skipu; rfl; rfl; rfl) )))
  (repeat (first | fail ))
  refine wc_own0 303 2 ?_
  refine wc_loop' (fun w st => ∃ (i : Nat) (ao : Option Addr) (c : Nat), (i = 0 ∨ i = 1 ∨ i = 2) ∧ w = 2 - i ∧ st = ⟨[(0, .pointer (some ⟨e, 0, none⟩)), (6, .slice ao i c), (38, .slice (some ⟨bi, oi, none⟩) 2 ci), (39, .int .i64 2), (40, .int .i64 i)], [inO (some ⟨bi, oi, none⟩) 2 ci [1, 2], hdK ao i c xs1, eoI e mf gs cr 0, .ob mf (mob .i64 (fmM q1 q2)), Qc q1 5 1000 a1 n1 c1 s1 k1, Qc q2 5 1000 a2 n2 c2 s2 k2, scI gs ms ml at_ gr, .ob ms (shM p q), .ob ml (mob .i64 kl)], R⟩) ⟨0, none, 0, .inl rfl, rfl, rfl⟩ (wk_mk (by (repeat (first | apply wkf_nil | (apply wkf_cons; rfl))); done) (by (repeat (first | apply sub_nil | (apply sub_cons; (· (repeat (first | apply sel_here | apply sel_there)))))); done) (by first | exact fun _ h => h | (intro r hr; cases hr; done) | (simp; done) | exact fun _ h => List.mem_append_left _ h | (intro r hr; simp [hr]; done))) ?_
  rintro w st ⟨i, ao, c, rfl | rfl | rfl, rfl, rfl⟩
  · (repeat (first | ((first | (apply wo_v; rfl) ); (· first | (apply pv_ev; rfl) )) | apply wo_nil | apply wc_seq | apply wc_region | apply wc_skip | (apply wc_true; rfl) ))
    refine wc_block ?_
    (repeat (first | ((first | (apply wo_v; rfl) ); (· first | (apply pv_ev; rfl) | (apply pv_fld; rfl) | (apply g_load; first | (apply pv_ld; rfl; (· (repeat (first | apply sel_here | apply sel_there))); rfl) | (apply pv_ld_ownf; rfl; (· (repeat (first | fail ))); (· assumption); rfl) | (apply pv_ld_own1; rfl; (· (repeat (first | apply sel_here ))); (· assumption)) ) | (apply g_idx; first | (apply pv_idx; rfl; rfl; omega) ) | (apply pv_field; rfl; infer_instance; rfl))) | ((apply wo_v; rfl); (· first | (apply g_lk; first | (apply pv_mlk_n; rfl; rfl; (· (repeat (first | apply sel_here | apply sel_there))); (· assumption)) | (apply pv_mlk_s; rfl; rfl; (· (repeat (first | apply sel_here | apply sel_there))); (· assumption)) ) )) | apply wo_nil | apply wc_seq | apply wc_region ))
    (refine wo_call (hF1) rfl (by (repeat (first | apply sub_nil | (apply sub_cons; (· (repeat (first | apply sel_here | apply sel_there)))))); done) (by first | exact fun _ h => h | (intro r hr; cases hr; done) | (simp; done) | exact fun _ h => List.mem_append_left _ h | (intro r hr; simp [hr]; done)) rfl ?_; rintro v L' R' ⟨rfl, rfl, rfl⟩ H' hH RR hR; simp only [List.cons_append, List.nil_append] at hH hR; subst hH; have hR := hR.symm; subst hR)
    (repeat (first | ((first | (apply wo_v; rfl) ); (· first | (apply pv_ev; rfl) | (apply pv_fld; rfl) | (apply g_load; first | (apply pv_ld; rfl; (· (repeat (first | apply sel_here ))); rfl) ) | (apply g_bi; first | fail ) | (apply g_build; apply pv_build; (· (repeat (first | apply Bld.nil | (apply Bld.one; rfl; rfl; (· (repeat (first | apply SetAt.here | apply SetAt.there)))) )))) )) | ((apply wo_v; rfl); (· first | fail )) | apply wo_nil | apply wc_region | (apply wo_alloc; rfl; intro bx) | (apply wo_bsl; (· (repeat (first | apply Rws'.nil | (apply Rws'.one; rfl; rfl; rfl) | (apply Rws'.agg; rfl; rfl; rfl)))); rfl; rfl; rfl; rfl; intro bx) | (apply wo_sta; rfl; rfl; rfl; rfl; (· (repeat (first | apply sel_here ))); (· (repeat (first | apply LayAt.nil | apply LayAt.here ))); rfl) ))
    refine wo_app (ao := ao) (n := 0) (m := 1) rfl rfl (by (repeat (first | apply sel_here | apply sel_there)); done) (by (repeat (first | apply sel_here )); done) (by unfold maxLen; omega) (by omega) rfl (fun a3 c3 => ?_)
    (repeat (first | ((first | (apply wo_v; rfl) ); (· first | (apply pv_ev; rfl) | (apply g_bin; first | (apply a_add; rfl; rfl; infer_instance; omega) ) )) | apply wo_nil | apply wc_region ))
    exact loop_end ⟨1, a3, c3, .inr (.inl rfl), rfl, rfl⟩ (by omega) (wk_mk (by (repeat (first | apply wkf_nil | (apply wkf_cons; rfl))); done) (by (repeat (first | apply sub_nil | (apply sub_cons; (· (repeat (first | apply sel_here | apply sel_there)))))); done) (by first | exact fun _ h => h | (intro r hr; cases hr; done) | (simp; done) | exact fun _ h => List.mem_append_left _ h | (intro r hr; simp [hr]; done)))
  · (repeat (first | ((first | (apply wo_v; rfl) ); (· first | (apply pv_ev; rfl) )) | apply wo_nil | apply wc_seq | apply wc_region | apply wc_skip | (apply wc_true; rfl) ))
    refine wc_block ?_
    (repeat (first | ((first | (apply wo_v; rfl) ); (· first | (apply pv_ev; rfl) | (apply pv_fld; rfl) | (apply g_load; first | (apply pv_ld; rfl; (· (repeat (first | apply sel_here | apply sel_there))); rfl) | (apply pv_ld_ownf; rfl; (· (repeat (first | fail ))); (· assumption); rfl) | (apply pv_ld_own1; rfl; (· (repeat (first | apply sel_here ))); (· assumption)) ) | (apply g_idx; first | (apply pv_idx; rfl; rfl; omega) ) | (apply pv_field; rfl; infer_instance; rfl))) | ((apply wo_v; rfl); (· first | (apply g_lk; first | (apply pv_mlk_n; rfl; rfl; (· (repeat (first | apply sel_here | apply sel_there))); (· assumption)) | (apply pv_mlk_s; rfl; rfl; (· (repeat (first | apply sel_here | apply sel_there))); (· assumption)) ) )) | apply wo_nil | apply wc_seq | apply wc_region ))
    (refine wo_call (hF2) rfl (by (repeat (first | apply sub_nil | (apply sub_cons; (· (repeat (first | apply sel_here | apply sel_there)))))); done) (by first | exact fun _ h => h | (intro r hr; cases hr; done) | (simp; done) | exact fun _ h => List.mem_append_left _ h | (intro r hr; simp [hr]; done)) rfl ?_; rintro v L' R' ⟨rfl, rfl, rfl⟩ H' hH RR hR; simp only [List.cons_append, List.nil_append] at hH hR; subst hH; have hR := hR.symm; subst hR)
    (repeat (first | ((first | (apply wo_v; rfl) ); (· first | (apply pv_ev; rfl) | (apply pv_fld; rfl) | (apply g_load; first | (apply pv_ld; rfl; (· (repeat (first | apply sel_here ))); rfl) ) | (apply g_bi; first | fail ) | (apply g_build; apply pv_build; (· (repeat (first | apply Bld.nil | (apply Bld.one; rfl; rfl; (· (repeat (first | apply SetAt.here | apply SetAt.there)))) )))) )) | ((apply wo_v; rfl); (· first | fail )) | apply wo_nil | apply wc_region | (apply wo_alloc; rfl; intro bx) | (apply wo_bsl; (· (repeat (first | apply Rws'.nil | (apply Rws'.one; rfl; rfl; rfl) | (apply Rws'.agg; rfl; rfl; rfl)))); rfl; rfl; rfl; rfl; intro bx) | (apply wo_sta; rfl; rfl; rfl; rfl; (· (repeat (first | apply sel_here ))); (· (repeat (first | apply LayAt.nil | apply LayAt.here ))); rfl) ))
    rw [hz2]
    refine wo_app (ao := ao) (n := 1) (m := 1) rfl rfl (by (repeat (first | apply sel_here | apply sel_there)); done) (by (repeat (first | apply sel_here )); done) (by unfold maxLen; omega) (by omega) rfl (fun a3 c3 => ?_)
    (repeat (first | ((first | (apply wo_v; rfl) ); (· first | (apply pv_ev; rfl) | (apply g_bin; first | (apply a_add; rfl; rfl; infer_instance; omega) ) )) | apply wo_nil | apply wc_region ))
    exact loop_end ⟨2, a3, c3, .inr (.inr rfl), rfl, rfl⟩ (by omega) (wk_mk (by (repeat (first | apply wkf_nil | (apply wkf_cons; rfl))); done) (by (repeat (first | apply sub_nil | (apply sub_cons; (· (repeat (first | apply sel_here | apply sel_there)))))); done) (by first | exact fun _ h => h | (intro r hr; cases hr; done) | (simp; done) | exact fun _ h => List.mem_append_left _ h | (intro r hr; simp [hr]; done)))
  · refine wc_some (ao := ao) (n := 2) (by (repeat (first | apply sel_here | apply sel_there)); done) (by omega) ?_
    rintro bh oh rfl
    have hC := dChoose gs ms ml bh oh c at_ gr y1 y2 p q xs1 kl hk ht h
    (repeat (first | ((first | (apply wo_v; rfl) ); (· first | (apply pv_ev; rfl) | (apply pv_fld; rfl) | (apply g_load; first | (apply pv_ld; rfl; (· (repeat (first | apply sel_here | apply sel_there))); rfl) ) )) | apply wo_nil | apply wc_seq | apply wc_region | (apply wc_exit; rfl) | (apply wc_true; rfl) | (apply wc_false; rfl) ))
    (refine wo_call (hC) rfl (by (repeat (first | apply sub_nil | (apply sub_cons; (· (repeat (first | apply sel_here | apply sel_there)))))); done) (by first | exact fun _ h => h | (intro r hr; cases hr; done) | (simp; done) | exact fun _ h => List.mem_append_left _ h | (intro r hr; simp [hr]; done)) rfl ?_; rintro v L' R' ⟨kl', rfl, rfl, rfl, hk'⟩ H' hH RR hR; simp only [List.cons_append, List.nil_append] at hH hR; subst hH; have hR := hR.symm; subst hR)
    (repeat (first | ((first | (apply wo_v; rfl) ); (· first | (apply pv_ev; rfl) )) | apply wo_nil | apply wc_ret ))
    exact ret2 rfl rfl rfl ⟨kl', rfl, rfl, rfl, hk'⟩ ((by (repeat (first | apply sub_nil | (apply sub_cons; (· (repeat (first | apply sel_here | apply sel_there)))))); done) : List.Perm _ ([_, _, _, _, _, _, _] ++ _)) (by first | exact fun _ h => h | (intro r hr; cases hr; done) | (simp; done) | exact fun _ h => List.mem_append_left _ h | (intro r hr; simp [hr]; done))
end Go.Proofs.Ytlhlidmhlhodiaa

/-
  Two flows by their shares: what each was sent (plain).
-/
namespace Go.Proofs.Ytlhlidmhlhodiaa
set_option linter.unusedSimpArgs false
set_option linter.unusedVariables false
open Go.RowKit
attribute [local irreducible] Pv WO WC Fn

structure DI (p q sz S1 S2 : Int) (t : Tn) : Prop where
  l1 : 0 ≤ t.l1
  l2 : 0 ≤ t.l2
  rest : ∃ g1 g2, S1 = g1 * p - t.l1 ∧ S2 = g2 * q - t.l2 ∧
    ((t.at_ = 0 ∧ t.gr = false ∧ t.l1 = 0 ∧ t.l2 = 0 ∧ g1 = 0 ∧ g2 = 0) ∨ (t.at_ = 1 ∧ t.gr = true ∧ g1 = g2 + 1 ∧ t.l1 < p + sz ∧ t.l2 < sz) ∨ (t.at_ = 2 ∧ t.gr = true ∧ g1 = g2 ∧ t.l1 < sz ∧ t.l2 < q + sz))
theorem DI.zero (p q sz : Int) : DI p q sz 0 0 ⟨0, false, 0, 0⟩ := ⟨Int.le_refl _, Int.le_refl _, 0, 0, by simp, by simp, .inl ⟨rfl, rfl, rfl, rfl, rfl, rfl⟩⟩
theorem DI.ok {p q sz S1 S2 : Int} {t : Tn} (h : DI p q sz S1 S2 t) (hb : 40 ≤ p ∧ p ≤ 200 ∧ 40 ≤ q ∧ q ≤ 200 ∧ 1 ≤ sz ∧ sz ≤ 40) : TnOk sz t := by
  have h1 := h.l1
  have h2 := h.l2
  obtain ⟨g1, g2, _, _, h3 | h3 | h3⟩ := h.rest
  · exact ⟨.inl h3.1, by omega, by omega, fun _ => by omega, fun _ => by omega⟩
  · exact ⟨.inr (.inl h3.1), by omega, by omega, fun h => absurd h3.1 h, fun _ => by omega⟩
  · exact ⟨.inr (.inr h3.1), by omega, by omega, fun _ => by omega, fun h => absurd h3.1 h⟩
theorem chM_of {p q sz : Int} {t : Tn} (h : t.at_ ≠ 0) (hg : tnG p q t = t) : chM p q sz t = if sz ≤ tnL t then t else tnG p q ⟨aftM t.at_, false, t.l1, t.l2⟩ := by
  unfold chM
  simp only [if_neg h, hg]
/-- what is chosen is due, and may be taken -/
theorem DI.choose {p q sz S1 S2 : Int} {t : Tn} (h : DI p q sz S1 S2 t) (hb : 40 ≤ p ∧ p ≤ 200 ∧ 40 ≤ q ∧ q ≤ 200 ∧ 1 ≤ sz ∧ sz ≤ 40) :
    DI p q sz S1 S2 (chM p q sz t) ∧ ((chM p q sz t).at_ = 1 ∨ (chM p q sz t).at_ = 2) ∧ (chM p q sz t).gr = true ∧ sz ≤ tnL (chM p q sz t) := by
  obtain ⟨at_, gr, x, y⟩ := t
  obtain ⟨h1, h2, g1, g2, e1, e2, h3⟩ := h
  dsimp only at h1 h2 e1 e2 h3
  have add1 : ∀ a b : Int, (a + 1) * b = a * b + b := fun a b => by rw [Int.add_mul, Int.one_mul]
  rcases h3 with ⟨rfl, rfl, rfl, rfl, rfl, rfl⟩ | ⟨rfl, rfl, rfl, h4, h5⟩ | ⟨rfl, rfl, rfl, h4, h5⟩
  · have e : chM p q sz ⟨0, false, 0, 0⟩ = ⟨1, true, 0 + p, 0⟩ := by
      unfold chM
      dsimp only
      rw [if_pos rfl]
      have : tnG p q ⟨1, false, 0, 0⟩ = ⟨1, true, 0 + p, 0⟩ := by unfold tnG; rw [if_neg (by simp), if_pos rfl]
      rw [this, if_pos (by show sz ≤ 0 + p; omega)]
    rw [e]
    refine ⟨⟨by dsimp only; omega, by dsimp only; omega, 1, 0, ?_, ?_, .inr (.inl ⟨rfl, rfl, rfl, by dsimp only; omega, by dsimp only; omega⟩)⟩, .inl rfl, rfl, by show sz ≤ 0 + p; omega⟩
    · rw [e1]; dsimp only; omega
    · rw [e2]
  · have hg : tnG p q ⟨1, true, x, y⟩ = ⟨1, true, x, y⟩ := by unfold tnG; rw [if_pos rfl]
    by_cases hl : sz ≤ x
    · have e : chM p q sz ⟨1, true, x, y⟩ = ⟨1, true, x, y⟩ := by
        rw [chM_of (by show (1 : Int) ≠ 0; decide) hg, if_pos (by show sz ≤ x; exact hl)]
      rw [e]
      exact ⟨⟨h1, h2, g2 + 1, g2, e1, e2, .inr (.inl ⟨rfl, rfl, rfl, h4, h5⟩)⟩, .inl rfl, rfl, hl⟩
    · have e : chM p q sz ⟨1, true, x, y⟩ = ⟨2, true, x, y + q⟩ := by
        rw [chM_of (by show (1 : Int) ≠ 0; decide) hg, if_neg (by show ¬ sz ≤ x; exact hl)]
        unfold tnG aftM
        dsimp only
        rw [if_neg (by simp), if_pos rfl, if_neg (by decide)]
      rw [e]
      refine ⟨⟨h1, by dsimp only; omega, g2 + 1, g2 + 1, e1, ?_, .inr (.inr ⟨rfl, rfl, rfl, by dsimp only; omega, by dsimp only; omega⟩)⟩, .inr rfl, rfl, by show sz ≤ y + q; omega⟩
      rw [e2, add1]; dsimp only; omega
  · have hg : tnG p q ⟨2, true, x, y⟩ = ⟨2, true, x, y⟩ := by unfold tnG; rw [if_pos rfl]
    by_cases hl : sz ≤ y
    · have e : chM p q sz ⟨2, true, x, y⟩ = ⟨2, true, x, y⟩ := by
        rw [chM_of (by show (2 : Int) ≠ 0; decide) hg, if_pos (by show sz ≤ y; exact hl)]
      rw [e]
      exact ⟨⟨h1, h2, g1, g1, e1, e2, .inr (.inr ⟨rfl, rfl, rfl, h4, h5⟩)⟩, .inr rfl, rfl, hl⟩
    · have e : chM p q sz ⟨2, true, x, y⟩ = ⟨1, true, x + p, y⟩ := by
        rw [chM_of (by show (2 : Int) ≠ 0; decide) hg, if_neg (by show ¬ sz ≤ y; exact hl)]
        show tnG p q ⟨aftM 2, false, x, y⟩ = _
        rw [show aftM 2 = 1 from rfl]
        unfold tnG
        dsimp only
        rw [if_neg (by simp), if_pos rfl]
      rw [e]
      refine ⟨⟨by dsimp only; omega, h2, g1 + 1, g1, ?_, e2, .inr (.inl ⟨rfl, rfl, rfl, by dsimp only; omega, by dsimp only; omega⟩)⟩, .inl rfl, rfl, by show sz ≤ x + p; omega⟩
      rw [e1, add1]; dsimp only; omega
theorem DI.take1 {p q sz S1 S2 x y : Int} (h : DI p q sz S1 S2 ⟨1, true, x, y⟩) (hs : 1 ≤ sz) (hl : sz ≤ x) : DI p q sz (S1 + sz) S2 ⟨1, true, x - sz, y⟩ := by
  obtain ⟨h1, h2, g1, g2, e1, e2, h3⟩ := h
  dsimp only at h1 h2 e1 e2 h3
  rcases h3 with ⟨h, _⟩ | ⟨_, _, h4, h5, h6⟩ | ⟨h, _⟩
  · exact absurd h (by decide)
  · exact ⟨by dsimp only; omega, h2, g1, g2, by dsimp only; omega, e2, .inr (.inl ⟨rfl, rfl, h4, by dsimp only; omega, h6⟩)⟩
  · exact absurd h (by decide)
theorem DI.take2 {p q sz S1 S2 x y : Int} (h : DI p q sz S1 S2 ⟨2, true, x, y⟩) (hs : 1 ≤ sz) (hl : sz ≤ y) : DI p q sz S1 (S2 + sz) ⟨2, true, x, y - sz⟩ := by
  obtain ⟨h1, h2, g1, g2, e1, e2, h3⟩ := h
  dsimp only at h1 h2 e1 e2 h3
  rcases h3 with ⟨h, _⟩ | ⟨h, _⟩ | ⟨_, _, h4, h5, h6⟩
  · exact absurd h (by decide)
  · exact absurd h (by decide)
  · exact ⟨h1, by dsimp only; omega, g1, g2, e1, by dsimp only; omega, .inr (.inr ⟨rfl, rfl, h4, h5, by dsimp only; omega⟩)⟩
/-- bytes in proportion to the shares -/
theorem DI.fair {p q sz S1 S2 : Int} {t : Tn} (h : DI p q sz S1 S2 t) (hb : 40 ≤ p ∧ p ≤ 200 ∧ 40 ≤ q ∧ q ≤ 200 ∧ 1 ≤ sz ∧ sz ≤ 40) :
    S1 * q - S2 * p ≤ p * q + 40 * p + 40 * q ∧ -(S1 * q - S2 * p) ≤ p * q + 40 * p + 40 * q := by
  obtain ⟨h1, h2, g1, g2, e1, e2, h3⟩ := h
  have m1 : 0 ≤ t.l1 * q := Int.mul_nonneg h1 (by omega)
  have m2 : 0 ≤ t.l2 * p := Int.mul_nonneg h2 (by omega)
  have hpq : 0 ≤ p * q := Int.mul_nonneg (by omega) (by omega)
  have x1 : S1 * q = g1 * p * q - t.l1 * q := by rw [e1, Int.sub_mul]
  have x2 : S2 * p = g2 * p * q - t.l2 * p := by rw [e2, Int.sub_mul, Int.mul_right_comm]
  have sm : ∀ z s : Int, z < sz → 40 ≤ s → z * s ≤ 40 * s := fun z s hz hs => Int.mul_le_mul_of_nonneg_right (by omega) (by omega)
  rcases h3 with ⟨_, _, h4, h5, rfl, rfl⟩ | ⟨_, _, rfl, h4, h5⟩ | ⟨_, _, rfl, h4, h5⟩
  · rw [h4, Int.zero_mul] at x1
    rw [h5, Int.zero_mul] at x2
    simp only [Int.zero_mul] at x1 x2
    omega
  · have a1 : (g2 + 1) * p * q = g2 * p * q + p * q := by rw [Int.add_mul, Int.one_mul, Int.add_mul]
    have a2 : t.l1 * q ≤ (p + 40) * q := Int.mul_le_mul_of_nonneg_right (by omega) (by omega)
    have a3 := sm t.l2 p h5 (by omega)
    rw [Int.add_mul] at a2
    omega
  · have a2 : t.l2 * p ≤ (q + 40) * p := Int.mul_le_mul_of_nonneg_right (by omega) (by omega)
    have a3 := sm t.l1 q h4 (by omega)
    rw [Int.add_mul, Int.mul_comm q p] at a2
    omega
/-- how often a flow comes -/
def cI (i : Int) : List (Int × It4) → Nat
  | [] => 0
  | x :: l => (if x.1 = i then 1 else 0) + cI i l
theorem cI_snoc (i : Int) (x : Int × It4) : ∀ l : List (Int × It4), cI i (l ++ [x]) = cI i l + (if x.1 = i then 1 else 0)
  | [] => by simp [cI]
  | y :: l => by
    show (if y.1 = i then 1 else 0) + cI i (l ++ [x]) = (if y.1 = i then 1 else 0) + cI i l + _
    rw [cI_snoc i x l]; omega
theorem cI_sum : ∀ {l : List (Int × It4)}, (∀ x ∈ l, x.1 = 1 ∨ x.1 = 2) → cI 1 l + cI 2 l = l.length
  | [], _ => rfl
  | x :: l, h => by
    have := cI_sum (l := l) (fun y hy => h y (.tail _ hy))
    show (if x.1 = 1 then 1 else 0) + cI 1 l + ((if x.1 = 2 then 1 else 0) + cI 2 l) = l.length + 1
    rcases h x (.head _) with e | e <;> rw [e] <;> simp <;> omega
abbrev sR (x : Int × It4) : List Value := [.int .i64 x.1, .int .i64 x.2.1, .int .i64 x.2.2.1, .int .i64 x.2.2.2.1, .bool x.2.2.2.2]
abbrev sRs (l : List (Int × It4)) : List (List Value) := l.map sR
theorem sRs_at {l : List (Int × It4)} {j : Nat} {x : Int × It4} (h : l[j]? = some x) : (sRs l)[j]? = some [.int .i64 x.1, .int .i64 x.2.1, .int .i64 x.2.2.1, .int .i64 x.2.2.2.1, .bool x.2.2.2.2] := by rw [List.getElem?_map, h]; rfl
end Go.Proofs.Ytlhlidmhlhodiaa

/-
  Package egress, with two flows of pictures: Run.
-/
namespace Go.Proofs.Ytlhlidmhlhodiaa
set_option linter.unusedSimpArgs false
set_option linter.unusedVariables false
open Go.RowKit
attribute [local irreducible] Pv WO WC Fn
set_option maxRecDepth 100000

abbrev snO (ao : Option Addr) (c : Nat) (l : List (Int × It4)) : It := .own 137 5 ao l.length c (sRs l)
abbrev itmB (b : Nat) (n s t : Int) (k : Bool) : It := .ob b (.cells #[.int .i64 n, .int .i64 s, .int .i64 t, .bool k] 133 (0, 0))
def tblCr (e mf gs : Nat) (cr cr2 : Int) : Nat → List (List It) → Value → List (List It) → Prop := fun k Ls v Ms => match k, Ls with
  | 3, L => v = .int .i64 cr ∧ Ms = L
  | 9, _ => v = undef ∧ Ms = [[eoI e mf gs cr2 0]]
  | _, _ => False
def tblTa (gs ms ml : Nat) (at_ : Int) (kl' : List (Int × Value)) : Nat → List (List It) → Value → List (List It) → Prop := fun k Ls v Ms => match k, Ls with
  | 6, _ => v = .tuple #[] ∧ Ms = [[scI gs ms ml at_ true, .ob ml (mob .i64 kl')]]
  | _, _ => False
theorem KL.tk1 {kl : List (Int × Value)} {gr : Bool} {y1 y2 z : Int} (h : KL kl ⟨1, gr, y1, y2⟩) : KL (aset kl 1 (.int .i64 z)) ⟨1, true, z, y2⟩ :=
  ⟨LV.set _ _, h.k2.other (by decide) _, fun x hx => by
    rcases aset_key x hx with e | ⟨y, hy, e⟩
    · exact .inl e
    · rw [e]; exact h.ks y hy⟩
theorem KL.tk2 {kl : List (Int × Value)} {gr : Bool} {y1 y2 z : Int} (h : KL kl ⟨2, gr, y1, y2⟩) : KL (aset kl 2 (.int .i64 z)) ⟨2, true, y1, z⟩ :=
  ⟨h.k1.other (by decide) _, LV.set _ _, fun x hx => by
    rcases aset_key x hx with e | ⟨y, hy, e⟩
    · exact .inr e
    · rw [e]; exact h.ks y hy⟩
theorem mul_snoc (sz : Int) (k : Nat) : sz * ((k + 1 : Nat) : Int) = sz * k + sz := by rw [Int.natCast_add, Int.mul_add]; simp
set_option maxHeartbeats 32000000 in
theorem eRun (e mf gs ms ml q1 q2 : Nat) (cr at_ : Int) (gr : Bool) (y1 y2 p q sz : Int) (kl : List (Int × Value)) (a1 : Option Addr) (n1 c1 : Nat) (l1 : List It4) (a2 : Option Addr) (n2 c2 : Nat) (l2 : List It4) (R : List Ro) (S1 S2 : Int)
    (hk : KL kl ⟨at_, gr, y1, y2⟩) (hD : DI p q sz S1 S2 ⟨at_, gr, y1, y2⟩) (hb : 40 ≤ p ∧ p ≤ 200 ∧ 40 ≤ q ∧ q ≤ 200 ∧ 1 ≤ sz ∧ sz ≤ 40) (hS1 : SR R 4 a1 n1 c1 (its l1)) (hS2 : SR R 4 a2 n2 c2 (its l2)) (hl1 : l1.length = 5) (hl2 : l2.length = 5) (hq1 : QI sz l1) (hq2 : QI sz l2) (hcr : 0 ≤ cr ∧ cr < 4 * sz) :
    Fn Try.prog 55 #[.pointer (some ⟨e, 0, none⟩)] [eoI e mf gs cr 0, .ob mf (mob .i64 (fmM q1 q2)), Qc q1 5 1000 a1 n1 c1 (sumS l1) false, Qc q2 5 1000 a2 n2 c2 (sumS l2) false, scI gs ms ml at_ gr, .ob ms (shM p q), .ob ml (mob .i64 kl)] R
      (fun v L' R' => ∃ (rows : List (Int × It4)) (ao : Option Addr) (c : Nat) (kl' : List (Int × Value)) (t' : Tn) (cr' : Int) (a1 : Option Addr) (n1 c1 : Nat) (l1' : List It4) (a2 : Option Addr) (n2 c2 : Nat) (l2' : List It4), v = .slice ao rows.length c ∧
        L' = [snO ao c rows, eoI e mf gs cr' 0, .ob mf (mob .i64 (fmM q1 q2)), Qc q1 5 1000 a1 n1 c1 (sumS l1') false, Qc q2 5 1000 a2 n2 c2 (sumS l2') false, scI gs ms ml t'.at_ t'.gr, .ob ms (shM p q), .ob ml (mob .i64 kl')]
        ∧ SR R' 4 a1 n1 c1 (its l1') ∧ SR R' 4 a2 n2 c2 (its l2') ∧ QI sz l1' ∧ QI sz l2' ∧ l1'.length + cI 1 rows = 5 ∧ l2'.length + cI 2 rows = 5 ∧ (∀ x ∈ rows, x.1 = 1 ∨ x.1 = 2) ∧ (0 ≤ cr' ∧ cr' < sz) ∧ KL kl' t' ∧ DI p q sz (S1 + sz * (cI 1 rows : Nat)) (S2 + sz * (cI 2 rows : Nat)) t' ∧ rows.length ≤ 3) := by
  have f1 := fm1 q1 q2
  have f2 := fm2 q1 q2
  refine fn_intro Try.func55 rfl Try.ntmps55 rfl (fun E => ?_)
  (repeat (first | ((first | (apply wo_v; rfl) ); (· first | (apply pv_ev; rfl) )) | apply wo_nil | apply wc_seq | apply wc_region ))
  refine wc_own0 137 5 ?_
  refine wc_block ?_
  refine wc_loop' (fun w st => ∃ (rows : List (Int × It4)) (ao : Option Addr) (c : Nat) (kl : List (Int × Value)) (at_ : Int) (gr : Bool) (y1 y2 cz : Int) (a1 : Option Addr) (n1 c1 : Nat) (m1 : List It4) (a2 : Option Addr) (n2 c2 : Nat) (m2 : List It4) (RR : List Ro), w = 4 - rows.length ∧ cz + sz * (rows.length : Nat) = cr ∧ 0 ≤ cz ∧
      KL kl ⟨at_, gr, y1, y2⟩ ∧ DI p q sz (S1 + sz * (cI 1 rows : Nat)) (S2 + sz * (cI 2 rows : Nat)) ⟨at_, gr, y1, y2⟩ ∧ SR RR 4 a1 n1 c1 (its m1) ∧ SR RR 4 a2 n2 c2 (its m2) ∧ QI sz m1 ∧ QI sz m2 ∧ m1.length + cI 1 rows = 5 ∧ m2.length + cI 2 rows = 5 ∧ (∀ x ∈ rows, x.1 = 1 ∨ x.1 = 2) ∧
      st = ⟨[(0, .pointer (some ⟨e, 0, none⟩)), (3, .slice ao rows.length c)], [snO ao c rows, eoI e mf gs cz 0, .ob mf (mob .i64 (fmM q1 q2)), Qc q1 5 1000 a1 n1 c1 (sumS m1) false, Qc q2 5 1000 a2 n2 c2 (sumS m2) false, scI gs ms ml at_ gr, .ob ms (shM p q), .ob ml (mob .i64 kl)], RR⟩)
    ⟨[], none, 0, kl, at_, gr, y1, y2, cr, a1, n1, c1, l1, a2, n2, c2, l2, R, rfl, by simp, hcr.1, hk, by simpa [cI] using hD, hS1, hS2, hq1, hq2, by rw [hl1]; rfl, by rw [hl2]; rfl, (fun x hx => by cases hx), rfl⟩ (wk_mk (by (repeat (first | apply wkf_nil | (apply wkf_cons; rfl))); done) (by (repeat (first | apply sub_nil )); done) (by first | exact fun _ h => h | (intro r hr; cases hr; done) | (simp; done) | exact fun _ h => List.mem_append_left _ h | (intro r hr; simp [hr]; done))) ?_
  clear hk hD hS1 hS2 hl1 hl2 hq1 hq2
  rintro w st ⟨rows, ao, c, kl, at_, gr, y1, y2, cz, a1, n1, c1, m1, a2, n2, c2, m2, RR, rfl, hcz, hcz0, hk, hD, hS1, hS2, hq1, hq2, hm1, hm2, hids, rfl⟩
  have hsum := cI_sum hids
  have hlen : rows.length ≤ 3 := by
    have h4 : sz * (rows.length : Int) < sz * 4 := by omega
    have := Int.lt_of_mul_lt_mul_left h4 (by omega)
    omega
  have hczb : cz ≤ 160 := by have := Int.mul_nonneg (show 0 ≤ sz by omega) (show (0 : Int) ≤ (rows.length : Int) by omega); omega
  obtain ⟨x1, t1, rfl⟩ : ∃ x t, m1 = x :: t := by
    cases m1 with
    | nil => simp at hm1; omega
    | cons a b => exact ⟨a, b, rfl⟩
  obtain ⟨x2, t2, rfl⟩ : ∃ x t, m2 = x :: t := by
    cases m2 with
    | nil => simp at hm2; omega
    | cons a b => exact ⟨a, b, rfl⟩
  have hz1 := hq1.it x1 (.head _)
  have hz2 := hq2.it x2 (.head _)
  have hN := eNext e mf gs ms ml q1 q2 cz at_ gr y1 y2 p q sz kl a1 n1 c1 x1 t1 false a2 n2 c2 x2 t2 false RR (sumS (x1 :: t1)) (sumS (x2 :: t2)) hk (hD.ok hb) hb hS1 hS2 hz1.1 hz2.1
  obtain ⟨hD2, hat, hgr, hdue⟩ := hD.choose hb
  generalize chM p q sz ⟨at_, gr, y1, y2⟩ = CH at hN hD2 hat hgr hdue
  obtain ⟨ca, cg, cy1, cy2⟩ := CH
  dsimp only at hat hgr hN
  subst hgr
  (repeat (first | fail ))
  refine wc_block ?_
  (repeat (first | ((first | (apply wo_v; rfl) ); (· first | (apply pv_ev; rfl) )) | apply wc_seq | apply wc_region ))
  (refine wo_call (hN) rfl (by (repeat (first | apply sub_nil | (apply sub_cons; (· (repeat (first | apply sel_here | apply sel_there)))))); done) (by first | exact fun _ h => h | (intro r hr; cases hr; done) | (simp; done) | exact fun _ h => List.mem_append_left _ h | (intro r hr; simp [hr]; done)) rfl ?_; rintro v L' R' ⟨kl', rfl, rfl, rfl, hk'⟩ H' hH RR hR; simp only [List.cons_append, List.nil_append] at hH hR; subst hH; have hR := hR.symm; subst hR)
  clear hN hk
  have hF1 := eFirst q1 a1 n1 c1 (sumS (x1 :: t1)) false x1 t1 RR hS1
  have hF2 := eFirst q2 a2 n2 c2 (sumS (x2 :: t2)) false x2 t2 RR hS2
  have hP1 := qPop q1 5 1000 a1 n1 c1 false (x1 :: t1) RR hS1 (hq1.all hb.2.2.2.2 (by omega))
  have hP2 := qPop q2 5 1000 a2 n2 c2 false (x2 :: t2) RR hS2 (hq2.all hb.2.2.2.2 (by omega))
  obtain ⟨xn1, xs1, xt1, xk1⟩ := x1
  obtain ⟨xn2, xs2, xt2, xk2⟩ := x2
  dsimp only at hz1 hz2
  obtain ⟨hz1, rfl⟩ := hz1
  obtain ⟨hz2, rfl⟩ := hz2
  (repeat (first | ((first | (apply wo_v; rfl) ); (· first | (apply pv_ev; rfl) | (apply pv_fld; rfl) | (apply g_load; first | (apply pv_ld; rfl; (· (repeat (first | apply sel_here ))); rfl) ) | (apply g_un; first | (apply pv_not_t; rfl) ) )) | apply wo_nil | apply wc_seq | apply wc_region | apply wc_skip | (apply wc_true; rfl) | (apply wc_false; rfl) ))
  rcases hat with rfl | rfl
  · (repeat (first | ((first | (apply wo_v; rfl) ); (· first | (apply pv_ev; rfl) | (apply pv_fld; rfl) | (apply g_load; first | (apply pv_ld; rfl; (· (repeat (first | apply sel_here ))); rfl) ) )) | ((apply wo_v; rfl); (· first | (apply g_lk; first | (apply pv_mlk_n; rfl; rfl; (· (repeat (first | apply sel_here | apply sel_there))); (· assumption)) | (apply pv_mlk_s; rfl; rfl; (· (repeat (first | apply sel_here | apply sel_there))); (· assumption)) ) )) | apply wo_nil | apply wc_seq | apply wc_region | (apply wo_alloc; rfl; intro bx) | (apply wo_sta; rfl; rfl; rfl; rfl; (· (repeat (first | apply sel_here ))); (· (repeat (first | apply LayAt.nil | apply LayAt.here ))); rfl) ))
    obtain ⟨b6, hb6⟩ : ∃ g, g = bx := ⟨_, rfl⟩
    subst hb6
    (refine wo_call (hF1) rfl (by (repeat (first | apply sub_nil | (apply sub_cons; (· (repeat (first | apply sel_here | apply sel_there)))))); done) (by first | exact fun _ h => h | (intro r hr; cases hr; done) | (simp; done) | exact fun _ h => List.mem_append_left _ h | (intro r hr; simp [hr]; done)) rfl ?_; rintro v L' R' ⟨rfl, rfl, rfl⟩ H' hH RR hR; simp only [List.cons_append, List.nil_append] at hH hR; subst hH; have hR := hR.symm; subst hR)
    (repeat (first | ((first | (apply wo_v; rfl) ); (· first | (apply pv_ev; rfl) )) | ((apply wo_v; rfl); (· first | fail )) | apply wo_nil | apply wc_seq | (apply wo_alloc; rfl; intro bx) | (apply wo_sta; rfl; rfl; rfl; rfl; (· (repeat (first | apply sel_here ))); (· (repeat (first | apply LayAt.nil | apply LayAt.here ))); rfl) ))
    obtain ⟨b7, hb7⟩ : ∃ g, g = bx := ⟨_, rfl⟩
    subst hb7
    by_cases hgt : cz < xs1
    · (refine wc_quiet mixed (by kernel_rfl) ?_; (repeat (first | ((first | (apply wo_v; rfl) | (apply hd_v; rfl) ); (· first | (apply pv_ev; rfl) | (apply pv_fld; rfl) | (apply g_load; first | (apply pv_ld; rfl; (· (repeat (first | apply sel_here | apply sel_there))); rfl) ) )) | apply wo_nil | apply Hd.nil | apply wc_seq | apply wc_region | apply wc_ret | (apply wc_true; rfl) | (apply wc_false; rfl) | (apply a_dec_t; rfl; (· first | assumption | omega)) )))
      (repeat (first | fail ))
      exact retv rfl (by (repeat (first | apply RV.nil | (apply RV.tmp; rfl) )); done) (⟨rows, ao, c, kl', ⟨1, true, cy1, cy2⟩, cz, a1, n1, c1, _, a2, n2, c2, _, rfl, rfl, hS1, hS2, hq1, hq2, hm1, hm2, hids, by omega, hk', hD2, hlen⟩) (by (repeat (first | apply sub_nil | (apply sub_cons; (· (repeat (first | apply sel_here | apply sel_there)))))); done) (by first | exact fun _ h => h | (intro r hr; cases hr; done) | (simp; done) | exact fun _ h => List.mem_append_left _ h | (intro r hr; simp [hr]; done))
    · obtain ⟨X, hX⟩ : ∃ X : Int × It4, X = (1, (xn1, xs1, xt1, true)) := ⟨_, rfl⟩
      have e1 : cI 1 (rows ++ [X]) = cI 1 rows + 1 := by rw [cI_snoc, hX]; rfl
      have e2 : cI 2 (rows ++ [X]) = cI 2 rows := by rw [cI_snoc, hX]; simp
      have e3 : (rows ++ [X]).length = rows.length + 1 := by rw [List.length_append]; rfl
      have e4 : ∀ x ∈ rows ++ [X], x.1 = 1 ∨ x.1 = 2 := fun x hx => by
        rcases List.mem_append.1 hx with hx | hx
        · exact hids x hx
        · rw [List.mem_singleton.1 hx, hX]; simp
      have e5 : sRs (rows ++ [X]) = sRs rows ++ [[.int .i64 1, .int .i64 xn1, .int .i64 xs1, .int .i64 xt1, .bool true]] := by rw [sRs, List.map_append, hX]; rfl
      have hdue1 : sz ≤ cy1 := hdue
      have hD3 := hD2.take1 hb.2.2.2.2.1 hdue1
      have hcb := (hD2.ok hb).b1
      dsimp only at hcb
      have hT := dTake gs ms ml 1 cy1 xs1 kl' hk'.k1 (by omega)
      have hk3 := hk'.tk1 (z := cy1 - xs1)
      have hms := mul_snoc sz rows.length
      have hmi := mul_snoc sz (cI 1 rows)
      rw [← hz1] at hD3
      clear hX
      (refine wc_quiet mixed (by kernel_rfl) ?_; (repeat (first | ((first | (apply wo_v; rfl) | (apply hd_v; rfl) ); (· first | (apply pv_ev; rfl) | (apply pv_fld; rfl) | (apply g_load; first | (apply pv_ld; rfl; (· (repeat (first | apply sel_here | apply sel_there))); rfl) ) )) | apply Hd.nil | apply wc_seq | apply wc_region | apply wc_skip | (apply wc_true; rfl) | (apply wc_false; rfl) | (apply a_dec_t; rfl; (· first | assumption | omega)) | (apply a_dec_f; rfl; (· first | assumption | omega)) )))
      (repeat (first | ((first | (apply wo_v; rfl) ); (· first | (apply pv_ev; rfl) )) ))
      (refine wo_call (hP1) rfl (by (repeat (first | apply sub_nil | (apply sub_cons; (· (repeat (first | apply sel_here | apply sel_there)))))); done) (by first | exact fun _ h => h | (intro r hr; cases hr; done) | (simp; done) | exact fun _ h => List.mem_append_left _ h | (intro r hr; simp [hr]; done)) rfl ?_; rintro v L' R' ⟨aP, nP, cP, rfl, rfl, hSP⟩ H' hH RR hR; simp only [List.cons_append, List.nil_append] at hH hR; subst hH; have hR := hR.symm; subst hR)
      have hSQ := hSP.mono (R' := R' ++ RR) (fun r hr => List.mem_append_left _ hr)
      have hSO := hS2.mono (R' := R' ++ RR) (fun r hr => List.mem_append_right _ hr)
      clear hSP hS1 hS2 hF1 hF2 hP1 hP2
      generalize R' ++ RR = RG at hSQ hSO ⊢
      (repeat (first | apply wo_nil | apply wc_seq ))
      (refine wc_regM [0] (aslL [(3, [0]), (9, [0])]) (tblCr e mf gs cz (cz - xs1)) ([Qc q1 5 1000 aP nP cP (sumS t1) false, itmB b7 xn1 xs1 xt1 true, flB b6 q1, .ob mf (mob .i64 (fmM q1 q2)), Qc q2 5 1000 a2 n2 c2 (sumS ((xn2, xs2, xt2, true) :: t2)) false, scI gs ms ml 1 true, .ob ms (shM p q), .ob ml (mob .i64 kl'), snO ao c rows]) (fm [(0, [eoI e mf gs cz 0])]) mixed (by kernel_rfl) (by kernel_rfl) (by decide) (aslL_ok (by decide)) (by (repeat (first | (apply prm_cons; (· (repeat (first | apply sel_here | apply sel_there)))) | apply List.Perm.nil )); done) ?_; (repeat (first | (apply HdM.val; rfl; rfl; (· first | apply gok_none ); (· first | (apply pv_ev; rfl) | (apply pv_fld; rfl) )) )))
      (refine hm_eff (cs := [0]) rfl (by decide) rfl rfl (by first | exact gok_none | exact gok_run rfl rfl) (fun a ha => outc_mono (outc_pv (L := [eoI e mf gs cz 0]) (pv_ld rfl (by (repeat (first | apply sel_here )); done) rfl) a ha) (fun v M h => ⟨[M], And.intro h.1 (congrArg (fun x => [x]) h.2), rfl, by simp⟩)) (⟨_, _, And.intro rfl rfl, rfl⟩) ?_; rintro v Ms ⟨rfl, rfl⟩ _; simp only [setls, setl, reduceIte, Nat.reduceEqDiff]; (repeat (first | (apply HdM.val; rfl; rfl; (· first | apply gok_none ); (· first | (apply pv_ev; rfl) | (apply pv_fld; rfl) | (apply g_load; first | (apply pv_ld; rfl; (· (repeat (first | apply sel_here | apply sel_there))); rfl) ) | (apply g_bin; first | (apply a_sub; rfl; rfl; infer_instance; omega) ) )) )))
      (refine hm_eff (cs := [0]) rfl (by decide) rfl rfl (by first | exact gok_none | exact gok_run rfl rfl) (fun a ha => outc_mono (outc_st rfl rfl rfl (by (repeat (first | apply SetAt.here | apply SetAt.there)); done) a ha) (fun v M h => ⟨[M], And.intro h.1 (congrArg (fun x => [x]) h.2), rfl, by simp⟩)) (⟨_, _, And.intro rfl rfl, rfl⟩) ?_; rintro v Ms ⟨rfl, rfl⟩ _; simp only [setls, setl, reduceIte, Nat.reduceEqDiff]; (repeat (first | fail )))
      (refine HdM.nil ?_; intro H hH; simp only [Hp, fm, look, setl, List.flatMap_cons, List.flatMap_nil, reduceIte, Nat.reduceEqDiff, Option.getD_some, List.append_nil, List.cons_append, List.nil_append] at hH; subst hH)
      (repeat (first | ((first | (apply wo_v; rfl) ); (· first | (apply pv_ev; rfl) | (apply pv_fld; rfl) | (apply g_load; first | (apply pv_ld; rfl; (· (repeat (first | apply sel_here | apply sel_there))); rfl) ) )) | apply wo_nil | apply wc_seq | apply wc_region | (apply wc_true; rfl) ))
      (refine wc_regM [0] (aslL [(6, [0])]) (tblTa gs ms ml 1 (aset kl' 1 (.int .i64 (cy1 - xs1)))) ([Qc q1 5 1000 aP nP cP (sumS t1) false, itmB b7 xn1 xs1 xt1 true, flB b6 q1, .ob mf (mob .i64 (fmM q1 q2)), Qc q2 5 1000 a2 n2 c2 (sumS ((xn2, xs2, xt2, true) :: t2)) false, eoI e mf gs (cz - xs1) 0, .ob ms (shM p q), snO ao c rows]) (fm [(0, [scI gs ms ml 1 true, .ob ml (mob .i64 kl')])]) mixed (by kernel_rfl) (by kernel_rfl) (by decide) (aslL_ok (by decide)) (by (repeat (first | (apply prm_cons; (· (repeat (first | apply sel_here | apply sel_there)))) | apply List.Perm.nil )); done) ?_; (repeat (first | (apply HdM.val; rfl; rfl; (· first | apply gok_none ); (· first | (apply pv_ev; rfl) | (apply pv_fld; rfl) | (apply g_load; first | (apply pv_ld; rfl; (· (repeat (first | apply sel_here | apply sel_there))); rfl) ) )) )))
      (refine hm_eff (cs := [0]) rfl (by decide) rfl rfl (by first | exact gok_none | exact gok_run rfl rfl) (fun a ha => outc_mono (outc_call (F1 := _) (T := fun v M => v = .tuple #[] ∧ M = [scI gs ms ml 1 true, .ob ml (mob .i64 (aset kl' 1 (.int .i64 (cy1 - xs1))))]) hT rfl (by (repeat (first | apply sub_nil )); done) (by first | exact fun _ h => h | (intro r hr; cases hr; done) | (simp; done) | exact fun _ h => List.mem_append_left _ h | (intro r hr; simp [hr]; done)) (by rintro v L' R' ⟨rfl, rfl, _⟩; exact ⟨_, ⟨rfl, rfl⟩, (by (repeat (first | (apply prm_cons; (· (repeat (first | apply sel_here )))) | apply List.Perm.nil )); done)⟩) a ha) (fun v M h => ⟨[M], And.intro h.1 (congrArg (fun x => [x]) h.2), rfl, by simp⟩)) (⟨_, _, And.intro rfl rfl, rfl⟩) ?_; rintro v Ms ⟨rfl, rfl⟩ _; simp only [setls, setl, reduceIte, Nat.reduceEqDiff]; (repeat (first | fail )))
      (refine HdM.nil ?_; intro H hH; simp only [Hp, fm, look, setl, List.flatMap_cons, List.flatMap_nil, reduceIte, Nat.reduceEqDiff, Option.getD_some, List.append_nil, List.cons_append, List.nil_append] at hH; subst hH)
      (repeat (first | ((first | (apply wo_v; rfl) ); (· first | (apply pv_ev; rfl) | (apply pv_fld; rfl) | (apply g_load; first | (apply pv_lda; rfl; (· (repeat (first | apply sel_here | apply sel_there))); (· (repeat (first | apply Cut.here0 | apply Cut.here )))) ) | (apply g_bi; first | fail ) | (apply g_build; apply pv_build; (· (repeat (first | apply Bld.nil | (apply Bld.one; rfl; rfl; (· (repeat (first | apply SetAt.here )))) | (apply Bld.agg; rfl; rfl; (· (repeat (first | apply LayAt.nil | apply LayAt.here | apply LayAt.there)))))))) )) | apply wo_nil | apply wc_region | (apply wo_st; rfl; rfl; rfl; (· (repeat (first | apply sel_here | apply sel_there))); (· (repeat (first | apply SetAt.here | apply SetAt.there))); rfl) | (apply wo_bsl; (· (repeat (first | apply Rws'.nil | (apply Rws'.one; rfl; rfl; rfl) | (apply Rws'.agg; rfl; rfl; rfl)))); rfl; rfl; rfl; rfl; intro bx) ))
      refine wo_app (ao := ao) (n := rows.length) (m := 1) rfl rfl (by (repeat (first | apply sel_here | apply sel_there)); done) (by (repeat (first | apply sel_here )); done) (by unfold maxLen; omega) (by omega) rfl (fun aN cN => ?_)
      show WO _ _ _ _ _ ⟨_, .own 137 5 aN (rows.length + 1) cN (sRs rows ++ [[.int .i64 1, .int .i64 xn1, .int .i64 xs1, .int .i64 xt1, .bool true]]) :: _, _⟩ _
      rw [← e5, ← e3]
      (repeat (first | ((first | (apply wo_v; rfl) ); (· first | (apply pv_ev; rfl) )) | apply wo_nil ))
      exact loop_end ⟨rows ++ [X], aN, cN, aset kl' 1 (.int .i64 (cy1 - xs1)), 1, true, _, _, cz - xs1, aP, nP, cP, t1, a2, n2, c2, ((xn2, xs2, xt2, true) :: t2), RG, rfl, by rw [e3]; omega, by omega, hk3, by rw [e1, e2]; rw [hmi, ← Int.add_assoc, ← hz1]; exact hD3, hSQ, hSO, hq1.tail, hq2, by rw [e1]; simp only [List.length_cons] at hm1; omega, by rw [e2]; exact hm2, e4, rfl⟩ (by rw [e3]; omega) (wk_mk (by (repeat (first | apply wkf_nil | (apply wkf_cons; rfl))); done) (by (repeat (first | apply sub_nil | (apply sub_cons; (· (repeat (first | apply sel_here | apply sel_there)))))); done) (by first | exact fun _ h => h | (intro r hr; cases hr; done) | (simp; done) | exact fun _ h => List.mem_append_left _ h | (intro r hr; simp [hr]; done)))
  · (repeat (first | ((first | (apply wo_v; rfl) ); (· first | (apply pv_ev; rfl) | (apply pv_fld; rfl) | (apply g_load; first | (apply pv_ld; rfl; (· (repeat (first | apply sel_here ))); rfl) ) )) | ((apply wo_v; rfl); (· first | (apply g_lk; first | (apply pv_mlk_n; rfl; rfl; (· (repeat (first | apply sel_here | apply sel_there))); (· assumption)) | (apply pv_mlk_s; rfl; rfl; (· (repeat (first | apply sel_here | apply sel_there))); (· assumption)) ) )) | apply wo_nil | apply wc_seq | apply wc_region | (apply wo_alloc; rfl; intro bx) | (apply wo_sta; rfl; rfl; rfl; rfl; (· (repeat (first | apply sel_here ))); (· (repeat (first | apply LayAt.nil | apply LayAt.here ))); rfl) ))
    obtain ⟨b6, hb6⟩ : ∃ g, g = bx := ⟨_, rfl⟩
    subst hb6
    (refine wo_call (hF2) rfl (by (repeat (first | apply sub_nil | (apply sub_cons; (· (repeat (first | apply sel_here | apply sel_there)))))); done) (by first | exact fun _ h => h | (intro r hr; cases hr; done) | (simp; done) | exact fun _ h => List.mem_append_left _ h | (intro r hr; simp [hr]; done)) rfl ?_; rintro v L' R' ⟨rfl, rfl, rfl⟩ H' hH RR hR; simp only [List.cons_append, List.nil_append] at hH hR; subst hH; have hR := hR.symm; subst hR)
    (repeat (first | ((first | (apply wo_v; rfl) ); (· first | (apply pv_ev; rfl) )) | ((apply wo_v; rfl); (· first | fail )) | apply wo_nil | apply wc_seq | (apply wo_alloc; rfl; intro bx) | (apply wo_sta; rfl; rfl; rfl; rfl; (· (repeat (first | apply sel_here ))); (· (repeat (first | apply LayAt.nil | apply LayAt.here ))); rfl) ))
    obtain ⟨b7, hb7⟩ : ∃ g, g = bx := ⟨_, rfl⟩
    subst hb7
    by_cases hgt : cz < xs2
    · (refine wc_quiet mixed (by kernel_rfl) ?_; (repeat (first | ((first | (apply wo_v; rfl) | (apply hd_v; rfl) ); (· first | (apply pv_ev; rfl) | (apply pv_fld; rfl) | (apply g_load; first | (apply pv_ld; rfl; (· (repeat (first | apply sel_here | apply sel_there))); rfl) ) )) | apply wo_nil | apply Hd.nil | apply wc_seq | apply wc_region | apply wc_ret | (apply wc_true; rfl) | (apply wc_false; rfl) | (apply a_dec_t; rfl; (· first | assumption | omega)) )))
      (repeat (first | fail ))
      exact retv rfl (by (repeat (first | apply RV.nil | (apply RV.tmp; rfl) )); done) (⟨rows, ao, c, kl', ⟨2, true, cy1, cy2⟩, cz, a1, n1, c1, _, a2, n2, c2, _, rfl, rfl, hS1, hS2, hq1, hq2, hm1, hm2, hids, by omega, hk', hD2, hlen⟩) (by (repeat (first | apply sub_nil | (apply sub_cons; (· (repeat (first | apply sel_here | apply sel_there)))))); done) (by first | exact fun _ h => h | (intro r hr; cases hr; done) | (simp; done) | exact fun _ h => List.mem_append_left _ h | (intro r hr; simp [hr]; done))
    · obtain ⟨X, hX⟩ : ∃ X : Int × It4, X = (2, (xn2, xs2, xt2, true)) := ⟨_, rfl⟩
      have e2 : cI 2 (rows ++ [X]) = cI 2 rows + 1 := by rw [cI_snoc, hX]; rfl
      have e1 : cI 1 (rows ++ [X]) = cI 1 rows := by rw [cI_snoc, hX]; simp
      have e3 : (rows ++ [X]).length = rows.length + 1 := by rw [List.length_append]; rfl
      have e4 : ∀ x ∈ rows ++ [X], x.1 = 1 ∨ x.1 = 2 := fun x hx => by
        rcases List.mem_append.1 hx with hx | hx
        · exact hids x hx
        · rw [List.mem_singleton.1 hx, hX]; simp
      have e5 : sRs (rows ++ [X]) = sRs rows ++ [[.int .i64 2, .int .i64 xn2, .int .i64 xs2, .int .i64 xt2, .bool true]] := by rw [sRs, List.map_append, hX]; rfl
      have hdue2 : sz ≤ cy2 := hdue
      have hD3 := hD2.take2 hb.2.2.2.2.1 hdue2
      have hcb := (hD2.ok hb).b2
      dsimp only at hcb
      have hT := dTake gs ms ml 2 cy2 xs2 kl' hk'.k2 (by omega)
      have hk3 := hk'.tk2 (z := cy2 - xs2)
      have hms := mul_snoc sz rows.length
      have hmi := mul_snoc sz (cI 2 rows)
      rw [← hz2] at hD3
      clear hX
      (refine wc_quiet mixed (by kernel_rfl) ?_; (repeat (first | ((first | (apply wo_v; rfl) | (apply hd_v; rfl) ); (· first | (apply pv_ev; rfl) | (apply pv_fld; rfl) | (apply g_load; first | (apply pv_ld; rfl; (· (repeat (first | apply sel_here | apply sel_there))); rfl) ) )) | apply Hd.nil | apply wc_seq | apply wc_region | apply wc_skip | (apply wc_true; rfl) | (apply wc_false; rfl) | (apply a_dec_t; rfl; (· first | assumption | omega)) | (apply a_dec_f; rfl; (· first | assumption | omega)) )))
      (repeat (first | ((first | (apply wo_v; rfl) ); (· first | (apply pv_ev; rfl) )) ))
      (refine wo_call (hP2) rfl (by (repeat (first | apply sub_nil | (apply sub_cons; (· (repeat (first | apply sel_here | apply sel_there)))))); done) (by first | exact fun _ h => h | (intro r hr; cases hr; done) | (simp; done) | exact fun _ h => List.mem_append_left _ h | (intro r hr; simp [hr]; done)) rfl ?_; rintro v L' R' ⟨aP, nP, cP, rfl, rfl, hSP⟩ H' hH RR hR; simp only [List.cons_append, List.nil_append] at hH hR; subst hH; have hR := hR.symm; subst hR)
      have hSQ := hSP.mono (R' := R' ++ RR) (fun r hr => List.mem_append_left _ hr)
      have hSO := hS1.mono (R' := R' ++ RR) (fun r hr => List.mem_append_right _ hr)
      clear hSP hS1 hS2 hF1 hF2 hP1 hP2
      generalize R' ++ RR = RG at hSQ hSO ⊢
      (repeat (first | apply wo_nil | apply wc_seq ))
      (refine wc_regM [0] (aslL [(3, [0]), (9, [0])]) (tblCr e mf gs cz (cz - xs2)) ([Qc q2 5 1000 aP nP cP (sumS t2) false, itmB b7 xn2 xs2 xt2 true, flB b6 q2, .ob mf (mob .i64 (fmM q1 q2)), Qc q1 5 1000 a1 n1 c1 (sumS ((xn1, xs1, xt1, true) :: t1)) false, scI gs ms ml 2 true, .ob ms (shM p q), .ob ml (mob .i64 kl'), snO ao c rows]) (fm [(0, [eoI e mf gs cz 0])]) mixed (by kernel_rfl) (by kernel_rfl) (by decide) (aslL_ok (by decide)) (by (repeat (first | (apply prm_cons; (· (repeat (first | apply sel_here | apply sel_there)))) | apply List.Perm.nil )); done) ?_; (repeat (first | (apply HdM.val; rfl; rfl; (· first | apply gok_none ); (· first | (apply pv_ev; rfl) | (apply pv_fld; rfl) )) )))
      (refine hm_eff (cs := [0]) rfl (by decide) rfl rfl (by first | exact gok_none | exact gok_run rfl rfl) (fun a ha => outc_mono (outc_pv (L := [eoI e mf gs cz 0]) (pv_ld rfl (by (repeat (first | apply sel_here )); done) rfl) a ha) (fun v M h => ⟨[M], And.intro h.1 (congrArg (fun x => [x]) h.2), rfl, by simp⟩)) (⟨_, _, And.intro rfl rfl, rfl⟩) ?_; rintro v Ms ⟨rfl, rfl⟩ _; simp only [setls, setl, reduceIte, Nat.reduceEqDiff]; (repeat (first | (apply HdM.val; rfl; rfl; (· first | apply gok_none ); (· first | (apply pv_ev; rfl) | (apply pv_fld; rfl) | (apply g_load; first | (apply pv_ld; rfl; (· (repeat (first | apply sel_here | apply sel_there))); rfl) ) | (apply g_bin; first | (apply a_sub; rfl; rfl; infer_instance; omega) ) )) )))
      (refine hm_eff (cs := [0]) rfl (by decide) rfl rfl (by first | exact gok_none | exact gok_run rfl rfl) (fun a ha => outc_mono (outc_st rfl rfl rfl (by (repeat (first | apply SetAt.here | apply SetAt.there)); done) a ha) (fun v M h => ⟨[M], And.intro h.1 (congrArg (fun x => [x]) h.2), rfl, by simp⟩)) (⟨_, _, And.intro rfl rfl, rfl⟩) ?_; rintro v Ms ⟨rfl, rfl⟩ _; simp only [setls, setl, reduceIte, Nat.reduceEqDiff]; (repeat (first | fail )))
      (refine HdM.nil ?_; intro H hH; simp only [Hp, fm, look, setl, List.flatMap_cons, List.flatMap_nil, reduceIte, Nat.reduceEqDiff, Option.getD_some, List.append_nil, List.cons_append, List.nil_append] at hH; subst hH)
      (repeat (first | ((first | (apply wo_v; rfl) ); (· first | (apply pv_ev; rfl) | (apply pv_fld; rfl) | (apply g_load; first | (apply pv_ld; rfl; (· (repeat (first | apply sel_here | apply sel_there))); rfl) ) )) | apply wo_nil | apply wc_seq | apply wc_region | (apply wc_true; rfl) ))
      (refine wc_regM [0] (aslL [(6, [0])]) (tblTa gs ms ml 2 (aset kl' 2 (.int .i64 (cy2 - xs2)))) ([Qc q2 5 1000 aP nP cP (sumS t2) false, itmB b7 xn2 xs2 xt2 true, flB b6 q2, .ob mf (mob .i64 (fmM q1 q2)), Qc q1 5 1000 a1 n1 c1 (sumS ((xn1, xs1, xt1, true) :: t1)) false, eoI e mf gs (cz - xs2) 0, .ob ms (shM p q), snO ao c rows]) (fm [(0, [scI gs ms ml 2 true, .ob ml (mob .i64 kl')])]) mixed (by kernel_rfl) (by kernel_rfl) (by decide) (aslL_ok (by decide)) (by (repeat (first | (apply prm_cons; (· (repeat (first | apply sel_here | apply sel_there)))) | apply List.Perm.nil )); done) ?_; (repeat (first | (apply HdM.val; rfl; rfl; (· first | apply gok_none ); (· first | (apply pv_ev; rfl) | (apply pv_fld; rfl) | (apply g_load; first | (apply pv_ld; rfl; (· (repeat (first | apply sel_here | apply sel_there))); rfl) ) )) )))
      (refine hm_eff (cs := [0]) rfl (by decide) rfl rfl (by first | exact gok_none | exact gok_run rfl rfl) (fun a ha => outc_mono (outc_call (F1 := _) (T := fun v M => v = .tuple #[] ∧ M = [scI gs ms ml 2 true, .ob ml (mob .i64 (aset kl' 2 (.int .i64 (cy2 - xs2))))]) hT rfl (by (repeat (first | apply sub_nil )); done) (by first | exact fun _ h => h | (intro r hr; cases hr; done) | (simp; done) | exact fun _ h => List.mem_append_left _ h | (intro r hr; simp [hr]; done)) (by rintro v L' R' ⟨rfl, rfl, _⟩; exact ⟨_, ⟨rfl, rfl⟩, (by (repeat (first | (apply prm_cons; (· (repeat (first | apply sel_here )))) | apply List.Perm.nil )); done)⟩) a ha) (fun v M h => ⟨[M], And.intro h.1 (congrArg (fun x => [x]) h.2), rfl, by simp⟩)) (⟨_, _, And.intro rfl rfl, rfl⟩) ?_; rintro v Ms ⟨rfl, rfl⟩ _; simp only [setls, setl, reduceIte, Nat.reduceEqDiff]; (repeat (first | fail )))
      (refine HdM.nil ?_; intro H hH; simp only [Hp, fm, look, setl, List.flatMap_cons, List.flatMap_nil, reduceIte, Nat.reduceEqDiff, Option.getD_some, List.append_nil, List.cons_append, List.nil_append] at hH; subst hH)
      (repeat (first | ((first | (apply wo_v; rfl) ); (· first | (apply pv_ev; rfl) | (apply pv_fld; rfl) | (apply g_load; first | (apply pv_lda; rfl; (· (repeat (first | apply sel_here | apply sel_there))); (· (repeat (first | apply Cut.here0 | apply Cut.here )))) ) | (apply g_bi; first | fail ) | (apply g_build; apply pv_build; (· (repeat (first | apply Bld.nil | (apply Bld.one; rfl; rfl; (· (repeat (first | apply SetAt.here )))) | (apply Bld.agg; rfl; rfl; (· (repeat (first | apply LayAt.nil | apply LayAt.here | apply LayAt.there)))))))) )) | apply wo_nil | apply wc_region | (apply wo_st; rfl; rfl; rfl; (· (repeat (first | apply sel_here | apply sel_there))); (· (repeat (first | apply SetAt.here | apply SetAt.there))); rfl) | (apply wo_bsl; (· (repeat (first | apply Rws'.nil | (apply Rws'.one; rfl; rfl; rfl) | (apply Rws'.agg; rfl; rfl; rfl)))); rfl; rfl; rfl; rfl; intro bx) ))
      refine wo_app (ao := ao) (n := rows.length) (m := 1) rfl rfl (by (repeat (first | apply sel_here | apply sel_there)); done) (by (repeat (first | apply sel_here )); done) (by unfold maxLen; omega) (by omega) rfl (fun aN cN => ?_)
      show WO _ _ _ _ _ ⟨_, .own 137 5 aN (rows.length + 1) cN (sRs rows ++ [[.int .i64 2, .int .i64 xn2, .int .i64 xs2, .int .i64 xt2, .bool true]]) :: _, _⟩ _
      rw [← e5, ← e3]
      (repeat (first | ((first | (apply wo_v; rfl) ); (· first | (apply pv_ev; rfl) )) | apply wo_nil ))
      exact loop_end ⟨rows ++ [X], aN, cN, aset kl' 2 (.int .i64 (cy2 - xs2)), 2, true, _, _, cz - xs2, a1, n1, c1, ((xn1, xs1, xt1, true) :: t1), aP, nP, cP, t2, RG, rfl, by rw [e3]; omega, by omega, hk3, by rw [e2, e1]; rw [hmi, ← Int.add_assoc, ← hz2]; exact hD3, hSO, hSQ, hq1, hq2.tail, by rw [e1]; exact hm1, by rw [e2]; simp only [List.length_cons] at hm2; omega, e4, rfl⟩ (by rw [e3]; omega) (wk_mk (by (repeat (first | apply wkf_nil | (apply wkf_cons; rfl))); done) (by (repeat (first | apply sub_nil | (apply sub_cons; (· (repeat (first | apply sel_here | apply sel_there)))))); done) (by first | exact fun _ h => h | (intro r hr; cases hr; done) | (simp; done) | exact fun _ h => List.mem_append_left _ h | (intro r hr; simp [hr]; done)))
end Go.Proofs.Ytlhlidmhlhodiaa

/-
  Layer 4, plain: descriptors, how they are read of bytes, their bytes. No program in sight.
-/
namespace Go.Proofs.Ytlhlidmhlhodiaa
set_option linter.unusedSimpArgs false
set_option linter.unusedVariables false
open Go.RowKit
attribute [local irreducible] ByteArray.extract

/-! bits of bytes -/
theorem u8_all {p : Int → Prop} (h : ∀ n : Fin 256, p ((n.val : Nat) : Int)) {a : Int} (ha : 0 ≤ a ∧ a ≤ 255) : p a := by
  have := h ⟨a.toNat, by omega⟩
  rwa [show (((⟨a.toNat, by omega⟩ : Fin 256).val : Nat) : Int) = a by simp; omega] at this
theorem and8_32 {a : Int} : 0 ≤ a ∧ a ≤ 255 → bits .and .u8 a 32 = a / 32 % 2 * 32 := u8_all (p := fun a => bits .and .u8 a 32 = a / 32 % 2 * 32) (by decide +kernel)
theorem and8_16 {a : Int} : 0 ≤ a ∧ a ≤ 255 → bits .and .u8 a 16 = a / 16 % 2 * 16 := u8_all (p := fun a => bits .and .u8 a 16 = a / 16 % 2 * 16) (by decide +kernel)
theorem and8_7 {a : Int} : 0 ≤ a ∧ a ≤ 255 → bits .and .u8 a 7 = a % 8 := u8_all (p := fun a => bits .and .u8 a 7 = a % 8) (by decide +kernel)
theorem and8_128 {a : Int} : 0 ≤ a ∧ a ≤ 255 → bits .and .u8 a 128 = a / 128 % 2 * 128 := u8_all (p := fun a => bits .and .u8 a 128 = a / 128 % 2 * 128) (by decide +kernel)
theorem and8_64 {a : Int} : 0 ≤ a ∧ a ≤ 255 → bits .and .u8 a 64 = a / 64 % 2 * 64 := u8_all (p := fun a => bits .and .u8 a 64 = a / 64 % 2 * 64) (by decide +kernel)
theorem and8_48 {a : Int} : 0 ≤ a ∧ a ≤ 255 → bits .and .u8 a 48 = a / 16 % 4 * 16 := u8_all (p := fun a => bits .and .u8 a 48 = a / 16 % 4 * 16) (by decide +kernel)
theorem and8_31 {a : Int} : 0 ≤ a ∧ a ≤ 255 → bits .and .u8 a 31 = a % 32 := u8_all (p := fun a => bits .and .u8 a 31 = a % 32) (by decide +kernel)
theorem and8_1 {a : Int} : 0 ≤ a ∧ a ≤ 255 → bits .and .u8 a 1 = a % 2 := u8_all (p := fun a => bits .and .u8 a 1 = a % 2) (by decide +kernel)

/-! one byte read -/
abbrev Rs := ByteArray × Int
def t1 (r : Rs) : Int × Rs := (valK (rdB r.1 r.2 1).1 (rdB r.1 r.2 1).1.size, (rdB r.1 r.2 1).2)
theorem t1_b (r : Rs) : 0 ≤ (t1 r).1 ∧ (t1 r).1 ≤ 255 := by
  have h : (rdB r.1 r.2 1).1.size ≤ 1 := by have := rdB_size r.1 r.2 1 (by omega); omega
  have h1 := valK_b (rdB r.1 r.2 1).1
  show 0 ≤ valK _ _ ∧ valK _ _ ≤ 255
  have h2 : (rdB r.1 r.2 1).1.size = 0 ∨ (rdB r.1 r.2 1).1.size = 1 := by omega
  rcases h2 with h2 | h2
  · rw [h2]; simp [valK]
  · rw [h2]; exact ⟨h1.1 1, h1.2.1⟩
theorem t1_size (r : Rs) : (t1 r).2.1.size ≤ r.1.size := rdB_size2 r.1 r.2 1
theorem t1_front {x : Int} (h : 0 ≤ x ∧ x ≤ 255) (z : ByteArray) : t1 (b1 x ++ z, 0) = (x, z, 0) := by
  unfold t1
  rw [rdB_front (b1 x) z 1 rfl]
  show (valK (b1 x) 1, z, 0) = _
  rw [val_b1 h]
theorem t1_err {r : Rs} (h : r.2 ≠ 0) : (t1 r).2 = r := by
  obtain ⟨s, e⟩ := r
  show (rdB s e 1).2 = (s, e)
  unfold rdB
  rw [if_pos h]
theorem t1_end : t1 (E0, 0) = (0, E0, 1) := by decide
/-- a byte that is read stands in front -/
theorem t1_ok {r : Rs} (h : (t1 r).2.2 = 0) : r.2 = 0 ∧ r.1 = b1 (t1 r).1 ++ (t1 r).2.1 := by
  obtain ⟨s, e⟩ := r
  have h0 : e = 0 := by
    by_cases h0 : e = 0
    · exact h0
    · rw [t1_err h0] at h; exact absurd h h0
  subst h0
  refine ⟨rfl, ?_⟩
  have hz : ¬ ((s.size : Int) < 1) := fun hz => by
    have : (t1 (s, 0)).2.2 = 1 := by
      show (rdB s 0 1).2.2 = 1
      unfold rdB
      rw [if_neg (by simp), if_neg (by simp), if_pos hz]
    rw [this] at h; cases h
  obtain ⟨x, z, rfl, hx⟩ : ∃ x z, s = b1 x ++ z ∧ 0 ≤ x ∧ x ≤ 255 := by
    obtain ⟨⟨l⟩⟩ := s
    cases l with
    | nil => exact absurd (by show ((0 : Nat) : Int) < 1; decide) hz
    | cons u l =>
      refine ⟨(u.toNat : Int), ⟨l.toArray⟩, ?_, by have := u.toNat_lt; omega⟩
      have : b1 (u.toNat : Int) = ⟨#[u]⟩ := by simp [b1]
      rw [this]
      apply ByteArray.ext
      simp
  rw [t1_front hx]
theorem t1_more {s z : ByteArray} {x : Int} {s' : ByteArray} (h : t1 (s, 0) = (x, s', 0)) : t1 (s ++ z, 0) = (x, s' ++ z, 0) := by
  have hb := t1_b (s, 0)
  obtain ⟨_, h2⟩ := t1_ok (r := (s, 0)) (by rw [h])
  rw [h] at h2 hb
  simp only at h2 hb
  rw [h2, ByteArray.append_assoc, t1_front hb]
theorem t1_e (r : Rs) (h : r.2 = 0) : (t1 r).2.2 = 0 ∨ (t1 r).2.2 = 1 := by
  obtain ⟨s, e⟩ := r
  simp only at h; subst h
  show (rdB s 0 1).2.2 = 0 ∨ (rdB s 0 1).2.2 = 1
  unfold rdB
  rw [if_neg (by simp), if_neg (by simp)]
  split <;> simp
end Go.Proofs.Ytlhlidmhlhodiaa

/-
  Package rtp: Parse.
-/
namespace Go.Proofs.Ytlhlidmhlhodiaa
set_option linter.unusedSimpArgs false
set_option linter.unusedVariables false
set_option linter.unusedSimpArgs false
set_option linter.unusedVariables false
open Go.RowKit
attribute [local irreducible] Pv WO WC Fn
set_option maxRecDepth 100000
attribute [local irreducible] ByteArray.extract

def tK (k : Int) (r : Rs) : Int × Rs := (valK (rdB r.1 r.2 k).1 (rdB r.1 r.2 k).1.size, (rdB r.1 r.2 k).2)
theorem tK_size (k : Int) (r : Rs) : (tK k r).2.1.size ≤ r.1.size := rdB_size2 r.1 r.2 k
theorem pU8 (g : Nat) (r : Rs) (hs : r.1.size ≤ 1000000) : Fn Try.prog 63 #[.pointer (some ⟨g, 0, none⟩)] [rdO g r.1 r.2] [] (fun v L' R' => v = .int .u8 (tK 1 r).1 ∧ L' = [rdO g (tK 1 r).2.1 (tK 1 r).2.2] ∧ R' = []) := octU8 g r.1 _ _ r.2 _ (by omega) rfl
theorem pU16 (g : Nat) (r : Rs) (hs : r.1.size ≤ 1000000) : Fn Try.prog 65 #[.pointer (some ⟨g, 0, none⟩)] [rdO g r.1 r.2] [] (fun v L' R' => v = .int .u16 (tK 2 r).1 ∧ L' = [rdO g (tK 2 r).2.1 (tK 2 r).2.2] ∧ R' = []) := octU16 g r.1 _ _ r.2 _ (by omega) rfl
theorem pU32 (g : Nat) (r : Rs) (hs : r.1.size ≤ 1000000) : Fn Try.prog 66 #[.pointer (some ⟨g, 0, none⟩)] [rdO g r.1 r.2] [] (fun v L' R' => v = .int .u32 (tK 4 r).1 ∧ L' = [rdO g (tK 4 r).2.1 (tK 4 r).2.2] ∧ R' = []) := octU32 g r.1 _ _ r.2 _ (by omega) rfl
theorem tK2_b (r : Rs) : 0 ≤ (tK 2 r).1 ∧ (tK 2 r).1 ≤ 65535 := by
  have h : (rdB r.1 r.2 2).1.size ≤ 2 := by have := rdB_size r.1 r.2 2 (by omega); omega
  have h1 := valK_b (rdB r.1 r.2 2).1
  show 0 ≤ valK _ _ ∧ valK _ _ ≤ 65535
  have h2 : (rdB r.1 r.2 2).1.size = 0 ∨ (rdB r.1 r.2 2).1.size = 1 ∨ (rdB r.1 r.2 2).1.size = 2 := by omega
  rcases h2 with h2 | h2 | h2
  · rw [h2]; simp [valK]
  · rw [h2]; exact ⟨h1.1 1, by have := h1.2.1; omega⟩
  · rw [h2]; exact ⟨h1.1 2, h1.2.2.1⟩
/-- the sources -/
def csN (r : Rs) : Nat → List Int × Rs
  | 0 => ([], r)
  | n + 1 => ((csN r n).1 ++ [(tK 4 (csN r n).2).1], (tK 4 (csN r n).2).2)
theorem csN_len (r : Rs) : ∀ n, (csN r n).1.length = n
  | 0 => rfl
  | n + 1 => by simp [csN, csN_len r n]
theorem csN_size (r : Rs) : ∀ n, (csN r n).2.1.size ≤ r.1.size
  | 0 => Nat.le_refl _
  | n + 1 => Nat.le_trans (tK_size _ _) (csN_size r n)
abbrev crs (l : List Int) : List (List Value) := l.map fun z => [.int .u32 z]
abbrev csO (ao : Option Addr) (n c : Nat) (l : List Int) : It := .own 30 1 ao n c (crs l)
abbrev rpI (b : Nat) (mrk : Bool) (kd sq t ss : Int) (cs : Value) (ex : Bool) (pf : Int) (dt pl : ByteArray) (pd : Int) : It := .ob b (.cells (rpR mrk kd sq t ss cs ex pf dt pl pd).toArray 33 (0, 0))
abbrev rpZ (b : Nat) : It := rpI b false 0 0 0 0 (.slice none 0 0) false 0 ByteArray.empty ByteArray.empty 0
theorem outc_frm {P : Program} {E : Env} {B0 X L : List It} {ro : List Ro} {o : Oper} {a : Act} {T : Value → List It → Prop} (h : Outc P E B0 ro o a L T) : Outc P E B0 ro o a (X ++ L) (fun v M => ∃ M0, T v M0 ∧ M = X ++ M0) := fun F w hw => by
  have pm : ∀ Y : List It, ((X ++ Y) ++ (B0 ++ F)).Perm (Y ++ (B0 ++ (X ++ F))) := fun Y => by
    rw [List.append_assoc]
    refine List.perm_append_comm.trans ?_
    rw [List.append_assoc, List.append_assoc]
    refine List.Perm.append_left Y ?_
    exact List.Perm.append_left B0 List.perm_append_comm
  have h1 := h (X ++ F) w (hw.perm (pm L))
  cases hr : (execOp a.eval o).run P w with
  | ok v w' =>
    rw [hr] at h1
    cases v with
    | value v =>
      obtain ⟨M, h2, h3⟩ := h1
      exact ⟨X ++ M, ⟨M, h2, rfl⟩, h3.perm (pm M).symm⟩
    | skip =>
      obtain ⟨M, h2, h3⟩ := h1
      exact ⟨X ++ M, ⟨M, h2, rfl⟩, h3.perm (pm M).symm⟩
    | enter f args =>
      obtain ⟨h0, h1⟩ := h1
      exact ⟨h0, h1.mono fun e w'' ⟨v, M, h2, h3, h4⟩ => ⟨v, X ++ M, h2, ⟨M, h3, rfl⟩, h4.perm (pm M).symm⟩⟩
    | _ => exact h1
  | _ => rw [hr] at h1; exact h1
theorem and8_127 {a : Int} : 0 ≤ a ∧ a ≤ 255 → bits .and .u8 a 127 = a % 128 := u8_all (p := fun a => bits .and .u8 a 127 = a % 128) (by decide +kernel)
theorem and8_15 {a : Int} : 0 ≤ a ∧ a ≤ 255 → bits .and .u8 a 15 = a % 16 := u8_all (p := fun a => bits .and .u8 a 15 = a % 16) (by decide +kernel)
theorem outc_frmA {P : Program} {N : Nat} {E : Env} {fr : List (Nat × Value)} {B0 X L : List It} {ro : List Ro} {o : Oper} {T : Value → List It → Prop} (h : ∀ a, Holds N fr a → Outc P E B0 ro o a L T) : ∀ a, Holds N fr a → Outc P E B0 ro o a (X ++ L) (fun v M => ∃ M0, T v M0 ∧ M = X ++ M0) := fun a ha => outc_frm (h a ha)
abbrev csO' (ao : Option Addr) (n c : Nat) (xs : List (List Value)) : It := .own 30 1 ao n c xs
theorem csO_snoc (ao : Option Addr) (n c : Nat) (l : List Int) (x : Int) : csO ao n c (l ++ [x]) = csO' ao n c (crs l ++ crs [x]) := by simp [crs]
def tblC (g : Nat) (x : Int) (r2 : Rs) (bp : Nat) (mrk : Bool) (kd sq t ss : Int) (ex : Bool) (ao : Option Addr) (c : Nat) (l : List Int) : Nat → List (List It) → Value → List (List It) → Prop := fun k Ls v Ms => match k, Ls with
  | 1, [y] => v = .slice ao l.length c ∧ Ms = [y]
  | 3, _ => v = .int .u32 x ∧ Ms = [[rdO g r2.1 r2.2]]
  | 4, _ => ∃ b, v = .slice (some ⟨b, 0, none⟩) 1 1 ∧ Ms = [[csO (some ⟨b, 0, none⟩) 1 1 [x]]]
  | 5, [_, y] => ∃ ao2 c2, v = .slice ao2 (l.length + 1) c2 ∧ Ms = [[.own 30 1 ao2 (l.length + 1) c2 (crs l ++ crs [x])], y]
  | 7, [[.own T2 sz ao2 n2 c2 xs], _] => v = undef ∧ Ms = [[.own T2 sz ao2 n2 c2 xs], [rpI bp mrk kd sq t ss (.slice ao2 n2 c2) ex 0 ByteArray.empty ByteArray.empty 0]]
  | _, _ => False
theorem pPadE : Fn Try.prog 69 #[.string E0] [] [] (fun v L' R' => v = .tuple #[.int .i64 0, .int .i64 1] ∧ L' = [] ∧ R' = []) := by
  refine fn_intro Try.func69 rfl Try.ntmps69 rfl (fun E => ?_)
  (repeat (first | ((first | (apply wo_v; rfl) ); (· first | (apply pv_ev; rfl) | (apply g_bin; first | (apply pv_eql_s; rfl; rfl) ) )) | apply wo_nil | apply wc_seq | apply wc_region | apply wc_ret | (apply wc_true; rfl) ))
  exact ret2 rfl rfl rfl ⟨rfl, rfl, rfl⟩ ((by (repeat (first | apply sub_nil )); done) : List.Perm _ ([] ++ _)) (by first | exact fun _ h => h | (intro r hr; cases hr; done) | (simp; done) | exact fun _ h => List.mem_append_left _ h | (intro r hr; simp [hr]; done))
def padM (s : ByteArray) : Int × Int := if s = E0 then (0, 1) else if sb s (s.size - 1) = 0 then (0, 2) else if (s.size : Int) < sb s (s.size - 1) then (0, 1) else (sb s (s.size - 1), 0)
theorem pPad (s : ByteArray) (hs : s.size ≤ 1000000) : Fn Try.prog 69 #[.string s] [] [] (fun v L' R' => v = .tuple #[.int .i64 (padM s).1, .int .i64 (padM s).2] ∧ L' = [] ∧ R' = []) := by
  by_cases h0 : s = E0
  · subst h0; exact pPadE
  · have h1 : 0 < s.size := by
      rcases Nat.eq_zero_or_pos s.size with h | h
      · exact absurd (ByteArray.size_eq_zero_iff.1 h) h0
      · exact h
    have e1 : ((s.size : Int) - 1).toNat = s.size - 1 := by omega
    have hb := sb_b s (s.size - 1)
    have hb' := sb_b s ((s.size : Int) - 1).toNat
    unfold padM
    rw [if_neg h0]
    by_cases h2 : sb s (s.size - 1) = 0
    · rw [if_pos h2]
      refine fn_intro Try.func69 rfl Try.ntmps69 rfl (fun E => ?_)
      (repeat (first | ((first | (apply wo_v; rfl) ); (· first | (apply pv_ev; rfl) | (apply g_bin; first | (apply a_sub; rfl; rfl; infer_instance; omega) | (apply pv_eql_s; rfl; rfl) ) | (apply g_bi; first | (apply pv_len_str; rfl) ) | (apply g_conv; first | (apply a_conv; rfl; infer_instance; infer_instance; infer_instance; omega) ) | (apply pv_index_sn; rfl; rfl; omega) | (apply pv_index_s; rfl; rfl; omega))) | apply wo_nil | apply wc_seq | apply wc_region | apply wc_skip | (apply wc_true; rfl) | (apply wc_false; rfl) | (apply a_dec_t; rfl; (· first | assumption | omega)) | (apply a_dec_f; rfl; (· first | assumption | omega)) ))
      rw [e1]
      refine wc_block ?_
      (repeat (first | ((first | (apply wo_v; rfl) ); (· first | (apply pv_ev; rfl) )) | apply wo_nil | apply wc_seq | apply wc_region | apply wc_ret | (apply wc_true; rfl) | (apply wc_false; rfl) | (apply a_dec_t; rfl; (· first | assumption | omega)) ))
      exact ret2 rfl rfl rfl ⟨rfl, rfl, rfl⟩ ((by (repeat (first | apply sub_nil )); done) : List.Perm _ ([] ++ _)) (by first | exact fun _ h => h | (intro r hr; cases hr; done) | (simp; done) | exact fun _ h => List.mem_append_left _ h | (intro r hr; simp [hr]; done))
    · rw [if_neg h2]
      by_cases h3 : (s.size : Int) < sb s (s.size - 1)
      · rw [if_pos h3]
        refine fn_intro Try.func69 rfl Try.ntmps69 rfl (fun E => ?_)
        (repeat (first | ((first | (apply wo_v; rfl) ); (· first | (apply pv_ev; rfl) | (apply g_bin; first | (apply a_sub; rfl; rfl; infer_instance; omega) | (apply pv_eql_s; rfl; rfl) ) | (apply g_bi; first | (apply pv_len_str; rfl) ) | (apply g_conv; first | (apply a_conv; rfl; infer_instance; infer_instance; infer_instance; omega) ) | (apply pv_index_sn; rfl; rfl; omega) | (apply pv_index_s; rfl; rfl; omega))) | apply wo_nil | apply wc_seq | apply wc_region | apply wc_skip | (apply wc_true; rfl) | (apply wc_false; rfl) | (apply a_dec_t; rfl; (· first | assumption | omega)) | (apply a_dec_f; rfl; (· first | assumption | omega)) ))
        rw [e1]
        refine wc_block ?_
        (repeat (first | ((first | (apply wo_v; rfl) ); (· first | (apply pv_ev; rfl) | (apply g_bi; first | (apply pv_len_str; rfl) ) )) | apply wo_nil | apply wc_seq | apply wc_region | apply wc_ret | (apply wc_true; rfl) | (apply wc_false; rfl) | (apply a_dec_t; rfl; (· first | assumption | omega)) | (apply a_dec_f; rfl; (· first | assumption | omega)) ))
        exact ret2 rfl rfl rfl ⟨rfl, rfl, rfl⟩ ((by (repeat (first | apply sub_nil )); done) : List.Perm _ ([] ++ _)) (by first | exact fun _ h => h | (intro r hr; cases hr; done) | (simp; done) | exact fun _ h => List.mem_append_left _ h | (intro r hr; simp [hr]; done))
      · rw [if_neg h3]
        refine fn_intro Try.func69 rfl Try.ntmps69 rfl (fun E => ?_)
        (repeat (first | ((first | (apply wo_v; rfl) ); (· first | (apply pv_ev; rfl) | (apply g_bin; first | (apply a_sub; rfl; rfl; infer_instance; omega) | (apply pv_eql_s; rfl; rfl) ) | (apply g_bi; first | (apply pv_len_str; rfl) ) | (apply g_conv; first | (apply a_conv; rfl; infer_instance; infer_instance; infer_instance; omega) ) | (apply pv_index_sn; rfl; rfl; omega) | (apply pv_index_s; rfl; rfl; omega))) | apply wo_nil | apply wc_seq | apply wc_region | apply wc_skip | (apply wc_true; rfl) | (apply wc_false; rfl) | (apply a_dec_t; rfl; (· first | assumption | omega)) | (apply a_dec_f; rfl; (· first | assumption | omega)) ))
        rw [e1]
        refine wc_block ?_
        (repeat (first | ((first | (apply wo_v; rfl) ); (· first | (apply pv_ev; rfl) | (apply g_bi; first | (apply pv_len_str; rfl) ) )) | apply wo_nil | apply wc_seq | apply wc_region | apply wc_skip | apply wc_ret | (apply wc_true; rfl) | (apply wc_false; rfl) | (apply a_dec_t; rfl; (· first | assumption | omega)) | (apply a_dec_f; rfl; (· first | assumption | omega)) ))
        exact ret2 rfl rfl rfl ⟨rfl, rfl, rfl⟩ ((by (repeat (first | apply sub_nil )); done) : List.Perm _ ([] ++ _)) (by first | exact fun _ h => h | (intro r hr; cases hr; done) | (simp; done) | exact fun _ h => List.mem_append_left _ h | (intro r hr; simp [hr]; done))
/-- a packet -/
structure Rp where
  mrk : Bool
  kd : Int
  sq : Int
  t : Int
  ss : Int
  cs : List Int
  ex : Bool
  pf : Int
  dt : ByteArray
  pl : ByteArray
  pd : Int
def Rp0 : Rp := ⟨false, 0, 0, 0, 0, [], false, 0, ByteArray.empty, ByteArray.empty, 0⟩
theorem padM_b (s : ByteArray) : 0 ≤ (padM s).1 ∧ (padM s).1 ≤ s.size := by
  have := sb_b s (s.size - 1)
  unfold padM
  split
  · dsimp only; omega
  · split
    · dsimp only; omega
    · split <;> dsimp only <;> omega
def tblP (pn : Int) (pl : ByteArray) (bp : Nat) (mrk : Bool) (kd sq t ss : Int) (cs : Value) (ex : Bool) (pf : Int) (dt : ByteArray) : Nat → List (List It) → Value → List (List It) → Prop := fun k Ls v Ms => match k, Ls with
  | 2, _ => v = .string pl ∧ Ms = Ls
  | 4, _ => v = .string pl ∧ Ms = Ls
  | 10, _ => v = undef ∧ Ms = [[rpI bp mrk kd sq t ss cs ex pf dt pl pn]]
  | _, _ => v = undef ∧ Ms = [[rpI bp mrk kd sq t ss cs ex pf dt (pl.extract 0 ((pl.size : Int) - pn).toNat) pn]]
theorem tblP_rd {pn : Int} {pl : ByteArray} {bp : Nat} {mrk : Bool} {kd sq t ss : Int} {cs : Value} {ex : Bool} {pf : Int} {dt : ByteArray} : ∀ k ∈ [2, 4], Rdr (tblP pn pl bp mrk kd sq t ss cs ex pf dt) k := fun k hk L v Ms h => by
  simp only [List.mem_cons, List.not_mem_nil, or_false] at hk
  rcases hk with rfl | rfl
  · exact h.2
  · exact h.2
def exR (b : Bool) (r : Rs) : Int × ByteArray × Rs := if b = true then ((tK 2 r).1, (rdB (tK 2 (tK 2 r).2).2.1 (tK 2 (tK 2 r).2).2.2 (4 * (tK 2 (tK 2 r).2).1)).1, (rdB (tK 2 (tK 2 r).2).2.1 (tK 2 (tK 2 r).2).2.2 (4 * (tK 2 (tK 2 r).2).1)).2) else (0, ByteArray.empty, r)
/-- what stands behind the head -/
def enR (p : Rp) (pa : Bool) (r : Rs) : Rp × Int :=
  if (rdB r.1 r.2 r.1.size).2.2 ≠ 0 then (Rp0, (rdB r.1 r.2 r.1.size).2.2)
  else if pa = true then (if (padM (rdB r.1 r.2 r.1.size).1).2 ≠ 0 then (Rp0, (padM (rdB r.1 r.2 r.1.size).1).2) else ({ p with pl := (rdB r.1 r.2 r.1.size).1.extract 0 (((rdB r.1 r.2 r.1.size).1.size : Int) - (padM (rdB r.1 r.2 r.1.size).1).1).toNat, pd := (padM (rdB r.1 r.2 r.1.size).1).1 }, 0))
  else ({ p with pl := (rdB r.1 r.2 r.1.size).1 }, 0)
def prR (s : ByteArray) : Rp × Int :=
  if 1500 < s.size then (Rp0, 4) else
  let x := tK 1 (s, 0)
  let y := tK 1 x.2
  if y.2.2 = 0 ∧ x.1 / 64 ≠ 2 then (Rp0, 2) else
  let q := tK 2 y.2
  let t := tK 4 q.2
  let z := tK 4 t.2
  let c := csN z.2 (x.1 % 16).toNat
  let e := exR (decide (x.1 / 16 % 2 = 1)) c.2
  enR ⟨decide (127 < y.1), y.1 % 128, q.1, t.1, z.1, c.1, decide (x.1 / 16 % 2 = 1), e.1, e.2.1, ByteArray.empty, 0⟩ (decide (x.1 / 32 % 2 = 1)) e.2.2
set_option maxHeartbeats 16000000 in
theorem pParse (s : ByteArray) (hs : s.size ≤ 100000) : Fn Try.prog 15 #[.string s] [] []
    (fun v L' R' => ∃ ao c, v = .tuple #[.agg (rpR (prR s).1.mrk (prR s).1.kd (prR s).1.sq (prR s).1.t (prR s).1.ss (.slice ao (prR s).1.cs.length c) (prR s).1.ex (prR s).1.pf (prR s).1.dt (prR s).1.pl (prR s).1.pd).toArray, .int .i64 (prR s).2]
      ∧ L' = [csO ao (prR s).1.cs.length c (prR s).1.cs] ∧ R' = []) := by
  unfold prR
  by_cases h0 : 1500 < s.size
  · rw [if_pos h0]
    refine fn_intro Try.func15 rfl Try.ntmps15 rfl (fun E => ?_)
    refine wc_own0 30 1 ?_
    (repeat (first | ((first | (apply wo_v; rfl) ); (· first | (apply pv_ev; rfl) | (apply g_bi; first | (apply pv_len_str; rfl) ) | (apply g_build; apply pv_build; (· (repeat (first | apply Bld.nil )))) )) | apply wo_nil | apply wc_seq | apply wc_region | apply wc_ret | (apply wc_true; rfl) | (apply wc_false; rfl) | (apply a_dec_t; rfl; (· first | assumption | omega)) | (apply wo_alloc; rfl; intro bx) | (apply wo_sta; rfl; rfl; rfl; rfl; (· (repeat (first | apply sel_here ))); (· (repeat (first | apply LayAt.nil | apply LayAt.here ))); rfl) ))
    exact retv rfl (by (repeat (first | apply RV.nil | (apply RV.tmp; rfl) | (apply RV.agg; rfl; (· (repeat (first | apply sel_here ))); infer_instance; (· (repeat (first | apply Cut.here0 | apply Cut.here )))) )); done) (⟨none, 0, rfl, rfl, rfl⟩) (by (repeat (first | apply sub_nil | (apply sub_cons; (· (repeat (first | apply sel_here | apply sel_there)))))); done) (by first | exact fun _ h => h | (intro r hr; cases hr; done) | (simp; done) | exact fun _ h => List.mem_append_left _ h | (intro r hr; simp [hr]; done))
  rw [if_neg h0]
  dsimp only
  have s1 := tK_size 1 (s, 0)
  have hx := t1_b (s, 0)
  have c1 := fun g => pU8 g (s, 0) (by dsimp only; omega)
  rw [show t1 (s, 0) = tK 1 (s, 0) from rfl] at hx
  generalize tK 1 (s, 0) = x at c1 hx s1 ⊢
  obtain ⟨a, r1⟩ := x
  dsimp only at c1 hx s1 ⊢
  have s2 := tK_size 1 r1
  have hy := t1_b r1
  have c2 := fun g => pU8 g r1 (by omega)
  rw [show t1 r1 = tK 1 r1 from rfl] at hy
  generalize tK 1 r1 = y at c2 hy s2 ⊢
  obtain ⟨b, r2⟩ := y
  dsimp only at c2 hy s2 ⊢
  by_cases h2 : r2.2 = 0 ∧ a / 64 ≠ 2
  · rw [if_pos h2]
    obtain ⟨h3, h4⟩ := h2
    refine fn_intro Try.func15 rfl Try.ntmps15 rfl (fun E => ?_)
    refine wc_own0 30 1 ?_
    (repeat (first | ((first | (apply wo_v; rfl) ); (· first | (apply pv_ev; rfl) | (apply g_bi; first | (apply pv_len_str; rfl) ) )) | apply wo_nil | apply wc_seq | apply wc_region | apply wc_skip | (apply wc_true; rfl) | (apply wc_false; rfl) | (apply a_dec_t; rfl; (· first | assumption | omega)) | (apply a_dec_f; rfl; (· first | assumption | omega)) | (apply wo_alloc; rfl; intro bx) ))
    (refine wo_call (octRead s) rfl (by (repeat (first | apply sub_nil )); done) (by first | exact fun _ h => h | (intro r hr; cases hr; done) | (simp; done) | exact fun _ h => List.mem_append_left _ h | (intro r hr; simp [hr]; done)) rfl ?_; rintro v L' R' ⟨g, rfl, rfl, rfl⟩ H' hH RR hR; simp only [List.cons_append, List.nil_append] at hH hR; subst hH; have hR := hR.symm; subst hR)
    (repeat (first | ((first | (apply wo_v; rfl) ); (· first | (apply pv_ev; rfl) )) | apply wo_nil | apply wc_seq | apply wc_region ))
    (refine wo_call (c1 g) rfl (by (repeat (first | apply sub_nil )); done) (by first | exact fun _ h => h | (intro r hr; cases hr; done) | (simp; done) | exact fun _ h => List.mem_append_left _ h | (intro r hr; simp [hr]; done)) rfl ?_; rintro v L' R' ⟨rfl, rfl, rfl⟩ H' hH RR hR; simp only [List.cons_append, List.nil_append] at hH hR; subst hH; have hR := hR.symm; subst hR)
    (repeat (first | ((first | (apply wo_v; rfl) ); (· first | (apply pv_ev; rfl) )) ))
    (refine wo_call (c2 g) rfl (by (repeat (first | apply sub_nil )); done) (by first | exact fun _ h => h | (intro r hr; cases hr; done) | (simp; done) | exact fun _ h => List.mem_append_left _ h | (intro r hr; simp [hr]; done)) rfl ?_; rintro v L' R' ⟨rfl, rfl, rfl⟩ H' hH RR hR; simp only [List.cons_append, List.nil_append] at hH hR; subst hH; have hR := hR.symm; subst hR)
    (repeat (first | ((first | (apply wo_v; rfl) ); (· first | (apply pv_ev; rfl) )) | apply wo_nil | apply wc_seq | apply wc_region ))
    (refine wo_call (octErr g r2.1 r2.2) rfl (by (repeat (first | apply sub_nil )); done) (by first | exact fun _ h => h | (intro r hr; cases hr; done) | (simp; done) | exact fun _ h => List.mem_append_left _ h | (intro r hr; simp [hr]; done)) rfl ?_; rintro v L' R' ⟨rfl, rfl, rfl⟩ H' hH RR hR; simp only [List.cons_append, List.nil_append] at hH hR; subst hH; have hR := hR.symm; subst hR)
    (repeat (first | ((first | (apply wo_v; rfl) ); (· first | (apply pv_ev; rfl) | (apply g_pick; first | (apply pv_pick_t; rfl; rfl) ) | (apply g_bin; first | (apply a_shr; rfl; rfl; rfl; omega; rfl) ) | (apply g_build; apply pv_build; (· (repeat (first | apply Bld.nil )))) )) | apply wo_nil | apply wc_seq | apply wc_region | apply wc_ret | (apply wc_true; rfl) | (apply wc_false; rfl) | (apply a_dec_t; rfl; (· first | assumption | omega)) | (apply wo_run; rfl; rfl) | (apply wo_skip; rfl; rfl; rfl; rfl) | (apply wo_skip_u; rfl; rfl; rfl) | (apply a_gt; rfl; rfl; (· first | assumption | omega)) | (apply wo_sta; rfl; rfl; rfl; rfl; (· (repeat (first | apply sel_here | apply sel_there))); (· (repeat (first | apply LayAt.nil | apply LayAt.here ))); rfl) ))
    exact retv rfl (by (repeat (first | apply RV.nil | (apply RV.tmp; rfl) | (apply RV.agg; rfl; (· (repeat (first | apply sel_here ))); infer_instance; (· (repeat (first | apply Cut.here0 | apply Cut.here )))) )); done) (⟨none, 0, rfl, rfl, rfl⟩) (by (repeat (first | apply sub_nil | (apply sub_cons; (· (repeat (first | apply sel_here | apply sel_there)))))); done) (by first | exact fun _ h => h | (intro r hr; cases hr; done) | (simp; done) | exact fun _ h => List.mem_append_left _ h | (intro r hr; simp [hr]; done))
  rw [if_neg h2]
  have h3 : ¬ r2.2 = 0 ∨ (r2.2 = 0 ∧ a / 64 = 2) := by omega
  clear h2
  have s3 := tK_size 2 r2
  have c3 := fun g => pU16 g r2 (by omega)
  generalize tK 2 r2 = q at c3 s3 ⊢
  obtain ⟨sq, r3⟩ := q
  dsimp only at c3 s3 ⊢
  have s4 := tK_size 4 r3
  have c4 := fun g => pU32 g r3 (by omega)
  generalize tK 4 r3 = q at c4 s4 ⊢
  obtain ⟨t, r4⟩ := q
  dsimp only at c4 s4 ⊢
  have s5 := tK_size 4 r4
  have c5 := fun g => pU32 g r4 (by omega)
  generalize tK 4 r4 = q at c5 s5 ⊢
  obtain ⟨ss, r5⟩ := q
  dsimp only at c5 s5 ⊢
  have hc16 : 0 ≤ a % 16 ∧ a % 16 ≤ 15 := by omega
  have x16 : bits .and .u8 a 15 = a % 16 := and8_15 hx
  have x128 : bits .and .u8 b 127 = b % 128 := and8_127 hy
  have x1 : decide (0 < bits .and .u8 a 16) = decide (a / 16 % 2 = 1) := by rw [and8_16 hx]; exact decide_eq_decide.2 (by omega)
  have x2 : decide (0 < bits .and .u8 a 32) = decide (a / 32 % 2 = 1) := by rw [and8_32 hx]; exact decide_eq_decide.2 (by omega)
  obtain ⟨N, hN⟩ : ∃ N : Nat, a % 16 = (N : Int) := ⟨(a % 16).toNat, by omega⟩
  have hN2 : (a % 16).toNat = N := by omega
  rw [hN2]
  generalize hmrk : decide (127 < b) = mrk, hkd : b % 128 = kd, hex : decide (a / 16 % 2 = 1) = ex, hpa : decide (a / 32 % 2 = 1) = pa
  rw [hkd] at x128
  rw [hex] at x1
  rw [hpa] at x2
  rcases h3 with h3 | ⟨h3, h4⟩
  all_goals
    refine fn_intro Try.func15 rfl Try.ntmps15 rfl (fun E => ?_)
    (repeat (first | ((first | (apply wo_v; rfl) ); (· first | (apply pv_ev; rfl) | (apply g_bi; first | (apply pv_len_str; rfl) ) )) | apply wo_nil | apply wc_seq | apply wc_region | apply wc_skip | (apply wc_true; rfl) | (apply wc_false; rfl) | (apply a_dec_t; rfl; (· first | assumption | omega)) | (apply a_dec_f; rfl; (· first | assumption | omega)) | (apply wo_alloc; rfl; intro bx) ))
    obtain ⟨bq, hbq⟩ : ∃ g, g = bx := ⟨_, rfl⟩
    subst hbq
    (refine wo_call (octRead s) rfl (by (repeat (first | apply sub_nil )); done) (by first | exact fun _ h => h | (intro r hr; cases hr; done) | (simp; done) | exact fun _ h => List.mem_append_left _ h | (intro r hr; simp [hr]; done)) rfl ?_; rintro v L' R' ⟨g, rfl, rfl, rfl⟩ H' hH RR hR; simp only [List.cons_append, List.nil_append] at hH hR; subst hH; have hR := hR.symm; subst hR)
    (repeat (first | ((first | (apply wo_v; rfl) ); (· first | (apply pv_ev; rfl) )) | apply wo_nil | apply wc_seq | apply wc_region ))
    (refine wo_call (c1 g) rfl (by (repeat (first | apply sub_nil )); done) (by first | exact fun _ h => h | (intro r hr; cases hr; done) | (simp; done) | exact fun _ h => List.mem_append_left _ h | (intro r hr; simp [hr]; done)) rfl ?_; rintro v L' R' ⟨rfl, rfl, rfl⟩ H' hH RR hR; simp only [List.cons_append, List.nil_append] at hH hR; subst hH; have hR := hR.symm; subst hR)
    (repeat (first | ((first | (apply wo_v; rfl) ); (· first | (apply pv_ev; rfl) )) ))
    (refine wo_call (c2 g) rfl (by (repeat (first | apply sub_nil )); done) (by first | exact fun _ h => h | (intro r hr; cases hr; done) | (simp; done) | exact fun _ h => List.mem_append_left _ h | (intro r hr; simp [hr]; done)) rfl ?_; rintro v L' R' ⟨rfl, rfl, rfl⟩ H' hH RR hR; simp only [List.cons_append, List.nil_append] at hH hR; subst hH; have hR := hR.symm; subst hR)
    (repeat (first | ((first | (apply wo_v; rfl) ); (· first | (apply pv_ev; rfl) )) | apply wo_nil | apply wc_seq | apply wc_region ))
    (refine wo_call (octErr g r2.1 r2.2) rfl (by (repeat (first | apply sub_nil )); done) (by first | exact fun _ h => h | (intro r hr; cases hr; done) | (simp; done) | exact fun _ h => List.mem_append_left _ h | (intro r hr; simp [hr]; done)) rfl ?_; rintro v L' R' ⟨rfl, rfl, rfl⟩ H' hH RR hR; simp only [List.cons_append, List.nil_append] at hH hR; subst hH; have hR := hR.symm; subst hR)
    (repeat (first | ((first | (apply wo_v; rfl) ); (· first | (apply pv_ev; rfl) | (apply g_pick; first | (apply pv_pick_t; rfl; rfl) | (apply pv_pick_f; rfl; rfl)) | (apply g_bin; first | (apply pv_and; rfl; rfl) | (apply a_shr; rfl; rfl; rfl; omega; rfl) ) )) | apply wo_nil | apply wc_seq | apply wc_region | apply wc_skip | (apply wc_true; rfl) | (apply wc_false; rfl) | (apply a_dec_t; rfl; (· first | assumption | omega)) | (apply a_dec_f; rfl; (· first | assumption | omega)) | (apply wo_run; rfl; rfl) | (apply wo_skip; rfl; rfl; rfl; rfl) | (apply wo_skip_u; rfl; rfl; rfl) | (apply a_gt; rfl; rfl; (· first | assumption | omega)) | (apply a_gf; rfl; rfl; (· first | assumption | omega)) ))
    rw [x128]
    (refine wo_call (c3 g) rfl (by (repeat (first | apply sub_nil )); done) (by first | exact fun _ h => h | (intro r hr; cases hr; done) | (simp; done) | exact fun _ h => List.mem_append_left _ h | (intro r hr; simp [hr]; done)) rfl ?_; rintro v L' R' ⟨rfl, rfl, rfl⟩ H' hH RR hR; simp only [List.cons_append, List.nil_append] at hH hR; subst hH; have hR := hR.symm; subst hR)
    (repeat (first | ((first | (apply wo_v; rfl) ); (· first | (apply pv_ev; rfl) )) ))
    (refine wo_call (c4 g) rfl (by (repeat (first | apply sub_nil )); done) (by first | exact fun _ h => h | (intro r hr; cases hr; done) | (simp; done) | exact fun _ h => List.mem_append_left _ h | (intro r hr; simp [hr]; done)) rfl ?_; rintro v L' R' ⟨rfl, rfl, rfl⟩ H' hH RR hR; simp only [List.cons_append, List.nil_append] at hH hR; subst hH; have hR := hR.symm; subst hR)
    (repeat (first | ((first | (apply wo_v; rfl) ); (· first | (apply pv_ev; rfl) )) ))
    (refine wo_call (c5 g) rfl (by (repeat (first | apply sub_nil )); done) (by first | exact fun _ h => h | (intro r hr; cases hr; done) | (simp; done) | exact fun _ h => List.mem_append_left _ h | (intro r hr; simp [hr]; done)) rfl ?_; rintro v L' R' ⟨rfl, rfl, rfl⟩ H' hH RR hR; simp only [List.cons_append, List.nil_append] at hH hR; subst hH; have hR := hR.symm; subst hR)
    (repeat (first | ((first | (apply wo_v; rfl) ); (· first | (apply pv_ev; rfl) | (apply g_bin; first | (apply pv_and; rfl; rfl) ) | (apply g_build; apply pv_build; (· (repeat (first | apply Bld.nil | (apply Bld.one; rfl; rfl; (· (repeat (first | apply SetAt.here | apply SetAt.there)))) )))) )) | apply wo_nil | apply wc_seq | apply wc_region | (apply wo_alloc; rfl; intro bx) | (apply wo_sta; rfl; rfl; rfl; rfl; (· (repeat (first | apply sel_here ))); (· (repeat (first | apply LayAt.nil | apply LayAt.here ))); rfl) ))
    rw [x1, x16, hN, hmrk]
    obtain ⟨bp, hbp⟩ : ∃ g, g = bx := ⟨_, rfl⟩
    subst hbp
    have s6 := csN_size r5 N
    refine wc_join0 (fun st => ∃ ao c, st = ⟨[(2, .pointer (some ⟨bq, 0, none⟩)), (4, .pointer (some ⟨g, 0, none⟩)), (5, .int .u8 a), (7, .pointer (some ⟨bp, 0, none⟩))], [rdO g (csN r5 N).2.1 (csN r5 N).2.2, rpI bp mrk kd sq t ss (.slice ao (csN r5 N).1.length c) ex 0 ByteArray.empty ByteArray.empty 0, csO ao (csN r5 N).1.length c (csN r5 N).1, rpZ bq], []⟩) ?_ ?_
    · refine wc_block ?_
      refine wc_own0 30 1 ?_
      refine wc_loop' (fun q st => ∃ (i : Nat) (ao : Option Addr) (c : Nat) (l : List Int) (r : Rs), q = N - i ∧ i ≤ N ∧ l = (csN r5 i).1 ∧ r = (csN r5 i).2 ∧ st = ⟨[(2, .pointer (some ⟨bq, 0, none⟩)), (4, .pointer (some ⟨g, 0, none⟩)), (5, .int .u8 a), (7, .pointer (some ⟨bp, 0, none⟩)), (45, .int .u8 N), (46, .int .u8 i)], [rdO g r.1 r.2, rpI bp mrk kd sq t ss (.slice ao l.length c) ex 0 ByteArray.empty ByteArray.empty 0, csO ao l.length c l, rpZ bq], []⟩)
        ⟨0, none, 0, [], r5, rfl, Nat.zero_le _, rfl, rfl, rfl⟩ (wk_mk (by (repeat (first | apply wkf_nil | (apply wkf_cons; rfl))); done) (by (repeat (first | apply sub_nil | (apply sub_cons; (· (repeat (first | apply sel_here | apply sel_there)))))); done) (by first | exact fun _ h => h | (intro r hr; cases hr; done) | (simp; done) | exact fun _ h => List.mem_append_left _ h | (intro r hr; simp [hr]; done))) ?_
      rintro q st ⟨i, ao, c, l, r, rfl, hi, hl, hrr, rfl⟩
      have hll : l.length = i := by rw [hl]; exact csN_len r5 i
      have hrs := csN_size r5 i
      rw [← hrr] at hrs
      by_cases hlt : i < N
      · have e1 : (csN r5 (i + 1)).1 = l ++ [(tK 4 r).1] := by rw [csN, hl, hrr]
        have e2 : (csN r5 (i + 1)).2 = (tK 4 r).2 := by rw [csN, hrr]
        have hU := pU32 g r (by omega)
        generalize tK 4 r = y at hU e1 e2
        obtain ⟨x, rr⟩ := y
        dsimp only at hU e1 e2
        (repeat (first | ((first | (apply wo_v; rfl) ); (· first | (apply pv_ev; rfl) )) | apply wo_nil | apply wc_seq | apply wc_region | apply wc_skip | (apply wc_true; rfl) | (apply wc_false; rfl) | (apply a_dec_t; rfl; (· first | assumption | omega)) ))
        refine wc_block ?_
        (repeat (first | fail ))
        (refine wc_regM [0, 1, 2, 3] (aslL [(1, [3]), (3, [0]), (4, [1]), (5, [2, 1]), (7, [2, 3])]) (tblC g x rr bp mrk kd sq t ss ex ao c l) ([rpZ bq]) (fm [(0, [rdO g r.1 r.2]), (1, []), (2, [csO ao l.length c l]), (3, [rpI bp mrk kd sq t ss (.slice ao l.length c) ex 0 ByteArray.empty ByteArray.empty 0])]) mixed (by kernel_rfl) (by kernel_rfl) (by decide) (aslL_ok (by decide)) (by (repeat (first | (apply prm_cons; (· (repeat (first | apply sel_here | apply sel_there)))) | apply List.Perm.nil )); done) ?_; (repeat (first | (apply HdM.val; rfl; rfl; (· first | apply gok_none ); (· first | (apply pv_ev; rfl) | (apply pv_fld; rfl) )) )))
        (refine hm_eff (cs := [3]) rfl (by decide) rfl rfl (by first | exact gok_none | exact gok_run rfl rfl) (fun a ha => outc_mono (outc_pv (L := [rpI bp mrk kd sq t ss (.slice ao l.length c) ex 0 ByteArray.empty ByteArray.empty 0]) (pv_ld rfl (by (repeat (first | apply sel_here )); done) rfl) a ha) (fun v M h => ⟨[M], And.intro h.1 (congrArg (fun x => [x]) h.2), rfl, by simp⟩)) (⟨_, _, And.intro rfl rfl, rfl⟩) ?_; rintro v Ms ⟨rfl, rfl⟩ _; simp only [setls, setl, reduceIte, Nat.reduceEqDiff]; (repeat (first | (apply HdM.val; rfl; rfl; (· first | apply gok_none ); (· first | (apply pv_ev; rfl) )) )))
        (refine hm_eff (cs := [0]) rfl (by decide) rfl rfl (by first | exact gok_none | exact gok_run rfl rfl) (fun a ha => outc_mono (outc_call (F1 := _) (T := fun v M => v = .int .u32 x ∧ M = [rdO g rr.1 rr.2]) hU rfl (by (repeat (first | apply sub_nil )); done) (by first | exact fun _ h => h | (intro r hr; cases hr; done) | (simp; done) | exact fun _ h => List.mem_append_left _ h | (intro r hr; simp [hr]; done)) (by rintro v L' R' ⟨rfl, rfl, _⟩; exact ⟨_, ⟨rfl, rfl⟩, (by (repeat (first | (apply prm_cons; (· (repeat (first | apply sel_here )))) | apply List.Perm.nil )); done)⟩) a ha) (fun v M h => ⟨[M], And.intro h.1 (congrArg (fun x => [x]) h.2), rfl, by simp⟩)) (⟨_, _, And.intro rfl rfl, rfl⟩) ?_; rintro v Ms ⟨rfl, rfl⟩ _; simp only [setls, setl, reduceIte, Nat.reduceEqDiff]; (repeat (first | (apply HdM.val; rfl; rfl; (· first | fail ); (· first | fail )) )))
        (refine hm_eff (cs := [1]) rfl (by decide) rfl rfl (by first | exact gok_none | exact gok_run rfl rfl) (fun a ha => outc_mono (outc_bsl (by (repeat (first | apply Rws'.nil | (apply Rws'.one; rfl; rfl; rfl) )); done) rfl rfl rfl a ha) (fun v M h => Exists.elim h fun b h => ⟨[M], Exists.intro b (And.intro h.1 (congrArg (fun x => [x]) h.2)), rfl, by simp⟩)) (⟨_, _, Exists.intro 0 (And.intro rfl rfl), rfl⟩) ?_; rintro v Ms ⟨b9, rfl, rfl⟩ _; simp only [setls, setl, reduceIte, Nat.reduceEqDiff]; (repeat (first | (apply HdM.val; rfl; rfl; (· first | fail ); (· first | fail )) )))
        (refine hm_eff (cs := [2, 1]) rfl (by decide) rfl rfl (by first | exact gok_none | exact gok_run rfl rfl) (fun a ha => outc_mono (outc_app rfl rfl (by unfold maxLen; omega) (by omega) a ha) (fun v M h => by obtain ⟨b, c, h1, h2⟩ := h; exact ⟨[[_], [_]], ⟨b, c, h1, rfl⟩, rfl, h2⟩)) (⟨_, _, ⟨none, 0, rfl, rfl⟩, rfl⟩) ?_; rintro v Ms ⟨ao2, c2, rfl, rfl⟩ _; simp only [setls, setl, reduceIte, Nat.reduceEqDiff]; (repeat (first | (apply HdM.val; rfl; rfl; (· first | apply gok_none ); (· first | (apply pv_ev; rfl) | (apply pv_fld; rfl) )) )))
        (refine hm_eff (cs := [2, 3]) rfl (by decide) rfl rfl (by first | exact gok_none | exact gok_run rfl rfl) (fun a ha => outc_mono (outc_frmA (X := [csO' ao2 (l.length + 1) c2 (crs l ++ crs [x])]) (L := [rpI bp mrk kd sq t ss (.slice ao l.length c) ex 0 ByteArray.empty ByteArray.empty 0]) (outc_st rfl rfl rfl (by (repeat (first | apply SetAt.here | apply SetAt.there)); done)) a ha) (fun v M h => by obtain ⟨M0, ⟨h1, h2⟩, h3⟩ := h; exact ⟨[[_], [_]], ⟨h1, rfl⟩, rfl, by rw [h3, h2]; rfl⟩)) (⟨_, _, ⟨rfl, rfl⟩, rfl⟩) ?_; rintro v Ms ⟨rfl, rfl⟩ _; simp only [setls, setl, reduceIte, Nat.reduceEqDiff]; (repeat (first | fail )))
        (refine HdM.nil ?_; intro H hH; simp only [Hp, fm, look, setl, List.flatMap_cons, List.flatMap_nil, reduceIte, Nat.reduceEqDiff, Option.getD_some, List.append_nil, List.cons_append, List.nil_append] at hH; subst hH)
        (repeat (first | ((first | (apply wo_v; rfl) ); (· first | (apply pv_ev; rfl) | (apply g_bin; first | (apply a_add; rfl; rfl; infer_instance; omega) ) )) | apply wo_nil | apply wc_region ))
        exact loop_end ⟨i + 1, ao2, c2, l ++ [x], rr, rfl, by omega, e1.symm, e2.symm, by rw [List.length_append, List.length_singleton, csO_snoc]⟩ (by omega) (wk_mk (by (repeat (first | apply wkf_nil | (apply wkf_cons; rfl))); done) (by (repeat (first | apply sub_nil | (apply sub_cons; (· (repeat (first | apply sel_here | apply sel_there)))))); done) (by first | exact fun _ h => h | (intro r hr; cases hr; done) | (simp; done) | exact fun _ h => List.mem_append_left _ h | (intro r hr; simp [hr]; done)))
      · have e : i = N := by omega
        subst e
        subst hl hrr
        (repeat (first | ((first | (apply wo_v; rfl) ); (· first | (apply pv_ev; rfl) )) | apply wo_nil | apply wc_seq | apply wc_region | (apply wc_exit; rfl) | (apply wc_true; rfl) | (apply wc_false; rfl) | (apply a_dec_t; rfl; (· first | assumption | omega)) | (apply a_dec_f; rfl; (· first | assumption | omega)) ))
        exact cut_end ⟨ao, c, rfl⟩ (wk_mk (by (repeat (first | apply wkf_nil | (apply wkf_cons; rfl))); done) (by (repeat (first | apply sub_nil )); done) (by first | exact fun _ h => h | (intro r hr; cases hr; done) | (simp; done) | exact fun _ h => List.mem_append_left _ h | (intro r hr; simp [hr]; done)))
    rintro st ⟨ao, c, rfl⟩
    have hcl := csN_len r5 N
    generalize csN r5 N = y at s6 hcl ⊢
    obtain ⟨cs, r6⟩ := y
    dsimp only at s6 hcl ⊢
    apply wc_seq
    refine wc_join0 (fun st => st = ⟨[(2, .pointer (some ⟨bq, 0, none⟩)), (4, .pointer (some ⟨g, 0, none⟩)), (5, .int .u8 a), (7, .pointer (some ⟨bp, 0, none⟩))], [rdO g (exR ex r6).2.2.1 (exR ex r6).2.2.2, rpI bp mrk kd sq t ss (.slice ao cs.length c) ex (exR ex r6).1 (exR ex r6).2.1 ByteArray.empty 0, csO ao cs.length c cs, rpZ bq], []⟩) ?_ ?_
    · clear hex x1
      cases ex with
      | false =>
        (repeat (first | ((first | (apply wo_v; rfl) ); (· first | (apply pv_ev; rfl) | (apply pv_fld; rfl) | (apply g_load; first | (apply pv_ld; rfl; (· (repeat (first | apply sel_here | apply sel_there))); rfl) ) )) | apply wo_nil | apply wc_seq | apply wc_region | apply wc_skip | (apply wc_true; rfl) | (apply wc_false; rfl) ))
        exact cut_end rfl (wk_mk (by (repeat (first | apply wkf_nil | (apply wkf_cons; rfl))); done) (by (repeat (first | apply sub_nil )); done) (by first | exact fun _ h => h | (intro r hr; cases hr; done) | (simp; done) | exact fun _ h => List.mem_append_left _ h | (intro r hr; simp [hr]; done)))
      | true =>
        have w1 := pU16 g r6 (by omega)
        have s7 := tK_size 2 r6
        have w2 := pU16 g (tK 2 r6).2 (by omega)
        have s8 := tK_size 2 (tK 2 r6).2
        have hv := tK2_b (tK 2 r6).2
        have e1 : exR true r6 = ((tK 2 r6).1, (rdB (tK 2 (tK 2 r6).2).2.1 (tK 2 (tK 2 r6).2).2.2 (4 * (tK 2 (tK 2 r6).2).1)).1, (rdB (tK 2 (tK 2 r6).2).2.1 (tK 2 (tK 2 r6).2).2.2 (4 * (tK 2 (tK 2 r6).2).1)).2) := rfl
        rw [e1]
        generalize tK 2 (tK 2 r6).2 = y2 at w2 s8 hv ⊢
        generalize tK 2 r6 = y1 at w1 w2 s7 s8 ⊢
        obtain ⟨pf, r7⟩ := y1
        obtain ⟨ln, r8⟩ := y2
        dsimp only at w1 w2 s7 s8 hv ⊢
        have w3 := octBytes g r8.1 r8.2 (4 * ln) (by omega)
        (repeat (first | ((first | (apply wo_v; rfl) ); (· first | (apply pv_ev; rfl) | (apply pv_fld; rfl) | (apply g_load; first | (apply pv_ld; rfl; (· (repeat (first | apply sel_here | apply sel_there))); rfl) ) )) | apply wo_nil | apply wc_seq | apply wc_region | (apply wc_true; rfl) ))
        (refine wo_call (w1) rfl (by (repeat (first | apply sub_nil )); done) (by first | exact fun _ h => h | (intro r hr; cases hr; done) | (simp; done) | exact fun _ h => List.mem_append_left _ h | (intro r hr; simp [hr]; done)) rfl ?_; rintro v L' R' ⟨rfl, rfl, rfl⟩ H' hH RR hR; simp only [List.cons_append, List.nil_append] at hH hR; subst hH; have hR := hR.symm; subst hR)
        (repeat (first | ((first | (apply wo_v; rfl) ); (· first | (apply pv_ev; rfl) | (apply pv_fld; rfl) )) | apply wo_nil | apply wc_region | (apply wo_st; rfl; rfl; rfl; (· (repeat (first | apply sel_here | apply sel_there))); (· (repeat (first | apply SetAt.here | apply SetAt.there))); rfl) ))
        (refine wo_call (w2) rfl (by (repeat (first | apply sub_nil | (apply sub_cons; (· (repeat (first | apply sel_here | apply sel_there)))))); done) (by first | exact fun _ h => h | (intro r hr; cases hr; done) | (simp; done) | exact fun _ h => List.mem_append_left _ h | (intro r hr; simp [hr]; done)) rfl ?_; rintro v L' R' ⟨rfl, rfl, rfl⟩ H' hH RR hR; simp only [List.cons_append, List.nil_append] at hH hR; subst hH; have hR := hR.symm; subst hR)
        (repeat (first | ((first | (apply wo_v; rfl) ); (· first | (apply pv_ev; rfl) | (apply g_bin; first | (apply a_mul; rfl; rfl; infer_instance; omega) ) | (apply g_conv; first | (apply a_conv; rfl; infer_instance; infer_instance; infer_instance; omega) ) )) ))
        (refine wo_call (w3) rfl (by (repeat (first | apply sub_nil )); done) (by first | exact fun _ h => h | (intro r hr; cases hr; done) | (simp; done) | exact fun _ h => List.mem_append_left _ h | (intro r hr; simp [hr]; done)) rfl ?_; rintro v L' R' ⟨rfl, rfl, rfl⟩ H' hH RR hR; simp only [List.cons_append, List.nil_append] at hH hR; subst hH; have hR := hR.symm; subst hR)
        (repeat (first | ((first | (apply wo_v; rfl) ); (· first | (apply pv_ev; rfl) | (apply pv_fld; rfl) )) | apply wo_nil | (apply wo_st; rfl; rfl; rfl; (· (repeat (first | apply sel_here | apply sel_there))); (· (repeat (first | apply SetAt.here | apply SetAt.there))); rfl) ))
        exact cut_end rfl (wk_mk (by (repeat (first | apply wkf_nil | (apply wkf_cons; rfl))); done) (by (repeat (first | apply sub_nil | (apply sub_cons; (· (repeat (first | apply sel_here | apply sel_there)))))); done) (by first | exact fun _ h => h | (intro r hr; cases hr; done) | (simp; done) | exact fun _ h => List.mem_append_left _ h | (intro r hr; simp [hr]; done)))
    rintro st rfl
    have s9 : (exR ex r6).2.2.1.size ≤ 100000 := by
      unfold exR
      split
      · have := rdB_size2 (tK 2 (tK 2 r6).2).2.1 (tK 2 (tK 2 r6).2).2.2 (4 * (tK 2 (tK 2 r6).2).1)
        have h7 := tK_size 2 r6
        have h8 := tK_size 2 (tK 2 r6).2
        dsimp only
        omega
      · dsimp only; omega
    generalize exR ex r6 = y at s9 ⊢
    obtain ⟨pf, dt, r9⟩ := y
    dsimp only at s9 ⊢
    have w4 := octRest g r9.1 r9.2 (by omega)
    unfold enR
    have s10 : (rdB r9.1 r9.2 r9.1.size).1.size ≤ 100000 := by have := rdB_size r9.1 r9.2 r9.1.size (by omega); omega
    generalize rdB r9.1 r9.2 r9.1.size = y at w4 s10 ⊢
    obtain ⟨pl, r10⟩ := y
    dsimp only at w4 s10 ⊢
    (repeat (first | ((first | (apply wo_v; rfl) ); (· first | (apply pv_ev; rfl) )) | apply wc_seq | apply wc_region ))
    (refine wo_call (w4) rfl (by (repeat (first | apply sub_nil )); done) (by first | exact fun _ h => h | (intro r hr; cases hr; done) | (simp; done) | exact fun _ h => List.mem_append_left _ h | (intro r hr; simp [hr]; done)) rfl ?_; rintro v L' R' ⟨rfl, rfl, rfl⟩ H' hH RR hR; simp only [List.cons_append, List.nil_append] at hH hR; subst hH; have hR := hR.symm; subst hR)
    (repeat (first | ((first | (apply wo_v; rfl) ); (· first | (apply pv_ev; rfl) | (apply pv_fld; rfl) )) | apply wo_nil | apply wc_seq | apply wc_region | (apply wo_st; rfl; rfl; rfl; (· (repeat (first | apply sel_here | apply sel_there))); (· (repeat (first | apply SetAt.here | apply SetAt.there))); rfl) ))
    (refine wo_call (octErr g r10.1 r10.2) rfl (by (repeat (first | apply sub_nil | (apply sub_cons; (· (repeat (first | apply sel_here | apply sel_there)))))); done) (by first | exact fun _ h => h | (intro r hr; cases hr; done) | (simp; done) | exact fun _ h => List.mem_append_left _ h | (intro r hr; simp [hr]; done)) rfl ?_; rintro v L' R' ⟨rfl, rfl, rfl⟩ H' hH RR hR; simp only [List.cons_append, List.nil_append] at hH hR; subst hH; have hR := hR.symm; subst hR)
    by_cases he : r10.2 = 0
    · rw [if_neg (by simp [he])]
      clear hpa
      cases pa with
      | false =>
        rw [if_neg (by simp)]
        (repeat (first | ((first | (apply wo_v; rfl) ); (· first | (apply pv_ev; rfl) | (apply g_pick; first | (apply pv_pick_t; rfl; rfl) ) | (apply g_bin; first | (apply pv_and; rfl; rfl) ) )) | apply wo_nil | (apply wc_true; rfl) | (apply wc_false; rfl) | (apply a_dec_t; rfl; (· first | assumption | omega)) | (apply a_dec_f; rfl; (· first | assumption | omega)) | (apply a_dec_t; rfl; (· first | (simp; done) | (simp; omega))) | (apply a_dec_f; rfl; (· first | (simp; done) | (simp; omega))) | (apply wo_run; rfl; rfl) | (apply wo_skip; rfl; rfl; rfl; rfl) | (apply wo_skip_u; rfl; rfl; rfl) | (apply a_gt; rfl; rfl; (· first | assumption | omega)) ))
        rw [x2]
        (repeat (first | ((first | (apply wo_v; rfl) ); (· first | (apply pv_ev; rfl) )) | apply wc_seq | apply wc_region | apply wc_skip | (apply wc_true; rfl) | (apply wc_false; rfl) ))
        (refine wo_call (octErr g r10.1 r10.2) rfl (by (repeat (first | apply sub_nil )); done) (by first | exact fun _ h => h | (intro r hr; cases hr; done) | (simp; done) | exact fun _ h => List.mem_append_left _ h | (intro r hr; simp [hr]; done)) rfl ?_; rintro v L' R' ⟨rfl, rfl, rfl⟩ H' hH RR hR; simp only [List.cons_append, List.nil_append] at hH hR; subst hH; have hR := hR.symm; subst hR)
        (repeat (first | ((first | (apply wo_v; rfl) ); (· first | (apply pv_ev; rfl) | (apply g_load; first | (apply pv_lda; rfl; (· (repeat (first | apply sel_here | apply sel_there))); (· (repeat (first | apply Cut.here0 | apply Cut.here )))) ) )) | apply wo_nil | apply wc_seq | apply wc_region | apply wc_skip | apply wc_ret | (apply wc_true; rfl) | (apply wc_false; rfl) | (apply a_dec_t; rfl; (· first | assumption | omega)) | (apply a_dec_f; rfl; (· first | assumption | omega)) | (apply wo_sta; rfl; rfl; rfl; rfl; (· (repeat (first | apply sel_here | apply sel_there))); (· (repeat (first | apply LayAt.nil | apply LayAt.here ))); rfl) ))
        exact retv rfl (by (repeat (first | apply RV.nil | (apply RV.tmp; rfl) | (apply RV.agg; rfl; (· (repeat (first | apply sel_here ))); infer_instance; (· (repeat (first | apply Cut.here0 | apply Cut.here )))) )); done) (⟨ao, c, rfl, rfl, rfl⟩) (by (repeat (first | apply sub_nil | (apply sub_cons; (· (repeat (first | apply sel_here | apply sel_there)))))); done) (by first | exact fun _ h => h | (intro r hr; cases hr; done) | (simp; done) | exact fun _ h => List.mem_append_left _ h | (intro r hr; simp [hr]; done))
      | true =>
        rw [if_pos rfl]
        have w5 := pPad pl (by omega)
        have hpm := padM_b pl
        generalize padM pl = y at w5 hpm ⊢
        obtain ⟨pn, pe⟩ := y
        dsimp only at w5 hpm ⊢
        (repeat (first | ((first | (apply wo_v; rfl) ); (· first | (apply pv_ev; rfl) | (apply g_pick; first | (apply pv_pick_t; rfl; rfl) ) | (apply g_bin; first | (apply pv_and; rfl; rfl) ) )) | apply wo_nil | (apply wc_true; rfl) | (apply wc_false; rfl) | (apply a_dec_t; rfl; (· first | assumption | omega)) | (apply a_dec_f; rfl; (· first | assumption | omega)) | (apply a_dec_t; rfl; (· first | (simp; done) | (simp; omega))) | (apply a_dec_f; rfl; (· first | (simp; done) | (simp; omega))) | (apply wo_run; rfl; rfl) | (apply wo_skip; rfl; rfl; rfl; rfl) | (apply wo_skip_u; rfl; rfl; rfl) | (apply a_gt; rfl; rfl; (· first | assumption | omega)) ))
        rw [x2]
        (repeat (first | ((first | (apply wo_v; rfl) ); (· first | (apply pv_ev; rfl) | (apply pv_fld; rfl) | (apply g_load; first | (apply pv_ld; rfl; (· (repeat (first | apply sel_here | apply sel_there))); rfl) ) )) | apply wc_seq | apply wc_region | (apply wc_true; rfl) ))
        (refine wo_call (w5) rfl (by (repeat (first | apply sub_nil )); done) (by first | exact fun _ h => h | (intro r hr; cases hr; done) | (simp; done) | exact fun _ h => List.mem_append_left _ h | (intro r hr; simp [hr]; done)) rfl ?_; rintro v L' R' ⟨rfl, rfl, rfl⟩ H' hH RR hR; simp only [List.cons_append, List.nil_append] at hH hR; subst hH; have hR := hR.symm; subst hR)
        (repeat (first | ((first | (apply wo_v; rfl) ); (· first | (apply pv_ev; rfl) )) | apply wo_nil | apply wc_seq | apply wc_region ))
        (refine wo_call (octFail g r10.1 r10.2 pe) rfl (by (repeat (first | apply sub_nil )); done) (by first | exact fun _ h => h | (intro r hr; cases hr; done) | (simp; done) | exact fun _ h => List.mem_append_left _ h | (intro r hr; simp [hr]; done)) rfl ?_; rintro v L' R' ⟨rfl, rfl, rfl⟩ H' hH RR hR; simp only [List.cons_append, List.nil_append] at hH hR; subst hH; have hR := hR.symm; subst hR)
        (repeat (first | apply wo_nil ))
        (refine wc_regR [2, 4] [0] (aslL [(2, [0]), (4, [0]), (10, [0]), (12, [0])]) (tblP pn pl bp mrk kd sq t ss (.slice ao cs.length c) ex pf dt) ([rdO g (rdF r10.1 r10.2 pe).1 (rdF r10.1 r10.2 pe).2, csO ao cs.length c cs, rpZ bq]) (fm [(0, [rpI bp mrk kd sq t ss (.slice ao cs.length c) ex pf dt pl 0])]) mixed (by kernel_rfl) (by kernel_rfl) (tblP_rd) (by decide) (aslL_ok (by decide)) (by (repeat (first | (apply prm_cons; (· (repeat (first | apply sel_here | apply sel_there)))) | apply List.Perm.nil )); done) ?_; (repeat (first | (apply HdM.val; rfl; rfl; (· first | apply gok_none ); (· first | (apply pv_ev; rfl) | (apply pv_fld; rfl) )) )))
        (refine hm_eff (cs := [0]) rfl (by decide) rfl rfl (by first | exact gok_none | exact gok_run rfl rfl) (fun a ha => outc_mono (outc_pv (L := [rpI bp mrk kd sq t ss (.slice ao cs.length c) ex pf dt pl 0]) (pv_ld rfl (by (repeat (first | apply sel_here )); done) rfl) a ha) (fun v M h => ⟨[M], And.intro h.1 (congrArg (fun x => [x]) h.2), rfl, by simp⟩)) (⟨_, _, And.intro rfl rfl, rfl⟩) ?_; rintro v Ms ⟨rfl, rfl⟩ _; simp only [setls, setl, reduceIte, Nat.reduceEqDiff]; (repeat (first | (apply HdM.val; rfl; rfl; (· first | apply gok_none ); (· first | (apply pv_ev; rfl) | (apply pv_fld; rfl) )) )))
        (refine hm_eff (cs := [0]) rfl (by decide) rfl rfl (by first | exact gok_none | exact gok_run rfl rfl) (fun a ha => outc_mono (outc_pv (L := [rpI bp mrk kd sq t ss (.slice ao cs.length c) ex pf dt pl 0]) (pv_ld rfl (by (repeat (first | apply sel_here )); done) rfl) a ha) (fun v M h => ⟨[M], And.intro h.1 (congrArg (fun x => [x]) h.2), rfl, by simp⟩)) (⟨_, _, And.intro rfl rfl, rfl⟩) ?_; rintro v Ms ⟨rfl, rfl⟩ _; simp only [setls, setl, reduceIte, Nat.reduceEqDiff]; (repeat (first | (apply HdM.val; rfl; rfl; (· first | apply gok_none ); (· first | (apply pv_ev; rfl) | (apply pv_fld; rfl) | (apply g_bin; first | (apply a_sub; rfl; rfl; infer_instance; omega) ) | (apply g_bi; first | (apply pv_len_str; rfl) ) | (apply pv_cs_hi; rfl; rfl; omega) )) )))
        (refine hm_eff (cs := [0]) rfl (by decide) rfl rfl (by first | exact gok_none | exact gok_run rfl rfl) (fun a ha => outc_mono (outc_st rfl rfl rfl (by (repeat (first | apply SetAt.here | apply SetAt.there)); done) a ha) (fun v M h => ⟨[M], And.intro h.1 (congrArg (fun x => [x]) h.2), rfl, by simp⟩)) (⟨_, _, And.intro rfl rfl, rfl⟩) ?_; rintro v Ms ⟨rfl, rfl⟩ _; simp only [setls, setl, reduceIte, Nat.reduceEqDiff]; (repeat (first | (apply HdM.val; rfl; rfl; (· first | apply gok_none ); (· first | (apply pv_ev; rfl) | (apply pv_fld; rfl) )) )))
        (refine hm_eff (cs := [0]) rfl (by decide) rfl rfl (by first | exact gok_none | exact gok_run rfl rfl) (fun a ha => outc_mono (outc_st rfl rfl rfl (by (repeat (first | apply SetAt.here | apply SetAt.there)); done) a ha) (fun v M h => ⟨[M], And.intro h.1 (congrArg (fun x => [x]) h.2), rfl, by simp⟩)) (⟨_, _, And.intro rfl rfl, rfl⟩) ?_; rintro v Ms ⟨rfl, rfl⟩ _; simp only [setls, setl, reduceIte, Nat.reduceEqDiff]; (repeat (first | fail )))
        (refine HdM.nil ?_; intro H hH; simp only [Hp, fm, look, setl, List.flatMap_cons, List.flatMap_nil, reduceIte, Nat.reduceEqDiff, Option.getD_some, List.append_nil, List.cons_append, List.nil_append] at hH; subst hH)
        by_cases hpe : pe = 0
        · subst hpe
          rw [if_neg (by simp)]
          have ef : rdF r10.1 r10.2 0 = r10 := by unfold rdF; rw [if_neg (by simp)]
          rw [ef]
          (repeat (first | ((first | (apply wo_v; rfl) ); (· first | (apply pv_ev; rfl) )) | apply wc_seq | apply wc_region ))
          (refine wo_call (octErr g r10.1 r10.2) rfl (by (repeat (first | apply sub_nil )); done) (by first | exact fun _ h => h | (intro r hr; cases hr; done) | (simp; done) | exact fun _ h => List.mem_append_left _ h | (intro r hr; simp [hr]; done)) rfl ?_; rintro v L' R' ⟨rfl, rfl, rfl⟩ H' hH RR hR; simp only [List.cons_append, List.nil_append] at hH hR; subst hH; have hR := hR.symm; subst hR)
          (repeat (first | ((first | (apply wo_v; rfl) ); (· first | (apply pv_ev; rfl) | (apply g_load; first | (apply pv_lda; rfl; (· (repeat (first | apply sel_here | apply sel_there))); (· (repeat (first | apply Cut.here0 | apply Cut.here )))) ) )) | apply wo_nil | apply wc_seq | apply wc_region | apply wc_skip | apply wc_ret | (apply wc_true; rfl) | (apply wc_false; rfl) | (apply a_dec_t; rfl; (· first | assumption | omega)) | (apply a_dec_f; rfl; (· first | assumption | omega)) | (apply wo_sta; rfl; rfl; rfl; rfl; (· (repeat (first | apply sel_here | apply sel_there))); (· (repeat (first | apply LayAt.nil | apply LayAt.here ))); rfl) ))
          exact retv rfl (by (repeat (first | apply RV.nil | (apply RV.tmp; rfl) | (apply RV.agg; rfl; (· (repeat (first | apply sel_here ))); infer_instance; (· (repeat (first | apply Cut.here0 | apply Cut.here )))) )); done) (⟨ao, c, rfl, rfl, rfl⟩) (by (repeat (first | apply sub_nil | (apply sub_cons; (· (repeat (first | apply sel_here | apply sel_there)))))); done) (by first | exact fun _ h => h | (intro r hr; cases hr; done) | (simp; done) | exact fun _ h => List.mem_append_left _ h | (intro r hr; simp [hr]; done))
        · rw [if_pos hpe]
          have ef : rdF r10.1 r10.2 pe = (E0, pe) := by unfold rdF; rw [if_pos ⟨he, hpe⟩]
          rw [ef]
          refine wc_own0 30 1 ?_
          (repeat (first | ((first | (apply wo_v; rfl) ); (· first | (apply pv_ev; rfl) )) | apply wc_seq | apply wc_region ))
          (refine wo_call (octErr g E0 pe) rfl (by (repeat (first | apply sub_nil | (apply sub_cons; (· (repeat (first | apply sel_here | apply sel_there)))))); done) (by first | exact fun _ h => h | (intro r hr; cases hr; done) | (simp; done) | exact fun _ h => List.mem_append_left _ h | (intro r hr; simp [hr]; done)) rfl ?_; rintro v L' R' ⟨rfl, rfl, rfl⟩ H' hH RR hR; simp only [List.cons_append, List.nil_append] at hH hR; subst hH; have hR := hR.symm; subst hR)
          (repeat (first | ((first | (apply wo_v; rfl) ); (· first | (apply pv_ev; rfl) | (apply g_build; apply pv_build; (· (repeat (first | apply Bld.nil )))) )) | apply wo_nil | apply wc_seq | apply wc_region | apply wc_ret | (apply wc_true; rfl) | (apply wc_false; rfl) | (apply a_dec_t; rfl; (· first | assumption | omega)) | (apply wo_sta; rfl; rfl; rfl; rfl; (· (repeat (first | apply sel_here | apply sel_there))); (· (repeat (first | apply LayAt.nil | apply LayAt.here ))); rfl) ))
          exact retv rfl (by (repeat (first | apply RV.nil | (apply RV.tmp; rfl) | (apply RV.agg; rfl; (· (repeat (first | apply sel_here ))); infer_instance; (· (repeat (first | apply Cut.here0 | apply Cut.here )))) )); done) (⟨none, 0, rfl, rfl, rfl⟩) (by (repeat (first | apply sub_nil | (apply sub_cons; (· (repeat (first | apply sel_here | apply sel_there)))))); done) (by first | exact fun _ h => h | (intro r hr; cases hr; done) | (simp; done) | exact fun _ h => List.mem_append_left _ h | (intro r hr; simp [hr]; done))
    · rw [if_pos he]
      refine wo_own0 30 1 ?_
      (repeat (first | ((first | (apply wo_v; rfl) ); (· first | (apply pv_ev; rfl) | (apply g_pick; first | (apply pv_pick_t; rfl; rfl) | (apply pv_pick_f; rfl; rfl)) )) | apply wo_nil | apply wc_seq | apply wc_region | apply wc_skip | (apply wc_true; rfl) | (apply wc_false; rfl) | (apply wo_run; rfl; rfl) | (apply wo_skip; rfl; rfl; rfl; rfl) | (apply wo_skip_u; rfl; rfl; rfl) | (apply a_gt; rfl; rfl; (· first | assumption | omega)) | (apply a_gf; rfl; rfl; (· first | assumption | omega)) ))
      (refine wo_call (octErr g r10.1 r10.2) rfl (by (repeat (first | apply sub_nil | (apply sub_cons; (· (repeat (first | apply sel_here | apply sel_there)))))); done) (by first | exact fun _ h => h | (intro r hr; cases hr; done) | (simp; done) | exact fun _ h => List.mem_append_left _ h | (intro r hr; simp [hr]; done)) rfl ?_; rintro v L' R' ⟨rfl, rfl, rfl⟩ H' hH RR hR; simp only [List.cons_append, List.nil_append] at hH hR; subst hH; have hR := hR.symm; subst hR)
      (repeat (first | ((first | (apply wo_v; rfl) ); (· first | (apply pv_ev; rfl) | (apply g_build; apply pv_build; (· (repeat (first | apply Bld.nil )))) )) | apply wo_nil | apply wc_seq | apply wc_region | apply wc_ret | (apply wc_true; rfl) | (apply wc_false; rfl) | (apply a_dec_t; rfl; (· first | assumption | omega)) | (apply wo_sta; rfl; rfl; rfl; rfl; (· (repeat (first | apply sel_here | apply sel_there))); (· (repeat (first | apply LayAt.nil | apply LayAt.here ))); rfl) ))
      exact retv rfl (by (repeat (first | apply RV.nil | (apply RV.tmp; rfl) | (apply RV.agg; rfl; (· (repeat (first | apply sel_here ))); infer_instance; (· (repeat (first | apply Cut.here0 | apply Cut.here )))) )); done) (⟨none, 0, rfl, rfl, rfl⟩) (by (repeat (first | apply sub_nil | (apply sub_cons; (· (repeat (first | apply sel_here | apply sel_there)))))); done) (by first | exact fun _ h => h | (intro r hr; cases hr; done) | (simp; done) | exact fun _ h => List.mem_append_left _ h | (intro r hr; simp [hr]; done))
end Go.Proofs.Ytlhlidmhlhodiaa

/-
  The reference of rtp: ext.
-/
namespace Go.Proofs.Ytlhlidmhlhodiaa
set_option linter.unusedSimpArgs false
set_option linter.unusedVariables false
open Go.RowKit
attribute [local irreducible] Pv WO WC Fn
set_option maxRecDepth 100000
attribute [local irreducible] ByteArray.extract

theorem tK_err {k : Int} {r : Rs} (h : r.2 ≠ 0) : (tK k r).2 = r := by
  unfold tK rdB; rw [if_pos h]
theorem csN_err {r : Rs} (h : r.2 ≠ 0) : ∀ n, (csN r n).2 = r
  | 0 => rfl
  | n + 1 => by
    rw [csN]
    dsimp only
    rw [tK_err (by rw [csN_err h n]; exact h), csN_err h n]
theorem exR_err {b : Bool} {r : Rs} (h : r.2 ≠ 0) : (exR b r).2.2 = r := by
  unfold exR
  split
  · dsimp only
    have e1 := tK_err (k := 2) h
    have e2 : (tK 2 (tK 2 r).2).2 = r := by rw [tK_err (by rw [e1]; exact h), e1]
    rw [e2]; unfold rdB; rw [if_pos h]
  · rfl
theorem tK1_ok {s : ByteArray} (h : 1 ≤ s.size) : (tK 1 (s, 0)).2.2 = 0 := by
  unfold tK rdB
  dsimp only
  rw [if_neg (by simp), if_neg (by omega), if_neg (by omega)]
theorem prR_short {s : ByteArray} (h : s.size < 2) : prR s = (Rp0, 1) := by
  have e1 : (tK 1 (tK 1 (s, 0)).2).2.2 = 1 := by
    rcases t1_e (s, 0) rfl with h1 | h1
    · have h2 := t1_ok (r := (s, 0)) h1
      have h3 : s.size = 1 + (t1 (s, 0)).2.1.size := by
        have := congrArg ByteArray.size h2.2
        simpa [ByteArray.size_append, b1_size] using this
      have h4 : (t1 (s, 0)).2 = ((t1 (s, 0)).2.1, 0) := Prod.ext rfl h1
      show (t1 (t1 (s, 0)).2).2.2 = 1
      rw [h4]
      have h5 : (t1 (s, 0)).2.1 = E0 := ByteArray.size_eq_zero_iff.1 (by omega)
      rw [h5]; exact congrArg (fun x => x.2.2) t1_end
    · show (t1 (t1 (s, 0)).2).2.2 = 1
      rw [t1_err (r := (t1 (s, 0)).2) (by rw [h1]; omega)]; exact h1
  unfold prR
  rw [if_neg (by omega)]
  dsimp only
  rw [if_neg (by rw [e1]; omega)]
  have h0 : (tK 1 (tK 1 (s, 0)).2).2.2 ≠ 0 := by rw [e1]; omega
  generalize (tK 1 (tK 1 (s, 0)).2) = y at e1 h0 ⊢
  have g1 := tK_err (k := 2) h0
  have g2 : (tK 4 (tK 2 y.2).2).2 = y.2 := by rw [tK_err (by rw [g1]; exact h0), g1]
  have g3 : (tK 4 (tK 4 (tK 2 y.2).2).2).2 = y.2 := by rw [tK_err (by rw [g2]; exact h0), g2]
  have g4 : (csN (tK 4 (tK 4 (tK 2 y.2).2).2).2 ((tK 1 (s, 0)).1 % 16).toNat).2 = y.2 := by rw [g3]; exact csN_err h0 _
  unfold enR
  rw [exR_err (by rw [g4]; exact h0), g4]
  have g5 : (rdB y.2.1 y.2.2 y.2.1.size).2.2 = 1 := by unfold rdB; rw [if_pos h0]; exact e1
  rw [if_pos (by rw [g5]; omega), g5]
theorem tK4_b (r : Rs) : 0 ≤ (tK 4 r).1 ∧ (tK 4 r).1 ≤ 4294967295 := by
  have h : (rdB r.1 r.2 4).1.size ≤ 4 := by have := rdB_size r.1 r.2 4 (by omega); omega
  have h1 := valK_b (rdB r.1 r.2 4).1
  obtain ⟨v0, v1, v2, v3, v4, _⟩ := h1
  show 0 ≤ valK _ _ ∧ valK _ _ ≤ 4294967295
  have h2 : (rdB r.1 r.2 4).1.size = 0 ∨ (rdB r.1 r.2 4).1.size = 1 ∨ (rdB r.1 r.2 4).1.size = 2 ∨ (rdB r.1 r.2 4).1.size = 3 ∨ (rdB r.1 r.2 4).1.size = 4 := by omega
  rcases h2 with h2 | h2 | h2 | h2 | h2
  · rw [h2]; simp [valK]
  · rw [h2]; exact ⟨v0 1, by omega⟩
  · rw [h2]; exact ⟨v0 2, by omega⟩
  · rw [h2]; exact ⟨v0 3, by omega⟩
  · rw [h2]; exact ⟨v0 4, v4⟩
theorem sb_b1 {x : Int} (h : 0 ≤ x ∧ x ≤ 255) : sb (b1 x) 0 = x := by
  have := sb_last E0 h
  rwa [E0_append] at this
theorem two_front {s : ByteArray} (h : 2 ≤ s.size) : ∃ r1 : ByteArray, tK 1 (s, 0) = (sb s 0, (r1, 0)) ∧ tK 1 (r1, 0) = (sb s 1, (s.extract 2 s.size, 0)) := by
  have h1 := tK1_ok (s := s) (by omega)
  have hb := t1_b (s, 0)
  have h2 := (t1_ok (r := (s, 0)) h1).2
  rw [show t1 (s, 0) = tK 1 (s, 0) from rfl] at hb h2
  generalize tK 1 (s, 0) = x at h1 h2 hb ⊢
  obtain ⟨a, r1, e1⟩ := x
  dsimp only at h1 h2 hb ⊢
  subst h1
  have hs1 : s.size = 1 + r1.size := by rw [h2, ByteArray.size_append, b1_size]
  have h3 := tK1_ok (s := r1) (by omega)
  have hb2 := t1_b (r1, 0)
  have h4 := (t1_ok (r := (r1, 0)) h3).2
  rw [show t1 (r1, 0) = tK 1 (r1, 0) from rfl] at hb2 h4
  refine ⟨r1, ?_⟩
  generalize tK 1 (r1, 0) = x at h3 h4 hb2 ⊢
  obtain ⟨b, r2, e2⟩ := x
  dsimp only at h3 h4 hb2 ⊢
  subst h3
  have hs : s = b1 a ++ b1 b ++ r2 := by rw [h2, h4, ByteArray.append_assoc]
  have z : (b1 a ++ b1 b).size = 2 := by rw [ByteArray.size_append, b1_size, b1_size]
  have g0 : sb s 0 = a := by rw [h2, sb_left _ _ (by rw [b1_size]; omega), sb_b1 hb]
  have g1 : sb s 1 = b := by
    rw [hs, sb_left _ _ (by rw [z]; omega)]
    have := sb_last (b1 a) hb2
    rwa [b1_size] at this
  have g2 : s.extract 2 s.size = r2 := by
    have := ByteArray.extract_append_eq_right (a := b1 a ++ b1 b) (b := r2) (i := (b1 a ++ b1 b).size) rfl (by rw [ByteArray.size_append])
    rw [z] at this
    rw [hs, show (b1 a ++ b1 b ++ r2).size = 2 + r2.size by rw [ByteArray.size_append, z]]
    simp only [ByteArray.size_append, b1_size] at this
    exact this
  rw [g0, g1, g2]
  exact ⟨rfl, rfl⟩
end Go.Proofs.Ytlhlidmhlhodiaa

/-
  Sparse frames: slices that are only read, whatever they are where they are empty.
-/
namespace Go.Proofs.Ytlhlidmhlhodiaa
set_option linter.unusedSimpArgs false
set_option linter.unusedVariables false
open Go.RowKit

/-- a slice that is only read, of which nothing is known where it is empty -/
structure SQ (R : List Ro) (sz : Nat) (ao : Option Addr) (n c : Nat) (xs : List (List Value)) : Prop where
  len : xs.length = n
  pos : 0 < n → ∃ b o, ao = some ⟨b, o, none⟩ ∧ ⟨b, o, sz, xs⟩ ∈ R
theorem SR.sq {R : List Ro} {sz : Nat} {ao : Option Addr} {n c : Nat} {xs : List (List Value)} (h : SR R sz ao n c xs) : SQ R sz ao n c xs := ⟨h.len, h.pos⟩
theorem SQ.mono {R R' : List Ro} {sz : Nat} {ao : Option Addr} {n c : Nat} {xs : List (List Value)} (h : SQ R sz ao n c xs) (hR : ∀ r ∈ R, r ∈ R') : SQ R' sz ao n c xs :=
  ⟨h.len, fun h0 => by obtain ⟨b, o, e, m⟩ := h.pos h0; exact ⟨b, o, e, hR _ m⟩⟩
theorem SQ.nil (R : List Ro) (sz : Nat) (ao : Option Addr) (c : Nat) : SQ R sz ao 0 c [] := ⟨rfl, fun h => absurd h (by omega)⟩
/-- a callee that only reads a slice, handed an owned one -/
theorem Fn.own {P : Program} {f : FuncId} {args : Array Value} {T sz n c : Nat} {ao : Option Addr} {xs : List (List Value)} {Q : Value → List It → Prop}
    (h : ∀ R, SQ R sz ao n c xs → Fn P f args [] R (fun v L' R' => Q v L' ∧ R' = [])) : Fn P f args [.own T sz ao n c xs] [] (fun v L' R' => ∃ L0, Q v L0 ∧ L' = L0 ++ [.own T sz ao n c xs] ∧ R' = []) := by
  intro w hw
  have hO : OwnSat w T sz ao n c xs := hw.sat _ (.head _)
  have key : ∀ R : List Ro, (∀ r ∈ R, r.sat w) → SQ R sz ao n c xs → Calls P f args w fun e w' => ∃ v L' R', e = .returned v ∧ (∃ L0, Q v L0 ∧ L' = L0 ++ [.own T sz ao n c xs] ∧ R' = []) ∧ Sat w (feet [It.own T sz ao n c xs]) (blks []) L' R' w' := fun R hR hS => by
    have h0 : Sat w (feet []) (blks R) [] R w := ⟨Frm.refl _ _, (fun x hx => by cases hx), (fun x hx => by cases hx), .nil, hR, (fun r hr x hx => by cases hx), fun r hr => .inr (.inl (mem_blks.2 ⟨r, hr, rfl⟩))⟩
    refine (h R hS w h0).mono fun e w' ⟨v, L', R', he, ⟨hq, hR'⟩, hs⟩ => ?_
    subst hR'
    have hs2 : Sat w (feet []) [] L' [] w' := ⟨hs.frm, hs.sat, hs.own, hs.dis, (fun r hr => by cases hr), (fun r hr => by cases hr), (fun r hr => by cases hr)⟩
    have := hw.step (F := [.own T sz ao n c xs]) (.refl _) (fun b hb => by cases hb) hs2
    exact ⟨v, _, _, he, ⟨L', hq, rfl, rfl⟩, by simpa using this⟩
  cases ao with
  | none =>
    have := hO.nil rfl
    have h1 := hO.le
    have h2 := hO.len
    obtain rfl : n = 0 := by omega
    obtain rfl : xs = [] := List.eq_nil_of_length_eq_zero h2
    exact key [] (fun r hr => by cases hr) (SQ.nil _ _ _ _)
  | some a =>
    obtain ⟨hsp, cur, hcur, hfit, hseg⟩ := hO.at_ a rfl
    obtain ⟨b, o, s⟩ := a
    simp only at hsp hcur hseg
    subst hsp
    exact key [⟨b, o, sz, xs⟩] (fun r hr => by rcases List.mem_singleton.1 hr with rfl; exact ⟨hO.rows, cur, T, (0, 0), hcur, hseg⟩) ⟨hO.len, fun _ => ⟨b, o, rfl, .head _⟩⟩
end Go.Proofs.Ytlhlidmhlhodiaa

/-
  The laws of rtp: Same.
-/
namespace Go.Proofs.Ytlhlidmhlhodiaa
set_option linter.unusedSimpArgs false
set_option linter.unusedVariables false
set_option linter.unusedSimpArgs false
set_option linter.unusedVariables false
open Go.RowKit
attribute [local irreducible] Pv WO WC Fn
set_option maxRecDepth 100000

theorem crs_at {l : List Int} {i : Nat} {z : Int} (h : l[i]? = some z) : (crs l)[i]? = some [.int .u32 z] := by simp [crs, h]
def lenM (n : Nat) (ex : Bool) (dt pl : ByteArray) (pd : Int) : Int := 12 + 4 * n + pl.size + pd + (if ex = true then 4 + (dt.size : Int) else 0)
def chkR (kd : Int) (n : Nat) (ex : Bool) (pf : Int) (dt pl : ByteArray) (pd : Int) : Int :=
  if 127 < kd ∨ pd < 0 ∨ 255 < pd then 5 else if 15 < n then 4 else if dt.size % 4 ≠ 0 ∨ (ex = false ∧ (pf ≠ 0 ∨ dt ≠ E0)) then 2 else if 1500 < lenM n ex dt pl pd then 4 else 0
end Go.Proofs.Ytlhlidmhlhodiaa

/-
  The reference of rtp: Head.
-/
namespace Go.Proofs.Ytlhlidmhlhodiaa
set_option linter.unusedSimpArgs false
set_option linter.unusedVariables false
set_option linter.unusedSimpArgs false
set_option linter.unusedVariables false
open Go.RowKit
attribute [local irreducible] Pv WO WC Fn
set_option maxRecDepth 100000
attribute [local irreducible] ByteArray.extract

def bi (c : Bool) (n : Int) : Int := if c = true then n else 0
theorem bi_or (c : Bool) (n : Int) : bi c n = 0 ∨ bi c n = n := by cases c <;> simp [bi]
def csT (cs : List Int) : Nat → ByteArray
  | 0 => E0
  | i + 1 => match cs[i]? with
    | some z => csT cs i ++ numS 4 z
    | none => csT cs i
theorem csT_le (cs : List Int) : ∀ i, (csT cs i).size ≤ 4 * i
  | 0 => Nat.le_refl _
  | i + 1 => by
    have := csT_le cs i
    rw [csT]
    split
    · rw [ByteArray.size_append, numS_size]; omega
    · omega
def hdT (mrk : Bool) (kd sq t ss : Int) (cs : List Int) (ex : Bool) (pf : Int) (dt : ByteArray) (pd : Int) : ByteArray :=
  numS 1 (128 + bi (decide (0 < pd)) 32 + bi ex 16 + cs.length) ++ numS 1 (bi mrk 128 + kd) ++ (numS 2 sq ++ numS 4 t ++ numS 4 ss) ++ csT cs cs.length ++ (if ex = true then numS 2 pf ++ numS 2 (dt.size / 4 : Nat) ++ dt else E0)
def zrT : Nat → ByteArray
  | 0 => E0
  | i + 1 => zrT i ++ ⟨#[0]⟩
theorem zrT_size : ∀ i, (zrT i).size = i
  | 0 => rfl
  | i + 1 => by rw [zrT, ByteArray.size_append, zrT_size i]; rfl
theorem hdT_le (mrk : Bool) (kd sq t ss : Int) (cs : List Int) (ex : Bool) (pf : Int) (dt : ByteArray) (pd : Int) : (hdT mrk kd sq t ss cs ex pf dt pd).size ≤ 16 + 4 * cs.length + dt.size := by
  have h := csT_le cs cs.length
  unfold hdT
  cases ex with
  | true => rw [if_pos rfl]; simp only [ByteArray.size_append, numS_size]; omega
  | false => rw [if_neg (by simp)]; simp only [ByteArray.size_append, numS_size, show E0.size = 0 from rfl]; omega
def txR (mrk : Bool) (kd sq t ss : Int) (cs : List Int) (ex : Bool) (pf : Int) (dt pl : ByteArray) (pd : Int) : ByteArray :=
  hdT mrk kd sq t ss cs ex pf dt pd ++ pl ++ (if 0 < pd then zrT (pd.toNat - 1) ++ numS 1 pd else E0)
end Go.Proofs.Ytlhlidmhlhodiaa

/-
  The reference of rtp: Check.
-/
namespace Go.Proofs.Ytlhlidmhlhodiaa
set_option linter.unusedSimpArgs false
set_option linter.unusedVariables false
open Go.RowKit
attribute [local irreducible] Pv WO WC Fn
set_option maxRecDepth 100000
attribute [local irreducible] ByteArray.extract

theorem csT_size (cs : List Int) : ∀ i, i ≤ cs.length → (csT cs i).size = 4 * i
  | 0, _ => rfl
  | i + 1, h => by
    rw [csT, List.getElem?_eq_getElem (show i < cs.length by omega)]
    simp only
    rw [ByteArray.size_append, numS_size, csT_size cs i (by omega)]; omega
theorem txR_size (mrk : Bool) (kd sq t ss : Int) (cs : List Int) (ex : Bool) (pf : Int) (dt pl : ByteArray) (pd : Int) (hp : 0 ≤ pd) : ((txR mrk kd sq t ss cs ex pf dt pl pd).size : Int) = lenM cs.length ex dt pl pd := by
  have h := csT_size cs cs.length (Nat.le_refl _)
  have e0 : E0.size = 0 := rfl
  unfold txR hdT lenM
  cases ex with
  | true =>
    rw [if_pos rfl, if_pos rfl]
    by_cases h0 : 0 < pd
    · rw [if_pos h0]; simp only [ByteArray.size_append, numS_size, zrT_size, h]; omega
    · rw [if_neg h0]; simp only [ByteArray.size_append, numS_size, h, e0]; omega
  | false =>
    simp only [Bool.false_eq_true, if_false]
    by_cases h0 : 0 < pd
    · rw [if_pos h0]; simp only [ByteArray.size_append, numS_size, zrT_size, h, e0]; omega
    · rw [if_neg h0]; simp only [ByteArray.size_append, numS_size, h, e0]; omega
end Go.Proofs.Ytlhlidmhlhodiaa

/-
  The laws of rtp: Few.
-/
namespace Go.Proofs.Ytlhlidmhlhodiaa
set_option linter.unusedSimpArgs false
set_option linter.unusedVariables false
set_option linter.unusedSimpArgs false
set_option linter.unusedVariables false
open Go.RowKit
attribute [local irreducible] Pv WO WC Fn
set_option maxRecDepth 100000
attribute [local irreducible] ByteArray.extract

def tblFw (d0 p0 d1 p1 : ByteArray) (x y : It) : Nat → List (List It) → Value → List (List It) → Prop := fun k Ls v Ms => match k with
  | 1 => v = .string d0 ∧ Ms = Ls
  | 4 => v = .string p0 ∧ Ms = Ls
  | 2 => v = .string d1 ∧ Ms = [[]]
  | 5 => v = .string p1 ∧ Ms = [[]]
  | 7 => v = undef ∧ Ms = [[x]]
  | _ => v = undef ∧ Ms = [[y]]
theorem tblFw_rd {d0 p0 d1 p1 : ByteArray} {x y : It} : ∀ k ∈ [1, 4], Rdr (tblFw d0 p0 d1 p1 x y) k := fun k hk L v Ms h => by
  simp only [List.mem_cons, List.not_mem_nil, or_false] at hk
  rcases hk with rfl | rfl
  · exact h.2
  · exact h.2
theorem gFlag (b : Bool) (x r : Int) (h : (if b = true then x else 0) = r) : Fn Try.prog 71 #[.bool b, .int .u8 x] [] [] (fun v L' R' => v = .int .u8 r ∧ L' = [] ∧ R' = []) := by
  subst h
  cases b with
  | true =>
    refine fn_intro Try.func71 rfl Try.ntmps71 rfl (fun E => ?_)
    (repeat (first | ((first | (apply wo_v; rfl) ); (· first | (apply pv_ev; rfl) )) | apply wo_nil | apply wc_seq | apply wc_region | apply wc_ret | (apply wc_true; rfl) ))
    exact ret1 rfl rfl ⟨rfl, rfl, rfl⟩ ((by (repeat (first | apply sub_nil )); done) : List.Perm _ ([] ++ _)) (by first | exact fun _ h => h | (intro r hr; cases hr; done) | (simp; done) | exact fun _ h => List.mem_append_left _ h | (intro r hr; simp [hr]; done))
  | false =>
    refine fn_intro Try.func71 rfl Try.ntmps71 rfl (fun E => ?_)
    (repeat (first | ((first | (apply wo_v; rfl) ); (· first | (apply pv_ev; rfl) )) | apply wo_nil | apply wc_seq | apply wc_region | apply wc_skip | apply wc_ret | (apply wc_true; rfl) | (apply wc_false; rfl) ))
    exact ret1 rfl rfl ⟨rfl, rfl, rfl⟩ ((by (repeat (first | apply sub_nil )); done) : List.Perm _ ([] ++ _)) (by first | exact fun _ h => h | (intro r hr; cases hr; done) | (simp; done) | exact fun _ h => List.mem_append_left _ h | (intro r hr; simp [hr]; done))
end Go.Proofs.Ytlhlidmhlhodiaa

/-
  Package rtp: a packet's bytes.
-/
namespace Go.Proofs.Ytlhlidmhlhodiaa
set_option linter.unusedSimpArgs false
set_option linter.unusedVariables false
set_option linter.unusedSimpArgs false
set_option linter.unusedVariables false
open Go.RowKit
attribute [local irreducible] Pv WO WC Fn
set_option maxRecDepth 100000
attribute [local irreducible] ByteArray.extract

set_option maxHeartbeats 4000000 in
theorem wU32R (g c : Nat) (p ao : Option Addr) (s : ByteArray) (xs : List Int) (A : Option Addr) (n c2 : Nat) (R : List Ro) (hS : SQ R 1 A n c2 (crs xs)) (hx : ∀ x ∈ xs, 0 ≤ x ∧ x ≤ 4294967295) (hl : xs.length ≤ 1000000) (hw : WOk g p ao c s) (hz : s.size ≤ 1098000000000) :
    Fn Try.prog 72 #[.pointer (some ⟨g, 0, none⟩), .slice A n c2] (wrH g p ao c s) R
    (fun v L' R' => ∃ p' ao' c', v = .pointer (some ⟨g, 0, none⟩) ∧ L' = wrH g p' ao' c' (s ++ numsS 4 xs) ∧ R' = [] ∧ WOk g p' ao' c' (s ++ numsS 4 xs)) := by
  have hn : n = xs.length := by rw [← hS.len]; simp
  subst hn
  refine fn_intro Try.func72 rfl Try.ntmps72 rfl (fun E => ?_)
  (repeat (first | ((first | (apply wo_v; rfl) ); (· first | (apply pv_ev; rfl) | (apply g_bi; first | (apply pv_len_sl; rfl) ) )) | apply wo_nil | apply wc_seq | apply wc_region | apply wc_block ))
  refine wc_loop' (fun m st => ∃ (j : Nat) (p' ao' : Option Addr) (c' : Nat), m = xs.length - j ∧ st = ⟨[(0, .pointer (some ⟨g, 0, none⟩)), (7, .slice A xs.length c2), (8, .int .i64 xs.length), (9, .int .i64 j)], wrH g p' ao' c' (s ++ numsS 4 (xs.take j)), R⟩ ∧ j ≤ xs.length ∧ WOk g p' ao' c' (s ++ numsS 4 (xs.take j)))
    ⟨0, p, ao, c, rfl, by rw [List.take_zero, show numsS 4 [] = E0 from rfl, append_E0], Nat.zero_le _, by rw [List.take_zero, show numsS 4 [] = E0 from rfl, append_E0]; exact hw⟩ (wk_mk (by (repeat (first | apply wkf_nil | (apply wkf_cons; rfl))); done) (by (repeat (first | apply sub_nil )); done) (by first | exact fun _ h => h | (intro r hr; cases hr; done) | (simp; done) | exact fun _ h => List.mem_append_left _ h | (intro r hr; simp [hr]; done))) ?_
  clear hw p ao c
  rintro m st ⟨j, p, ao, c, rfl, rfl, hj, hw⟩
  by_cases hlt : j < xs.length
  · obtain ⟨x, he⟩ : ∃ x, xs[j]? = some x := ⟨_, List.getElem?_eq_getElem hlt⟩
    have hr : (crs xs)[j]? = some [.int .u32 x] := crs_at he
    have hxb := hx x (List.mem_of_getElem? he)
    have hS' : (s ++ numsS 4 (xs.take j)).size ≤ 1099000000000 := by
      rw [ByteArray.size_append, numsS_size, List.length_take]; omega
    have hnext := numsS_take (k := 4) he
    obtain ⟨S0, hS0⟩ : ∃ S0, s ++ numsS 4 (xs.take j) = S0 := ⟨_, rfl⟩
    have hnx : s ++ numsS 4 (xs.take (j + 1)) = S0 ++ numsS 4 [x] := by rw [hnext, ← ByteArray.append_assoc, hS0]; show S0 ++ numS 4 x = S0 ++ (numS 4 x ++ E0); rw [append_E0]
    rw [hS0] at hw hS' ⊢
    clear hnext hS0
    have hN := fun bl c2 => wNum g c bl c2 p ao S0 4 4 [x] rfl (by intro y hy; rcases List.mem_singleton.1 hy with rfl; omega) (by simp) hw hS'
    rw [← hnx] at hN
    obtain ⟨b1, o1, rfl, hmem⟩ := hS.pos (by omega)
    (repeat (first | ((first | (apply wo_v; rfl) ); (· first | (apply pv_ev; rfl) | (apply g_load; first | (apply pv_ld; rfl; (· (repeat (first | apply sel_there))); rfl) | (apply pv_ld_ownf; rfl; (· (repeat (first | fail ))); (· assumption); rfl) | (apply pv_ld_own1; rfl; (· (repeat (first | apply sel_there))); (· assumption)) | (apply pv_ld_rof; rfl; (· (first | assumption )); (· assumption); rfl) | (apply pv_ld_ro1; rfl; (· (first | assumption )); (· assumption)) ) | (apply g_conv; first | (apply a_conv; rfl; infer_instance; infer_instance; infer_instance; omega) ) | (apply g_idx; first | (apply pv_idx; rfl; rfl; omega) ) )) | apply wo_nil | apply wc_seq | apply wc_region | apply wc_block | apply wc_skip | (apply wc_true; rfl) | (apply wc_false; rfl) | (apply a_dec_t; rfl; (· first | assumption | omega)) | (apply wo_bsl; (· (repeat (first | apply Rws'.nil | (apply Rws'.one; rfl; rfl; rfl) ))); rfl; rfl; rfl; rfl; intro bx) ))
    (refine wo_call (hN _ _) rfl (by (repeat (first | apply sub_nil | (apply sub_cons; (· (repeat (first | apply sel_here | apply sel_there)))))); done) (by first | exact fun _ h => h | (intro r hr; cases hr; done) | (simp; done) | exact fun _ h => List.mem_append_left _ h | (intro r hr; simp [hr]; done)) rfl ?_; rintro v L' R' ⟨p', ao', c', rfl, rfl, rfl, hw'⟩ H' hH RR hR; simp only [List.cons_append, List.nil_append] at hH hR; subst hH; have hR := hR.symm; subst hR)
    (repeat (first | ((first | (apply wo_v; rfl) ); (· first | (apply pv_ev; rfl) | (apply g_bin; first | (apply a_add; rfl; rfl; infer_instance; omega) ) )) | apply wo_nil | apply wc_region ))
    exact loop_end ⟨j + 1, p', ao', c', rfl, rfl, by omega, hw'⟩ (by omega) (wk_mk (by (repeat (first | apply wkf_nil | (apply wkf_cons; rfl))); done) (by (repeat (first | apply sub_nil )); done) (by first | exact fun _ h => h | (intro r hr; cases hr; done) | (simp; done) | exact fun _ h => List.mem_append_left _ h | (intro r hr; simp [hr]; done)))
  · obtain rfl : j = xs.length := by omega
    rw [List.take_length] at hw ⊢
    (repeat (first | ((first | (apply wo_v; rfl) ); (· first | (apply pv_ev; rfl) )) | apply wo_nil | apply wc_seq | apply wc_region | (apply wc_exit; rfl) | apply wc_ret | (apply wc_true; rfl) | (apply wc_false; rfl) | (apply a_dec_t; rfl; (· first | assumption | omega)) | (apply a_dec_f; rfl; (· first | assumption | omega)) ))
    exact retv rfl (by (repeat (first | apply RV.nil | (apply RV.tmp; rfl) )); done) ⟨p, ao, c, rfl, rfl, rfl, hw⟩ (by (repeat (first | apply sub_nil )); done) (by first | exact fun _ h => h | (intro r hr; cases hr; done) | (simp; done) | exact fun _ h => List.mem_append_left _ h | (intro r hr; simp [hr]; done))
theorem numS1 {x : Int} (h : 0 ≤ x ∧ x ≤ 255) : numS 1 x = b1 x := by
  show E0 ++ b1 (x % 256) = b1 x
  rw [E0_append, Int.emod_eq_of_lt h.1 (by omega)]
theorem brows_two {x y : Int} (hx : 0 ≤ x ∧ x ≤ 255) (hy : 0 ≤ y ∧ y ≤ 255) : brows (b1 x ++ b1 y) = [[.int .u8 x], [.int .u8 y]] := by
  have e1 := b1_rows hx
  have e2 := b1_rows hy
  have : brows (b1 x ++ b1 y) = brows (b1 x) ++ brows (b1 y) := by simp [brows]
  rw [this, e1, e2]; rfl
theorem csT_take (cs : List Int) : ∀ i, i ≤ cs.length → csT cs i = numsS 4 (cs.take i)
  | 0, _ => rfl
  | i + 1, h => by
    have he := List.getElem?_eq_getElem (show i < cs.length by omega)
    rw [csT, he]
    simp only
    rw [numsS_take he, csT_take cs i (by omega)]
def pdB (pd : Int) : Nat → ByteArray
  | 0 => E0
  | i + 1 => pdB pd i ++ b1 (if (i : Int) = pd - 1 then pd else 0)
theorem pdB_size (pd : Int) : ∀ i, (pdB pd i).size = i
  | 0 => rfl
  | i + 1 => by rw [pdB, ByteArray.size_append, pdB_size pd i, b1_size]
theorem pdB_zr (pd : Int) : ∀ i : Nat, (i : Int) ≤ pd - 1 → pdB pd i = zrT i
  | 0, _ => rfl
  | i + 1, h => by
    rw [pdB, pdB_zr pd i (by omega), if_neg (by omega), zrT]; rfl
theorem pdB_end (pd : Int) (h0 : 0 ≤ pd ∧ pd ≤ 255) : pdB pd pd.toNat = (if 0 < pd then zrT (pd.toNat - 1) ++ numS 1 pd else E0) := by
  by_cases h : 0 < pd
  · rw [if_pos h]
    obtain ⟨i, hi⟩ : ∃ i, pd.toNat = i + 1 := ⟨pd.toNat - 1, by omega⟩
    rw [hi, pdB, pdB_zr pd i (by omega), if_pos (by omega), numS1 h0]; rfl
  · rw [if_neg h, show pd.toNat = 0 by omega]; rfl
abbrev wrQ1 (g : Nat) (t : ByteArray) (v : Value) (Ms : List (List It)) : Prop := ∃ (p ao : Option Addr) (c : Nat), v = .pointer (some ⟨g, 0, none⟩) ∧ Ms = [wrH g p ao c t] ∧ WOk g p ao c t
abbrev wrQ0 (g : Nat) (t : ByteArray) (v : Value) (Ms : List (List It)) : Prop := ∃ (p ao : Option Addr) (c : Nat), v = .pointer (some ⟨g, 0, none⟩) ∧ Ms = [wrH g p ao c t, []] ∧ WOk g p ao c t
abbrev newS (T : TypeId) (xs : List (List Value)) (v : Value) (Ms : List (List It)) : Prop := ∃ b, v = .slice (some ⟨b, 0, none⟩) xs.length xs.length ∧ Ms = [[.own T 1 (some ⟨b, 0, none⟩) xs.length xs.length xs]]
def tblA (g : Nat) (T1 : ByteArray) (A B x1 x2 x3 : Int) : Nat → List (List It) → Value → List (List It) → Prop := fun k Ls v Ms => match k with
  | 3 => v = .int .u8 x1 ∧ Ms = [[]]
  | 7 => v = .int .u8 x2 ∧ Ms = [[]]
  | 16 => v = .int .u8 x3 ∧ Ms = [[]]
  | 20 => newS 5 [[.int .u8 A], [.int .u8 B]] v Ms
  | _ => wrQ0 g T1 v Ms
def tblB (g : Nat) (sq t ss : Int) (T2 T3 T4 : ByteArray) : Nat → List (List It) → Value → List (List It) → Prop := fun k Ls v Ms => match k with
  | 2 => newS 24 [[.int .u16 sq]] v Ms
  | 3 => wrQ0 g T2 v Ms
  | 8 => newS 30 [[.int .u32 t], [.int .u32 ss]] v Ms
  | 9 => wrQ0 g T3 v Ms
  | _ => wrQ1 g T4 v Ms
def tblC5 (g : Nat) (pf ln : Int) (dt : ByteArray) (T5 T6 : ByteArray) : Nat → List (List It) → Value → List (List It) → Prop := fun k Ls v Ms => match k with
  | 7 => newS 24 [[.int .u16 pf], [.int .u16 ln]] v Ms
  | 8 => wrQ0 g T5 v Ms
  | 11 => newS 9 [[.string dt]] v Ms
  | _ => wrQ0 g T6 v Ms
set_option maxHeartbeats 64000000 in
theorem gText (mrk : Bool) (kd sq t ss : Int) (cs : List Int) (ex : Bool) (pf : Int) (dt pl : ByteArray) (pd : Int) (ao : Option Addr) (n c : Nat) (R : List Ro) (hS : SQ R 1 ao n c (crs cs)) (hn : cs.length ≤ 15) (hdt : dt.size ≤ 100000) (hpl : pl.size ≤ 100000) (hpd : 0 ≤ pd ∧ pd ≤ 255)
    (h1 : 0 ≤ kd ∧ kd ≤ 127) (h2 : 0 ≤ sq ∧ sq ≤ 65535) (h3 : 0 ≤ t ∧ t ≤ 4294967295) (h4 : 0 ≤ ss ∧ ss ≤ 4294967295) (h5 : 0 ≤ pf ∧ pf ≤ 65535) (h6 : ∀ z ∈ cs, 0 ≤ z ∧ z ≤ 4294967295) :
    Fn Try.prog 16 #[.agg (rpR mrk kd sq t ss (.slice ao n c) ex pf dt pl pd).toArray] [] R (fun v L' R' => v = .string (txR mrk kd sq t ss cs ex pf dt pl pd) ∧ L' = [] ∧ R' = []) := by
  have hnn : n = cs.length := by rw [← hS.len]; simp
  subst hnn
  obtain ⟨x1, hx1⟩ : ∃ x, bi (decide (0 < pd)) 32 = x := ⟨_, rfl⟩
  obtain ⟨x2, hx2⟩ : ∃ x, bi ex 16 = x := ⟨_, rfl⟩
  obtain ⟨x3, hx3⟩ : ∃ x, bi mrk 128 = x := ⟨_, rfl⟩
  have o1 := bi_or (decide (0 < pd)) 32
  have o2 := bi_or ex 16
  have o3 := bi_or mrk 128
  rw [hx1] at o1
  rw [hx2] at o2
  rw [hx3] at o3
  have q1 := gFlag (decide (0 < pd)) 32 x1 hx1
  have q2 := gFlag ex 16 x2 hx2
  have q3 := gFlag mrk 128 x3 hx3
  have hA : 0 ≤ 128 + x1 + x2 + cs.length ∧ 128 + x1 + x2 + cs.length ≤ 255 := by omega
  have hB : 0 ≤ x3 + kd ∧ x3 + kd ≤ 255 := by omega
  unfold txR hdT
  rw [hx1, hx2, hx3, numS1 hA, numS1 hB, csT_take cs cs.length (Nat.le_refl _), List.take_length, ← pdB_end pd hpd]
  obtain ⟨A, hAe⟩ : ∃ A, 128 + x1 + x2 + (cs.length : Int) = A := ⟨_, rfl⟩
  obtain ⟨B, hBe⟩ : ∃ B, x3 + kd = B := ⟨_, rfl⟩
  rw [hAe] at hA ⊢
  rw [hBe] at hB ⊢
  have hW1 := fun g bl => wU8 g 0 bl 2 none none E0 (b1 A ++ b1 B) ⟨.inl rfl, .inl ⟨rfl, rfl, rfl⟩⟩ (by rw [ByteArray.size_append, b1_size]; omega) (by rw [ByteArray.size_append, b1_size, b1_size]; decide)
  simp only [E0_append] at hW1
  rw [show byO = fun bl c z => It.own 5 1 (some ⟨bl, 0, none⟩) z.size c (brows z) from rfl] at hW1
  have zAB : (b1 A ++ b1 B).size = 2 := by rw [ByteArray.size_append, b1_size, b1_size]
  simp only [brows_two hA hB, zAB] at hW1
  refine fn_intro Try.func16 rfl Try.ntmps16 rfl (fun E => ?_)
  (repeat (first | ((first | (apply wo_v; rfl) ); (· first | (apply pv_ev; rfl) )) | apply wo_nil | apply wc_seq | apply wc_region | (apply wo_box1; rfl; rfl; rfl; intro bx) | (apply wo_boxa; rfl; rfl; intro bx) | (apply wo_alloc; rfl; intro bx) ))
  obtain ⟨g, hg⟩ : ∃ g, g = bx := ⟨_, rfl⟩
  subst hg
  obtain ⟨bp, hbp⟩ : ∃ b, b = bx := ⟨_, rfl⟩
  subst hbp
  refine wc_own0 5 1 ?_
  have hW1 := hW1 g
  generalize hT1 : b1 A ++ b1 B = T1 at hW1 zAB ⊢
  refine wc_join0 (fun st' => ∃ (p' ao' : Option Addr) (c' : Nat), st' = ⟨[(1, .pointer (some ⟨bp, 0, none⟩)), (3, .pointer (some ⟨g, 0, none⟩))], wrH g p' ao' c' T1 ++ [rpI bp mrk kd sq t ss (.slice ao cs.length c) ex pf dt pl pd], R⟩ ∧ WOk g p' ao' c' T1) ?_ ?_
  · (refine wc_regM [0, 1, 2, 3, 4] (aslL [(3, [2]), (7, [3]), (16, [4]), (20, [1]), (21, [0, 1])]) (tblA g T1 A B x1 x2 x3) ([rpI bp mrk kd sq t ss (.slice ao cs.length c) ex pf dt pl pd]) (fm [(0, wrH g none none 0 E0), (1, []), (2, []), (3, []), (4, [])]) mixed (by kernel_rfl) (by kernel_rfl) (by decide) (aslL_ok (by decide)) (by (repeat (first | (apply prm_cons; (· (repeat (first | apply sel_here | apply sel_there)))) | apply List.Perm.nil )); done) ?_; (repeat (first | (apply HdM.val; rfl; rfl; (· first | apply gok_none ); (· first | (apply pv_ev; rfl) | (apply pv_fld; rfl) | (apply g_load; first | (apply pv_ld; rfl; (· (repeat (first | apply sel_here ))); rfl) ) )) )))
    (refine hm_eff (cs := [2]) rfl (by decide) rfl rfl (by first | exact gok_none | exact gok_run rfl rfl) (fun a ha => outc_mono (outc_call (F1 := _) (T := fun v M => v = .int .u8 x1 ∧ M = []) (q1) rfl (by (repeat (first | apply sub_nil )); done) (by first | exact fun _ h => h | (intro r hr; cases hr; done) | (simp; done) | exact fun _ h => List.mem_append_left _ h | (intro r hr; simp [hr]; done)) (by rintro v L' R' ⟨rfl, rfl, _⟩; exact ⟨_, ⟨rfl, rfl⟩, (by (repeat (first | (apply prm_cons; (· (repeat (first | apply sel_here )))) | apply List.Perm.nil )); done)⟩) a ha) (fun v M h => ⟨[[]], And.intro h.1 rfl, rfl, h.2⟩)) ⟨_, _, And.intro rfl rfl, rfl⟩ ?_; rintro v Ms ⟨rfl, rfl⟩ _; simp only [setls, setl, reduceIte, Nat.reduceEqDiff]; (repeat (first | (apply HdM.val; rfl; rfl; (· first | apply gok_none ); (· first | (apply pv_ev; rfl) | (apply pv_fld; rfl) | (apply g_load; first | (apply pv_ld; rfl; (· (repeat (first | apply sel_here ))); rfl) ) | (apply g_bin; first | (apply (a_or 4); rfl; rfl; infer_instance; rfl; omega) | (apply (a_or 5); rfl; rfl; infer_instance; rfl; omega) | (apply (a_or 6); rfl; rfl; infer_instance; rfl; omega) ) )) )))
    (refine hm_eff (cs := [3]) rfl (by decide) rfl rfl (by first | exact gok_none | exact gok_run rfl rfl) (fun a ha => outc_mono (outc_call (F1 := _) (T := fun v M => v = .int .u8 x2 ∧ M = []) (q2) rfl (by (repeat (first | apply sub_nil )); done) (by first | exact fun _ h => h | (intro r hr; cases hr; done) | (simp; done) | exact fun _ h => List.mem_append_left _ h | (intro r hr; simp [hr]; done)) (by rintro v L' R' ⟨rfl, rfl, _⟩; exact ⟨_, ⟨rfl, rfl⟩, (by (repeat (first | (apply prm_cons; (· (repeat (first | apply sel_here )))) | apply List.Perm.nil )); done)⟩) a ha) (fun v M h => ⟨[[]], And.intro h.1 rfl, rfl, h.2⟩)) ⟨_, _, And.intro rfl rfl, rfl⟩ ?_; rintro v Ms ⟨rfl, rfl⟩ _; simp only [setls, setl, reduceIte, Nat.reduceEqDiff]; (repeat (first | (apply HdM.val; rfl; rfl; (· first | apply gok_none ); (· first | (apply pv_ev; rfl) | (apply pv_fld; rfl) | (apply g_load; first | (apply pv_ld; rfl; (· (repeat (first | apply sel_here ))); rfl) ) | (apply g_bin; first | (apply (a_or 4); rfl; rfl; infer_instance; rfl; omega) | (apply (a_or 5); rfl; rfl; infer_instance; rfl; omega) ) | (apply g_bi; first | (apply pv_len_sl; rfl) ) | (apply g_conv; first | (apply a_conv; rfl; infer_instance; infer_instance; infer_instance; omega) ) )) )))
    (refine hm_eff (cs := [4]) rfl (by decide) rfl rfl (by first | exact gok_none | exact gok_run rfl rfl) (fun a ha => outc_mono (outc_call (F1 := _) (T := fun v M => v = .int .u8 x3 ∧ M = []) (q3) rfl (by (repeat (first | apply sub_nil )); done) (by first | exact fun _ h => h | (intro r hr; cases hr; done) | (simp; done) | exact fun _ h => List.mem_append_left _ h | (intro r hr; simp [hr]; done)) (by rintro v L' R' ⟨rfl, rfl, _⟩; exact ⟨_, ⟨rfl, rfl⟩, (by (repeat (first | (apply prm_cons; (· (repeat (first | apply sel_here )))) | apply List.Perm.nil )); done)⟩) a ha) (fun v M h => ⟨[[]], And.intro h.1 rfl, rfl, h.2⟩)) ⟨_, _, And.intro rfl rfl, rfl⟩ ?_; rintro v Ms ⟨rfl, rfl⟩ _; simp only [setls, setl, reduceIte, Nat.reduceEqDiff]; (repeat (first | (apply HdM.val; rfl; rfl; (· first | apply gok_none ); (· first | (apply pv_ev; rfl) | (apply pv_fld; rfl) | (apply g_load; first | (apply pv_ld; rfl; (· (repeat (first | apply sel_here ))); rfl) ) | (apply g_bin; first | (apply (a_or 4); rfl; rfl; infer_instance; rfl; omega) | (apply (a_or 5); rfl; rfl; infer_instance; rfl; omega) | (apply (a_or 6); rfl; rfl; infer_instance; rfl; omega) | (apply (a_or 7); rfl; rfl; infer_instance; rfl; omega) ) )) )))
    (refine hm_eff (cs := [1]) rfl (by decide) rfl rfl (by first | exact gok_none | exact gok_run rfl rfl) (fun a ha => outc_mono (outc_bsl (by (repeat (first | apply Rws'.nil | (apply Rws'.one; rfl; rfl; rfl) )); done) rfl rfl rfl a ha) (fun v M h => by obtain ⟨b, h1, h2⟩ := h; rw [hAe, hBe] at h2; exact ⟨[M], ⟨b, h1, congrArg (fun x => [x]) h2⟩, rfl, by simp⟩)) (⟨_, _, Exists.intro 0 (And.intro rfl rfl), rfl⟩) ?_; rintro v Ms ⟨b20, rfl, rfl⟩ _; simp only [setls, setl, reduceIte, Nat.reduceEqDiff]; (repeat (first | (apply HdM.val; rfl; rfl; (· first | fail ); (· first | fail )) )))
    (refine hm_eff (cs := [0, 1]) rfl (by decide) rfl rfl (by first | exact gok_none | exact gok_run rfl rfl) (fun a ha => outc_mono (outc_call (F1 := _) (T := fun v M => ∃ (p ao : Option Addr) (c : Nat), v = .pointer (some ⟨g, 0, none⟩) ∧ M = wrH g p ao c T1 ∧ WOk g p ao c T1) (hW1 b20) rfl (by (repeat (first | apply sub_nil )); done) (by first | exact fun _ h => h | (intro r hr; cases hr; done) | (simp; done) | exact fun _ h => List.mem_append_left _ h | (intro r hr; simp [hr]; done)) (by rintro v L' R' ⟨p', ao', c', rfl, rfl, _, hw'⟩; exact ⟨_, ⟨p', ao', c', rfl, rfl, hw'⟩, (by (repeat (first | (apply prm_cons; (· (repeat (first | apply sel_here )))) | apply List.Perm.nil )); done)⟩) a ha) (fun v M h => Exists.elim h fun p h => Exists.elim h fun ao h => Exists.elim h fun c h => ⟨[M, []], Exists.intro p (Exists.intro ao (Exists.intro c (And.intro h.1 (And.intro (congrArg (fun x => [x, []]) h.2.1) h.2.2)))), rfl, by simp⟩)) ((by obtain ⟨p, ao, c, h⟩ := WOk.ex g T1; exact ⟨_, _, Exists.intro p (Exists.intro ao (Exists.intro c (And.intro rfl (And.intro rfl h)))), rfl⟩)) ?_; rintro v Ms ⟨p1, ao1, c1, rfl, rfl, hw1⟩ _; simp only [setls, setl, reduceIte, Nat.reduceEqDiff]; (repeat (first | fail )))
    (refine HdM.nil ?_; intro H hH; simp only [Hp, fm, look, setl, List.flatMap_cons, List.flatMap_nil, reduceIte, Nat.reduceEqDiff, Option.getD_some, List.append_nil, List.cons_append, List.nil_append] at hH; subst hH)
    exact cut_end ⟨p1, ao1, c1, rfl, hw1⟩ (wk_mk (by (repeat (first | apply wkf_nil | (apply wkf_cons; rfl))); done) (by (repeat (first | apply sub_nil | (apply sub_cons; (· (repeat (first | apply sel_here | apply sel_there)))))); done) (by first | exact fun _ h => h | (intro r hr; cases hr; done) | (simp; done) | exact fun _ h => List.mem_append_left _ h | (intro r hr; simp [hr]; done)))
  rintro st' ⟨p1, ao1, c1, rfl, hw1⟩
  clear hW1 q1 q2 q3 hx1 hx2 hx3
  obtain ⟨T2, hT2⟩ : ∃ T2, T1 ++ numsS 2 [sq] = T2 := ⟨_, rfl⟩
  obtain ⟨T3, hT3⟩ : ∃ T3, T2 ++ numsS 4 [t, ss] = T3 := ⟨_, rfl⟩
  obtain ⟨T4, hT4⟩ : ∃ T4, T3 ++ numsS 4 cs = T4 := ⟨_, rfl⟩
  have z2 : T2.size = 4 := by rw [← hT2, ByteArray.size_append, numsS_size, zAB]; rfl
  have z3 : T3.size = 12 := by rw [← hT3, ByteArray.size_append, numsS_size, z2]; rfl
  have z4 : T4.size = 12 + 4 * cs.length := by rw [← hT4, ByteArray.size_append, numsS_size, z3]
  have hW2 := fun bl => wU16 g c1 bl 1 p1 ao1 T1 [sq] (by intro y hy; rcases List.mem_singleton.1 hy with rfl; exact h2) (by simp) hw1 (by omega)
  rw [hT2] at hW2
  have hW3 := fun c2 p2 ao2 hw2 bl => wU32 g c2 bl 2 p2 ao2 T2 [t, ss] (by intro y hy; simp only [List.mem_cons, List.not_mem_nil, or_false] at hy; rcases hy with rfl | rfl; exact h3; exact h4) (by simp) hw2 (by omega)
  rw [hT3] at hW3
  have hW4 := fun c2 p2 ao2 hw2 => wU32R g c2 p2 ao2 T3 cs ao cs.length c R hS h6 (by omega) hw2 (by omega)
  rw [hT4] at hW4
  (repeat (first | apply wc_seq ))
  refine wc_join0 (fun st' => ∃ (p' ao' : Option Addr) (c' : Nat), st' = ⟨[(1, .pointer (some ⟨bp, 0, none⟩)), (3, .pointer (some ⟨g, 0, none⟩))], wrH g p' ao' c' T4 ++ [rpI bp mrk kd sq t ss (.slice ao cs.length c) ex pf dt pl pd], R⟩ ∧ WOk g p' ao' c' T4) ?_ ?_
  · (refine wc_regM [0, 1, 2] (aslL [(2, [1]), (3, [0, 1]), (8, [2]), (9, [0, 2]), (12, [0])]) (tblB g sq t ss T2 T3 T4) ([rpI bp mrk kd sq t ss (.slice ao cs.length c) ex pf dt pl pd]) (fm [(0, wrH g p1 ao1 c1 T1), (1, []), (2, [])]) mixed (by kernel_rfl) (by kernel_rfl) (by decide) (aslL_ok (by decide)) (by (repeat (first | (apply prm_cons; (· (repeat (first | apply sel_here | apply sel_there)))) | apply List.Perm.nil )); done) ?_; (repeat (first | (apply HdM.val; rfl; rfl; (· first | apply gok_none ); (· first | (apply pv_ev; rfl) | (apply pv_fld; rfl) | (apply g_load; first | (apply pv_ld; rfl; (· (repeat (first | apply sel_here ))); rfl) ) )) )))
    (refine hm_eff (cs := [1]) rfl (by decide) rfl rfl (by first | exact gok_none | exact gok_run rfl rfl) (fun a ha => outc_mono (outc_bsl (by (repeat (first | apply Rws'.nil | (apply Rws'.one; rfl; rfl; rfl) )); done) rfl rfl rfl a ha) (fun v M h => by obtain ⟨b, h1, h2⟩ := h; exact ⟨[M], ⟨b, h1, congrArg (fun x => [x]) h2⟩, rfl, by simp⟩)) (⟨_, _, Exists.intro 0 (And.intro rfl rfl), rfl⟩) ?_; rintro v Ms ⟨b29, rfl, rfl⟩ _; simp only [setls, setl, reduceIte, Nat.reduceEqDiff]; (repeat (first | (apply HdM.val; rfl; rfl; (· first | fail ); (· first | fail )) )))
    (refine hm_eff (cs := [0, 1]) rfl (by decide) rfl rfl (by first | exact gok_none | exact gok_run rfl rfl) (fun a ha => outc_mono (outc_call (F1 := _) (T := fun v M => ∃ (p ao : Option Addr) (c : Nat), v = .pointer (some ⟨g, 0, none⟩) ∧ M = wrH g p ao c T2 ∧ WOk g p ao c T2) (hW2 b29) rfl (by (repeat (first | apply sub_nil )); done) (by first | exact fun _ h => h | (intro r hr; cases hr; done) | (simp; done) | exact fun _ h => List.mem_append_left _ h | (intro r hr; simp [hr]; done)) (by rintro v L' R' ⟨p', ao', c', rfl, rfl, _, hw'⟩; exact ⟨_, ⟨p', ao', c', rfl, rfl, hw'⟩, (by (repeat (first | (apply prm_cons; (· (repeat (first | apply sel_here )))) | apply List.Perm.nil )); done)⟩) a ha) (fun v M h => Exists.elim h fun p h => Exists.elim h fun ao h => Exists.elim h fun c h => ⟨[M, []], Exists.intro p (Exists.intro ao (Exists.intro c (And.intro h.1 (And.intro (congrArg (fun x => [x, []]) h.2.1) h.2.2)))), rfl, by simp⟩)) ((by obtain ⟨p, ao, c, h⟩ := WOk.ex g T2; exact ⟨_, _, Exists.intro p (Exists.intro ao (Exists.intro c (And.intro rfl (And.intro rfl h)))), rfl⟩)) ?_; rintro v Ms ⟨p2, ao2, c2, rfl, rfl, hw2⟩ _; simp only [setls, setl, reduceIte, Nat.reduceEqDiff]; (repeat (first | (apply HdM.val; rfl; rfl; (· first | apply gok_none ); (· first | (apply pv_ev; rfl) | (apply pv_fld; rfl) | (apply g_load; first | (apply pv_ld; rfl; (· (repeat (first | apply sel_here ))); rfl) ) )) )))
    (refine hm_eff (cs := [2]) rfl (by decide) rfl rfl (by first | exact gok_none | exact gok_run rfl rfl) (fun a ha => outc_mono (outc_bsl (by (repeat (first | apply Rws'.nil | (apply Rws'.one; rfl; rfl; rfl) )); done) rfl rfl rfl a ha) (fun v M h => by obtain ⟨b, h1, h2⟩ := h; exact ⟨[M], ⟨b, h1, congrArg (fun x => [x]) h2⟩, rfl, by simp⟩)) (⟨_, _, Exists.intro 0 (And.intro rfl rfl), rfl⟩) ?_; rintro v Ms ⟨b35, rfl, rfl⟩ _; simp only [setls, setl, reduceIte, Nat.reduceEqDiff]; (repeat (first | (apply HdM.val; rfl; rfl; (· first | fail ); (· first | fail )) )))
    (refine hm_eff (cs := [0, 2]) rfl (by decide) rfl rfl (by first | exact gok_none | exact gok_run rfl rfl) (fun a ha => outc_mono (outc_call (F1 := _) (T := fun v M => ∃ (p ao : Option Addr) (c : Nat), v = .pointer (some ⟨g, 0, none⟩) ∧ M = wrH g p ao c T3 ∧ WOk g p ao c T3) (hW3 c2 p2 ao2 hw2 b35) rfl (by (repeat (first | apply sub_nil )); done) (by first | exact fun _ h => h | (intro r hr; cases hr; done) | (simp; done) | exact fun _ h => List.mem_append_left _ h | (intro r hr; simp [hr]; done)) (by rintro v L' R' ⟨p', ao', c', rfl, rfl, _, hw'⟩; exact ⟨_, ⟨p', ao', c', rfl, rfl, hw'⟩, (by (repeat (first | (apply prm_cons; (· (repeat (first | apply sel_here )))) | apply List.Perm.nil )); done)⟩) a ha) (fun v M h => Exists.elim h fun p h => Exists.elim h fun ao h => Exists.elim h fun c h => ⟨[M, []], Exists.intro p (Exists.intro ao (Exists.intro c (And.intro h.1 (And.intro (congrArg (fun x => [x, []]) h.2.1) h.2.2)))), rfl, by simp⟩)) ((by obtain ⟨p, ao, c, h⟩ := WOk.ex g T3; exact ⟨_, _, Exists.intro p (Exists.intro ao (Exists.intro c (And.intro rfl (And.intro rfl h)))), rfl⟩)) ?_; rintro v Ms ⟨p3, ao3, c3, rfl, rfl, hw3⟩ _; simp only [setls, setl, reduceIte, Nat.reduceEqDiff]; (repeat (first | (apply HdM.val; rfl; rfl; (· first | apply gok_none ); (· first | (apply pv_ev; rfl) | (apply pv_fld; rfl) | (apply g_load; first | (apply pv_ld; rfl; (· (repeat (first | apply sel_here ))); rfl) ) )) )))
    (refine hm_eff (cs := [0]) rfl (by decide) rfl rfl (by first | exact gok_none | exact gok_run rfl rfl) (fun a ha => outc_mono (outc_call (F1 := _) (T := fun v M => ∃ (p ao : Option Addr) (c : Nat), v = .pointer (some ⟨g, 0, none⟩) ∧ M = wrH g p ao c T4 ∧ WOk g p ao c T4) (hW4 c3 p3 ao3 hw3) rfl (by (repeat (first | apply sub_nil )); done) (by first | exact fun _ h => h | (intro r hr; cases hr; done) | (simp; done) | exact fun _ h => List.mem_append_left _ h | (intro r hr; simp [hr]; done)) (by rintro v L' R' ⟨p', ao', c', rfl, rfl, _, hw'⟩; exact ⟨_, ⟨p', ao', c', rfl, rfl, hw'⟩, (by (repeat (first | (apply prm_cons; (· (repeat (first | apply sel_here )))) | apply List.Perm.nil )); done)⟩) a ha) (fun v M h => by obtain ⟨p, ao, c, h1, h2, h3⟩ := h; exact ⟨[M], ⟨p, ao, c, h1, congrArg (fun x => [x]) h2, h3⟩, rfl, by simp⟩)) ((by obtain ⟨p, ao, c, h⟩ := WOk.ex g T4; exact ⟨_, _, Exists.intro p (Exists.intro ao (Exists.intro c (And.intro rfl (And.intro rfl h)))), rfl⟩)) ?_; rintro v Ms ⟨p4, ao4, c4, rfl, rfl, hw4⟩ _; simp only [setls, setl, reduceIte, Nat.reduceEqDiff]; (repeat (first | fail )))
    (refine HdM.nil ?_; intro H hH; simp only [Hp, fm, look, setl, List.flatMap_cons, List.flatMap_nil, reduceIte, Nat.reduceEqDiff, Option.getD_some, List.append_nil, List.cons_append, List.nil_append] at hH; subst hH)
    exact cut_end ⟨p4, ao4, c4, rfl, hw4⟩ (wk_mk (by (repeat (first | apply wkf_nil | (apply wkf_cons; rfl))); done) (by (repeat (first | apply sub_nil | (apply sub_cons; (· (repeat (first | apply sel_here | apply sel_there)))))); done) (by first | exact fun _ h => h | (intro r hr; cases hr; done) | (simp; done) | exact fun _ h => List.mem_append_left _ h | (intro r hr; simp [hr]; done)))
  rintro st' ⟨p4, ao4, c4, rfl, hw4⟩
  clear hW2 hW3 hW4 hw1
  obtain ⟨T5, hT5⟩ : ∃ T5, T4 ++ (if ex = true then numS 2 pf ++ numS 2 (dt.size / 4 : Nat) ++ dt else E0) = T5 := ⟨_, rfl⟩
  have z5 : T5.size ≤ 200000 := by
    have e0 : E0.size = 0 := rfl
    rw [← hT5]
    cases ex
    · simp only [ByteArray.size_append, z4, Bool.false_eq_true, if_false, e0]; omega
    · simp only [ByteArray.size_append, z4, if_true, numS_size]; omega
  (repeat (first | ((first | (apply wo_v; rfl) ); (· first | (apply pv_ev; rfl) | (apply pv_fld; rfl) | (apply g_load; first | (apply pv_ld; rfl; (· (repeat (first | apply sel_here | apply sel_there))); rfl) ) )) | apply wo_nil | apply wc_seq | apply wc_region | (apply wc_true; rfl) | (apply wc_false; rfl) | (apply a_dec_t; rfl; (· first | assumption | omega)) | (apply a_dec_f; rfl; (· first | assumption | omega)) | (apply a_dec_t; rfl; (· first | (simp; done) | (simp; omega))) | (apply a_dec_f; rfl; (· first | (simp; done) | (simp; omega))) ))
  refine wc_join0 (fun st' => ∃ (p' ao' : Option Addr) (c' : Nat), st' = ⟨[(1, .pointer (some ⟨bp, 0, none⟩)), (3, .pointer (some ⟨g, 0, none⟩))], wrH g p' ao' c' T5 ++ [rpI bp mrk kd sq t ss (.slice ao cs.length c) ex pf dt pl pd], R⟩ ∧ WOk g p' ao' c' T5) ?_ ?_
  · cases ex with
    | false =>
      rw [if_neg (by simp), append_E0] at hT5
      subst hT5
      (repeat (first | apply wc_skip | (apply wc_true; rfl) | (apply wc_false; rfl) ))
      exact cut_end ⟨p4, ao4, c4, rfl, hw4⟩ (wk_mk (by (repeat (first | apply wkf_nil | (apply wkf_cons; rfl))); done) (by (repeat (first | apply sub_nil )); done) (by first | exact fun _ h => h | (intro r hr; cases hr; done) | (simp; done) | exact fun _ h => List.mem_append_left _ h | (intro r hr; simp [hr]; done)))
    | true =>
      rw [if_pos rfl] at hT5
      have hq : ((dt.size / 4 : Nat) : Int) = (dt.size : Int) / 4 := by omega
      obtain ⟨T6, hT6⟩ : ∃ T6, T4 ++ numsS 2 [pf, (dt.size : Int) / 4] = T6 := ⟨_, rfl⟩
      have z6 : T6.size = T4.size + 4 := by rw [← hT6, ByteArray.size_append, numsS_size]; rfl
      have hT7 : T6 ++ catS [dt] = T5 := by
        rw [← hT5, ← hT6, hq]
        show T4 ++ (numS 2 pf ++ (numS 2 ((dt.size : Int) / 4) ++ E0)) ++ (dt ++ E0) = _
        simp only [append_E0, ByteArray.append_assoc]
      have hW5 := fun bl => wU16 g c4 bl 2 p4 ao4 T4 [pf, (dt.size : Int) / 4] (by intro y hy; simp only [List.mem_cons, List.not_mem_nil, or_false] at hy; rcases hy with rfl | rfl; exact h5; omega) (by simp) hw4 (by omega)
      rw [hT6] at hW5
      have hW6 := fun c2 p2 ao2 hw2 bl => wPut g c2 bl 1 p2 ao2 T6 [dt] (by intro y hy; rcases List.mem_singleton.1 hy with rfl; omega) (by simp) hw2 (by omega)
      rw [hT7] at hW6
      (repeat (first | (apply wc_true; rfl) ))
      (refine wc_regM [0, 1, 2] (aslL [(7, [1]), (8, [0, 1]), (11, [2]), (12, [0, 2])]) (tblC5 g pf ((dt.size : Int) / 4) dt T6 T5) ([rpI bp mrk kd sq t ss (.slice ao cs.length c) true pf dt pl pd]) (fm [(0, wrH g p4 ao4 c4 T4), (1, []), (2, [])]) mixed (by kernel_rfl) (by kernel_rfl) (by decide) (aslL_ok (by decide)) (by (repeat (first | (apply prm_cons; (· (repeat (first | apply sel_here | apply sel_there)))) | apply List.Perm.nil )); done) ?_; (repeat (first | (apply HdM.val; rfl; rfl; (· first | apply gok_none ); (· first | (apply pv_ev; rfl) | (apply pv_fld; rfl) | (apply g_load; first | (apply pv_ld; rfl; (· (repeat (first | apply sel_here ))); rfl) ) | (apply g_bin; first | (apply a_quo; rfl; rfl; infer_instance; omega) ) | (apply g_bi; first | (apply pv_len_str; rfl) ) | (apply g_conv; first | (apply a_conv; rfl; infer_instance; infer_instance; infer_instance; omega) ) )) )))
      (refine hm_eff (cs := [1]) rfl (by decide) rfl rfl (by first | exact gok_none | exact gok_run rfl rfl) (fun a ha => outc_mono (outc_bsl (by (repeat (first | apply Rws'.nil | (apply Rws'.one; rfl; rfl; rfl) )); done) rfl rfl rfl a ha) (fun v M h => by obtain ⟨b, h1, h2⟩ := h; exact ⟨[M], ⟨b, h1, congrArg (fun x => [x]) h2⟩, rfl, by simp⟩)) (⟨_, _, Exists.intro 0 (And.intro rfl rfl), rfl⟩) ?_; rintro v Ms ⟨b49, rfl, rfl⟩ _; simp only [setls, setl, reduceIte, Nat.reduceEqDiff]; (repeat (first | (apply HdM.val; rfl; rfl; (· first | fail ); (· first | fail )) )))
      (refine hm_eff (cs := [0, 1]) rfl (by decide) rfl rfl (by first | exact gok_none | exact gok_run rfl rfl) (fun a ha => outc_mono (outc_call (F1 := _) (T := fun v M => ∃ (p ao : Option Addr) (c : Nat), v = .pointer (some ⟨g, 0, none⟩) ∧ M = wrH g p ao c T6 ∧ WOk g p ao c T6) (hW5 b49) rfl (by (repeat (first | apply sub_nil )); done) (by first | exact fun _ h => h | (intro r hr; cases hr; done) | (simp; done) | exact fun _ h => List.mem_append_left _ h | (intro r hr; simp [hr]; done)) (by rintro v L' R' ⟨p', ao', c', rfl, rfl, _, hw'⟩; exact ⟨_, ⟨p', ao', c', rfl, rfl, hw'⟩, (by (repeat (first | (apply prm_cons; (· (repeat (first | apply sel_here )))) | apply List.Perm.nil )); done)⟩) a ha) (fun v M h => Exists.elim h fun p h => Exists.elim h fun ao h => Exists.elim h fun c h => ⟨[M, []], Exists.intro p (Exists.intro ao (Exists.intro c (And.intro h.1 (And.intro (congrArg (fun x => [x, []]) h.2.1) h.2.2)))), rfl, by simp⟩)) ((by obtain ⟨p, ao, c, h⟩ := WOk.ex g T6; exact ⟨_, _, Exists.intro p (Exists.intro ao (Exists.intro c (And.intro rfl (And.intro rfl h)))), rfl⟩)) ?_; rintro v Ms ⟨p5, ao5, c5, rfl, rfl, hw5⟩ _; simp only [setls, setl, reduceIte, Nat.reduceEqDiff]; (repeat (first | (apply HdM.val; rfl; rfl; (· first | apply gok_none ); (· first | (apply pv_ev; rfl) | (apply pv_fld; rfl) | (apply g_load; first | (apply pv_ld; rfl; (· (repeat (first | apply sel_here ))); rfl) ) )) )))
      (refine hm_eff (cs := [2]) rfl (by decide) rfl rfl (by first | exact gok_none | exact gok_run rfl rfl) (fun a ha => outc_mono (outc_bsl (by (repeat (first | apply Rws'.nil | (apply Rws'.one; rfl; rfl; rfl) )); done) rfl rfl rfl a ha) (fun v M h => by obtain ⟨b, h1, h2⟩ := h; exact ⟨[M], ⟨b, h1, congrArg (fun x => [x]) h2⟩, rfl, by simp⟩)) (⟨_, _, Exists.intro 0 (And.intro rfl rfl), rfl⟩) ?_; rintro v Ms ⟨b53, rfl, rfl⟩ _; simp only [setls, setl, reduceIte, Nat.reduceEqDiff]; (repeat (first | (apply HdM.val; rfl; rfl; (· first | fail ); (· first | fail )) )))
      (refine hm_eff (cs := [0, 2]) rfl (by decide) rfl rfl (by first | exact gok_none | exact gok_run rfl rfl) (fun a ha => outc_mono (outc_call (F1 := _) (T := fun v M => ∃ (p ao : Option Addr) (c : Nat), v = .pointer (some ⟨g, 0, none⟩) ∧ M = wrH g p ao c T5 ∧ WOk g p ao c T5) (hW6 c5 p5 ao5 hw5 b53) rfl (by (repeat (first | apply sub_nil )); done) (by first | exact fun _ h => h | (intro r hr; cases hr; done) | (simp; done) | exact fun _ h => List.mem_append_left _ h | (intro r hr; simp [hr]; done)) (by rintro v L' R' ⟨p', ao', c', rfl, rfl, _, hw'⟩; exact ⟨_, ⟨p', ao', c', rfl, rfl, hw'⟩, (by (repeat (first | (apply prm_cons; (· (repeat (first | apply sel_here )))) | apply List.Perm.nil )); done)⟩) a ha) (fun v M h => Exists.elim h fun p h => Exists.elim h fun ao h => Exists.elim h fun c h => ⟨[M, []], Exists.intro p (Exists.intro ao (Exists.intro c (And.intro h.1 (And.intro (congrArg (fun x => [x, []]) h.2.1) h.2.2)))), rfl, by simp⟩)) ((by obtain ⟨p, ao, c, h⟩ := WOk.ex g T5; exact ⟨_, _, Exists.intro p (Exists.intro ao (Exists.intro c (And.intro rfl (And.intro rfl h)))), rfl⟩)) ?_; rintro v Ms ⟨p6, ao6, c6, rfl, rfl, hw6⟩ _; simp only [setls, setl, reduceIte, Nat.reduceEqDiff]; (repeat (first | fail )))
      (refine HdM.nil ?_; intro H hH; simp only [Hp, fm, look, setl, List.flatMap_cons, List.flatMap_nil, reduceIte, Nat.reduceEqDiff, Option.getD_some, List.append_nil, List.cons_append, List.nil_append] at hH; subst hH)
      (repeat (first | fail ))
      exact cut_end ⟨p6, ao6, c6, rfl, hw6⟩ (wk_mk (by (repeat (first | apply wkf_nil | (apply wkf_cons; rfl))); done) (by (repeat (first | apply sub_nil | (apply sub_cons; (· (repeat (first | apply sel_here | apply sel_there)))))); done) (by first | exact fun _ h => h | (intro r hr; cases hr; done) | (simp; done) | exact fun _ h => List.mem_append_left _ h | (intro r hr; simp [hr]; done)))
  rintro st' ⟨p5, ao5, c5, rfl, hw5⟩
  obtain ⟨T6, hT6⟩ : ∃ T6, T5 ++ catS [pl] = T6 := ⟨_, rfl⟩
  have hW6 := fun bl => wPut g c5 bl 1 p5 ao5 T5 [pl] (by intro y hy; rcases List.mem_singleton.1 hy with rfl; omega) (by simp) hw5 (by omega)
  rw [hT6] at hW6
  have z6 : T6.size ≤ 400000 := by
    rw [← hT6, ByteArray.size_append]
    have : (catS [pl]).size = pl.size := congrArg ByteArray.size (append_E0 pl)
    omega
  (repeat (first | ((first | (apply wo_v; rfl) ); (· first | (apply pv_ev; rfl) | (apply pv_fld; rfl) | (apply g_load; first | (apply pv_ld; rfl; (· (repeat (first | apply sel_here | apply sel_there))); rfl) ) )) | apply wc_seq | apply wc_region | (apply wo_bsl; (· (repeat (first | apply Rws'.nil | (apply Rws'.one; rfl; rfl; rfl) ))); rfl; rfl; rfl; rfl; intro bx) ))
  (refine wo_call (hW6 _) rfl (by (repeat (first | apply sub_nil | (apply sub_cons; (· (repeat (first | apply sel_here | apply sel_there)))))); done) (by first | exact fun _ h => h | (intro r hr; cases hr; done) | (simp; done) | exact fun _ h => List.mem_append_left _ h | (intro r hr; simp [hr]; done)) rfl ?_; rintro v L' R' ⟨p6, ao6, c6, rfl, rfl, rfl, hw6⟩ H' hH RR hR; simp only [List.cons_append, List.nil_append] at hH hR; subst hH; have hR := hR.symm; subst hR)
  (repeat (first | ((first | (apply wo_v; rfl) ); (· first | (apply pv_ev; rfl) | (apply pv_fld; rfl) | (apply g_load; first | (apply pv_ld; rfl; (· (repeat (first | apply sel_here | apply sel_there))); rfl) ) )) | apply wo_nil | apply wc_seq | apply wc_region ))
  have hfin : T1 ++ (numS 2 sq ++ numS 4 t ++ numS 4 ss) ++ numsS 4 cs ++ (if ex = true then numS 2 pf ++ numS 2 (dt.size / 4 : Nat) ++ dt else E0) ++ pl = T6 := by
    rw [← hT6, ← hT5, ← hT4, ← hT3, ← hT2]
    show _ = T1 ++ (numS 2 sq ++ E0) ++ (numS 4 t ++ (numS 4 ss ++ E0)) ++ numsS 4 cs ++ _ ++ (pl ++ E0)
    simp only [append_E0, ByteArray.append_assoc]
  rw [hfin]
  refine wc_block ?_
  refine wc_loop' (fun q st => ∃ (i : Nat) (p' ao' : Option Addr) (c' : Nat), q = pd.toNat - i ∧ (i : Int) ≤ pd ∧ st = ⟨[(1, .pointer (some ⟨bp, 0, none⟩)), (3, .pointer (some ⟨g, 0, none⟩)), (60, .int .i64 pd), (61, .int .i64 i)], wrH g p' ao' c' (T6 ++ pdB pd i) ++ [rpI bp mrk kd sq t ss (.slice ao cs.length c) ex pf dt pl pd], R⟩ ∧ WOk g p' ao' c' (T6 ++ pdB pd i)) ⟨0, p6, ao6, c6, rfl, hpd.1, by rw [pdB, append_E0], by rw [pdB, append_E0]; exact hw6⟩ (wk_mk (by (repeat (first | apply wkf_nil | (apply wkf_cons; rfl))); done) (by (repeat (first | apply sub_nil )); done) (by first | exact fun _ h => h | (intro r hr; cases hr; done) | (simp; done) | exact fun _ h => List.mem_append_left _ h | (intro r hr; simp [hr]; done))) ?_
  clear hw6 p6 ao6 c6
  rintro q st ⟨i, p6, ao6, c6, rfl, hi, rfl, hw6⟩
  by_cases hlt : (i : Int) < pd
  · obtain ⟨y, hy⟩ : ∃ y : Int, (if (i : Int) = pd - 1 then pd else 0) = y := ⟨_, rfl⟩
    have hq := gFlag (decide ((i : Int) = pd - 1)) pd y (by rw [← hy]; simp)
    have hyb : 0 ≤ y ∧ y ≤ 255 := by rw [← hy]; split <;> omega
    have hnx : T6 ++ pdB pd (i + 1) = (T6 ++ pdB pd i) ++ b1 y := by rw [pdB, hy, ByteArray.append_assoc]
    have hz8 : (T6 ++ pdB pd i).size ≤ 500000 := by rw [ByteArray.size_append, pdB_size]; omega
    generalize T6 ++ pdB pd i = T7 at hw6 hnx hz8 ⊢
    have hW7 := fun bl => wU8 g c6 bl 1 p6 ao6 T7 (b1 y) hw6 (by rw [b1_size]; omega) (by rw [b1_size]; omega)
    simp only [b1_size] at hW7
    rw [← hnx] at hW7
    (repeat (first | ((first | (apply wo_v; rfl) ); (· first | (apply pv_ev; rfl) )) | apply wo_nil | apply wc_seq | apply wc_region | apply wc_skip | (apply wc_true; rfl) | (apply wc_false; rfl) | (apply a_dec_t; rfl; (· first | assumption | omega)) ))
    refine wc_block ?_
    (repeat (first | ((first | (apply wo_v; rfl) ); (· first | (apply pv_ev; rfl) | (apply pv_fld; rfl) | (apply g_load; first | (apply pv_ld; rfl; (· (repeat (first | apply sel_here | apply sel_there))); rfl) ) | (apply g_bin; first | (apply a_sub; rfl; rfl; infer_instance; omega) ) | (apply g_conv; first | (apply a_conv; rfl; infer_instance; infer_instance; infer_instance; omega) ) )) | apply wo_nil | apply wc_seq | apply wc_region ))
    (refine wo_call (hq) rfl (by (repeat (first | apply sub_nil )); done) (by first | exact fun _ h => h | (intro r hr; cases hr; done) | (simp; done) | exact fun _ h => List.mem_append_left _ h | (intro r hr; simp [hr]; done)) rfl ?_; rintro v L' R' ⟨rfl, rfl, rfl⟩ H' hH RR hR; simp only [List.cons_append, List.nil_append] at hH hR; subst hH; have hR := hR.symm; subst hR)
    (repeat (first | ((first | (apply wo_v; rfl) ); (· first | (apply pv_ev; rfl) )) | (apply wo_bsl; (· (repeat (first | apply Rws'.nil | (apply Rws'.one; rfl; rfl; rfl) ))); rfl; rfl; rfl; rfl; intro bx) ))
    rw [brows_one hyb]
    (refine wo_call (hW7 _) rfl (by (repeat (first | apply sub_nil | (apply sub_cons; (· (repeat (first | apply sel_here | apply sel_there)))))); done) (by first | exact fun _ h => h | (intro r hr; cases hr; done) | (simp; done) | exact fun _ h => List.mem_append_left _ h | (intro r hr; simp [hr]; done)) rfl ?_; rintro v L' R' ⟨p7, ao7, c7, rfl, rfl, rfl, hw7⟩ H' hH RR hR; simp only [List.cons_append, List.nil_append] at hH hR; subst hH; have hR := hR.symm; subst hR)
    (repeat (first | ((first | (apply wo_v; rfl) ); (· first | (apply pv_ev; rfl) | (apply g_bin; first | (apply a_add; rfl; rfl; infer_instance; omega) ) )) | apply wo_nil | apply wc_region ))
    exact loop_end ⟨i + 1, p7, ao7, c7, rfl, by omega, rfl, hw7⟩ (by omega) (wk_mk (by (repeat (first | apply wkf_nil | (apply wkf_cons; rfl))); done) (by (repeat (first | apply sub_nil )); done) (by first | exact fun _ h => h | (intro r hr; cases hr; done) | (simp; done) | exact fun _ h => List.mem_append_left _ h | (intro r hr; simp [hr]; done)))
  · have e : pd.toNat = i := by omega
    rw [e]
    (repeat (first | ((first | (apply wo_v; rfl) ); (· first | (apply pv_ev; rfl) )) | apply wo_nil | apply wc_seq | apply wc_region | (apply wc_exit; rfl) | (apply wc_true; rfl) | (apply wc_false; rfl) | (apply a_dec_t; rfl; (· first | assumption | omega)) | (apply a_dec_f; rfl; (· first | assumption | omega)) ))
    (refine wo_call (wText g c6 p6 ao6 _ hw6) rfl (by (repeat (first | apply sub_nil )); done) (by first | exact fun _ h => h | (intro r hr; cases hr; done) | (simp; done) | exact fun _ h => List.mem_append_left _ h | (intro r hr; simp [hr]; done)) rfl ?_; rintro v L' R' ⟨rfl, rfl, rfl⟩ H' hH RR hR; simp only [List.cons_append, List.nil_append] at hH hR; subst hH; have hR := hR.symm; subst hR)
    (repeat (first | ((first | (apply wo_v; rfl) ); (· first | (apply pv_ev; rfl) )) | apply wo_nil | apply wc_ret ))
    exact ret1 rfl rfl ⟨rfl, rfl, rfl⟩ ((by (repeat (first | apply sub_nil )); done) : List.Perm _ ([] ++ _)) (by first | exact fun _ h => h | (intro r hr; cases hr; done) | (simp; done) | exact fun _ h => List.mem_append_left _ h | (intro r hr; simp [hr]; done))
end Go.Proofs.Ytlhlidmhlhodiaa

/-
  Package rtp: plain laws of a packet's bytes.
-/
namespace Go.Proofs.Ytlhlidmhlhodiaa
set_option linter.unusedSimpArgs false
set_option linter.unusedVariables false
open Go.RowKit
set_option maxRecDepth 100000

theorem ext_all (s : ByteArray) (k : Nat) (h : k ≤ s.size) : s.extract 0 k ++ s.extract k s.size = s := by
  apply ByteArray.ext
  simp [ByteArray.data_extract]
theorem rdB_ok {s b r : ByteArray} {n : Int} (h : rdB s 0 n = (b, r, 0)) : s = b ++ r ∧ n = (b.size : Int) := by
  unfold rdB at h
  rw [if_neg (by simp)] at h
  split at h
  · cases h
  · split at h
    · cases h
    · rename_i h1 h2
      have e1 : s.extract 0 n.toNat = b := congrArg (fun x => x.1) h
      have e2 : s.extract n.toNat s.size = r := congrArg (fun x => x.2.1) h
      refine ⟨?_, ?_⟩
      · rw [← e1, ← e2, ext_all s n.toNat (by omega)]
      · rw [← e1, ByteArray.size_extract]; omega
attribute [local irreducible] ByteArray.extract
theorem last_split {k : Nat} {b : ByteArray} (h : b.size = k + 1) : ∃ b' x, b = b' ++ b1 x ∧ 0 ≤ x ∧ x ≤ 255 ∧ b'.size = k := by
  have e : b.data.toList.length = k + 1 := by simpa using h
  obtain ⟨l, u, hl⟩ : ∃ l u, b.data.toList = l ++ [u] := ⟨b.data.toList.dropLast, b.data.toList.getLast (by intro h0; rw [h0] at e; cases e), (List.dropLast_concat_getLast _).symm⟩
  refine ⟨⟨l.toArray⟩, (u.toNat : Int), ?_, by omega, by have := u.toNat_lt; omega, ?_⟩
  · have : b1 (u.toNat : Int) = ⟨#[u]⟩ := by simp [b1]
    rw [this]
    apply ByteArray.ext
    apply Array.toList_inj.1
    simp [hl]
  · rw [hl, List.length_append] at e
    simp only [List.length_cons, List.length_nil] at e
    show l.toArray.size = k
    simp; omega
theorem num_bytes : ∀ (k : Nat) (b : ByteArray), b.size = k → numS k (valK b k) = b
  | 0, b, h => (size_zero h).symm
  | k + 1, b, h => by
    obtain ⟨b', x, rfl, h1, h2, h3⟩ := last_split h
    have e := valK_b1 b' ⟨h1, h2⟩
    rw [h3] at e
    rw [e]
    show numS k ((valK b' k * 256 + x) / 256) ++ b1 ((valK b' k * 256 + x) % 256) = _
    rw [show (valK b' k * 256 + x) / 256 = valK b' k by omega, show (valK b' k * 256 + x) % 256 = x by omega, num_bytes k b' h3]
theorem val_num1 {x : Int} (h : 0 ≤ x ∧ x ≤ 255) : valK (numS 1 x) 1 = x := by rw [numS1 h]; exact val_b1 h
/-- what is read stands in front -/
theorem tK_ok {k : Nat} {s r : ByteArray} {x : Int} (h : tK k (s, 0) = (x, r, 0)) : s = numS k x ++ r ∧ valK (numS k x) k = x := by
  unfold tK at h
  rcases hq : rdB s 0 k with ⟨b, r2, e2⟩
  dsimp only at h
  rw [hq] at h
  dsimp only at h
  have e1 : valK b b.size = x := congrArg (fun x => x.1) h
  have e3 : r2 = r := congrArg (fun x => x.2.1) h
  have e4 : e2 = 0 := congrArg (fun x => x.2.2) h
  subst e3 e4
  obtain ⟨g1, g2⟩ := rdB_ok hq
  have hk : b.size = k := by omega
  rw [hk] at e1
  subst e1
  rw [num_bytes k b hk]
  exact ⟨g1, rfl⟩
theorem tK_frontN (k : Nat) {x : Int} (z : ByteArray) (hv : valK (numS k x) k = x) : tK k (numS k x ++ z, 0) = (x, z, 0) := by
  unfold tK
  dsimp only
  rw [rdB_front (numS k x) z k (by rw [numS_size])]
  dsimp only
  rw [numS_size, hv]
theorem tK_front1 {x : Int} (h : 0 ≤ x ∧ x ≤ 255) (z : ByteArray) : tK 1 (numS 1 x ++ z, 0) = (x, z, 0) := tK_frontN 1 z (val_num1 h)
theorem tK_front2 {x : Int} (h : 0 ≤ x ∧ x ≤ 65535) (z : ByteArray) : tK 2 (numS 2 x ++ z, 0) = (x, z, 0) := tK_frontN 2 z (val_num2 h)
theorem tK_front4 {x : Int} (h : 0 ≤ x ∧ x ≤ 4294967295) (z : ByteArray) : tK 4 (numS 4 x ++ z, 0) = (x, z, 0) := tK_frontN 4 z (val_num4 h)
theorem tK_more {k : Nat} {s r z : ByteArray} {x : Int} (h : tK k (s, 0) = (x, r, 0)) : tK k (s ++ z, 0) = (x, r ++ z, 0) := by
  obtain ⟨h1, h2⟩ := tK_ok h
  rw [h1, ByteArray.append_assoc]
  exact tK_frontN k _ h2
theorem tK_z {k : Int} {r : Rs} (h : (tK k r).2.2 = 0) : r.2 = 0 := by
  by_cases h0 : r.2 = 0
  · exact h0
  · rw [tK_err h0] at h; exact h
theorem tK_01 {k : Int} {r : Rs} (hk : 0 ≤ k) (h : r.2 = 0 ∨ r.2 = 1) : (tK k r).2.2 = 0 ∨ (tK k r).2.2 = 1 := by
  unfold tK rdB
  dsimp only
  rcases h with h | h
  · rw [if_neg (by simp [h]), if_neg (by omega)]
    split
    · exact .inr rfl
    · exact .inl rfl
  · rw [if_pos (by simp [h])]; exact .inr h
theorem csN_front (cs : List Int) (h6 : ∀ z ∈ cs, 0 ≤ z ∧ z ≤ 4294967295) : ∀ (i : Nat) (z : ByteArray), i ≤ cs.length → csN (numsS 4 (cs.take i) ++ z, 0) i = (cs.take i, z, 0)
  | 0, z, _ => by rw [List.take_zero]; show ([], (E0 ++ z, 0)) = _; rw [E0_append]
  | i + 1, z, h => by
    have he := List.getElem?_eq_getElem (show i < cs.length by omega)
    rw [numsS_take he, ByteArray.append_assoc, csN, csN_front cs h6 i _ (by omega)]
    dsimp only
    rw [tK_front4 (h6 _ (List.getElem_mem _)), List.take_add_one, he]
    rfl
theorem csN_z {r : Rs} : ∀ {n : Nat}, (csN r n).2.2 = 0 → r.2 = 0
  | 0, h => h
  | n + 1, h => by rw [csN] at h; exact csN_z (tK_z h)
theorem csN_01 {r : Rs} (h : r.2 = 0 ∨ r.2 = 1) : ∀ n : Nat, (csN r n).2.2 = 0 ∨ (csN r n).2.2 = 1
  | 0 => h
  | n + 1 => by rw [csN]; exact tK_01 (by omega) (csN_01 h n)
theorem csN_ok {s : ByteArray} : ∀ {n : Nat} {cs : List Int} {r : ByteArray}, csN (s, 0) n = (cs, r, 0) → s = numsS 4 cs ++ r ∧ cs.length = n ∧ ∀ z ∈ cs, 0 ≤ z ∧ z ≤ 4294967295
  | 0, cs, r, h => by
    have e1 : ([] : List Int) = cs := congrArg (fun x => x.1) h
    have e2 : s = r := congrArg (fun x => x.2.1) h
    subst e1 e2
    exact ⟨(E0_append _).symm, rfl, (fun z hz => by cases hz)⟩
  | n + 1, cs, r, h => by
    rw [csN] at h
    have hz : (csN (s, 0) n).2.2 = 0 := tK_z (congrArg (fun x => x.2.2) h)
    rcases hq : csN (s, 0) n with ⟨c2, r2, e2⟩
    rw [hq] at h hz
    dsimp only at h hz
    subst hz
    obtain ⟨g1, g2, g3⟩ := csN_ok hq
    have hb := tK4_b (r2, 0)
    rcases hq2 : tK 4 (r2, 0) with ⟨x, r3, e3⟩
    rw [hq2] at h hb
    dsimp only at h hb
    have e1 : c2 ++ [x] = cs := congrArg (fun x => x.1) h
    have e4 : r3 = r := congrArg (fun x => x.2.1) h
    have e5 : e3 = 0 := congrArg (fun x => x.2.2) h
    subst e1 e4 e5
    obtain ⟨g4, _⟩ := tK_ok (k := 4) hq2
    refine ⟨?_, by simp [g2], fun z hz => ?_⟩
    · rw [g1, g4, numsS_append, numsS_one, ByteArray.append_assoc]
    · rcases List.mem_append.1 hz with hz | hz
      · exact g3 z hz
      · rcases List.mem_singleton.1 hz with rfl; exact hb
theorem csN_more {s z : ByteArray} {n : Nat} {cs : List Int} {r : ByteArray} (h : csN (s, 0) n = (cs, r, 0)) : csN (s ++ z, 0) n = (cs, r ++ z, 0) := by
  obtain ⟨h1, h2, h3⟩ := csN_ok h
  have := csN_front cs h3 n (r ++ z) (by omega)
  rw [← h2, List.take_length] at this
  rw [h1, ByteArray.append_assoc, ← h2]; exact this
def exT (b : Bool) (pf : Int) (dt : ByteArray) : ByteArray := if b = true then numS 2 pf ++ numS 2 (dt.size / 4 : Nat) ++ dt else E0
theorem exR_front {b : Bool} {pf : Int} {dt : ByteArray} (h : b = true → 0 ≤ pf ∧ pf ≤ 65535 ∧ dt.size % 4 = 0 ∧ dt.size / 4 ≤ 65535) (h0 : b = false → pf = 0 ∧ dt = E0) (z : ByteArray) : exR b (exT b pf dt ++ z, 0) = (pf, dt, z, 0) := by
  cases b with
  | false =>
    obtain ⟨rfl, rfl⟩ := h0 rfl
    unfold exR exT
    simp only [Bool.false_eq_true, if_false, E0_append]
    rfl
  | true =>
    obtain ⟨h1, h2, h3, h4⟩ := h rfl
    unfold exR exT
    rw [if_pos rfl, if_pos rfl, ByteArray.append_assoc, ByteArray.append_assoc, tK_front2 ⟨h1, h2⟩]
    dsimp only
    rw [tK_front2 (x := ((dt.size / 4 : Nat) : Int)) (by omega)]
    dsimp only
    rw [rdB_front dt z _ (by omega)]
theorem exR_z {b : Bool} {r : Rs} (h : (exR b r).2.2.2 = 0) : r.2 = 0 := by
  by_cases h0 : r.2 = 0
  · exact h0
  · rw [exR_err h0] at h; exact h
theorem exR_ok {b : Bool} {s r : ByteArray} {pf : Int} {dt : ByteArray} (h : exR b (s, 0) = (pf, dt, r, 0)) : s = exT b pf dt ++ r ∧ (b = true → 0 ≤ pf ∧ pf ≤ 65535 ∧ dt.size % 4 = 0 ∧ dt.size / 4 ≤ 65535) ∧ (b = false → pf = 0 ∧ dt = E0) := by
  cases b with
  | false =>
    unfold exR at h
    rw [if_neg (by simp)] at h
    have e1 : (0 : Int) = pf := congrArg (fun x => x.1) h
    have e2 : ByteArray.empty = dt := congrArg (fun x => x.2.1) h
    have e3 : s = r := congrArg (fun x => x.2.2.1) h
    subst e1 e2 e3
    exact ⟨(E0_append _).symm, (fun h => by cases h), (fun _ => ⟨rfl, rfl⟩)⟩
  | true =>
    unfold exR at h
    rw [if_pos rfl] at h
    have v1 := tK2_b (s, 0)
    rcases q1 : tK 2 (s, 0) with ⟨p, r1, e1⟩
    rw [q1] at h v1
    dsimp only at h v1
    have v2 := tK2_b (r1, e1)
    rcases q2 : tK 2 (r1, e1) with ⟨l, r2, e2⟩
    rw [q2] at h v2
    dsimp only at h v2
    rcases q3 : rdB r2 e2 (4 * l) with ⟨d, r3, e3⟩
    rw [q3] at h
    dsimp only at h
    have g1 : p = pf := congrArg (fun x => x.1) h
    have g2 : d = dt := congrArg (fun x => x.2.1) h
    have g3 : r3 = r := congrArg (fun x => x.2.2.1) h
    have g4 : e3 = 0 := congrArg (fun x => x.2.2.2) h
    subst g1 g2 g3 g4
    have z2 : e2 = 0 := by
      by_cases h0 : e2 = 0
      · exact h0
      · unfold rdB at q3; rw [if_pos h0] at q3; exact congrArg (fun x => x.2.2) q3
    subst z2
    have z1 : e1 = 0 := tK_z (k := 2) (r := (r1, e1)) (by rw [q2])
    subst z1
    obtain ⟨t1, _⟩ := tK_ok (k := 2) q1
    obtain ⟨t2, _⟩ := tK_ok (k := 2) q2
    obtain ⟨t3, t4⟩ := rdB_ok q3
    have t5 : ((d.size / 4 : Nat) : Int) = l := by omega
    refine ⟨?_, (fun _ => ⟨v1.1, v1.2, by omega, by omega⟩), (fun h => by cases h)⟩
    unfold exT
    rw [if_pos rfl, t5, ByteArray.append_assoc, ByteArray.append_assoc, ← t3, ← t2, ← t1]
theorem exR_more {b : Bool} {s r z : ByteArray} {pf : Int} {dt : ByteArray} (h : exR b (s, 0) = (pf, dt, r, 0)) : exR b (s ++ z, 0) = (pf, dt, r ++ z, 0) := by
  obtain ⟨h1, h2, h3⟩ := exR_ok h
  rw [h1, ByteArray.append_assoc]
  exact exR_front h2 h3 _
theorem exR_01 {b : Bool} {r : Rs} (h : r.2 = 0 ∨ r.2 = 1) : (exR b r).2.2.2 = 0 ∨ (exR b r).2.2.2 = 1 := by
  unfold exR
  split
  · dsimp only
    have h2 := tK_01 (k := 2) (by omega) (tK_01 (k := 2) (by omega) h)
    have v := tK2_b (tK 2 r).2
    unfold rdB
    rcases h2 with h2 | h2
    · rw [if_neg (by simp [h2]), if_neg (by omega)]
      split
      · exact .inr rfl
      · exact .inl rfl
    · rw [if_pos (by simp [h2])]; exact .inr h2
  · exact h
end Go.Proofs.Ytlhlidmhlhodiaa

/-
  Package rtp: what is written is read, and what is read is written.
-/
namespace Go.Proofs.Ytlhlidmhlhodiaa
set_option linter.unusedSimpArgs false
set_option linter.unusedVariables false
open Go.RowKit
set_option maxRecDepth 100000
attribute [local irreducible] ByteArray.extract

abbrev txP (p : Rp) : ByteArray := txR p.mrk p.kd p.sq p.t p.ss p.cs p.ex p.pf p.dt p.pl p.pd
abbrev ckP (p : Rp) : Int := chkR p.kd p.cs.length p.ex p.pf p.dt p.pl p.pd
structure okR (p : Rp) : Prop where
  kd : 0 ≤ p.kd ∧ p.kd ≤ 255
  sq : 0 ≤ p.sq ∧ p.sq ≤ 65535
  t : 0 ≤ p.t ∧ p.t ≤ 4294967295
  ss : 0 ≤ p.ss ∧ p.ss ≤ 4294967295
  pf : 0 ≤ p.pf ∧ p.pf ≤ 65535
  cs : ∀ z ∈ p.cs, 0 ≤ z ∧ z ≤ 4294967295
structure Ck (p : Rp) : Prop where
  kd : p.kd ≤ 127
  pd : 0 ≤ p.pd ∧ p.pd ≤ 255
  cs : p.cs.length ≤ 15
  dt : p.dt.size % 4 = 0
  ex : p.ex = false → p.pf = 0 ∧ p.dt = E0
  len : lenM p.cs.length p.ex p.dt p.pl p.pd ≤ 1500
theorem ck_iff {p : Rp} : ckP p = 0 ↔ Ck p := by
  unfold ckP chkR
  constructor
  · intro h
    split at h
    · cases h
    · split at h
      · cases h
      · split at h
        · cases h
        · split at h
          · cases h
          · rename_i h1 h2 h3 h4
            refine ⟨by omega, by omega, by omega, ?_, ?_, by omega⟩
            · exact Classical.not_not.1 fun h => h3 (.inl h)
            · intro hx
              refine ⟨Classical.not_not.1 fun h => h3 (.inr ⟨hx, .inl h⟩), Classical.not_not.1 fun h => h3 (.inr ⟨hx, .inr h⟩)⟩
  · intro h
    rw [if_neg (by have := h.kd; have := h.pd; omega), if_neg (by have := h.cs; omega), if_neg, if_neg (by have := h.len; omega)]
    rintro (h1 | ⟨h1, h2 | h2⟩)
    · exact h1 h.dt
    · exact h2 (h.ex h1).1
    · exact h2 (h.ex h1).2
def fA (pd : Int) (ex : Bool) (n : Nat) : Int := 128 + bi (decide (0 < pd)) 32 + bi ex 16 + n
def tlR (pd : Int) : ByteArray := if 0 < pd then zrT (pd.toNat - 1) ++ numS 1 pd else E0
theorem tlR_size {pd : Int} (h : 0 ≤ pd) : (tlR pd).size = pd.toNat := by
  unfold tlR
  split
  · rw [ByteArray.size_append, zrT_size, numS_size]; omega
  · have : pd.toNat = 0 := by omega
    rw [this]; rfl
/-- the head's bytes ahead of what follows -/
def hdZ (p : Rp) (z : ByteArray) : ByteArray := numS 1 (fA p.pd p.ex p.cs.length) ++ (numS 1 (bi p.mrk 128 + p.kd) ++ (numS 2 p.sq ++ (numS 4 p.t ++ (numS 4 p.ss ++ (numsS 4 p.cs ++ (exT p.ex p.pf p.dt ++ z))))))
theorem hdZ_app (p : Rp) (y z : ByteArray) : hdZ p (y ++ z) = hdZ p y ++ z := by simp only [hdZ, ByteArray.append_assoc]
theorem hdZ_E (p : Rp) (z : ByteArray) : hdZ p z = hdZ p E0 ++ z := by rw [← hdZ_app, E0_append]
theorem exT_size (b : Bool) (pf : Int) (dt : ByteArray) : (exT b pf dt).size = if b = true then 4 + dt.size else 0 := by
  unfold exT
  cases b
  · rfl
  · simp only [if_true, ByteArray.size_append, numS_size]
theorem hdZ_size (p : Rp) (z : ByteArray) : (hdZ p z).size = 12 + 4 * p.cs.length + (if p.ex = true then 4 + p.dt.size else 0) + z.size := by
  simp only [hdZ, ByteArray.size_append, numS_size, numsS_size, exT_size]; omega
theorem txP_hd (p : Rp) : txP p = hdZ p (p.pl ++ tlR p.pd) := by
  unfold txP txR hdT hdZ fA tlR exT
  rw [csT_take p.cs _ (Nat.le_refl _), List.take_length]
  simp only [ByteArray.append_assoc]
def Parts (s : ByteArray) (a b sq t ss : Int) (cs : List Int) (pf : Int) (dt r : ByteArray) : Prop :=
  ∃ r1 r2 r3 r4 r5 r6, tK 1 (s, 0) = (a, r1, 0) ∧ tK 1 (r1, 0) = (b, r2, 0) ∧ tK 2 (r2, 0) = (sq, r3, 0) ∧ tK 4 (r3, 0) = (t, r4, 0) ∧ tK 4 (r4, 0) = (ss, r5, 0) ∧ csN (r5, 0) (a % 16).toNat = (cs, r6, 0) ∧ exR (decide (a / 16 % 2 = 1)) (r6, 0) = (pf, dt, r, 0)
theorem Parts.more {s : ByteArray} {a b sq t ss : Int} {cs : List Int} {pf : Int} {dt r : ByteArray} (h : Parts s a b sq t ss cs pf dt r) (z : ByteArray) : Parts (s ++ z) a b sq t ss cs pf dt (r ++ z) := by
  obtain ⟨r1, r2, r3, r4, r5, r6, h1, h2, h3, h4, h5, h6, h7⟩ := h
  exact ⟨r1 ++ z, r2 ++ z, r3 ++ z, r4 ++ z, r5 ++ z, r6 ++ z, tK_more (k := 1) h1, tK_more (k := 1) h2, tK_more (k := 2) h3, tK_more (k := 4) h4, tK_more (k := 4) h5, csN_more h6, exR_more h7⟩
theorem Parts.prR {s : ByteArray} {a b sq t ss : Int} {cs : List Int} {pf : Int} {dt r : ByteArray} (h : Parts s a b sq t ss cs pf dt r) (hs : s.size ≤ 1500) (ha : a / 64 = 2) :
    prR s = enR ⟨decide (127 < b), b % 128, sq, t, ss, cs, decide (a / 16 % 2 = 1), pf, dt, ByteArray.empty, 0⟩ (decide (a / 32 % 2 = 1)) (r, 0) := by
  obtain ⟨r1, r2, r3, r4, r5, r6, h1, h2, h3, h4, h5, h6, h7⟩ := h
  unfold Go.Proofs.Ytlhlidmhlhodiaa.prR
  rw [if_neg (by omega)]
  dsimp only
  rw [h1]; dsimp only
  rw [h2]; dsimp only
  rw [if_neg (fun h => h.2 ha), h3]; dsimp only
  rw [h4]; dsimp only
  rw [h5]; dsimp only
  rw [h6]; dsimp only
  rw [h7]
theorem Parts.bytes {s : ByteArray} {a b sq t ss : Int} {cs : List Int} {pf : Int} {dt r : ByteArray} (h : Parts s a b sq t ss cs pf dt r) :
    s = numS 1 a ++ (numS 1 b ++ (numS 2 sq ++ (numS 4 t ++ (numS 4 ss ++ (numsS 4 cs ++ (exT (decide (a / 16 % 2 = 1)) pf dt ++ r)))))) ∧ (0 ≤ a ∧ a ≤ 255) ∧ (0 ≤ b ∧ b ≤ 255) ∧ (0 ≤ sq ∧ sq ≤ 65535) ∧ (0 ≤ t ∧ t ≤ 4294967295) ∧ (0 ≤ ss ∧ ss ≤ 4294967295) ∧
      cs.length = (a % 16).toNat ∧ (∀ z ∈ cs, 0 ≤ z ∧ z ≤ 4294967295) ∧ (decide (a / 16 % 2 = 1) = true → 0 ≤ pf ∧ pf ≤ 65535 ∧ dt.size % 4 = 0 ∧ dt.size / 4 ≤ 65535) ∧ (decide (a / 16 % 2 = 1) = false → pf = 0 ∧ dt = E0) := by
  obtain ⟨r1, r2, r3, r4, r5, r6, h1, h2, h3, h4, h5, h6, h7⟩ := h
  have b1' := t1_b (s, 0)
  have b2' := t1_b (r1, 0)
  have b3 := tK2_b (r2, 0)
  have b4 := tK4_b (r3, 0)
  have b5 := tK4_b (r4, 0)
  rw [show t1 (s, 0) = tK 1 (s, 0) from rfl, h1] at b1'
  rw [show t1 (r1, 0) = tK 1 (r1, 0) from rfl, h2] at b2'
  rw [h3] at b3
  rw [h4] at b4
  rw [h5] at b5
  have g1 := (tK_ok (k := 1) h1).1
  have g2 := (tK_ok (k := 1) h2).1
  have g3 := (tK_ok (k := 2) h3).1
  have g4 := (tK_ok (k := 4) h4).1
  have g5 := (tK_ok (k := 4) h5).1
  obtain ⟨g6, g7, g8⟩ := csN_ok h6
  obtain ⟨g9, g10, g11⟩ := exR_ok h7
  exact ⟨by rw [← g9, ← g6, ← g5, ← g4, ← g3, ← g2, ← g1], b1', b2', b3, b4, b5, g7, g8, g10, g11⟩
theorem parts_hd {p : Rp} (hr : okR p) (hk : p.kd ≤ 127) (hc : p.cs.length ≤ 15) (hd : p.dt.size % 4 = 0 ∧ p.dt.size / 4 ≤ 65535) (he : p.ex = false → p.pf = 0 ∧ p.dt = E0) (z : ByteArray) :
    Parts (hdZ p z) (fA p.pd p.ex p.cs.length) (bi p.mrk 128 + p.kd) p.sq p.t p.ss p.cs p.pf p.dt z := by
  have o1 := bi_or (decide (0 < p.pd)) 32
  have o2 := bi_or p.ex 16
  have o3 := bi_or p.mrk 128
  have hk0 := hr.kd
  have e16 : (fA p.pd p.ex p.cs.length % 16).toNat = p.cs.length := by unfold fA; omega
  have eex : decide (fA p.pd p.ex p.cs.length / 16 % 2 = 1) = p.ex := by
    unfold fA
    have o1' := o1
    generalize bi (decide (0 < p.pd)) 32 = y at o1' ⊢
    cases h : p.ex
    · rw [decide_eq_false_iff_not]; simp only [bi, Bool.false_eq_true, if_false]; omega
    · rw [decide_eq_true_eq]; simp only [bi, if_true]; omega
  refine ⟨_, _, _, _, _, exT p.ex p.pf p.dt ++ z, tK_front1 (by unfold fA; omega) _, tK_front1 (by omega) _, tK_front2 hr.sq _, tK_front4 hr.t _, tK_front4 hr.ss _, ?_, ?_⟩
  · rw [e16]
    have := csN_front p.cs hr.cs p.cs.length (exT p.ex p.pf p.dt ++ z) (Nat.le_refl _)
    rwa [List.take_length] at this
  · rw [eex]; exact exR_front (fun _ => ⟨hr.pf.1, hr.pf.2, hd.1, hd.2⟩) he z
theorem fA_bits (pd : Int) (ex : Bool) (n : Nat) (h : n ≤ 15) : fA pd ex n / 64 = 2 ∧ decide (fA pd ex n / 16 % 2 = 1) = ex ∧ decide (fA pd ex n / 32 % 2 = 1) = decide (0 < pd) := by
  have o1 := bi_or (decide (0 < pd)) 32
  have o2 := bi_or ex 16
  refine ⟨by unfold fA; omega, ?_, ?_⟩
  · unfold fA
    generalize bi (decide (0 < pd)) 32 = y at o1 ⊢
    cases ex
    · rw [decide_eq_false_iff_not]; simp only [bi, Bool.false_eq_true, if_false]; omega
    · rw [decide_eq_true_eq]; simp only [bi, if_true]; omega
  · unfold fA
    generalize bi ex 16 = y at o2 ⊢
    cases decide (0 < pd)
    · rw [decide_eq_false_iff_not]; simp only [bi, Bool.false_eq_true, if_false]; omega
    · rw [decide_eq_true_eq]; simp only [bi, if_true]; omega
theorem enR_ok (p : Rp) (pa : Bool) (r : ByteArray) : enR p pa (r, 0) = if pa = true then (if (padM r).2 ≠ 0 then (Rp0, (padM r).2) else ({ p with pl := r.extract 0 ((r.size : Int) - (padM r).1).toNat, pd := (padM r).1 }, 0)) else ({ p with pl := r }, 0) := by
  have e : rdB r 0 r.size = (r, E0, 0) := by
    have := rdB_front r E0 r.size rfl
    rwa [append_E0] at this
  unfold enR
  dsimp only
  rw [e]
  dsimp only
  rw [if_neg (by simp)]
theorem padM_tl {pd : Int} (h : 0 < pd ∧ pd ≤ 255) (pl : ByteArray) : padM (pl ++ tlR pd) = (pd, 0) := by
  have e : pl ++ tlR pd = (pl ++ zrT (pd.toNat - 1)) ++ b1 pd := by
    unfold tlR; rw [if_pos h.1, numS1 (by omega), ByteArray.append_assoc]
  have hz : (pl ++ tlR pd).size = (pl ++ zrT (pd.toNat - 1)).size + 1 := by rw [e, ByteArray.size_append, b1_size]
  have hz2 : (pl ++ tlR pd).size = pl.size + pd.toNat := by rw [ByteArray.size_append, tlR_size (by omega)]
  have hl : sb (pl ++ tlR pd) ((pl ++ tlR pd).size - 1) = pd := by
    rw [hz, Nat.add_sub_cancel, e]; exact sb_last _ (by omega)
  unfold padM
  rw [if_neg (fun h0 => by rw [h0] at hz; cases hz), hl, if_neg (by omega), if_neg (by rw [hz2]; omega)]
theorem Rp_eta {p : Rp} {b ex' : Bool} {k : Int} (h1 : b = p.mrk) (h2 : k = p.kd) (h3 : ex' = p.ex) : (⟨b, k, p.sq, p.t, p.ss, p.cs, ex', p.pf, p.dt, p.pl, p.pd⟩ : Rp) = p := by subst h1 h2 h3; rfl
theorem mk_bits (mrk : Bool) {kd : Int} (h : 0 ≤ kd ∧ kd ≤ 127) : decide (127 < bi mrk 128 + kd) = mrk ∧ (bi mrk 128 + kd) % 128 = kd := by
  cases mrk
  · refine ⟨?_, ?_⟩
    · rw [decide_eq_false_iff_not]; simp only [bi, Bool.false_eq_true, if_false]; omega
    · simp only [bi, Bool.false_eq_true, if_false]; omega
  · refine ⟨?_, ?_⟩
    · rw [decide_eq_true_eq]; simp only [bi, if_true]; omega
    · simp only [bi, if_true]; omega
theorem txP_size {p : Rp} (hc : Ck p) : ((txP p).size : Int) = lenM p.cs.length p.ex p.dt p.pl p.pd := txR_size _ _ _ _ _ _ _ _ _ _ _ hc.pd.1
theorem ck_dt {p : Rp} (hc : Ck p) : p.dt.size / 4 ≤ 65535 := by
  have h := hc.len
  unfold lenM at h
  have := hc.pd
  cases hx : p.ex
  · rw [(hc.ex hx).2]; decide
  · rw [hx, if_pos rfl] at h; omega
theorem ck_dt2 {p : Rp} (hc : Ck p) : p.dt.size ≤ 1500 := by
  have h := hc.len
  unfold lenM at h
  have := hc.pd
  cases hx : p.ex
  · rw [(hc.ex hx).2]; decide
  · rw [hx, if_pos rfl] at h; omega
/-- what is written is read -/
theorem prR_txP {p : Rp} (hr : okR p) (hc : Ck p) : prR (txP p) = (p, 0) := by
  have hz := txP_size hc
  have hl := hc.len
  have hpt := parts_hd hr hc.kd hc.cs ⟨hc.dt, ck_dt hc⟩ hc.ex (p.pl ++ tlR p.pd)
  rw [← txP_hd] at hpt
  obtain ⟨f1, f2, f3⟩ := fA_bits p.pd p.ex p.cs.length hc.cs
  obtain ⟨m1, m2⟩ := mk_bits p.mrk (kd := p.kd) ⟨hr.kd.1, hc.kd⟩
  rw [hpt.prR (by omega) f1, enR_ok, f2, f3, m1, m2]
  by_cases h0 : 0 < p.pd
  · rw [if_pos (by simpa using h0), padM_tl ⟨h0, hc.pd.2⟩, if_neg (by simp)]
    dsimp only
    have e : ((p.pl ++ tlR p.pd).size - p.pd : Int).toNat = p.pl.size := by rw [ByteArray.size_append, tlR_size hc.pd.1]; omega
    rw [e, ext_head2]
  · rw [if_neg (by simpa using h0)]
    have e : tlR p.pd = E0 := by unfold tlR; rw [if_neg h0]
    have e0 : p.pd = 0 := by have := hc.pd; omega
    rw [e, append_E0]
    conv => rhs; rw [← Rp_eta (p := p) rfl rfl rfl]
    rw [e0]
end Go.Proofs.Ytlhlidmhlhodiaa

/-
  Package rtp: what is read is written; beginnings of packets.
-/
namespace Go.Proofs.Ytlhlidmhlhodiaa
set_option linter.unusedSimpArgs false
set_option linter.unusedVariables false
open Go.RowKit
set_option maxRecDepth 100000
attribute [local irreducible] ByteArray.extract

def hdS (s : ByteArray) : Rs :=
  let x := tK 1 (s, 0)
  let c := csN (tK 4 (tK 4 (tK 2 (tK 1 x.2).2).2).2).2 (x.1 % 16).toNat
  (exR (decide (x.1 / 16 % 2 = 1)) c.2).2.2
theorem hdS_01 (s : ByteArray) : (hdS s).2 = 0 ∨ (hdS s).2 = 1 :=
  exR_01 (csN_01 (tK_01 (by omega) (tK_01 (by omega) (tK_01 (by omega) (tK_01 (by omega) (tK_01 (by omega) (.inl rfl)))))) _)
theorem hdS_parts {s : ByteArray} (h : (hdS s).2 = 0) : ∃ a b sq t ss cs pf dt, Parts s a b sq t ss cs pf dt (hdS s).1 := by
  unfold hdS at h ⊢
  dsimp only at h ⊢
  have z6 := exR_z h
  have z5 := csN_z z6
  have z4 := tK_z z5
  have z3 := tK_z z4
  have z2 := tK_z z3
  have z1 := tK_z z2
  rcases h1 : tK 1 (s, 0) with ⟨a, r1, e1⟩
  rw [h1] at h z6 z5 z4 z3 z2 z1
  dsimp only at h z6 z5 z4 z3 z2 z1
  subst z1
  rcases h2 : tK 1 (r1, 0) with ⟨b, r2, e2⟩
  rw [h2] at h z6 z5 z4 z3 z2
  dsimp only at h z6 z5 z4 z3 z2
  subst z2
  rcases h3 : tK 2 (r2, 0) with ⟨sq, r3, e3⟩
  rw [h3] at h z6 z5 z4 z3
  dsimp only at h z6 z5 z4 z3
  subst z3
  rcases h4 : tK 4 (r3, 0) with ⟨t, r4, e4⟩
  rw [h4] at h z6 z5 z4
  dsimp only at h z6 z5 z4
  subst z4
  rcases h5 : tK 4 (r4, 0) with ⟨ss, r5, e5⟩
  rw [h5] at h z6 z5
  dsimp only at h z6 z5
  subst z5
  rcases h6 : csN (r5, 0) (a % 16).toNat with ⟨cs, r6, e6⟩
  rw [h6] at h z6
  dsimp only at h z6
  subst z6
  rcases h7 : exR (decide (a / 16 % 2 = 1)) (r6, 0) with ⟨pf, dt, r, e7⟩
  rw [h7] at h
  dsimp only at h
  subst h
  refine ⟨a, b, sq, t, ss, cs, pf, dt, r1, r2, r3, r4, r5, r6, h1, h2, h3, h4, h5, h6, ?_⟩
  simp only [h2, h3, h4, h5, h6, h7]
theorem parts_hdS {s : ByteArray} {a b sq t ss : Int} {cs : List Int} {pf : Int} {dt r : ByteArray} (h : Parts s a b sq t ss cs pf dt r) : hdS s = (r, 0) := by
  obtain ⟨r1, r2, r3, r4, r5, r6, h1, h2, h3, h4, h5, h6, h7⟩ := h
  unfold hdS
  simp only [h1, h2, h3, h4, h5, h6, h7]
theorem prR_err {s : ByteArray} (hs : s.size ≤ 1500) (h2 : (tK 1 (tK 1 (s, 0)).2).2.2 = 0 → (tK 1 (s, 0)).1 / 64 = 2) (h : (hdS s).2 ≠ 0) : prR s = (Rp0, (hdS s).2) := by
  have e : prR s = enR ⟨decide (127 < (tK 1 (tK 1 (s, 0)).2).1), (tK 1 (tK 1 (s, 0)).2).1 % 128, (tK 2 (tK 1 (tK 1 (s, 0)).2).2).1, (tK 4 (tK 2 (tK 1 (tK 1 (s, 0)).2).2).2).1, (tK 4 (tK 4 (tK 2 (tK 1 (tK 1 (s, 0)).2).2).2).2).1, (csN (tK 4 (tK 4 (tK 2 (tK 1 (tK 1 (s, 0)).2).2).2).2).2 ((tK 1 (s, 0)).1 % 16).toNat).1, decide ((tK 1 (s, 0)).1 / 16 % 2 = 1), (exR (decide ((tK 1 (s, 0)).1 / 16 % 2 = 1)) (csN (tK 4 (tK 4 (tK 2 (tK 1 (tK 1 (s, 0)).2).2).2).2).2 ((tK 1 (s, 0)).1 % 16).toNat).2).1, (exR (decide ((tK 1 (s, 0)).1 / 16 % 2 = 1)) (csN (tK 4 (tK 4 (tK 2 (tK 1 (tK 1 (s, 0)).2).2).2).2).2 ((tK 1 (s, 0)).1 % 16).toNat).2).2.1, ByteArray.empty, 0⟩ (decide ((tK 1 (s, 0)).1 / 32 % 2 = 1)) (hdS s) := by
    unfold prR
    rw [if_neg (by omega)]
    dsimp only
    rw [if_neg (fun h => h.2 (h2 h.1))]
    rfl
  rw [e]
  generalize hdS s = r at h
  unfold enR
  have e2 : (rdB r.1 r.2 r.1.size).2.2 = r.2 := by unfold rdB; rw [if_pos h]
  rw [if_pos (by rw [e2]; exact h), e2]
/-- a beginning that ends ahead of the payload -/
theorem prR_cut {p : Rp} (hr : okR p) (hc : Ck p) {s z : ByteArray} (h : s ++ z = txP p) (hs : s.size < (hdZ p E0).size) : prR s = (Rp0, 1) := by
  have hz := txP_size hc
  have hl := hc.len
  have hpt := parts_hd hr hc.kd hc.cs ⟨hc.dt, ck_dt hc⟩ hc.ex (p.pl ++ tlR p.pd)
  rw [← txP_hd] at hpt
  obtain ⟨f1, _, _⟩ := fA_bits p.pd p.ex p.cs.length hc.cs
  have hle : s.size ≤ 1500 := by rw [← h, ByteArray.size_append] at hz; omega
  have hne : (hdS s).2 ≠ 0 := fun h0 => by
    obtain ⟨a, b, sq, t, ss, cs, pf, dt, hp⟩ := hdS_parts h0
    have h1 := parts_hdS (hp.more z)
    rw [h, parts_hdS hpt] at h1
    have h2 : p.pl ++ tlR p.pd = (hdS s).1 ++ z := congrArg (fun x => x.1) h1
    have h3 := congrArg ByteArray.size h2
    have h4 := congrArg ByteArray.size h
    rw [txP_hd, hdZ_E] at h4
    simp only [ByteArray.size_append] at h3 h4
    omega
  have e1 : (hdS s).2 = 1 := (hdS_01 s).resolve_left hne
  rw [prR_err hle (fun h2 => ?_) hne, e1]
  have z1 := tK_z h2
  obtain ⟨r1, _, _, _, _, _, k1, _⟩ := hpt
  have k2 : tK 1 (s, 0) = ((tK 1 (s, 0)).1, (tK 1 (s, 0)).2.1, 0) := by
    exact Prod.ext rfl (Prod.ext rfl z1)
  have k3 := tK_more (k := 1) (z := z) k2
  rw [h] at k3
  have k4 := k1.symm.trans k3
  have k5 : fA p.pd p.ex p.cs.length = (tK 1 (s, 0)).1 := congrArg (fun x => x.1) k4
  rw [← k5]; exact f1
theorem pad_ok {r : ByteArray} (h : (padM r).2 = 0) : 0 < (padM r).1 ∧ (padM r).1 ≤ 255 ∧ (padM r).1 ≤ r.size := by
  have hb := sb_b r (r.size - 1)
  unfold padM at h ⊢
  split
  · rename_i h0; rw [if_pos h0] at h; cases h
  · rename_i h0
    rw [if_neg h0] at h
    split
    · rename_i h1; rw [if_pos h1] at h; cases h
    · rename_i h1
      rw [if_neg h1] at h
      split
      · rename_i h2; rw [if_pos h2] at h; cases h
      · dsimp only; omega
theorem lenM_hd (p : Rp) (hp : 0 ≤ p.pd) : lenM p.cs.length p.ex p.dt p.pl p.pd = ((hdZ p (p.pl ++ tlR p.pd)).size : Int) := by
  rw [hdZ_size, ByteArray.size_append, tlR_size hp]
  unfold lenM
  cases p.ex
  · simp only [Bool.false_eq_true, if_false]; omega
  · simp only [if_true]; omega
/-- what is read is written -/
theorem prR_back {s : ByteArray} {p : Rp} (h : prR s = (p, 0)) : okR p ∧ Ck p ∧ lenM p.cs.length p.ex p.dt p.pl p.pd = s.size ∧ (txP p).extract 0 (s.size - p.pd.toNat) = s.extract 0 (s.size - p.pd.toNat) := by
  have hs : s.size ≤ 1500 := by
    rcases Nat.lt_or_ge 1500 s.size with h1 | h1
    · unfold prR at h; rw [if_pos h1] at h
      exact absurd (congrArg (fun x => x.2) h) (by simp)
    · exact h1
  have h2 : (tK 1 (tK 1 (s, 0)).2).2.2 = 0 → (tK 1 (s, 0)).1 / 64 = 2 := fun h2 => Classical.not_not.1 fun hn => by
    unfold prR at h; rw [if_neg (by omega)] at h; dsimp only at h
    rw [if_pos ⟨h2, hn⟩] at h
    exact absurd (congrArg (fun x => x.2) h) (by simp)
  have h3 : (hdS s).2 = 0 := Classical.not_not.1 fun hn => by
    rw [prR_err hs h2 hn] at h
    exact hn (congrArg (fun x => x.2) h)
  obtain ⟨a, b, sq, t, ss, cs, pf, dt, hp⟩ := hdS_parts h3
  generalize (hdS s).1 = r at hp
  have ha : a / 64 = 2 := by
    obtain ⟨r1, r2, _, _, _, _, k1, k2, _⟩ := hp
    rw [k1] at h2; dsimp only at h2
    rw [k2] at h2; exact h2 rfl
  rw [hp.prR hs ha, enR_ok] at h
  obtain ⟨hb, ha2, hb2, hsq, ht, hss, hcn, hcs, hex1, hex0⟩ := hp.bytes
  have hpf : 0 ≤ pf ∧ pf ≤ 65535 := by
    cases hx : decide (a / 16 % 2 = 1)
    · rw [(hex0 hx).1]; omega
    · exact ⟨(hex1 hx).1, (hex1 hx).2.1⟩
  have hd4 : dt.size % 4 = 0 := by
    cases hx : decide (a / 16 % 2 = 1)
    · rw [(hex0 hx).2]; rfl
    · exact (hex1 hx).2.2.1
  have m1 : bi (decide (127 < b)) 128 + b % 128 = b := by
    by_cases hb' : 127 < b
    · rw [decide_eq_true hb']; simp only [bi, if_true]; omega
    · rw [decide_eq_false hb']; simp only [bi, Bool.false_eq_true, if_false]; omega
  have fin : ∀ (pl tail : ByteArray) (pd : Int), r = pl ++ tail → 0 ≤ pd ∧ pd ≤ 255 → tail.size = pd.toNat → decide (a / 32 % 2 = 1) = decide (0 < pd) →
      p = ⟨decide (127 < b), b % 128, sq, t, ss, cs, decide (a / 16 % 2 = 1), pf, dt, pl, pd⟩ →
      okR p ∧ Ck p ∧ lenM p.cs.length p.ex p.dt p.pl p.pd = s.size ∧ (txP p).extract 0 (s.size - p.pd.toNat) = s.extract 0 (s.size - p.pd.toNat) := by
    intro pl tail pd hrr hpd htl h32 hpe
    have f1 : fA pd (decide (a / 16 % 2 = 1)) cs.length = a := by
      unfold fA
      rw [← h32]
      by_cases c1 : a / 32 % 2 = 1 <;> by_cases c2 : a / 16 % 2 = 1
      · rw [decide_eq_true c1, decide_eq_true c2]; simp only [bi, if_true]; omega
      · rw [decide_eq_true c1, decide_eq_false c2]; simp only [bi, if_true, Bool.false_eq_true, if_false]; omega
      · rw [decide_eq_false c1, decide_eq_true c2]; simp only [bi, if_true, Bool.false_eq_true, if_false]; omega
      · rw [decide_eq_false c1, decide_eq_false c2]; simp only [bi, Bool.false_eq_true, if_false]; omega
    have hsb : s = hdZ p (pl ++ tail) := by
      rw [hb, hrr, hpe]
      unfold hdZ
      dsimp only
      rw [f1, m1]
    have ep : p.pd = pd := by rw [hpe]
    have epl : p.pl = pl := by rw [hpe]
    have esz : (hdZ p (pl ++ tail)).size = (hdZ p (p.pl ++ tlR p.pd)).size := by
      rw [hdZ_size, hdZ_size, ByteArray.size_append, ByteArray.size_append, htl, ep, tlR_size hpd.1, epl]
    have elen : lenM p.cs.length p.ex p.dt p.pl p.pd = s.size := by
      rw [lenM_hd p (by rw [ep]; exact hpd.1), ← esz, ← hsb]
    refine ⟨?_, ?_, elen, ?_⟩
    · rw [hpe]
      exact ⟨by dsimp only; omega, hsq, ht, hss, hpf, hcs⟩
    · refine ⟨by rw [hpe]; dsimp only; omega, by rw [ep]; exact hpd, by rw [hpe]; dsimp only; omega, by rw [hpe]; exact hd4, ?_, by rw [elen]; omega⟩
      rw [hpe]; exact hex0
    · have e1 : hdZ p (pl ++ tail) = hdZ p pl ++ tail := hdZ_app p pl tail
      have e2 : txP p = hdZ p pl ++ tlR pd := by rw [txP_hd, ep, epl]; exact hdZ_app p pl _
      have e3 : s.size - p.pd.toNat = (hdZ p pl).size := by rw [hsb, e1, ByteArray.size_append, htl, ep]; omega
      rw [e3, e2, hsb, e1, ext_head2, ext_head2]
  by_cases h32 : a / 32 % 2 = 1
  · rw [if_pos (by simpa using h32)] at h
    by_cases hpe : (padM r).2 = 0
    · obtain ⟨p1, p2, p3⟩ := pad_ok hpe
      rw [if_neg (by simp [hpe])] at h
      refine fin (r.extract 0 ((r.size : Int) - (padM r).1).toNat) (r.extract ((r.size : Int) - (padM r).1).toNat r.size) (padM r).1 (ext_all r _ (by omega)).symm ⟨by omega, p2⟩ ?_ ?_ (congrArg (fun x => x.1) h).symm
      · rw [ByteArray.size_extract]; omega
      · rw [decide_eq_true h32, decide_eq_true p1]
    · rw [if_pos hpe] at h
      exact absurd (congrArg (fun x => x.2) h) hpe
  · rw [if_neg (by simpa using h32)] at h
    refine fin r E0 0 (append_E0 r).symm (by omega) rfl ?_ (congrArg (fun x => x.1) h).symm
    rw [decide_eq_false h32]; rfl
theorem prR_Rp0 {s : ByteArray} (h : (prR s).2 ≠ 0) : (prR s).1 = Rp0 := by
  unfold prR at h ⊢
  split
  · rfl
  · rename_i h1
    rw [if_neg h1] at h
    dsimp only at h ⊢
    split
    · rfl
    · rename_i h2
      rw [if_neg h2] at h
      unfold enR at h ⊢
      split
      · rfl
      · rename_i h3
        rw [if_neg h3] at h
        split
        · rename_i h4
          rw [if_pos h4] at h
          split
          · rfl
          · rename_i h5; rw [if_neg h5] at h; exact absurd rfl h
        · rename_i h4; rw [if_neg h4] at h; exact absurd rfl h
end Go.Proofs.Ytlhlidmhlhodiaa

/-
  Layer 4, plain: descriptors.
-/
namespace Go.Proofs.Ytlhlidmhlhodiaa
set_option linter.unusedSimpArgs false
set_option linter.unusedVariables false
open Go.RowKit
attribute [local irreducible] ByteArray.extract

structure Dc where
  nr : Bool
  st : Bool
  pt : Int
  pic : Int
  wd : Bool
  lv : Int
  ly : Int
  sy : Bool
  ky : Int
  deriving DecidableEq
def Dc0 : Dc := ⟨false, false, 0, 0, false, 0, 0, false, 0⟩
def sFl (a : Int) (r : Rs) : Int × Rs := if 127 < a then t1 r else (0, r)
def sPic (f : Int) (r : Rs) : Int × Bool × Rs :=
  if f / 128 % 2 = 1 then (if 127 < (t1 r).1 then ((t1 r).1 % 128 * 256 + (t1 (t1 r).2).1, true, (t1 (t1 r).2).2) else ((t1 r).1, false, (t1 r).2)) else (-1, false, r)
def sLv (f : Int) (r : Rs) : Int × Rs := if f / 64 % 2 = 1 then t1 r else (-1, r)
def sLast (f : Int) (r : Rs) : Int × Bool × Int × Rs :=
  if 0 < f / 16 % 4 then (if f / 32 % 2 = 1 then (t1 r).1 / 64 else -1, decide (f / 32 % 2 = 1) && decide ((t1 r).1 / 32 % 2 = 1), if f / 16 % 2 = 1 then (t1 r).1 % 32 else -1, (t1 r).2) else (-1, false, -1, r)
def mkD (a : Int) (p : Int × Bool × Rs) (l : Int × Rs) (q : Int × Bool × Int × Rs) : Dc × ByteArray × Int :=
  if q.2.2.2.2 ≠ 0 then (Dc0, E0, q.2.2.2.2) else (⟨decide (a / 32 % 2 = 1), decide (a / 16 % 2 = 1), a % 8, p.1, p.2.1, l.1, q.1, q.2.1, q.2.2.1⟩, q.2.2.2.1, 0)
def prs (s : ByteArray) : Dc × ByteArray × Int :=
  let a := t1 (s, 0)
  let f := sFl a.1 a.2
  let p := sPic f.1 f.2
  let l := sLv f.1 p.2.2
  mkD a.1 p l (sLast f.1 l.2)
/-- which descriptors are valid -/
def okA (d : Dc) : Prop := 0 ≤ d.pt ∧ d.pt ≤ 7 ∧ -1 ≤ d.pic ∧ d.pic ≤ 32767 ∧ -1 ≤ d.lv ∧ d.lv ≤ 255 ∧ -1 ≤ d.ly ∧ d.ly ≤ 3 ∧ -1 ≤ d.ky ∧ d.ky ≤ 31
def okF (d : Dc) : Prop := ¬ (d.pic < 0 ∧ d.wd = true) ∧ ¬ (127 < d.pic ∧ d.wd = false) ∧ ¬ (d.ly < 0 ∧ d.sy = true)
instance (d : Dc) : Decidable (okA d) := inferInstanceAs (Decidable (_ ∧ _))
instance (d : Dc) : Decidable (okF d) := inferInstanceAs (Decidable (_ ∧ _))
def chk (d : Dc) : Int := if ¬ okA d then 5 else if ¬ okF d then 2 else 0
def bt (c : Bool) (n : Int) : Int := if c = true then n else 0
def fls (d : Dc) : Int := bt (decide (0 ≤ d.pic)) 128 + bt (decide (0 ≤ d.lv)) 64 + bt (decide (0 ≤ d.ly)) 32 + bt (decide (0 ≤ d.ky)) 16
def moreB (d : Dc) : Bool := decide (0 ≤ d.pic) || decide (0 ≤ d.lv) || decide (0 ≤ d.ly) || decide (0 ≤ d.ky)
def tPic (d : Dc) : ByteArray := if 0 ≤ d.pic then (if d.wd = true then numS 2 (d.pic + 32768) else b1 (d.pic % 128)) else E0
def tLv (d : Dc) : ByteArray := if 0 ≤ d.lv then b1 d.lv else E0
def tLast (d : Dc) : ByteArray := if 0 ≤ d.ly ∨ 0 ≤ d.ky then b1 (max d.ly 0 * 64 + bt d.sy 32 + max d.ky 0) else E0
def txt (d : Dc) : ByteArray := b1 (bt (moreB d) 128 + bt d.nr 32 + bt d.st 16 + d.pt) ++ (if moreB d = true then b1 (fls d) ++ (tPic d ++ (tLv d ++ tLast d)) else E0)
theorem bt_or (c : Bool) (n : Int) : bt c n = 0 ∨ bt c n = n := by cases c <;> simp [bt]
theorem bt_t (n : Int) : bt true n = n := rfl
theorem bt_f (n : Int) : bt false n = 0 := rfl
theorem fls_b (d : Dc) : 0 ≤ fls d ∧ fls d ≤ 240 := by
  unfold fls
  have h1 := bt_or (decide (0 ≤ d.pic)) 128
  have h2 := bt_or (decide (0 ≤ d.lv)) 64
  have h3 := bt_or (decide (0 ≤ d.ly)) 32
  have h4 := bt_or (decide (0 ≤ d.ky)) 16
  omega
theorem fls_more (d : Dc) : moreB d = decide (fls d ≠ 0) := by
  unfold moreB fls
  by_cases h1 : 0 ≤ d.pic <;> by_cases h2 : 0 ≤ d.lv <;> by_cases h3 : 0 ≤ d.ly <;> by_cases h4 : 0 ≤ d.ky <;> simp [h1, h2, h3, h4, bt]
theorem fls_bits (d : Dc) : fls d / 128 % 2 = bt (decide (0 ≤ d.pic)) 1 ∧ fls d / 64 % 2 = bt (decide (0 ≤ d.lv)) 1 ∧ fls d / 32 % 2 = bt (decide (0 ≤ d.ly)) 1 ∧ fls d / 16 % 2 = bt (decide (0 ≤ d.ky)) 1 ∧ fls d / 16 % 4 = bt (decide (0 ≤ d.ly)) 2 + bt (decide (0 ≤ d.ky)) 1 := by
  unfold fls
  by_cases h1 : 0 ≤ d.pic <;> by_cases h2 : 0 ≤ d.lv <;> by_cases h3 : 0 ≤ d.ly <;> by_cases h4 : 0 ≤ d.ky <;> simp [h1, h2, h3, h4, bt]
theorem E0_app (z : ByteArray) : E0 ++ z = z := E0_append z
/-- each part is read back -/
theorem sPic_txt {d : Dc} (ha : okA d) (hf : okF d) (z : ByteArray) : sPic (fls d) (tPic d ++ z, 0) = (d.pic, d.wd, z, 0) := by
  obtain ⟨h1, h2, h3, h4, h5, h6, h7, h8, h9, h10⟩ := ha
  obtain ⟨g1, g2, g3⟩ := hf
  unfold sPic tPic
  rw [(fls_bits d).1]
  by_cases hp : 0 ≤ d.pic
  · rw [if_pos (by simp [hp, bt]), if_pos hp]
    by_cases hw : d.wd = true
    · rw [if_pos hw]
      have e : numS 2 (d.pic + 32768) = b1 (128 + d.pic / 256) ++ b1 (d.pic % 256) := by
        simp only [numS]
        rw [show (d.pic + 32768) / 256 % 256 = 128 + d.pic / 256 by omega, show (d.pic + 32768) % 256 = d.pic % 256 by omega, E0_append]
      rw [e, ByteArray.append_assoc, t1_front (by omega), if_pos (by simp only; omega)]
      simp only
      rw [t1_front (by omega), hw, show (128 + d.pic / 256) % 128 * 256 + d.pic % 256 = d.pic by omega]
    · have hw' : d.wd = false := by simpa using hw
      rw [if_neg hw]
      have hle : d.pic ≤ 127 := by
        rcases Int.lt_or_le 127 d.pic with h | h
        · exact absurd ⟨h, hw'⟩ g2
        · exact h
      rw [t1_front (by omega), if_neg (by simp only; omega), hw', show d.pic % 128 = d.pic by omega]
  · have hw : d.wd = false := by
      cases h : d.wd with
      | false => rfl
      | true => exact absurd ⟨by omega, h⟩ g1
    rw [if_neg (by simp [hp, bt]), if_neg hp, hw, E0_append, show d.pic = -1 by omega]
theorem sLv_txt {d : Dc} (ha : okA d) (z : ByteArray) : sLv (fls d) (tLv d ++ z, 0) = (d.lv, z, 0) := by
  obtain ⟨h1, h2, h3, h4, h5, h6, h7, h8, h9, h10⟩ := ha
  unfold sLv tLv
  rw [(fls_bits d).2.1]
  by_cases hp : 0 ≤ d.lv
  · rw [if_pos (by simp [hp, bt]), if_pos hp, t1_front (by omega)]
  · rw [if_neg (by simp [hp, bt]), if_neg hp, E0_append, show d.lv = -1 by omega]
theorem sLast_txt {d : Dc} (ha : okA d) (hf : okF d) (z : ByteArray) : sLast (fls d) (tLast d ++ z, 0) = (d.ly, d.sy, d.ky, z, 0) := by
  obtain ⟨h1, h2, h3, h4, h5, h6, h7, h8, h9, h10⟩ := ha
  obtain ⟨g1, g2, g3⟩ := hf
  obtain ⟨_, _, e3, e4, e5⟩ := fls_bits d
  unfold sLast tLast
  rw [e3, e4, e5]
  by_cases h : 0 ≤ d.ly ∨ 0 ≤ d.ky
  · have hb := bt_or d.sy 32
    rw [if_pos (by rcases h with h | h <;> (simp only [h, decide_true, bt_t]; have := bt_or (decide (0 ≤ d.ly)) 2; have := bt_or (decide (0 ≤ d.ky)) 1; omega)), if_pos h, t1_front (by omega)]
    simp only
    by_cases hl : 0 ≤ d.ly
    · have e1 : (max d.ly 0 * 64 + bt d.sy 32 + max d.ky 0) / 64 = d.ly := by omega
      have e2 : (max d.ly 0 * 64 + bt d.sy 32 + max d.ky 0) / 32 % 2 = bt d.sy 1 := by
        cases d.sy <;> simp only [bt_t, bt_f] <;> omega
      rw [e1, e2]
      have e6 : (if bt (decide (0 ≤ d.ky)) 1 = 1 then (max d.ly 0 * 64 + bt d.sy 32 + max d.ky 0) % 32 else -1) = d.ky := by
        by_cases hk : 0 ≤ d.ky
        · simp only [hk, decide_true, bt_t, if_true]; omega
        · simp only [hk, decide_false, bt_f]; rw [if_neg (by omega)]; omega
      rw [e6]
      simp only [hl, decide_true, bt_t, if_true, Bool.true_and]
      cases d.sy <;> simp [bt]
    · have hs : d.sy = false := by
        cases h' : d.sy with
        | false => rfl
        | true => exact absurd ⟨by omega, h'⟩ g3
      have hk : 0 ≤ d.ky := by omega
      simp only [hl, hk, hs, decide_true, decide_false, bt_t, bt_f, if_true, Bool.false_and]
      rw [if_neg (by omega), show max d.ly 0 * 64 + 0 + max d.ky 0 = d.ky by omega, show d.ky % 32 = d.ky by omega, show d.ly = -1 by omega]
      simp
  · have hl : ¬ 0 ≤ d.ly := fun h' => h (.inl h')
    have hk : ¬ 0 ≤ d.ky := fun h' => h (.inr h')
    have hs : d.sy = false := by
      cases h' : d.sy with
      | false => rfl
      | true => exact absurd ⟨by omega, h'⟩ g3
    rw [if_neg (by simp [hl, hk, bt]), if_neg h, E0_append, hs, show d.ly = -1 by omega, show d.ky = -1 by omega]
theorem first_b (d : Dc) (ha : okA d) : 0 ≤ bt (moreB d) 128 + bt d.nr 32 + bt d.st 16 + d.pt ∧ bt (moreB d) 128 + bt d.nr 32 + bt d.st 16 + d.pt ≤ 255 := by
  obtain ⟨h1, h2, _⟩ := ha
  have := bt_or (moreB d) 128; have := bt_or d.nr 32; have := bt_or d.st 16
  omega
/-- a valid descriptor's bytes are read back -/
theorem prs_txt {d : Dc} (ha : okA d) (hf : okF d) (z : ByteArray) : prs (txt d ++ z) = (d, z, 0) := by
  have hb := first_b d ha
  have h1 := ha.1
  have h2 := ha.2.1
  unfold prs txt
  rw [ByteArray.append_assoc, t1_front hb]
  obtain ⟨x, hx⟩ : ∃ x, bt (moreB d) 128 + bt d.nr 32 + bt d.st 16 + d.pt = x := ⟨_, rfl⟩
  have e1 : decide (x / 32 % 2 = 1) = d.nr := by
    have f1 : x / 32 % 2 = bt d.nr 1 := by
      subst hx
      have := bt_or (moreB d) 128; have := bt_or d.st 16; have := bt_or d.nr 1
      have h' : bt d.nr 32 = 32 * bt d.nr 1 := by cases d.nr <;> rfl
      omega
    rw [f1]; cases d.nr <;> rfl
  have e2 : decide (x / 16 % 2 = 1) = d.st := by
    have f1 : x / 16 % 2 = bt d.st 1 := by
      subst hx
      have := bt_or (moreB d) 128; have := bt_or d.nr 32; have := bt_or d.st 1
      have h' : bt d.st 16 = 16 * bt d.st 1 := by cases d.st <;> rfl
      omega
    rw [f1]; cases d.st <;> rfl
  have e3 : x % 8 = d.pt := by
    subst hx
    have := bt_or (moreB d) 128; have := bt_or d.nr 32; have := bt_or d.st 16
    omega
  have e4 : (127 < x) ↔ moreB d = true := by
    subst hx
    have := bt_or d.nr 32; have := bt_or d.st 16
    cases moreB d <;> simp only [bt_t, bt_f] <;> simp <;> omega
  rw [hx]
  simp only
  have hmain : ∀ r, sFl x ((if moreB d = true then b1 (fls d) ++ (tPic d ++ (tLv d ++ tLast d)) else E0) ++ z, 0) = r → r = (fls d, tPic d ++ (tLv d ++ (tLast d ++ z)), 0) := by
    intro r hr
    subst hr
    unfold sFl
    by_cases hm : moreB d = true
    · have := fls_b d
      rw [if_pos (e4.2 hm), if_pos hm, ByteArray.append_assoc, t1_front (by omega), ByteArray.append_assoc, ByteArray.append_assoc]
    · have hz : fls d = 0 := by
        have := fls_more d
        by_cases h0 : fls d = 0
        · exact h0
        · rw [this] at hm; simp [h0] at hm
      rw [if_neg (fun h => hm (e4.1 h)), if_neg hm, hz]
      have hb2 := fls_bits d
      rw [hz] at hb2
      obtain ⟨f1, f2, f3, f4, _⟩ := hb2
      have g1 : ¬ 0 ≤ d.pic := fun h => by simp [h, bt] at f1
      have g2 : ¬ 0 ≤ d.lv := fun h => by simp [h, bt] at f2
      have g3 : ¬ 0 ≤ d.ly := fun h => by simp [h, bt] at f3
      have g4 : ¬ 0 ≤ d.ky := fun h => by simp [h, bt] at f4
      unfold tPic tLv tLast
      rw [if_neg g1, if_neg g2, if_neg (by omega)]
      simp only [E0_append]
  rw [hmain _ rfl]
  simp only
  rw [sPic_txt ha hf]
  simp only
  rw [sLv_txt ha]
  simp only
  rw [sLast_txt ha hf]
  unfold mkD
  simp only
  rw [if_neg (by simp), e1, e2, e3]
end Go.Proofs.Ytlhlidmhlhodiaa
