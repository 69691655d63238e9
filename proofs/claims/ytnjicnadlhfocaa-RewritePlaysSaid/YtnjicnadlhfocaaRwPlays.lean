/-
  RewritePlays: any frames of any sources.
-/
import Derived.Test.YtnjicnadlhfocaaRwRF
import Derived.Test.YtnjicnadlhfocaaRwStream
namespace Go.Proofs.Ytnjicnadlhfocaa
set_option linter.unusedSimpArgs false
set_option linter.unusedVariables false
open Go.RowKit
attribute [local irreducible] Pv WO WC Fn
set_option maxRecDepth 100000
attribute [local irreducible] ByteArray.extract

theorem pSame (mrk : Bool) (kd sq t ss : Int) (pl : ByteArray) : Fn Try.prog 38 #[.agg (pkR mrk kd sq t ss pl).toArray, .agg (pkR mrk kd sq t ss pl).toArray] [] [] (fun v L' R' => v = .int .i64 0 ∧ L' = [] ∧ R' = []) := by
  refine fn_intro Try.func38 rfl Try.ntmps38 rfl (fun E => ?_)
  (repeat (first | ((first | (apply wo_v; rfl) ); (· first | (apply pv_ev; rfl) | (apply pv_fld; rfl) | (apply g_load; first | (apply pv_ld; rfl; (· (repeat (first | apply sel_here | apply sel_there))); rfl) ) | (apply g_bi; first | (apply pv_len_sl; rfl) ) )) | apply wo_nil | apply wc_seq | apply wc_region | apply wc_skip | (apply wc_true; rfl) | (apply wc_false; rfl) | (apply wo_box1; rfl; rfl; rfl; intro bx) | (apply wo_boxa; rfl; rfl; intro bx) ))
  refine wc_join0 (fun st => ∃ b1 b2, st = ⟨[(2, .pointer (some ⟨b1, 0, none⟩)), (3, .pointer (some ⟨b2, 0, none⟩))], [.ob b1 (.cells (pkR mrk kd sq t ss pl).toArray pkT (0, 0)), .ob b2 (.cells (pkR mrk kd sq t ss pl).toArray 115 (0, 0))], []⟩) ?_ ?_
  · rename_i bo
    refine wc_block ?_
    refine wc_loop' (fun q st => q = 1 ∧ st = ⟨[(2, .pointer (some ⟨bo, 0, none⟩)), (3, .pointer (some ⟨bx, 0, none⟩)), (15, .int .i64 0), (16, .int .i64 0)], [.ob bo (.cells (pkR mrk kd sq t ss pl).toArray pkT (0, 0)), .ob bx (.cells (pkR mrk kd sq t ss pl).toArray 115 (0, 0))], []⟩) ⟨rfl, rfl⟩ (wk_mk (by (repeat (first | apply wkf_nil | (apply wkf_cons; rfl))); done) (by (repeat (first | apply sub_nil | (apply sub_cons; (· (repeat (first | apply sel_here | apply sel_there)))))); done) (by first | exact fun _ h => h | (intro r hr; cases hr; done) | (simp; done) | exact fun _ h => List.mem_append_left _ h | (intro r hr; simp [hr]; done))) ?_
    rintro q st ⟨rfl, rfl⟩
    (repeat (first | ((first | (apply wo_v; rfl) ); (· first | (apply pv_ev; rfl) )) | apply wo_nil | apply wc_seq | apply wc_region | (apply wc_exit; rfl) | (apply wc_true; rfl) | (apply wc_false; rfl) ))
    exact cut_end ⟨bo, bx, rfl⟩ (wk_mk (by (repeat (first | apply wkf_nil | (apply wkf_cons; rfl))); done) (by (repeat (first | apply sub_nil )); done) (by first | exact fun _ h => h | (intro r hr; cases hr; done) | (simp; done) | exact fun _ h => List.mem_append_left _ h | (intro r hr; simp [hr]; done)))
  rintro st ⟨b1, b2, rfl⟩
  (repeat (first | ((first | (apply wo_v; rfl) ); (· first | (apply pv_ev; rfl) | (apply pv_fld; rfl) | (apply g_load; first | (apply pv_ld; rfl; (· (repeat (first | apply sel_here | apply sel_there))); rfl) ) | (apply g_pick; first | (apply pv_pick_t; rfl; rfl) | (apply pv_pick_f; rfl; rfl)) | (apply g_bin; first | (apply pv_neq_b; rfl; rfl) | (apply pv_neq_s; rfl; rfl) ) )) | apply wo_nil | apply wc_seq | apply wc_region | apply wc_skip | apply wc_ret | (apply wc_true; rfl) | (apply wc_false; rfl) | (apply wo_run; rfl; rfl) | (apply wo_skip; rfl; rfl; rfl; rfl) | (apply wo_skip_u; rfl; rfl; rfl) | (apply a_gt; rfl; rfl; (· first | assumption | omega)) | (apply a_gf; rfl; rfl; (· first | assumption | omega)) | (apply a_gt; rfl; rfl; (· first | (simp; done) | (simp; omega))) | (apply a_gf; rfl; rfl; (· first | (simp; done) | (simp; omega))) ))
  exact ret1 rfl rfl ⟨rfl, rfl, rfl⟩ ((by (repeat (first | apply sub_nil )); done) : List.Perm _ ([] ++ _)) (by first | exact fun _ h => h | (intro r hr; cases hr; done) | (simp; done) | exact fun _ h => List.mem_append_left _ h | (intro r hr; simp [hr]; done))
theorem pLen (mrk : Bool) (kd sq t ss : Int) (pl : ByteArray) (h : pl.size ≤ 100000) : Fn Try.prog 69 #[.agg (pkR mrk kd sq t ss pl).toArray] [] [] (fun v L' R' => v = .int .i64 (12 + pl.size) ∧ L' = [] ∧ R' = []) := by
  refine fn_intro Try.func69 rfl Try.ntmps69 rfl (fun E => ?_)
  (repeat (first | ((first | (apply wo_v; rfl) ); (· first | (apply pv_ev; rfl) | (apply pv_fld; rfl) | (apply g_load; first | (apply pv_ld; rfl; (· (repeat (first | apply sel_here ))); rfl) ) | (apply g_bin; first | (apply a_add; rfl; rfl; infer_instance; omega) | (apply a_mul; rfl; rfl; infer_instance; omega) ) | (apply g_bi; first | (apply pv_len_sl; rfl) | (apply pv_len_str; rfl) ) )) | apply wo_nil | apply wc_seq | apply wc_region | apply wc_skip | apply wc_ret | (apply wc_true; rfl) | (apply wc_false; rfl) | (apply wo_box1; rfl; rfl; rfl; intro bx) | (apply wo_boxa; rfl; rfl; intro bx) ))
  exact ret1 rfl rfl ⟨by simp, rfl, rfl⟩ ((by (repeat (first | apply sub_nil )); done) : List.Perm _ ([] ++ _)) (by first | exact fun _ h => h | (intro r hr; cases hr; done) | (simp; done) | exact fun _ h => List.mem_append_left _ h | (intro r hr; simp [hr]; done))
theorem pCheck (mrk : Bool) (kd sq t ss : Int) (pl : ByteArray) (hk : kd ≤ 127) (h : pl.size ≤ 1400) : Fn Try.prog 39 #[.agg (pkR mrk kd sq t ss pl).toArray] [] [] (fun v L' R' => v = .int .i64 0 ∧ L' = [] ∧ R' = []) := by
  have e0 : (ByteArray.empty).size = 0 := rfl
  refine fn_intro Try.func39 rfl Try.ntmps39 rfl (fun E => ?_)
  (repeat (first | ((first | (apply wo_v; rfl) ); (· first | (apply pv_ev; rfl) )) | apply wo_nil | apply wc_seq | apply wc_region | (apply wo_box1; rfl; rfl; rfl; intro bx) | (apply wo_boxa; rfl; rfl; intro bx) ))
  refine wc_block ?_
  (repeat (first | ((first | (apply wo_v; rfl) ); (· first | (apply pv_ev; rfl) | (apply pv_fld; rfl) | (apply g_load; first | (apply pv_ld; rfl; (· (repeat (first | apply sel_here ))); rfl) | (apply pv_lda; rfl; (· (repeat (first | apply sel_here ))); (· (repeat (first | apply Cut.here0 | apply Cut.here )))) ) | (apply g_pick; first | (apply pv_pick_t; rfl; rfl) | (apply pv_pick_f; rfl; rfl)) | (apply g_bin; first | (apply a_quo; rfl; rfl; infer_instance; omega) | (apply pv_rem; rfl; rfl; omega) | (apply pv_neq_s; rfl; rfl) ) | (apply g_bi; first | (apply pv_len_sl; rfl) | (apply pv_len_str; rfl) ) | (apply g_un; first | (apply pv_not_t; rfl) | (apply pv_not_f; rfl) ) )) | apply wo_nil | apply wc_seq | apply wc_region | (apply wc_true; rfl) | (apply wc_false; rfl) | (apply wo_run; rfl; rfl) | (apply wo_skip; rfl; rfl; rfl; rfl) | (apply wo_skip_u; rfl; rfl; rfl) | (apply a_gt; rfl; rfl; (· first | assumption | omega)) | (apply a_gf; rfl; rfl; (· first | assumption | omega)) ))
  (refine wo_call (pLen mrk kd sq t ss pl (by omega)) rfl (by (repeat (first | apply sub_nil )); done) (by first | exact fun _ h => h | (intro r hr; cases hr; done) | (simp; done) | exact fun _ h => List.mem_append_left _ h | (intro r hr; simp [hr]; done)) rfl ?_; rintro v L' R' ⟨rfl, rfl, rfl⟩ H' hH RR hR; simp only [List.cons_append, List.nil_append] at hH hR; subst hH; have hR := hR.symm; subst hR)
  (repeat (first | ((first | (apply wo_v; rfl) ); (· first | (apply pv_ev; rfl) )) | apply wo_nil | apply wc_seq | apply wc_region | apply wc_skip | apply wc_ret | (apply wc_true; rfl) | (apply wc_false; rfl) | (apply a_dec_t; rfl; (· first | assumption | omega)) | (apply a_dec_f; rfl; (· first | assumption | omega)) ))
  exact ret1 rfl rfl ⟨rfl, rfl, rfl⟩ ((by (repeat (first | apply sub_nil )); done) : List.Perm _ ([] ++ _)) (by first | exact fun _ h => h | (intro r hr; cases hr; done) | (simp; done) | exact fun _ h => List.mem_append_left _ h | (intro r hr; simp [hr]; done))
theorem rwCounts (g : Nat) (vi : Bool) (ss kd sq pic lv src sh la : Int) (be : Bool) (fr pk by_ : Int) :
    Fn Try.prog 40 #[.pointer (some ⟨g, 0, none⟩)] [otI g vi ss kd sq pic lv src sh la be fr pk by_] [] (fun v L' R' => v = .tuple #[.int .i64 fr, .int .i64 pk, .int .i64 by_] ∧ L' = [otI g vi ss kd sq pic lv src sh la be fr pk by_] ∧ R' = []) := by
  refine fn_intro Try.func40 rfl Try.ntmps40 rfl (fun E => ?_)
  (repeat (first | ((first | (apply wo_v; rfl) ); (· first | (apply pv_ev; rfl) )) | apply wo_nil | apply wc_seq | apply wc_region ))
  (refine wc_quiet mixed (by kernel_rfl) ?_; (repeat (first | ((first | (apply hd_v; rfl) ); (· first | (apply pv_ev; rfl) | (apply pv_fld; rfl) | (apply g_load; first | (apply pv_ld; rfl; (· (repeat (first | apply sel_here ))); rfl) ) )) | apply Hd.nil | apply wc_ret )))
  exact ret3 rfl rfl rfl rfl ⟨rfl, rfl, rfl⟩ ((by (repeat (first | apply sub_nil )); done) : List.Perm _ ([] ++ _)) (by first | exact fun _ h => h | (intro r hr; cases hr; done) | (simp; done) | exact fun _ h => List.mem_append_left _ h | (intro r hr; simp [hr]; done))
theorem rwSsrc (g : Nat) (vi : Bool) (ss kd sq pic lv src sh la : Int) (be : Bool) (fr pk by_ : Int) :
    Fn Try.prog 42 #[.pointer (some ⟨g, 0, none⟩)] [otI g vi ss kd sq pic lv src sh la be fr pk by_] [] (fun v L' R' => v = .int .u32 ss ∧ L' = [otI g vi ss kd sq pic lv src sh la be fr pk by_] ∧ R' = []) := by
  refine fn_intro Try.func42 rfl Try.ntmps42 rfl (fun E => ?_)
  (repeat (first | ((first | (apply wo_v; rfl) ); (· first | (apply pv_ev; rfl) | (apply pv_fld; rfl) | (apply g_load; first | (apply pv_ld; rfl; (· (repeat (first | apply sel_here ))); rfl) ) )) | apply wo_nil | apply wc_seq | apply wc_region | apply wc_ret ))
  exact ret1 rfl rfl ⟨rfl, rfl, rfl⟩ ((by (repeat (first | apply sub_nil )); done) : List.Perm _ ([] ++ _)) (by first | exact fun _ h => h | (intro r hr; cases hr; done) | (simp; done) | exact fun _ h => List.mem_append_left _ h | (intro r hr; simp [hr]; done))
theorem rwTold (g : Nat) (vi : Bool) (ss kd sq pic lv src sh la : Int) (be : Bool) (fr pk by_ s t : Int) (ok : Bool) (r : Int) (hok : ok = (be && decide (s = src))) (hr : r = if ok = true then (t + sh) % 4294967296 else 0) (hb : 0 ≤ t ∧ t ≤ 1099511627776 ∧ -1099511627776 ≤ sh ∧ sh ≤ 1099511627776) :
    Fn Try.prog 41 #[.pointer (some ⟨g, 0, none⟩), .int .i64 s, .int .i64 t] [otI g vi ss kd sq pic lv src sh la be fr pk by_] [] (fun v L' R' => v = .tuple #[.int .u32 r, .bool ok] ∧ L' = [otI g vi ss kd sq pic lv src sh la be fr pk by_] ∧ R' = []) := by
  subst hr
  cases be with
  | false =>
    obtain rfl : ok = false := hok
    refine fn_intro Try.func41 rfl Try.ntmps41 rfl (fun E => ?_)
    (repeat (first | ((first | (apply wo_v; rfl) ); (· first | (apply pv_ev; rfl) | (apply pv_fld; rfl) | (apply g_load; first | (apply pv_ld; rfl; (· (repeat (first | apply sel_here ))); rfl) ) | (apply g_pick; first | (apply pv_pick_t; rfl; rfl) ) | (apply g_un; first | (apply pv_not_t; rfl) | (apply pv_not_f; rfl) ) )) | apply wo_nil | apply wc_seq | apply wc_region | apply wc_ret | (apply wc_true; rfl) | (apply wo_run; rfl; rfl) | (apply wo_skip; rfl; rfl; rfl; rfl) ))
    exact ret2 rfl rfl rfl ⟨rfl, rfl, rfl⟩ ((by (repeat (first | apply sub_nil )); done) : List.Perm _ ([] ++ _)) (by first | exact fun _ h => h | (intro r hr; cases hr; done) | (simp; done) | exact fun _ h => List.mem_append_left _ h | (intro r hr; simp [hr]; done))
  | true =>
    by_cases h : s = src
    · obtain rfl : ok = true := by rw [hok]; simp [h]
      refine fn_intro Try.func41 rfl Try.ntmps41 rfl (fun E => ?_)
      (repeat (first | ((first | (apply wo_v; rfl) ); (· first | (apply pv_ev; rfl) | (apply pv_fld; rfl) | (apply g_load; first | (apply pv_ld; rfl; (· (repeat (first | apply sel_here ))); rfl) ) | (apply g_pick; first | (apply pv_pick_t; rfl; rfl) | (apply pv_pick_f; rfl; rfl)) | (apply g_bin; first | (apply a_add; rfl; rfl; infer_instance; omega) ) | (apply g_un; first | (apply pv_not_t; rfl) ) | (apply g_conv; first | (apply a_conv; rfl; infer_instance; infer_instance; infer_instance; omega) | (apply a_conv_u; rfl; infer_instance; infer_instance; infer_instance) ) )) | apply wo_nil | apply wc_seq | apply wc_region | apply wc_skip | apply wc_ret | (apply wc_true; rfl) | (apply wc_false; rfl) | (apply a_dec_t; rfl; (· first | assumption | omega)) | (apply a_dec_f; rfl; (· first | assumption | omega)) | (apply wo_run; rfl; rfl) ))
      exact ret2 rfl rfl rfl ⟨rfl, rfl, rfl⟩ ((by (repeat (first | apply sub_nil )); done) : List.Perm _ ([] ++ _)) (by first | exact fun _ h => h | (intro r hr; cases hr; done) | (simp; done) | exact fun _ h => List.mem_append_left _ h | (intro r hr; simp [hr]; done))
    · obtain rfl : ok = false := by rw [hok]; simp [h]
      refine fn_intro Try.func41 rfl Try.ntmps41 rfl (fun E => ?_)
      (repeat (first | ((first | (apply wo_v; rfl) ); (· first | (apply pv_ev; rfl) | (apply pv_fld; rfl) | (apply g_load; first | (apply pv_ld; rfl; (· (repeat (first | apply sel_here ))); rfl) ) | (apply g_pick; first | (apply pv_pick_t; rfl; rfl) | (apply pv_pick_f; rfl; rfl)) | (apply g_un; first | (apply pv_not_t; rfl) ) )) | apply wo_nil | apply wc_seq | apply wc_region | apply wc_ret | (apply wc_true; rfl) | (apply wc_false; rfl) | (apply a_dec_t; rfl; (· first | assumption | omega)) | (apply wo_run; rfl; rfl) ))
      exact ret2 rfl rfl rfl ⟨rfl, rfl, rfl⟩ ((by (repeat (first | apply sub_nil )); done) : List.Perm _ ([] ++ _)) (by first | exact fun _ h => h | (intro r hr; cases hr; done) | (simp; done) | exact fun _ h => List.mem_append_left _ h | (intro r hr; simp [hr]; done))
theorem pkN_pp {vi : Bool} {kd sq t ss pic lv : Int} {U : List Un} : ∀ {i : Nat}, i ≤ U.length → ∀ {j : Nat} {p : Pm}, (pkN vi kd sq t ss pic lv U i)[j]? = some p → ∃ u, U[j]? = some u ∧ p.pl = payM vi pic lv u.tx
  | 0, _, j, p, h => by simp [pkN] at h
  | i + 1, hi, j, p, h => by
    have hl := pkN_len vi kd sq t ss pic lv U i (by omega)
    have hu : U[i]? = some U[i] := List.getElem?_eq_getElem (show i < U.length by omega)
    rw [pkN, hu] at h
    simp only at h
    by_cases hj : j < i
    · rw [List.getElem?_append_left (by omega)] at h
      exact pkN_pp (by omega) h
    · rw [List.getElem?_append_right (by omega), hl] at h
      have : j - i = 0 := by
        have := (List.getElem?_eq_some_iff.1 h).1; simp at this; omega
      rw [this] at h
      simp at h
      subst h
      have e : j = i := by omega
      subst e
      exact ⟨_, hu, rfl⟩
def frS (o : Ot) (s : Int) : List Un → Ot × List Pm
  | [] => (o, [])
  | u :: U => (⟨o.vi, o.ss, o.kd, sqI o.sq (U.length + 1), picM o.vi o.pic, lvM o.vi o.lv u.tx, s, shM o.src o.sh o.la o.be s u.ti, laM o.src o.sh o.la o.be s u.ti, true, o.fr + 1, o.pk + ((U.length + 1 : Nat) : Int), o.by_ + byN o.vi (picM o.vi o.pic) (lvM o.vi o.lv u.tx) (u :: U) (U.length + 1)⟩,
      pkN o.vi o.kd o.sq (laM o.src o.sh o.la o.be s u.ti % 4294967296) o.ss (picM o.vi o.pic) (lvM o.vi o.lv u.tx) (u :: U) (U.length + 1))
structure OB (o : Ot) (now : Int) (i : Nat) : Prop where
  sq : 0 ≤ o.sq ∧ o.sq ≤ 65535
  pic : -1 ≤ o.pic ∧ o.pic ≤ 32767
  lv : -1 ≤ o.lv ∧ o.lv ≤ 255
  la : 0 ≤ o.la ∧ o.la ≤ 4400000000 + 65535 * 101 * i
  k1 : o.be = true → now + o.sh ≤ o.la + 65535 * i
  sh : -4400000000 ≤ o.sh ∧ o.sh ≤ 10000000000
  k4 : o.be = false → o.sh = 0
  fr : 0 ≤ o.fr ∧ o.fr ≤ i
  pk : 0 ≤ o.pk ∧ o.pk ≤ 4 * i
  by_ : 0 ≤ o.by_ ∧ o.by_ ≤ 4032 * i
  be : o.be = decide (0 < o.fr)
theorem OB.step {o : Ot} {now nw s : Int} {i : Nat} {U : List Un} (h : OB o now i) (hi : i ≤ 100) (hn : 0 ≤ nw ∧ nw ≤ now + 65535 ∧ nw ≤ 4400000000) (hu : ∀ u ∈ U, u.tx.size ≤ 1000 ∧ u.ti = nw) (hl : U.length ≤ 4) : OB (frS o s U).1 nw (i + 1) := by
  obtain ⟨vi, ss, kd, sq, pic, lv, src, sh, la, be, fr, pk, by_⟩ := o
  obtain ⟨h1, h2, h3, h4, h5, h6, h7, h8, h9, h10, h11⟩ := h
  dsimp only at h1 h2 h3 h4 h5 h6 h7 h8 h9 h10 h11
  rcases U with _ | ⟨u, U⟩
  · refine ⟨h1, h2, h3, ?_, ?_, h6, h7, ?_, ?_, ?_, h11⟩ <;> simp only [frS]
    · omega
    · intro e; have := h5 e; omega
    · omega
    · omega
    · omega
  · have hti := (hu u (.head _)).2
    have htm := tm_step (s := s) (now := nw) (i := i) (by omega) (by omega) h4.1 (fun e => by have := h5 e; omega) h6.1 (src := src) (sh := sh) (la := la) (be := be)
    have hby := byN_b vi (picM vi pic) (lvM vi lv u.tx) (u :: U) (fun x hx => (hu x hx).1) (U.length + 1)
    have hsq := sqI_b h1 (U.length + 1)
    have hpc : -1 ≤ picM vi pic ∧ picM vi pic ≤ 32767 := by unfold picM; split <;> omega
    have hlv : -1 ≤ lvM vi lv u.tx ∧ lvM vi lv u.tx ≤ 255 := by unfold lvM nlM; split <;> (try split) <;> omega
    simp only [List.length_cons] at hl
    simp only [frS]
    rw [hti]
    generalize laM src sh la be s nw = la2, shM src sh la be s nw = sh2 at htm
    have hla2 : 0 ≤ la2 ∧ la2 ≤ 4400000000 + 65535 * 101 * (i + 1) := by
      cases be with
      | true => have := htm.1 rfl; omega
      | false => have := htm.2.1 rfl; omega
    obtain ⟨_, _, ht3, ht4⟩ := htm
    refine ⟨hsq, hpc, hlv, ?_, ?_, ?_, ?_, ?_, ?_, ?_, ?_⟩ <;> dsimp only
    · omega
    · intro _; omega
    · omega
    · intro e; cases e
    · omega
    · omega
    · omega
    · exact (decide_eq_true (by omega)).symm
theorem frS_keep (o : Ot) (s : Int) (U : List Un) : (frS o s U).1.vi = o.vi ∧ (frS o s U).1.ss = o.ss ∧ (frS o s U).1.kd = o.kd := by
  cases U <;> exact ⟨rfl, rfl, rfl⟩
theorem frS_P (o : Ot) (s : Int) (U : List Un) (hu : ∀ u ∈ U, u.tx.size ≤ 1000) : (frS o s U).2.length = U.length ∧ ∀ p ∈ (frS o s U).2, p.kd = o.kd ∧ p.pl.size ≤ 1008 := by
  rcases U with _ | ⟨u, U⟩
  · exact ⟨rfl, fun p hp => by cases hp⟩
  · refine ⟨pkN_len _ _ _ _ _ _ _ _ _ (by simp), fun p hp => ?_⟩
    obtain ⟨j, hj⟩ := List.mem_iff_getElem?.1 hp
    obtain ⟨x, hx, hpl⟩ := pkN_pp (by simp) hj
    obtain ⟨_, hk, _⟩ := pkN_at (by simp) hj
    have h1 := hu x (List.mem_of_getElem? hx)
    have h2 := payM_le o.vi (picM o.vi o.pic) (lvM o.vi o.lv u.tx) x.tx
    rw [hpl]
    exact ⟨hk, by omega⟩
theorem rwFrame0' (g : Nat) (vi : Bool) (ss kd sq pic lv src sh la : Int) (be : Bool) (fr pk by_ : Int) (s : Int) (ao : Option Addr) (c : Nat) (R : List Ro) :
    Fn Try.prog 31 #[.pointer (some ⟨g, 0, none⟩), .int .i64 s, .agg #[.slice ao 0 c]] [otI g vi ss kd sq pic lv src sh la be fr pk by_] R
      (fun v L' R' => v = .slice none 0 0 ∧ L' = [otI g vi ss kd sq pic lv src sh la be fr pk by_, .own pkT 11 none 0 0 []] ∧ R' = []) := by
  refine fn_intro Try.func31 rfl Try.ntmps31 rfl (fun E => ?_)
  refine wc_own0 pkT 11 ?_
  (repeat (first | ((first | (apply wo_v; rfl) ); (· first | (apply pv_ev; rfl) | (apply pv_fld; rfl) | (apply g_load; first | (apply pv_ld; rfl; (· (repeat (first | apply sel_here ))); rfl) ) | (apply g_bi; first | (apply pv_len_sl; rfl) ) )) | apply wo_nil | apply wc_seq | apply wc_region | apply wc_ret | (apply wc_true; rfl) | (apply wo_box1; rfl; rfl; rfl; intro bx) | (apply wo_boxa; rfl; rfl; intro bx) ))
  exact ret1 rfl rfl ⟨rfl, rfl, rfl⟩ ((by (repeat (first | apply sub_nil | (apply sub_cons; (· (repeat (first | apply sel_here | apply sel_there)))))); done) : List.Perm _ ([] ++ _)) (by first | exact fun _ h => h | (intro r hr; cases hr; done) | (simp; done) | exact fun _ h => List.mem_append_left _ h | (intro r hr; simp [hr]; done))
theorem rwFrameA (g : Nat) (o : Ot) (s : Int) (ao : Option Addr) (n c : Nat) (U : List Un) (R : List Ro) (hS : SR R 7 ao n c (urs U)) {now nw : Int} {i : Nat} (h : OB o now i) (hi : i ≤ 100) (hn : 0 ≤ nw ∧ nw ≤ now + 65535 ∧ nw ≤ 4400000000) (hu : ∀ u ∈ U, u.tx.size ≤ 1000 ∧ u.ti = nw) (hl : U.length ≤ 4) :
    Fn Try.prog 31 #[.pointer (some ⟨g, 0, none⟩), .int .i64 s, .agg #[.slice ao n c]] [o.it g] R
      (fun v L' R' => ∃ ao' c', v = .slice ao' (frS o s U).2.length c' ∧ L' = [(frS o s U).1.it g, pkO ao' c' (frS o s U).2] ∧ R' = []) := by
  obtain ⟨vi, ss, kd, sq, pic, lv, src, sh, la, be, fr, pk, by_⟩ := o
  obtain ⟨h1, h2, h3, h4, h5, h6, h7, h8, h9, h10, h11⟩ := h
  dsimp only at h1 h2 h3 h4 h5 h6 h7 h8 h9 h10 h11
  have hn' : n = U.length := by rw [← hS.len]; simp
  subst hn'
  rcases U with _ | ⟨u, U⟩
  · refine Fn.mono (rwFrame0' g vi ss kd sq pic lv src sh la be fr pk by_ s ao c R) ?_
    rintro v L' R' ⟨rfl, rfl, rfl⟩
    exact ⟨none, 0, rfl, rfl, rfl⟩
  · have hti := (hu u (.head _)).2
    refine Fn.mono (rwFrame g vi ss kd sq pic lv src sh la be fr pk by_ s ao _ c u U R hS (by omega) (by omega) (by omega) (fun x hx => (hu x hx).1) (by simp at hl; omega)) ?_
    rintro v L' R' ⟨ao', c', _, rfl, rfl, rfl⟩
    exact ⟨ao', c', rfl, rfl, rfl⟩
theorem rFrameA (o : Ot) (s : Int) (ao : Option Addr) (n c : Nat) (U : List Un) (R : List Ro) (hS : SR R 7 ao n c (urs U)) {now nw : Int} {i : Nat} (h : OB o now i) (hi : i ≤ 100) (hn : 0 ≤ nw ∧ nw ≤ now + 65535 ∧ nw ≤ 4400000000) (hu : ∀ u ∈ U, u.tx.size ≤ 1000 ∧ u.ti = nw) (hl : U.length ≤ 4) :
    Fn Try.prog 37 #[.agg (orL o.vi o.ss o.kd o.sq o.pic o.lv o.src o.sh o.la o.fr o.pk o.by_).toArray, .int .i64 s, .slice ao n c] [] R
      (fun v L' R' => ∃ ao' c', v = .tuple #[.agg (orL (frS o s U).1.vi (frS o s U).1.ss (frS o s U).1.kd (frS o s U).1.sq (frS o s U).1.pic (frS o s U).1.lv (frS o s U).1.src (frS o s U).1.sh (frS o s U).1.la (frS o s U).1.fr (frS o s U).1.pk (frS o s U).1.by_).toArray, .slice ao' (frS o s U).2.length c']
        ∧ L' = [rkO ao' c' (frS o s U).2]) := by
  obtain ⟨vi, ss, kd, sq, pic, lv, src, sh, la, be, fr, pk, by_⟩ := o
  obtain ⟨h1, h2, h3, h4, h5, h6, h7, h8, h9, h10, h11⟩ := h
  dsimp only at h1 h2 h3 h4 h5 h6 h7 h8 h9 h10 h11
  have hn' : n = U.length := by rw [← hS.len]; simp
  subst hn'
  rcases U with _ | ⟨u, U⟩
  · refine Fn.mono (rFrame0 vi ss kd sq pic lv src sh la fr pk by_ s ao c R) ?_
    rintro v L' R' ⟨ao', c', rfl, rfl⟩
    exact ⟨ao', c', rfl, rfl⟩
  · have hti := (hu u (.head _)).2
    refine Fn.mono (rFrame vi ss kd sq pic lv src sh la fr pk by_ s ao _ c u U R be h11 hS (by omega) (by omega) (by omega) (by omega) (fun x hx => (hu x hx).1) (by simp at hl; omega)) ?_
    rintro v L' R' ⟨ao', c', rfl, rfl⟩
    exact ⟨ao', c', rfl, rfl⟩
end Go.Proofs.Ytnjicnadlhfocaa
