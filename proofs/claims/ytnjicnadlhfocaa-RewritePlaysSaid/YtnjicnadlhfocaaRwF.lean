/-
  Package rewrite: Frame.
-/
import Derived.Test.YtnjicnadlhfocaaRw
namespace Go.Proofs.Ytnjicnadlhfocaa
set_option linter.unusedSimpArgs false
set_option linter.unusedVariables false
open Go.RowKit
attribute [local irreducible] Pv WO WC Fn
set_option maxRecDepth 100000
attribute [local irreducible] ByteArray.extract

structure Pm where
  mrk : Bool
  kd : Int
  sq : Int
  t : Int
  ss : Int
  pl : ByteArray
abbrev pkT : TypeId := 107
abbrev pkR (mrk : Bool) (kd sq t ss : Int) (pl : ByteArray) : List Value := [.bool mrk, .int .u8 kd, .int .u16 sq, .int .u32 t, .int .u32 ss, .slice none 0 0, .bool false, .int .u16 0, .string ByteArray.empty, .string pl, .int .i64 0]
def prow (p : Pm) : List Value := pkR p.mrk p.kd p.sq p.t p.ss p.pl
abbrev prs' (P : List Pm) : List (List Value) := P.map prow
theorem prs'_at {P : List Pm} {j : Nat} {p : Pm} (h : P[j]? = some p) : (prs' P)[j]? = some (pkR p.mrk p.kd p.sq p.t p.ss p.pl) := by
  rw [List.getElem?_map, h]; rfl
abbrev pkO (ao : Option Addr) (c : Nat) (P : List Pm) : It := .own pkT 11 ao P.length c (prs' P)
def sqI (sq : Int) : Nat → Int
  | 0 => sq
  | i + 1 => (sqI sq i + 1) % 65536
def pkN (vi : Bool) (kd sq t ss pic lv : Int) (U : List Un) : Nat → List Pm
  | 0 => []
  | i + 1 => match U[i]? with
    | some u => pkN vi kd sq t ss pic lv U i ++ [⟨u.mrk, kd, sqI sq i, t, ss, payM vi pic lv u.tx⟩]
    | none => pkN vi kd sq t ss pic lv U i
def byN (vi : Bool) (pic lv : Int) (U : List Un) : Nat → Int
  | 0 => 0
  | i + 1 => match U[i]? with
    | some u => byN vi pic lv U i + (payM vi pic lv u.tx).size
    | none => byN vi pic lv U i
theorem pkN_len (vi : Bool) (kd sq t ss pic lv : Int) (U : List Un) : ∀ i, i ≤ U.length → (pkN vi kd sq t ss pic lv U i).length = i
  | 0, _ => rfl
  | i + 1, h => by
    rw [pkN, List.getElem?_eq_getElem (by omega)]
    simp [pkN_len vi kd sq t ss pic lv U i (by omega)]
theorem byN_b (vi : Bool) (pic lv : Int) (U : List Un) (h : ∀ u ∈ U, u.tx.size ≤ 1000) : ∀ i : Nat, 0 ≤ byN vi pic lv U i ∧ byN vi pic lv U i ≤ 1008 * i
  | 0 => by simp [byN]
  | i + 1 => by
    have := byN_b vi pic lv U h i
    rw [byN]
    split
    · rename_i u hu
      have h1 := h u (List.mem_of_getElem? hu)
      have h2 := payM_le vi pic lv u.tx
      omega
    · omega
def picM (vi : Bool) (pic : Int) : Int := if vi = true then (pic + 1) % 32768 else pic
def lvM (vi : Bool) (lv : Int) (t : ByteArray) : Int := if vi = true then nlM lv t else lv
abbrev unI (bx : Nat) (x : Un) : It := .ob bx (.cells #[.int .i64 x.at_, .int .i64 x.ti, .bool x.mrk, .bool x.st, .bool x.ky, .string x.tx, .int .i64 x.tk] 109 (0, 0))
def tblF (p : ByteArray) (r : List Value) : Nat → List It → Value → List It → Prop := fun k L v M => match k, L with
  | 18, _ => v = .string p ∧ M = []
  | 20, _ => ∃ b, v = .pointer (some ⟨b, 0, none⟩) ∧ M = [.ob b (.cells (pkR false 0 0 0 0 ByteArray.empty).toArray pkT (0, 0))]
  | _, [.ob b _] => v = undef ∧ M = [.ob b (.cells r.toArray pkT (0, 0))]
  | _, _ => False
theorem rwFrame0 (g : Nat) (vi : Bool) (ss kd sq pic lv src sh la : Int) (be : Bool) (fr pk by_ : Int) (s : Int) (ao : Option Addr) (c : Nat) :
    Fn Try.prog 31 #[.pointer (some ⟨g, 0, none⟩), .int .i64 s, .agg #[.slice ao 0 c]] [otI g vi ss kd sq pic lv src sh la be fr pk by_] []
      (fun v L' R' => v = .slice none 0 0 ∧ L' = [otI g vi ss kd sq pic lv src sh la be fr pk by_] ∧ R' = []) := by
  refine fn_intro Try.func31 rfl Try.ntmps31 rfl (fun E => ?_)
  (repeat (first | ((first | (apply wo_v; rfl) ); (· first | (apply pv_ev; rfl) | (apply pv_fld; rfl) | (apply g_load; first | (apply pv_ld; rfl; (· (repeat (first | apply sel_here ))); rfl) ) | (apply g_bi; first | (apply pv_len_sl; rfl) ) )) | apply wo_nil | apply wc_seq | apply wc_region | apply wc_ret | (apply wc_true; rfl) | (apply wo_box1; rfl; rfl; rfl; intro bx) | (apply wo_boxa; rfl; rfl; intro bx) ))
  exact ret1 rfl rfl ⟨rfl, rfl, rfl⟩ ((by (repeat (first | apply sub_nil | (apply sub_cons; (· (repeat (first | apply sel_here | apply sel_there)))))); done) : List.Perm _ ([] ++ _)) (by first | exact fun _ h => h | (intro r hr; cases hr; done) | (simp; done) | exact fun _ h => List.mem_append_left _ h | (intro r hr; simp [hr]; done))
set_option maxHeartbeats 16000000 in
theorem rwFrame (g : Nat) (vi : Bool) (ss kd sq pic lv src sh la : Int) (be : Bool) (fr pk by_ : Int) (s : Int) (ao : Option Addr) (n c : Nat) (u : Un) (U : List Un) (R : List Ro) (hS : SR R 7 ao n c (urs (u :: U)))
    (hb : 0 ≤ u.ti ∧ u.ti ≤ 1099511627776 ∧ 0 ≤ la ∧ la ≤ 1099511627776 ∧ -1099511627776 ≤ sh ∧ sh ≤ 1099511627776) (hb2 : -1 ≤ pic ∧ pic ≤ 40000 ∧ -1 ≤ lv ∧ lv ≤ 300) (hb3 : 0 ≤ fr ∧ fr ≤ 1000000 ∧ 0 ≤ pk ∧ pk ≤ 1000000 ∧ 0 ≤ by_ ∧ by_ ≤ 1000000000) (ht : ∀ x ∈ u :: U, x.tx.size ≤ 1000) (hl : U.length ≤ 1000) :
    Fn Try.prog 31 #[.pointer (some ⟨g, 0, none⟩), .int .i64 s, .agg #[.slice ao n c]] [otI g vi ss kd sq pic lv src sh la be fr pk by_] R
      (fun v L' R' => ∃ ao' c', (∃ b o, ao' = some ⟨b, o, none⟩) ∧ v = .slice ao' (pkN vi kd sq (laM src sh la be s u.ti % 4294967296) ss (picM vi pic) (lvM vi lv u.tx) (u :: U) n).length c'
        ∧ L' = [otI g vi ss kd (sqI sq n) (picM vi pic) (lvM vi lv u.tx) s (shM src sh la be s u.ti) (laM src sh la be s u.ti) true (fr + 1) (pk + n) (by_ + byN vi (picM vi pic) (lvM vi lv u.tx) (u :: U) n),
          pkO ao' c' (pkN vi kd sq (laM src sh la be s u.ti % 4294967296) ss (picM vi pic) (lvM vi lv u.tx) (u :: U) n)] ∧ R' = []) := by
  have hn : n = U.length + 1 := by rw [← hS.len]; simp
  obtain ⟨b, o, rfl, hmem⟩ := hS.pos (by omega)
  have hT := frTime _ n c u U R hS
  have hM := rwTime g vi ss kd sq pic lv src sh la be fr pk by_ s u.ti hb
  have hu := ht u (.head _)
  have hN := rwNumbers g vi ss kd sq pic lv s (shM src sh la be s u.ti) (laM src sh la be s u.ti) true fr pk by_ _ n c u U R hS hb2 (by omega)
  generalize shM src sh la be s u.ti = sh2 at hM hN ⊢
  generalize laM src sh la be s u.ti = la2 at hM hN ⊢
  refine fn_intro Try.func31 rfl Try.ntmps31 rfl (fun E => ?_)
  (repeat (first | ((first | (apply wo_v; rfl) ); (· first | (apply pv_ev; rfl) | (apply pv_fld; rfl) | (apply g_load; first | (apply pv_ld; rfl; (· (repeat (first | apply sel_here ))); rfl) | (apply pv_lda; rfl; (· (repeat (first | apply sel_here ))); (· (repeat (first | apply Cut.here0 | apply Cut.here )))) ) | (apply g_bi; first | (apply pv_len_sl; rfl) ) )) | apply wo_nil | apply wc_seq | apply wc_region | apply wc_skip | (apply wc_true; rfl) | (apply wc_false; rfl) | (apply a_dec_t; rfl; (· first | assumption | omega)) | (apply a_dec_f; rfl; (· first | assumption | omega)) | (apply wo_box1; rfl; rfl; rfl; intro bx) | (apply wo_boxa; rfl; rfl; intro bx) ))
  (refine wo_call (hT) rfl (by (repeat (first | apply sub_nil )); done) (by first | exact fun _ h => h | (intro r hr; cases hr; done) | (simp; done) | exact fun _ h => List.mem_append_left _ h | (intro r hr; simp [hr]; done)) rfl ?_; rintro v L' R' ⟨rfl, rfl, rfl⟩ H' hH RR hR; simp only [List.cons_append, List.nil_append] at hH hR; subst hH; have hR := hR.symm; subst hR)
  (repeat (first | ((first | (apply wo_v; rfl) ); (· first | (apply pv_ev; rfl) )) ))
  (refine wo_call (hM) rfl (by (repeat (first | apply sub_nil | (apply sub_cons; (· (repeat (first | apply sel_here | apply sel_there)))))); done) (by first | exact fun _ h => h | (intro r hr; cases hr; done) | (simp; done) | exact fun _ h => List.mem_append_left _ h | (intro r hr; simp [hr]; done)) rfl ?_; rintro v L' R' ⟨rfl, rfl, rfl⟩ H' hH RR hR; simp only [List.cons_append, List.nil_append] at hH hR; subst hH; have hR := hR.symm; subst hR)
  (repeat (first | ((first | (apply wo_v; rfl) ); (· first | (apply pv_ev; rfl) | (apply pv_fld; rfl) | (apply g_load; first | (apply pv_ld; rfl; (· (repeat (first | apply sel_here ))); rfl) ) | (apply g_conv; first | (apply a_conv; rfl; infer_instance; infer_instance; infer_instance; omega) | (apply a_conv_u; rfl; infer_instance; infer_instance; infer_instance) ) )) | apply wo_nil | apply wc_seq | apply wc_region | (apply wc_true; rfl) | (apply wc_false; rfl) | (apply a_dec_t; rfl; (· first | assumption | omega)) | (apply a_dec_f; rfl; (· first | assumption | omega)) | (apply a_dec_t; rfl; (· first | (simp; done) | (simp; omega))) | (apply a_dec_f; rfl; (· first | (simp; done) | (simp; omega))) ))
  clear hT hM hb
  refine wc_join0 (fun st => st = ⟨[(0, .pointer (some ⟨g, 0, none⟩)), (5, .pointer (some ⟨bx, 0, none⟩)), (7, .slice none 0 0), (8, .int .u32 (la2 % 4294967296))], [otI g vi ss kd sq (picM vi pic) (lvM vi lv u.tx) s sh2 la2 true fr pk by_, .ob bx (.cells #[.slice (some ⟨b, o, none⟩) n c] 98 (0, 0))], R⟩) ?_ ?_
  · cases vi with
    | true =>
      (repeat (first | ((first | (apply wo_v; rfl) ); (· first | (apply pv_ev; rfl) | (apply g_load; first | (apply pv_lda; rfl; (· (repeat (first | apply sel_here | apply sel_there))); (· (repeat (first | apply Cut.here0 | apply Cut.here )))) ) )) | apply wc_region | (apply wc_true; rfl) ))
      (refine wo_call (hN) rfl (by (repeat (first | apply sub_nil )); done) (by first | exact fun _ h => h | (intro r hr; cases hr; done) | (simp; done) | exact fun _ h => List.mem_append_left _ h | (intro r hr; simp [hr]; done)) rfl ?_; rintro v L' R' ⟨rfl, rfl, rfl⟩ H' hH RR hR; simp only [List.cons_append, List.nil_append] at hH hR; subst hH; have hR := hR.symm; subst hR)
      (repeat (first | apply wo_nil ))
      exact cut_end rfl (wk_mk (by (repeat (first | apply wkf_nil | (apply wkf_cons; rfl))); done) (by (repeat (first | apply sub_nil )); done) (by first | exact fun _ h => h | (intro r hr; cases hr; done) | (simp; done) | exact fun _ h => List.mem_append_left _ h | (intro r hr; simp [hr]; done)))
    | false =>
      (repeat (first | apply wc_skip | (apply wc_true; rfl) | (apply wc_false; rfl) ))
      exact cut_end rfl (wk_mk (by (repeat (first | apply wkf_nil | (apply wkf_cons; rfl))); done) (by (repeat (first | apply sub_nil )); done) (by first | exact fun _ h => h | (intro r hr; cases hr; done) | (simp; done) | exact fun _ h => List.mem_append_left _ h | (intro r hr; simp [hr]; done)))
  clear hN
  rintro st rfl
  generalize picM vi pic = pic2, lvM vi lv u.tx = lv2, la2 % 4294967296 = t
  have hU : (u :: U).length = n := by simp [hn]
  generalize u :: U = V at hS ht hmem hU
  (repeat (first | ((first | (apply wo_v; rfl) ); (· first | (apply pv_ev; rfl) | (apply pv_fld; rfl) | (apply g_load; first | (apply pv_ld; rfl; (· (repeat (first | apply sel_here | apply sel_there))); rfl) ) | (apply g_bi; first | (apply pv_len_sl; rfl) ) )) | apply wo_nil | apply wc_seq | apply wc_region ))
  refine wc_join0 (fun st => ∃ ao' c', st = ⟨[(0, .pointer (some ⟨g, 0, none⟩)), (7, .slice ao' (pkN vi kd sq t ss pic2 lv2 V n).length c')], [otI g vi ss kd (sqI sq n) pic2 lv2 s sh2 la2 true fr (pk + n) (by_ + byN vi pic2 lv2 V n), pkO ao' c' (pkN vi kd sq t ss pic2 lv2 V n)], R⟩) ?_ ?_
  · refine wc_block ?_
    refine wc_own0 pkT 11 ?_
    refine wc_loop' (fun q st => ∃ (i : Nat) (ao' : Option Addr) (c' : Nat) (l : List Pm) (sq2 b2 pk2 : Int), q = n - i ∧ i ≤ n ∧ l = pkN vi kd sq t ss pic2 lv2 V i ∧ sq2 = sqI sq i ∧ b2 = by_ + byN vi pic2 lv2 V i ∧ pk2 = pk + i
        ∧ st = ⟨[(0, .pointer (some ⟨g, 0, none⟩)), (7, .slice ao' l.length c'), (8, .int .u32 t), (31, .slice (some ⟨b, o, none⟩) n c), (32, .int .i64 n), (33, .int .i64 i)], [otI g vi ss kd sq2 pic2 lv2 s sh2 la2 true fr pk2 b2, pkO ao' c' l], R⟩)
      ⟨0, none, 0, [], sq, by_, pk, rfl, Nat.zero_le _, rfl, rfl, by simp [byN], by simp, rfl⟩ (wk_mk (by (repeat (first | apply wkf_nil | (apply wkf_cons; rfl))); done) (by (repeat (first | apply sub_nil | (apply sub_cons; (· (repeat (first | apply sel_here | apply sel_there)))))); done) (by first | exact fun _ h => h | (intro r hr; cases hr; done) | (simp; done) | exact fun _ h => List.mem_append_left _ h | (intro r hr; simp [hr]; done))) ?_
    rintro q st ⟨i, ao', c', l, sq2, b2, pk2, rfl, hi, hl2, hs2, hb2', hpk, rfl⟩
    have hbb := byN_b vi pic2 lv2 V ht i
    have hll : l.length = i := by rw [hl2]; exact pkN_len _ _ _ _ _ _ _ _ _ (by omega)
    by_cases hlt : i < n
    · obtain ⟨x, hx⟩ : ∃ x, V[i]? = some x := ⟨_, List.getElem?_eq_getElem (by omega)⟩
      have hr := urs_at hx
      have hxs := ht x (List.mem_of_getElem? hx)
      have hpl := payM_le vi pic2 lv2 x.tx
      have e1 : pkN vi kd sq t ss pic2 lv2 V (i + 1) = l ++ [⟨x.mrk, kd, sq2, t, ss, payM vi pic2 lv2 x.tx⟩] := by rw [pkN, hx, hl2, hs2]
      have e2 : by_ + byN vi pic2 lv2 V (i + 1) = b2 + (payM vi pic2 lv2 x.tx).size := by rw [byN, hx, hb2']; simp only; omega
      have e3 : sqI sq (i + 1) = (sq2 + 1) % 65536 := by rw [sqI, hs2]
      have hP := rwPayload g vi ss kd sq2 pic2 lv2 s sh2 la2 true fr pk2 b2 x.tx (by omega)
      generalize payM vi pic2 lv2 x.tx = pl at hpl e1 e2 hP
      (repeat (first | ((first | (apply wo_v; rfl) ); (· first | (apply pv_ev; rfl) )) | apply wo_nil | apply wc_seq | apply wc_region | apply wc_skip | (apply wc_true; rfl) | (apply wc_false; rfl) | (apply a_dec_t; rfl; (· first | assumption | omega)) ))
      refine wc_block ?_
      (repeat (first | ((first | (apply wo_v; rfl) ); (· first | (apply pv_ev; rfl) | (apply g_load; first | (apply pv_lda; rfl; (· (repeat (first | apply sel_there))); (· (repeat (first | fail )))) | (apply pv_ld_owna; rfl; (· (repeat (first | apply sel_there))); (· assumption)) | (apply pv_ld_roa; rfl; (· (first | assumption )); (· assumption))) | (apply g_idx; first | (apply pv_idx; rfl; rfl; omega) ) )) | apply wo_nil | apply wc_seq | apply wc_region | (apply wo_alloc; rfl; intro bx) | (apply wo_sta; rfl; rfl; rfl; rfl; (· (repeat (first | apply sel_here ))); (· (repeat (first | apply LayAt.nil | apply LayAt.here ))); rfl) ))
      (refine wc_reg [0, 1] (asl [(18, 1), (20, 0), (21, 0)]) (tblF pl (pkR x.mrk kd sq2 t ss pl)) ([unI bx x, otI g vi ss kd sq2 pic2 lv2 s sh2 la2 true fr pk2 b2, pkO ao' c' l]) (fm [(0, []), (1, [])]) mixed (by kernel_rfl) (by kernel_rfl) (by decide) (asl_mem (by decide)) (by (repeat (first | (apply prm_cons; (· (repeat (first | apply sel_here )))) | apply List.Perm.nil )); done) ?_; (repeat (first | ((first | (apply HdE.val; rfl; rfl; (· first | apply gok_none ))); (· first | (apply pv_ev; rfl) | (apply pv_fld; rfl) | (apply g_load; first | (apply pv_ld; rfl; (· (repeat (first | apply sel_here | apply sel_there))); rfl) ) )) )))
      (refine he_eff rfl rfl rfl (by first | exact gok_none | exact gok_run rfl rfl) (outc_call (F1 := _) (hP) rfl (by (repeat (first | apply sub_nil | (apply sub_cons; (· (repeat (first | apply sel_here | apply sel_there)))))); done) (by first | exact fun _ h => h | (intro r hr; cases hr; done) | (simp; done) | exact fun _ h => List.mem_append_left _ h | (intro r hr; simp [hr]; done)) ?_) ⟨_, _, rfl, rfl⟩ ?_; (· rintro v L' R' ⟨rfl, rfl, _⟩; exact ⟨_, ⟨rfl, rfl⟩, (by (repeat (first | (apply prm_cons; (· (repeat (first | apply sel_here | apply sel_there)))) | apply List.Perm.nil )); done)⟩); rintro v M ⟨rfl, rfl⟩; simp only [setl, reduceIte, Nat.reduceEqDiff]; (repeat (first | ((first | (apply HdE.val; rfl; rfl; (· first | apply gok_none ))); (· first | (apply pv_ev; rfl) | (apply g_build; apply pv_build; (· (repeat (first | apply Bld.nil | (apply Bld.one; rfl; rfl; (· (repeat (first | apply SetAt.here | apply SetAt.there)))) )))) )) )))
      (refine he_eff rfl rfl rfl (by first | exact gok_none | exact gok_run rfl rfl) outc_alloc ⟨_, _, 0, rfl, rfl⟩ ?_; rintro v M ⟨bz, rfl, rfl⟩; simp only [setl, reduceIte, Nat.reduceEqDiff]; (repeat (first | fail )))
      (refine he_eff rfl rfl rfl (by first | exact gok_none | exact gok_run rfl rfl) (outc_sta rfl rfl rfl rfl (by (repeat (first | apply LayAt.nil | apply LayAt.here )); done)) ⟨_, _, rfl, rfl⟩ ?_; rintro v M ⟨rfl, rfl⟩; simp only [setl, reduceIte, Nat.reduceEqDiff]; (repeat (first | fail )))
      (refine HdE.nil ?_; intro H hH; simp only [Hp, fm, look, setl, List.flatMap_cons, List.flatMap_nil, reduceIte, Nat.reduceEqDiff, Option.getD_some, List.append_nil, List.cons_append, List.nil_append] at hH; subst hH)
      (repeat (first | ((first | (apply wo_v; rfl) ); (· first | (apply pv_ev; rfl) | (apply pv_fld; rfl) | (apply g_load; first | (apply pv_ld; rfl; (· (repeat (first | apply sel_here | apply sel_there))); rfl) ) | (apply g_bin; first | (apply a_add; rfl; rfl; infer_instance; omega) | (apply pv_add_s; rfl; rfl; omega) | (apply a_add_u; rfl; rfl; infer_instance) ) )) | apply wo_nil | apply wc_seq | apply wc_region | (apply wo_st; rfl; rfl; rfl; (· (repeat (first | apply sel_here | apply sel_there))); (· (repeat (first | apply SetAt.here | apply SetAt.there))); rfl) ))
      (refine wc_tail 10 mixed (by kernel_rfl) ?_; (repeat (first | ((first | (apply wo_v; rfl) | (apply hd_v; rfl) ); (· first | (apply pv_ev; rfl) | (apply pv_fld; rfl) | (apply g_load; first | (apply pv_ld; rfl; (· (repeat (first | apply sel_here | apply sel_there))); rfl) | (apply pv_lda; rfl; (· (repeat (first | apply sel_here | apply sel_there))); (· (repeat (first | apply Cut.here0 | apply Cut.here )))) ) | (apply g_bin; first | (apply a_add; rfl; rfl; infer_instance; omega) ) | (apply g_bi; first | (apply pv_len_str; rfl) ) )) | apply wo_nil | apply Hd.nil | apply wc_region | (apply wo_st; rfl; rfl; rfl; (· (repeat (first | apply sel_here ))); (· (repeat (first | apply SetAt.here | apply SetAt.there))); rfl) | (apply wo_bsl; (· (repeat (first | apply Rws'.nil | (apply Rws'.one; rfl; rfl; rfl) | (apply Rws'.agg; rfl; rfl; rfl)))); rfl; rfl; rfl; rfl; intro bx) )))
      (repeat (first | ((first | (apply wo_v; rfl) ); (· first | (apply pv_ev; rfl) | (apply g_bi; first | fail ) )) ))
      refine wo_app rfl rfl (by (repeat (first | apply sel_here | apply sel_there)); done) (by (repeat (first | apply sel_here )); done) (by unfold maxLen; omega) (by omega) rfl (fun ao2 c2 => ?_)
      (repeat (first | ((first | (apply wo_v; rfl) ); (· first | (apply pv_ev; rfl) | (apply g_bin; first | (apply a_add; rfl; rfl; infer_instance; omega) ) )) | apply wo_nil | apply wc_region ))
      exact loop_end ⟨i + 1, ao2, c2, l ++ [⟨x.mrk, kd, sq2, t, ss, pl⟩], (sq2 + 1) % 65536, b2 + pl.size, pk2 + 1, rfl, by omega, e1.symm, e3.symm, e2.symm, by omega, by rw [show pkO ao2 c2 (l ++ [⟨x.mrk, kd, sq2, t, ss, pl⟩]) = .own pkT 11 ao2 (l.length + 1) c2 (prs' l ++ [pkR x.mrk kd sq2 t ss pl]) by simp [pkO, prow], List.length_append, List.length_singleton]⟩ (by omega) (wk_mk (by (repeat (first | apply wkf_nil | (apply wkf_cons; rfl))); done) (by (repeat (first | apply sub_nil | (apply sub_cons; (· (repeat (first | apply sel_here | apply sel_there)))))); done) (by first | exact fun _ h => h | (intro r hr; cases hr; done) | (simp; done) | exact fun _ h => List.mem_append_left _ h | (intro r hr; simp [hr]; done)))
    · have e : i = n := by omega
      subst e
      subst hl2 hs2 hb2' hpk
      (repeat (first | ((first | (apply wo_v; rfl) ); (· first | (apply pv_ev; rfl) )) | apply wo_nil | apply wc_seq | apply wc_region | (apply wc_exit; rfl) | (apply wc_true; rfl) | (apply wc_false; rfl) | (apply a_dec_t; rfl; (· first | assumption | omega)) | (apply a_dec_f; rfl; (· first | assumption | omega)) ))
      exact cut_end ⟨ao', c', rfl⟩ (wk_mk (by (repeat (first | apply wkf_nil | (apply wkf_cons; rfl))); done) (by (repeat (first | apply sub_nil )); done) (by first | exact fun _ h => h | (intro r hr; cases hr; done) | (simp; done) | exact fun _ h => List.mem_append_left _ h | (intro r hr; simp [hr]; done)))
  rintro st ⟨ao', c', rfl⟩
  have hbb := byN_b vi pic2 lv2 V ht n
  have hll : (pkN vi kd sq t ss pic2 lv2 V n).length = n := pkN_len _ _ _ _ _ _ _ _ _ (by omega)
  refine wc_some (ao := ao') (by (repeat (first | apply sel_here | apply sel_there)); done) (by omega) (fun b4 o4 hao => ?_)
  subst hao
  (repeat (first | ((first | (apply wo_v; rfl) ); (· first | (apply pv_ev; rfl) | (apply pv_fld; rfl) | (apply g_load; first | (apply pv_ld; rfl; (· (repeat (first | apply sel_here ))); rfl) ) | (apply g_bin; first | (apply a_add; rfl; rfl; infer_instance; omega) ) )) | apply wo_nil | apply wc_seq | apply wc_region | apply wc_ret | (apply wo_st; rfl; rfl; rfl; (· (repeat (first | apply sel_here ))); (· (repeat (first | apply SetAt.here | apply SetAt.there))); rfl) ))
  exact ret1 rfl rfl ⟨_, c', ⟨b4, o4, rfl⟩, rfl, rfl, rfl⟩ ((by (repeat (first | apply sub_nil )); done) : List.Perm _ ([] ++ _)) (by first | exact fun _ h => h | (intro r hr; cases hr; done) | (simp; done) | exact fun _ h => List.mem_append_left _ h | (intro r hr; simp [hr]; done))
end Go.Proofs.Ytnjicnadlhfocaa
