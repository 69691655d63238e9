/-
  Package rewrite.
-/
import Derived.Test.YtnjicnadlhfocaaVpT
import Derived.Test.YtnjicnadlhfocaaVpC
import Derived.Test.YtnjicnadlhfocaaSpQ
import Derived.Test.YtnjicnadlhfocaaSpP
import Derived.Test.YtnjicnadlhfocaaSpU
namespace Go.Proofs.Ytnjicnadlhfocaa
set_option linter.unusedSimpArgs false
set_option linter.unusedVariables false
open Go.RowKit
attribute [local irreducible] Pv WO WC Fn
set_option maxRecDepth 100000
attribute [local irreducible] ByteArray.extract

abbrev owT : TypeId := 164
structure Ot where
  vi : Bool
  ss : Int
  kd : Int
  sq : Int
  pic : Int
  lv : Int
  src : Int
  sh : Int
  la : Int
  be : Bool
  fr : Int
  pk : Int
  by_ : Int
abbrev otL (vi : Bool) (ss kd sq pic lv src sh la : Int) (be : Bool) (fr pk by_ : Int) : List Value := [.bool vi, .int .u32 ss, .int .u8 kd, .int .u16 sq, .int .i64 pic, .int .i64 lv, .int .i64 src, .int .i64 sh, .int .i64 la, .bool be, .int .i64 fr, .int .i64 pk, .int .i64 by_]
abbrev otI (g : Nat) (vi : Bool) (ss kd sq pic lv src sh la : Int) (be : Bool) (fr pk by_ : Int) : It := .ob g (.cells (otL vi ss kd sq pic lv src sh la be fr pk by_).toArray owT (0, 0))
abbrev Ot.it (g : Nat) (o : Ot) : It := otI g o.vi o.ss o.kd o.sq o.pic o.lv o.src o.sh o.la o.be o.fr o.pk o.by_
theorem rwNew (vi : Bool) (ss kd sq k2 : Int) (hk : bits .and .u8 kd 127 = k2) : Fn Try.prog 29 #[.bool vi, .int .u32 ss, .int .u8 kd, .int .u16 sq] [] []
    (fun v L' R' => ∃ g, v = .pointer (some ⟨g, 0, none⟩) ∧ L' = [otI g vi ss k2 sq (-1) (-1) 0 0 0 false 0 0 0] ∧ R' = []) := by
  refine fn_intro Try.func29 rfl Try.ntmps29 rfl (fun E => ?_)
  (repeat (first | ((first | (apply wo_v; rfl) ); (· first | (apply pv_ev; rfl) | (apply g_bin; first | (apply pv_and; rfl; rfl) ) | (apply g_build; apply pv_build; (· (repeat (first | apply Bld.nil | (apply Bld.one; rfl; rfl; (· (repeat (first | apply SetAt.here | apply SetAt.there)))) )))) )) | apply wo_nil | apply wc_seq | apply wc_region | apply wc_ret | (apply wo_box1; rfl; rfl; rfl; intro bx) | (apply wo_boxa; rfl; rfl; intro bx) ))
  rw [hk]
  (repeat (first | fail ))
  exact ret1 rfl rfl ⟨_, rfl, rfl, rfl⟩ (by (repeat (first | apply sub_nil )); done) (by first | exact fun _ h => h | (intro r hr; cases hr; done) | (simp; done) | exact fun _ h => List.mem_append_left _ h | (intro r hr; simp [hr]; done))
def shM (src sh la : Int) (be : Bool) (s t : Int) : Int := if be = false then 0 else if s ≠ src then la + 3000 - t else sh
def laM (src sh la : Int) (be : Bool) (s t : Int) : Int := max (if be = false then t else la) (t + shM src sh la be s t)
theorem rwTime (g : Nat) (vi : Bool) (ss kd sq pic lv src sh la : Int) (be : Bool) (fr pk by_ : Int) (s t : Int) (hb : 0 ≤ t ∧ t ≤ 1099511627776 ∧ 0 ≤ la ∧ la ≤ 1099511627776 ∧ -1099511627776 ≤ sh ∧ sh ≤ 1099511627776) :
    Fn Try.prog 54 #[.pointer (some ⟨g, 0, none⟩), .int .i64 s, .int .i64 t] [otI g vi ss kd sq pic lv src sh la be fr pk by_] []
      (fun v L' R' => v = .int .i64 (laM src sh la be s t) ∧ L' = [otI g vi ss kd sq pic lv s (shM src sh la be s t) (laM src sh la be s t) true fr pk by_] ∧ R' = []) := by
  unfold laM shM
  cases be with
  | false =>
    rw [if_pos rfl, if_pos rfl]
    refine fn_intro Try.func54 rfl Try.ntmps54 rfl (fun E => ?_)
    (repeat (first | ((first | (apply wo_v; rfl) ); (· first | (apply pv_ev; rfl) )) | apply wo_nil | apply wc_seq | apply wc_region ))
    refine wc_block ?_
    (repeat (first | ((first | (apply wo_v; rfl) ); (· first | (apply pv_ev; rfl) | (apply pv_fld; rfl) | (apply g_load; first | (apply pv_ld; rfl; (· (repeat (first | apply sel_here ))); rfl) ) | (apply g_un; first | (apply pv_not_t; rfl) | (apply pv_not_f; rfl) ) )) | apply wo_nil | apply wc_seq | apply wc_region | (apply wc_true; rfl) | (apply wo_st; rfl; rfl; rfl; (· (repeat (first | apply sel_here ))); (· (repeat (first | apply SetAt.here | apply SetAt.there))); rfl) ))
    (refine wc_tail 14 mixed (by kernel_rfl) ?_; (repeat (first | ((first | (apply wo_v; rfl) | (apply hd_v; rfl) ); (· first | (apply pv_ev; rfl) | (apply pv_fld; rfl) | (apply g_load; first | (apply pv_ld; rfl; (· (repeat (first | apply sel_here ))); rfl) ) | (apply g_bin; first | (apply a_add; rfl; rfl; infer_instance; omega) ) | (apply g_bi; first | (apply pv_max; rfl; rfl)) )) | apply wo_nil | apply Hd.nil | apply wc_seq | apply wc_region | apply wc_ret | (apply wo_st; rfl; rfl; rfl; (· (repeat (first | apply sel_here ))); (· (repeat (first | apply SetAt.here | apply SetAt.there))); rfl) )))
    (repeat (first | fail ))
    exact ret1 rfl rfl ⟨rfl, rfl, rfl⟩ ((by (repeat (first | apply sub_nil )); done) : List.Perm _ ([] ++ _)) (by first | exact fun _ h => h | (intro r hr; cases hr; done) | (simp; done) | exact fun _ h => List.mem_append_left _ h | (intro r hr; simp [hr]; done))
  | true =>
    rw [if_neg (by simp), if_neg (by simp)]
    by_cases h : s = src
    · subst h
      rw [if_neg (by simp)]
      refine fn_intro Try.func54 rfl Try.ntmps54 rfl (fun E => ?_)
      (repeat (first | ((first | (apply wo_v; rfl) ); (· first | (apply pv_ev; rfl) )) | apply wo_nil | apply wc_seq | apply wc_region ))
      refine wc_block ?_
      (repeat (first | ((first | (apply wo_v; rfl) ); (· first | (apply pv_ev; rfl) | (apply pv_fld; rfl) | (apply g_load; first | (apply pv_ld; rfl; (· (repeat (first | apply sel_here ))); rfl) ) | (apply g_un; first | (apply pv_not_t; rfl) ) )) | apply wo_nil | apply wc_seq | apply wc_region | apply wc_skip | (apply wc_true; rfl) | (apply wc_false; rfl) | (apply a_dec_t; rfl; (· first | assumption | omega)) | (apply a_dec_f; rfl; (· first | assumption | omega)) | (apply wo_st; rfl; rfl; rfl; (· (repeat (first | apply sel_here ))); (· (repeat (first | apply SetAt.here | apply SetAt.there))); rfl) ))
      (refine wc_tail 14 mixed (by kernel_rfl) ?_; (repeat (first | ((first | (apply wo_v; rfl) | (apply hd_v; rfl) ); (· first | (apply pv_ev; rfl) | (apply pv_fld; rfl) | (apply g_load; first | (apply pv_ld; rfl; (· (repeat (first | apply sel_here ))); rfl) ) | (apply g_bin; first | (apply a_add; rfl; rfl; infer_instance; omega) ) | (apply g_bi; first | (apply pv_max; rfl; rfl)) )) | apply wo_nil | apply Hd.nil | apply wc_seq | apply wc_region | apply wc_ret | (apply wo_st; rfl; rfl; rfl; (· (repeat (first | apply sel_here ))); (· (repeat (first | apply SetAt.here | apply SetAt.there))); rfl) )))
      (repeat (first | fail ))
      exact ret1 rfl rfl ⟨rfl, rfl, rfl⟩ ((by (repeat (first | apply sub_nil )); done) : List.Perm _ ([] ++ _)) (by first | exact fun _ h => h | (intro r hr; cases hr; done) | (simp; done) | exact fun _ h => List.mem_append_left _ h | (intro r hr; simp [hr]; done))
    · rw [if_pos h]
      refine fn_intro Try.func54 rfl Try.ntmps54 rfl (fun E => ?_)
      (repeat (first | ((first | (apply wo_v; rfl) ); (· first | (apply pv_ev; rfl) )) | apply wo_nil | apply wc_seq | apply wc_region ))
      refine wc_block ?_
      (repeat (first | ((first | (apply wo_v; rfl) ); (· first | (apply pv_ev; rfl) | (apply pv_fld; rfl) | (apply g_load; first | (apply pv_ld; rfl; (· (repeat (first | apply sel_here ))); rfl) ) | (apply g_bin; first | (apply a_add; rfl; rfl; infer_instance; omega) | (apply a_sub; rfl; rfl; infer_instance; omega) ) | (apply g_un; first | (apply pv_not_t; rfl) ) )) | apply wo_nil | apply wc_seq | apply wc_region | (apply wc_true; rfl) | (apply wc_false; rfl) | (apply a_dec_t; rfl; (· first | assumption | omega)) | (apply wo_st; rfl; rfl; rfl; (· (repeat (first | apply sel_here ))); (· (repeat (first | apply SetAt.here | apply SetAt.there))); rfl) ))
      (refine wc_tail 14 mixed (by kernel_rfl) ?_; (repeat (first | ((first | (apply wo_v; rfl) | (apply hd_v; rfl) ); (· first | (apply pv_ev; rfl) | (apply pv_fld; rfl) | (apply g_load; first | (apply pv_ld; rfl; (· (repeat (first | apply sel_here ))); rfl) ) | (apply g_bin; first | (apply a_add; rfl; rfl; infer_instance; omega) ) | (apply g_bi; first | (apply pv_max; rfl; rfl)) )) | apply wo_nil | apply Hd.nil | apply wc_seq | apply wc_region | apply wc_ret | (apply wo_st; rfl; rfl; rfl; (· (repeat (first | apply sel_here ))); (· (repeat (first | apply SetAt.here | apply SetAt.there))); rfl) )))
      (repeat (first | fail ))
      exact ret1 rfl rfl ⟨rfl, rfl, rfl⟩ ((by (repeat (first | apply sub_nil )); done) : List.Perm _ ([] ++ _)) (by first | exact fun _ h => h | (intro r hr; cases hr; done) | (simp; done) | exact fun _ h => List.mem_append_left _ h | (intro r hr; simp [hr]; done))

def withM (d : Dc) (p l : Int) : Dc := ⟨d.nr, d.st, d.pt, if 0 ≤ d.pic then p % 32768 else d.pic, if 0 ≤ d.pic then true else d.wd, if 0 ≤ d.lv then l % 256 else d.lv, d.ly, d.sy, d.ky⟩
theorem withM_ok {d : Dc} (hA : okA d) (hF : okF d) (p l : Int) : okA (withM d p l) ∧ okF (withM d p l) := by
  obtain ⟨nr, st, pt, pic, wd, lv, ly, sy, ky⟩ := d
  constructor
  · obtain ⟨a1, a2, a3, a4, a5, a6, a7, a8, a9, a10⟩ := hA
    simp only [withM] at *
    refine ⟨a1, a2, ?_, ?_, ?_, ?_, a7, a8, a9, a10⟩ <;> dsimp only
    · split <;> omega
    · split <;> omega
    · split <;> omega
    · split <;> omega
  · obtain ⟨f1, f2, f3⟩ := hF
    simp only [withM] at *
    by_cases hp : 0 ≤ pic
    · simp only [if_pos hp]
      exact ⟨(by rintro ⟨h, _⟩; simp only at h; omega), (by rintro ⟨_, h⟩; cases h), f3⟩
    · simp only [if_neg hp]
      exact ⟨f1, f2, f3⟩
def payM (vi : Bool) (pic lv : Int) (s : ByteArray) : ByteArray := if vi = true ∧ (prs s).2.2 = 0 then txt (withM (prs s).1 pic (max lv 0)) ++ (prs s).2.1 else s
theorem txt_le (d : Dc) : (txt d).size ≤ 8 := by
  unfold txt tPic tLv tLast
  have e0 : E0.size = 0 := rfl
  split
  · split <;> split <;> split <;> (try split) <;> simp only [ByteArray.size_append, b1_size, numS_size, e0] <;> omega
  · simp only [ByteArray.size_append, b1_size, e0]; omega
theorem payM_le (vi : Bool) (pic lv : Int) (s : ByteArray) : (payM vi pic lv s).size ≤ s.size + 8 := by
  unfold payM
  split
  · rename_i h
    have h1 := (prs_ok h.2).2.2
    have h2 := txt_le (withM (prs s).1 pic (max lv 0))
    rw [ByteArray.size_append]; omega
  · omega
theorem rwPayload (g : Nat) (vi : Bool) (ss kd sq pic lv src sh la : Int) (be : Bool) (fr pk by_ : Int) (s : ByteArray) (hs : s.size ≤ 1000000) :
    Fn Try.prog 57 #[.pointer (some ⟨g, 0, none⟩), .string s] [otI g vi ss kd sq pic lv src sh la be fr pk by_] []
      (fun v L' R' => v = .string (payM vi pic lv s) ∧ L' = [otI g vi ss kd sq pic lv src sh la be fr pk by_] ∧ R' = []) := by
  have hp := vParse s (by omega)
  unfold payM
  cases vi with
  | false =>
    rw [if_neg (by simp)]
    generalize prs s = q at hp
    obtain ⟨⟨nr, st, pt, dpic, wd, dlv, ly, sy, ky⟩, r, e⟩ := q
    dsimp only [dv] at hp
    refine fn_intro Try.func57 rfl Try.ntmps57 rfl (fun E => ?_)
    (repeat (first | ((first | (apply wo_v; rfl) ); (· first | (apply pv_ev; rfl) )) | apply wo_nil | apply wc_seq | apply wc_region ))
    (refine wo_call (hp) rfl (by (repeat (first | apply sub_nil )); done) (by first | exact fun _ h => h | (intro r hr; cases hr; done) | (simp; done) | exact fun _ h => List.mem_append_left _ h | (intro r hr; simp [hr]; done)) rfl ?_; rintro v L' R' ⟨rfl, rfl, rfl⟩ H' hH RR hR; simp only [List.cons_append, List.nil_append] at hH hR; subst hH; have hR := hR.symm; subst hR)
    (repeat (first | ((first | (apply wo_v; rfl) ); (· first | (apply pv_ev; rfl) | (apply pv_fld; rfl) | (apply g_load; first | (apply pv_ld; rfl; (· (repeat (first | apply sel_here | apply sel_there))); rfl) ) | (apply g_pick; first | (apply pv_pick_t; rfl; rfl) ) | (apply g_un; first | (apply pv_not_t; rfl) | (apply pv_not_f; rfl) ) )) | apply wo_nil | apply wc_seq | apply wc_region | apply wc_ret | (apply wc_true; rfl) | (apply wo_run; rfl; rfl) | (apply wo_skip; rfl; rfl; rfl; rfl) | (apply wo_alloc; rfl; intro bx) | (apply wo_sta; rfl; rfl; rfl; rfl; (· (repeat (first | apply sel_here ))); (· (repeat (first | apply LayAt.nil | apply LayAt.here ))); rfl) ))
    exact ret1 rfl rfl ⟨rfl, rfl, rfl⟩ ((by (repeat (first | apply sub_nil | (apply sub_cons; (· (repeat (first | apply sel_here | apply sel_there)))))); done) : List.Perm _ ([] ++ _)) (by first | exact fun _ h => h | (intro r hr; cases hr; done) | (simp; done) | exact fun _ h => List.mem_append_left _ h | (intro r hr; simp [hr]; done))
  | true =>
    by_cases he : (prs s).2.2 = 0
    · rw [if_pos ⟨rfl, he⟩]
      obtain ⟨hA, hF, hrs⟩ := prs_ok he
      have hA2 := withM_ok hA hF pic (max lv 0)
      have htl := txt_le (withM (prs s).1 pic (max lv 0))
      generalize prs s = q at hp he hA2 hrs htl ⊢
      obtain ⟨⟨nr, st, pt, dpic, wd, dlv, ly, sy, ky⟩, r, e⟩ := q
      dsimp only [dv, withM] at hp he hA2 hrs htl ⊢
      subst he
      clear hA hF
      obtain ⟨hA, hF⟩ := hA2
      have hw := vWith nr st pt dpic wd dlv ly sy ky pic (max lv 0)
      have ht := vText nr st pt _ _ _ ly sy ky hA hF
      generalize txt ⟨nr, st, pt, if 0 ≤ dpic then pic % 32768 else dpic, if 0 ≤ dpic then true else wd, if 0 ≤ dlv then max lv 0 % 256 else dlv, ly, sy, ky⟩ = tt at ht htl ⊢
      refine fn_intro Try.func57 rfl Try.ntmps57 rfl (fun E => ?_)
      (repeat (first | ((first | (apply wo_v; rfl) ); (· first | (apply pv_ev; rfl) )) | apply wo_nil | apply wc_seq | apply wc_region ))
      (refine wo_call (hp) rfl (by (repeat (first | apply sub_nil )); done) (by first | exact fun _ h => h | (intro r hr; cases hr; done) | (simp; done) | exact fun _ h => List.mem_append_left _ h | (intro r hr; simp [hr]; done)) rfl ?_; rintro v L' R' ⟨rfl, rfl, rfl⟩ H' hH RR hR; simp only [List.cons_append, List.nil_append] at hH hR; subst hH; have hR := hR.symm; subst hR)
      (repeat (first | ((first | (apply wo_v; rfl) ); (· first | (apply pv_ev; rfl) | (apply pv_fld; rfl) | (apply g_load; first | (apply pv_ld; rfl; (· (repeat (first | apply sel_here | apply sel_there))); rfl) ) | (apply g_pick; first | (apply pv_pick_t; rfl; rfl) | (apply pv_pick_f; rfl; rfl)) | (apply g_un; first | (apply pv_not_t; rfl) ) )) | apply wo_nil | apply wc_seq | apply wc_region | apply wc_skip | (apply wc_true; rfl) | (apply wc_false; rfl) | (apply wo_run; rfl; rfl) | (apply wo_alloc; rfl; intro bx) | (apply wo_sta; rfl; rfl; rfl; rfl; (· (repeat (first | apply sel_here ))); (· (repeat (first | apply LayAt.nil | apply LayAt.here ))); rfl) ))
      (refine wc_quiet mixed (by kernel_rfl) ?_; (repeat (first | ((first | (apply hd_v; rfl) ); (· first | (apply pv_ev; rfl) | (apply pv_fld; rfl) | (apply g_load; first | (apply pv_ld; rfl; (· (repeat (first | apply sel_here | apply sel_there))); rfl) | (apply pv_lda; rfl; (· (repeat (first | apply sel_here ))); (· (repeat (first | apply Cut.here0 | apply Cut.here )))) ) | (apply g_bi; first | (apply pv_max; rfl; rfl)) )) )))
      (refine Hd.call rfl inferInstance (Fn.mono (hw) (fun _ _ _ h => ⟨h.1, h.2.1⟩)) rfl (by (repeat (first | apply sub_nil )); done) (by first | exact fun _ h => h | (intro r hr; cases hr; done) | (simp; done) | exact fun _ h => List.mem_append_left _ h | (intro r hr; simp [hr]; done)) rfl ?_; (repeat (first | ((first | (apply hd_v; rfl) ); (· first | (apply pv_ev; rfl) )) )))
      (refine Hd.call rfl inferInstance (Fn.mono (ht) (fun _ _ _ h => ⟨h.1, h.2.1⟩)) rfl (by (repeat (first | apply sub_nil )); done) (by first | exact fun _ h => h | (intro r hr; cases hr; done) | (simp; done) | exact fun _ h => List.mem_append_left _ h | (intro r hr; simp [hr]; done)) rfl ?_; (repeat (first | ((first | (apply hd_v; rfl) ); (· first | (apply pv_ev; rfl) | (apply g_bin; first | (apply a_add; rfl; rfl; infer_instance; omega) | (apply pv_add_s; rfl; rfl; omega) ) )) | apply Hd.nil | apply wc_ret )))
      exact ret1 rfl rfl ⟨rfl, rfl, rfl⟩ ((by (repeat (first | apply sub_nil | (apply sub_cons; (· (repeat (first | apply sel_here | apply sel_there)))))); done) : List.Perm _ ([] ++ _)) (by first | exact fun _ h => h | (intro r hr; cases hr; done) | (simp; done) | exact fun _ h => List.mem_append_left _ h | (intro r hr; simp [hr]; done))
    · rw [if_neg (fun h => he h.2)]
      generalize prs s = q at hp he
      obtain ⟨⟨nr, st, pt, dpic, wd, dlv, ly, sy, ky⟩, r, e⟩ := q
      dsimp only [dv] at hp he
      refine fn_intro Try.func57 rfl Try.ntmps57 rfl (fun E => ?_)
      (repeat (first | ((first | (apply wo_v; rfl) ); (· first | (apply pv_ev; rfl) )) | apply wo_nil | apply wc_seq | apply wc_region ))
      (refine wo_call (hp) rfl (by (repeat (first | apply sub_nil )); done) (by first | exact fun _ h => h | (intro r hr; cases hr; done) | (simp; done) | exact fun _ h => List.mem_append_left _ h | (intro r hr; simp [hr]; done)) rfl ?_; rintro v L' R' ⟨rfl, rfl, rfl⟩ H' hH RR hR; simp only [List.cons_append, List.nil_append] at hH hR; subst hH; have hR := hR.symm; subst hR)
      (repeat (first | ((first | (apply wo_v; rfl) ); (· first | (apply pv_ev; rfl) | (apply pv_fld; rfl) | (apply g_load; first | (apply pv_ld; rfl; (· (repeat (first | apply sel_here | apply sel_there))); rfl) ) | (apply g_pick; first | (apply pv_pick_t; rfl; rfl) | (apply pv_pick_f; rfl; rfl)) | (apply g_un; first | (apply pv_not_t; rfl) ) )) | apply wo_nil | apply wc_seq | apply wc_region | apply wc_ret | (apply wc_true; rfl) | (apply wc_false; rfl) | (apply a_dec_t; rfl; (· first | assumption | omega)) | (apply wo_run; rfl; rfl) | (apply wo_alloc; rfl; intro bx) | (apply wo_sta; rfl; rfl; rfl; rfl; (· (repeat (first | apply sel_here ))); (· (repeat (first | apply LayAt.nil | apply LayAt.here ))); rfl) ))
      exact ret1 rfl rfl ⟨rfl, rfl, rfl⟩ ((by (repeat (first | apply sub_nil | (apply sub_cons; (· (repeat (first | apply sel_here | apply sel_there)))))); done) : List.Perm _ ([] ++ _)) (by first | exact fun _ h => h | (intro r hr; cases hr; done) | (simp; done) | exact fun _ h => List.mem_append_left _ h | (intro r hr; simp [hr]; done))
/-- a frame's units -/
structure Un where
  at_ : Int
  ti : Int
  mrk : Bool
  st : Bool
  ky : Bool
  tx : ByteArray
  tk : Int
def urow (u : Un) : List Value := [.int .i64 u.at_, .int .i64 u.ti, .bool u.mrk, .bool u.st, .bool u.ky, .string u.tx, .int .i64 u.tk]
abbrev urs (U : List Un) : List (List Value) := U.map urow
theorem urs_at {U : List Un} {j : Nat} {u : Un} (h : U[j]? = some u) : (urs U)[j]? = some [.int .i64 u.at_, .int .i64 u.ti, .bool u.mrk, .bool u.st, .bool u.ky, .string u.tx, .int .i64 u.tk] := by
  rw [List.getElem?_map, h]; rfl
theorem frTime (ao : Option Addr) (n c : Nat) (u : Un) (U : List Un) (R : List Ro) (hS : SR R 7 ao n c (urs (u :: U))) :
    Fn Try.prog 55 #[.agg #[.slice ao n c]] [] R (fun v L' R' => v = .int .i64 u.ti ∧ L' = [] ∧ R' = []) := by
  have hn : n = U.length + 1 := by rw [← hS.len]; simp
  obtain ⟨b, o, rfl, hmem⟩ := hS.pos (by omega)
  have hr := urs_at (U := u :: U) (j := 0) (u := u) rfl
  refine fn_intro Try.func55 rfl Try.ntmps55 rfl (fun E => ?_)
  (repeat (first | ((first | (apply wo_v; rfl) ); (· first | (apply pv_ev; rfl) | (apply pv_fld; rfl) | (apply g_load; first | (apply pv_ld; rfl; (· (repeat (first | apply sel_here | apply sel_there))); rfl) | (apply pv_ld_ownf; rfl; (· (repeat (first | apply sel_there))); (· assumption); rfl) | (apply pv_ld_own1; rfl; (· (repeat (first | fail ))); (· assumption)) | (apply pv_ld_rof; rfl; (· (first | assumption )); (· assumption); rfl) ) | (apply g_bi; first | (apply pv_len_sl; rfl) ) | (apply g_idx; first | (apply pv_idx; rfl; rfl; omega) | (apply (pv_idx_e 0); rfl; rfl; rfl; omega) ) )) | apply wo_nil | apply wc_seq | apply wc_region | apply wc_skip | apply wc_ret | (apply wc_true; rfl) | (apply wc_false; rfl) | (apply a_dec_t; rfl; (· first | assumption | omega)) | (apply a_dec_f; rfl; (· first | assumption | omega)) | (apply wo_box1; rfl; rfl; rfl; intro bx) | (apply wo_boxa; rfl; rfl; intro bx) ))
  exact ret1 rfl rfl ⟨rfl, rfl, rfl⟩ ((by (repeat (first | apply sub_nil )); done) : List.Perm _ ([] ++ _)) (by first | exact fun _ h => h | (intro r hr; cases hr; done) | (simp; done) | exact fun _ h => List.mem_append_left _ h | (intro r hr; simp [hr]; done))
def nlM (lv : Int) (t : ByteArray) : Int := if (prs t).2.2 = 0 ∧ (prs t).1.ly ≤ 0 then (lv + 1) % 256 else lv
theorem rwNumbers (g : Nat) (vi : Bool) (ss kd sq pic lv src sh la : Int) (be : Bool) (fr pk by_ : Int) (ao : Option Addr) (n c : Nat) (u : Un) (U : List Un) (R : List Ro) (hS : SR R 7 ao n c (urs (u :: U))) (hb : -1 ≤ pic ∧ pic ≤ 40000 ∧ -1 ≤ lv ∧ lv ≤ 300) (ht : u.tx.size ≤ 1000000) :
    Fn Try.prog 56 #[.pointer (some ⟨g, 0, none⟩), .agg #[.slice ao n c]] [otI g vi ss kd sq pic lv src sh la be fr pk by_] R
      (fun v L' R' => v = .tuple #[] ∧ L' = [otI g vi ss kd sq ((pic + 1) % 32768) (nlM lv u.tx) src sh la be fr pk by_] ∧ R' = []) := by
  have hn : n = U.length + 1 := by rw [← hS.len]; simp
  obtain ⟨b, o, rfl, hmem⟩ := hS.pos (by omega)
  have hr := urs_at (U := u :: U) (j := 0) (u := u) rfl
  have hp := vParse u.tx (by omega)
  have q1 := and_32767 (pic + 1)
  have q2 := and_255v (lv + 1)
  by_cases he : (prs u.tx).2.2 = 0 ∧ (prs u.tx).1.ly ≤ 0
  · rw [show nlM lv u.tx = (lv + 1) % 256 from if_pos he]
    obtain ⟨he, hy⟩ := he
    generalize prs u.tx = q at hp he hy
    obtain ⟨⟨nr, st, pt, dpic, wd, dlv, ly, sy, ky⟩, r, e⟩ := q
    dsimp only [dv] at hp he hy
    subst he
    refine fn_intro Try.func56 rfl Try.ntmps56 rfl (fun E => ?_)
    (repeat (first | ((first | (apply wo_v; rfl) ); (· first | (apply pv_ev; rfl) | (apply pv_fld; rfl) | (apply g_load; first | (apply pv_ld; rfl; (· (repeat (first | apply sel_here | apply sel_there))); rfl) | (apply pv_ld_ownf; rfl; (· (repeat (first | apply sel_there))); (· assumption); rfl) | (apply pv_ld_own1; rfl; (· (repeat (first | fail ))); (· assumption)) | (apply pv_ld_rof; rfl; (· (first | assumption )); (· assumption); rfl) ) | (apply g_bin; first | (apply a_add; rfl; rfl; infer_instance; omega) | (apply pv_and; rfl; rfl) ) | (apply g_idx; first | (apply pv_idx; rfl; rfl; omega) | (apply (pv_idx_e 0); rfl; rfl; rfl; omega) ) )) | apply wo_nil | apply wc_seq | apply wc_region | (apply wo_st; rfl; rfl; rfl; (· (repeat (first | apply sel_here | apply sel_there))); (· (repeat (first | apply SetAt.here | apply SetAt.there))); rfl) | (apply wo_box1; rfl; rfl; rfl; intro bx) | (apply wo_boxa; rfl; rfl; intro bx) ))
    rw [q1]
    (repeat (first | ((first | (apply wo_v; rfl) ); (· first | (apply pv_ev; rfl) )) ))
    (refine wo_call (hp) rfl (by (repeat (first | apply sub_nil )); done) (by first | exact fun _ h => h | (intro r hr; cases hr; done) | (simp; done) | exact fun _ h => List.mem_append_left _ h | (intro r hr; simp [hr]; done)) rfl ?_; rintro v L' R' ⟨rfl, rfl, rfl⟩ H' hH RR hR; simp only [List.cons_append, List.nil_append] at hH hR; subst hH; have hR := hR.symm; subst hR)
    (repeat (first | ((first | (apply wo_v; rfl) ); (· first | (apply pv_ev; rfl) | (apply pv_fld; rfl) | (apply g_load; first | (apply pv_ld; rfl; (· (repeat (first | apply sel_here | apply sel_there))); rfl) ) | (apply g_pick; first | (apply pv_pick_t; rfl; rfl) ) | (apply g_bin; first | (apply a_add; rfl; rfl; infer_instance; omega) | (apply pv_and; rfl; rfl) ) )) | apply wo_nil | apply wc_seq | apply wc_region | (apply wc_true; rfl) | (apply wc_false; rfl) | (apply a_dec_t; rfl; (· first | assumption | omega)) | (apply wo_run; rfl; rfl) | (apply wo_st; rfl; rfl; rfl; (· (repeat (first | apply sel_here | apply sel_there))); (· (repeat (first | apply SetAt.here | apply SetAt.there))); rfl) | (apply wo_alloc; rfl; intro bx) | (apply wo_sta; rfl; rfl; rfl; rfl; (· (repeat (first | apply sel_here ))); (· (repeat (first | apply LayAt.nil | apply LayAt.here ))); rfl) ))
    rw [q2]
    (repeat (first | fail ))
    exact ret0 rfl ⟨rfl, rfl, rfl⟩ ((by (repeat (first | apply sub_nil )); done) : List.Perm _ ([] ++ _)) (by first | exact fun _ h => h | (intro r hr; cases hr; done) | (simp; done) | exact fun _ h => List.mem_append_left _ h | (intro r hr; simp [hr]; done))
  · rw [show nlM lv u.tx = lv from if_neg he]
    have he2 : ¬ (prs u.tx).2.2 = 0 ∨ ((prs u.tx).2.2 = 0 ∧ ¬ (prs u.tx).1.ly ≤ 0) := by omega
    clear he
    generalize prs u.tx = q at hp he2
    obtain ⟨⟨nr, st, pt, dpic, wd, dlv, ly, sy, ky⟩, r, e⟩ := q
    dsimp only [dv] at hp he2
    rcases he2 with he | ⟨he, hy⟩
    · refine fn_intro Try.func56 rfl Try.ntmps56 rfl (fun E => ?_)
      (repeat (first | ((first | (apply wo_v; rfl) ); (· first | (apply pv_ev; rfl) | (apply pv_fld; rfl) | (apply g_load; first | (apply pv_ld; rfl; (· (repeat (first | apply sel_here | apply sel_there))); rfl) | (apply pv_ld_ownf; rfl; (· (repeat (first | apply sel_there))); (· assumption); rfl) | (apply pv_ld_own1; rfl; (· (repeat (first | fail ))); (· assumption)) | (apply pv_ld_rof; rfl; (· (first | assumption )); (· assumption); rfl) ) | (apply g_bin; first | (apply a_add; rfl; rfl; infer_instance; omega) | (apply pv_and; rfl; rfl) ) | (apply g_idx; first | (apply pv_idx; rfl; rfl; omega) | (apply (pv_idx_e 0); rfl; rfl; rfl; omega) ) )) | apply wo_nil | apply wc_seq | apply wc_region | (apply wo_st; rfl; rfl; rfl; (· (repeat (first | apply sel_here | apply sel_there))); (· (repeat (first | apply SetAt.here | apply SetAt.there))); rfl) | (apply wo_box1; rfl; rfl; rfl; intro bx) | (apply wo_boxa; rfl; rfl; intro bx) ))
      rw [q1]
      (repeat (first | ((first | (apply wo_v; rfl) ); (· first | (apply pv_ev; rfl) )) ))
      (refine wo_call (hp) rfl (by (repeat (first | apply sub_nil )); done) (by first | exact fun _ h => h | (intro r hr; cases hr; done) | (simp; done) | exact fun _ h => List.mem_append_left _ h | (intro r hr; simp [hr]; done)) rfl ?_; rintro v L' R' ⟨rfl, rfl, rfl⟩ H' hH RR hR; simp only [List.cons_append, List.nil_append] at hH hR; subst hH; have hR := hR.symm; subst hR)
      (repeat (first | ((first | (apply wo_v; rfl) ); (· first | (apply pv_ev; rfl) | (apply g_pick; first | (apply pv_pick_t; rfl; rfl) | (apply pv_pick_f; rfl; rfl)) )) | apply wo_nil | apply wc_seq | apply wc_region | apply wc_skip | (apply wc_true; rfl) | (apply wc_false; rfl) | (apply wo_run; rfl; rfl) | (apply wo_skip; rfl; rfl; rfl; rfl) | (apply wo_skip_u; rfl; rfl; rfl) | (apply a_gt; rfl; rfl; (· first | assumption | omega)) | (apply a_gf; rfl; rfl; (· first | assumption | omega)) | (apply wo_alloc; rfl; intro bx) | (apply wo_sta; rfl; rfl; rfl; rfl; (· (repeat (first | apply sel_here ))); (· (repeat (first | apply LayAt.nil | apply LayAt.here ))); rfl) ))
      exact ret0 rfl ⟨rfl, rfl, rfl⟩ ((by (repeat (first | apply sub_nil | (apply sub_cons; (· (repeat (first | apply sel_here | apply sel_there)))))); done) : List.Perm _ ([] ++ _)) (by first | exact fun _ h => h | (intro r hr; cases hr; done) | (simp; done) | exact fun _ h => List.mem_append_left _ h | (intro r hr; simp [hr]; done))
    · subst he
      refine fn_intro Try.func56 rfl Try.ntmps56 rfl (fun E => ?_)
      (repeat (first | ((first | (apply wo_v; rfl) ); (· first | (apply pv_ev; rfl) | (apply pv_fld; rfl) | (apply g_load; first | (apply pv_ld; rfl; (· (repeat (first | apply sel_here | apply sel_there))); rfl) | (apply pv_ld_ownf; rfl; (· (repeat (first | apply sel_there))); (· assumption); rfl) | (apply pv_ld_own1; rfl; (· (repeat (first | fail ))); (· assumption)) | (apply pv_ld_rof; rfl; (· (first | assumption )); (· assumption); rfl) ) | (apply g_bin; first | (apply a_add; rfl; rfl; infer_instance; omega) | (apply pv_and; rfl; rfl) ) | (apply g_idx; first | (apply pv_idx; rfl; rfl; omega) | (apply (pv_idx_e 0); rfl; rfl; rfl; omega) ) )) | apply wo_nil | apply wc_seq | apply wc_region | (apply wo_st; rfl; rfl; rfl; (· (repeat (first | apply sel_here | apply sel_there))); (· (repeat (first | apply SetAt.here | apply SetAt.there))); rfl) | (apply wo_box1; rfl; rfl; rfl; intro bx) | (apply wo_boxa; rfl; rfl; intro bx) ))
      rw [q1]
      (repeat (first | ((first | (apply wo_v; rfl) ); (· first | (apply pv_ev; rfl) )) ))
      (refine wo_call (hp) rfl (by (repeat (first | apply sub_nil )); done) (by first | exact fun _ h => h | (intro r hr; cases hr; done) | (simp; done) | exact fun _ h => List.mem_append_left _ h | (intro r hr; simp [hr]; done)) rfl ?_; rintro v L' R' ⟨rfl, rfl, rfl⟩ H' hH RR hR; simp only [List.cons_append, List.nil_append] at hH hR; subst hH; have hR := hR.symm; subst hR)
      (repeat (first | ((first | (apply wo_v; rfl) ); (· first | (apply pv_ev; rfl) | (apply pv_fld; rfl) | (apply g_load; first | (apply pv_ld; rfl; (· (repeat (first | apply sel_here ))); rfl) ) | (apply g_pick; first | (apply pv_pick_t; rfl; rfl) ) )) | apply wo_nil | apply wc_seq | apply wc_region | apply wc_skip | (apply wc_true; rfl) | (apply wc_false; rfl) | (apply a_dec_t; rfl; (· first | assumption | omega)) | (apply a_dec_f; rfl; (· first | assumption | omega)) | (apply wo_run; rfl; rfl) | (apply wo_alloc; rfl; intro bx) | (apply wo_sta; rfl; rfl; rfl; rfl; (· (repeat (first | apply sel_here ))); (· (repeat (first | apply LayAt.nil | apply LayAt.here ))); rfl) ))
      exact ret0 rfl ⟨rfl, rfl, rfl⟩ ((by (repeat (first | apply sub_nil | (apply sub_cons; (· (repeat (first | apply sel_here | apply sel_there)))))); done) : List.Perm _ ([] ++ _)) (by first | exact fun _ h => h | (intro r hr; cases hr; done) | (simp; done) | exact fun _ h => List.mem_append_left _ h | (intro r hr; simp [hr]; done))
end Go.Proofs.Ytnjicnadlhfocaa
