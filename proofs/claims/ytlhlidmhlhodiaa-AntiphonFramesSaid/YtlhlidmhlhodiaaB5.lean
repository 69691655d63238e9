/-
  Texts of this proof, laid together (part 5 of 8).
-/
import Derived.Test.YtlhlidmhlhodiaaB4
import Derived.Shelf.SlIterI.Nil
/-
  Package frame: Put, of packets in their order.
-/
namespace Go.Proofs.Ytlhlidmhlhodiaa
set_option linter.unusedSimpArgs false
set_option linter.unusedVariables false
open Go.RowKit
attribute [local irreducible] Pv WO WC Fn
set_option maxRecDepth 100000
attribute [local irreducible] ByteArray.extract

/-- what is begun: nothing, or a slice -/
def OpS (ao : Option Addr) (n c : Nat) (U : List Un) : Prop := U.length = n ∧ ((ao = none ∧ n = 0 ∧ c = 0) ∨ ∃ b o, ao = some ⟨b, o, none⟩ ∧ 0 < n)
theorem fCl (ao : Option Addr) (n c : Nat) (U : List Un) (h : OpS ao n c U) (hn : n ≤ 100) : Fn Try.prog 155 #[.slice ao n c] [u7 ao n c U] [] (fun v L' R' => ∃ ao2 c2, v = .slice ao2 n c2 ∧ L' = [u7 ao2 n c2 U] ∧ R' = []) := by
  obtain ⟨hU, ⟨rfl, rfl, rfl⟩ | ⟨b, o, rfl, h0⟩⟩ := h
  · refine fn_intro Try.func155 rfl Try.ntmps155 rfl (fun E => ?_)
    (repeat (first | ((first | (apply wo_v; rfl) ); (· first | (apply pv_ev; rfl) | (apply g_bin; first | (apply pv_eql_s; rfl; rfl) | (apply pv_eql_a; rfl; rfl; infer_instance; rfl; rfl) ) )) | apply wo_nil | apply wc_seq | apply wc_region ))
    refine wo_v rfl (pv_eql_nil rfl rfl) ?_
    (repeat (first | ((first | (apply wo_v; rfl) ); (· first | (apply pv_ev; rfl) )) | apply wo_nil | apply wc_seq | apply wc_region | apply wc_ret | (apply wc_true; rfl) ))
    exact ret1 rfl rfl ⟨none, 0, rfl, rfl, rfl⟩ ((by (repeat (first | apply sub_nil )); done) : List.Perm _ ([_] ++ _)) (by first | exact fun _ h => h | (intro r hr; cases hr; done) | (simp; done) | exact fun _ h => List.mem_append_left _ h | (intro r hr; simp [hr]; done))
  · exact fClone b o n c U ⟨h0, hn⟩
def tblPt (b : Nat) (ao : Option Addr) (n c : Nat) (U : List Un) (u : Un) (wh lo : Int) : Nat → List (List It) → Value → List (List It) → Prop := fun k Ls v Ms => match k, Ls with
  | 5, L => v = .slice ao n c ∧ Ms = L
  | 6, _ => ∃ ao2 c2, v = .slice ao2 n c2 ∧ Ms = [[u7 ao2 n c2 U]]
  | 8, _ => ∃ bb, v = .slice (some ⟨bb, 0, none⟩) 1 1 ∧ Ms = [[u7' (some ⟨bb, 0, none⟩) 1 1 [urow u]]]
  | 9, [_, y] => ∃ ao2 c2, v = .slice ao2 (n + 1) c2 ∧ Ms = [[u7' ao2 (n + 1) c2 (urs U ++ [urow u])], y]
  | 13, [[.own T2 sz ao2 n2 c2 xs], _] => v = undef ∧ Ms = [[.own T2 sz ao2 n2 c2 xs], [mkI b (.slice ao2 n2 c2) wh lo]]
  | _, _ => False
abbrev unB (bx : Nat) (u : Un) : It := .ob bx (.cells (urow u).toArray 106 (0, 0))
abbrev frB (b : Nat) : It := .ob b (.cells #[.slice none 0 0] 104 (0, 0))
abbrev PutPost (b : Nat) (n : Nat) (U : List Un) (u : Un) (wh lo : Int) : Value → List It → List Ro → Prop := fun v L' R' => ∃ a2 c2, R' = [] ∧ ((u.mrk = true ∧ v = .tuple #[.agg #[.slice a2 (n + 1) c2], .bool true] ∧ L' = [mkI b (.slice none 0 0) (wh + 1) lo, u7 a2 (n + 1) c2 (U ++ [u])])
  ∨ (u.mrk = false ∧ v = .tuple #[.agg #[.slice none 0 0], .bool false] ∧ L' = [mkI b (.slice a2 (n + 1) c2) wh lo, u7 a2 (n + 1) c2 (U ++ [u])]))
set_option maxHeartbeats 16000000 in
theorem fPutN (b : Nat) (b0 o0 n c : Nat) (wh lo : Int) (U : List Un) (hU : U.length = n) (hn : 0 < n ∧ n + 1 ≤ 8) (at_ ti tk : Int) (mrk ky : Bool) (tx : ByteArray) (l : Un) (hl : U[n - 1]? = some l) (h1 : at_ = l.at_ + 1) (h2 : ti = l.ti) (hb : -1000000000000000 ≤ l.at_ ∧ l.at_ ≤ 1000000000000000)
    (hu : ∀ u ∈ U, u.tx.size ≤ 50) (htx : tx.size ≤ 50) (hw : 0 ≤ wh ∧ wh ≤ 1000000) :
    Fn Try.prog 138 #[.pointer (some ⟨b, 0, none⟩), .agg (urow ⟨at_, ti, mrk, false, ky, tx, tk⟩).toArray] [mkI b (.slice (some ⟨b0, o0, none⟩) n c) wh lo, u7 (some ⟨b0, o0, none⟩) n c U] [] (PutPost b n U ⟨at_, ti, mrk, false, ky, tx, tk⟩ wh lo) := by
  have qf := fFol b b0 o0 n c wh lo U hU ⟨hn.1, by omega⟩ at_ ti tk mrk ky tx l hl h1 h2 hb
  have qc := fCl (some ⟨b0, o0, none⟩) n c U ⟨hU, .inr ⟨b0, o0, rfl, hn.1⟩⟩ (by omega)
  have qo := fun ao c => fOpen b ao (n + 1) c wh lo
  have hu2 : ∀ x ∈ U ++ [(⟨at_, ti, mrk, false, ky, tx, tk⟩ : Un)], x.tx.size ≤ 50 := fun x hx => by
    rcases List.mem_append.1 hx with h | h
    · exact hu x h
    · rcases List.mem_singleton.1 h with rfl; exact htx
  have hln : (U ++ [(⟨at_, ti, mrk, false, ky, tx, tk⟩ : Un)]).length = n + 1 := by rw [List.length_append, hU]; rfl
  have hsz := tzU_le hu2
  rw [hln] at hsz
  have qs := fun ao c => fSize (U ++ [(⟨at_, ti, mrk, false, ky, tx, tk⟩ : Un)]) ao (n + 1) c hln (by omega) (fun x hx => by have := hu2 x hx; omega)
  refine fn_intro Try.func138 rfl Try.ntmps138 rfl (fun E => ?_)
  (repeat (first | ((first | (apply wo_v; rfl) ); (· first | (apply pv_ev; rfl) | (apply g_load; first | (apply pv_lda; rfl; (· (repeat (first | apply sel_here | apply sel_there))); (· (repeat (first | apply Cut.here0 | apply Cut.here )))) ) )) | apply wo_nil | apply wc_seq | apply wc_region | (apply wo_box1; rfl; rfl; rfl; intro bx) | (apply wo_boxa; rfl; rfl; intro bx) | (apply wo_alloc; rfl; intro bx) ))
  rename_i b3
  (refine wo_call (qf) rfl (by (repeat (first | apply sub_nil | (apply sub_cons; (· (repeat (first | apply sel_here | apply sel_there)))))); done) (by first | exact fun _ h => h | (intro r hr; cases hr; done) | (simp; done) | exact fun _ h => List.mem_append_left _ h | (intro r hr; simp [hr]; done)) rfl ?_; rintro v L' R' ⟨rfl, rfl, rfl⟩ H' hH RR hR; simp only [List.cons_append, List.nil_append] at hH hR; subst hH; have hR := hR.symm; subst hR)
  (repeat (first | ((first | (apply wo_v; rfl) ); (· first | (apply pv_ev; rfl) | (apply g_un; first | (apply pv_not_t; rfl) ) )) | apply wo_nil | apply wc_seq | apply wc_skip | (apply wc_true; rfl) | (apply wc_false; rfl) ))
/-TAILN-/
  obtain ⟨b4, hb4⟩ : ∃ g, g = bx := ⟨_, rfl⟩
  subst hb4
  (refine wc_regM [0, 1, 2] (aslL [(5, [0]), (6, [1]), (8, [2]), (9, [1, 2]), (13, [1, 0])]) (tblPt b (some ⟨b0, o0, none⟩) n c U (⟨at_, ti, mrk, false, ky, tx, tk⟩ : Un) wh lo) ([frB b4, unB b3 (⟨at_, ti, mrk, false, ky, tx, tk⟩ : Un)]) (fm [(0, [mkI b (.slice (some ⟨b0, o0, none⟩) n c) wh lo]), (1, [u7 (some ⟨b0, o0, none⟩) n c U]), (2, [])]) mixed (by kernel_rfl) (by kernel_rfl) (by decide) (aslL_ok (by decide)) (by (repeat (first | (apply prm_cons; (· (repeat (first | apply sel_here | apply sel_there)))) | apply List.Perm.nil )); done) ?_; (repeat (first | (apply HdM.val; rfl; rfl; (· first | apply gok_none ); (· first | (apply pv_ev; rfl) | (apply pv_fld; rfl) )) )))
  (refine hm_eff (cs := [0]) rfl (by decide) rfl rfl (by first | exact gok_none | exact gok_run rfl rfl) (fun a ha => outc_mono (outc_ld (L := [mkI b (.slice (some ⟨b0, o0, none⟩) n c) wh lo]) (pv_ld rfl (by (repeat (first | apply sel_here )); done) rfl) a ha) (fun v M h => ⟨[M], And.intro h.1 (congrArg (fun x => [x]) h.2), rfl, by simp⟩)) (⟨_, _, And.intro rfl rfl, rfl⟩) ?_; rintro v Ms ⟨rfl, rfl⟩ _; simp only [setls, setl, reduceIte, Nat.reduceEqDiff]; (repeat (first | (apply HdM.val; rfl; rfl; (· first | fail ); (· first | fail )) )))
  (refine hm_eff (cs := [1]) rfl (by decide) rfl rfl (by first | exact gok_none | exact gok_run rfl rfl) (fun a ha => outc_mono (outc_call (F1 := _) (T := fun v M => ∃ ao2 c2, v = .slice ao2 n c2 ∧ M = [u7 ao2 n c2 U]) qc rfl (by (repeat (first | apply sub_nil )); done) (by first | exact fun _ h => h | (intro r hr; cases hr; done) | (simp; done) | exact fun _ h => List.mem_append_left _ h | (intro r hr; simp [hr]; done)) (by rintro v L' R' ⟨ao2, c2, rfl, rfl, _⟩; exact ⟨_, ⟨ao2, c2, rfl, rfl⟩, (by (repeat (first | (apply prm_cons; (· (repeat (first | apply sel_here )))) | apply List.Perm.nil )); done)⟩) a ha) (fun v M h => by obtain ⟨ao2, c2, h1, h2⟩ := h; exact ⟨[M], ⟨ao2, c2, h1, congrArg (fun x => [x]) h2⟩, rfl, by simp⟩)) (⟨_, _, ⟨none, 0, rfl, rfl⟩, rfl⟩) ?_; rintro v Ms ⟨ao4, c4, rfl, rfl⟩ _; simp only [setls, setl, reduceIte, Nat.reduceEqDiff]; (repeat (first | (apply HdM.val; rfl; rfl; (· first | apply gok_none ); (· first | (apply pv_ev; rfl) | (apply g_load; first | (apply pv_lda; rfl; (· (repeat (first | apply sel_here | apply sel_there))); (· (repeat (first | apply Cut.here0 | apply Cut.here )))) ) )) )))
  (refine hm_eff (cs := [2]) rfl (by decide) rfl rfl (by first | exact gok_none | exact gok_run rfl rfl) (fun a ha => outc_mono (outc_bsl (by (repeat (first | apply Rws'.nil | (apply Rws'.agg; rfl; rfl; rfl))); done) rfl rfl rfl a ha) (fun v M h => Exists.elim h fun b h => ⟨[M], Exists.intro b (And.intro h.1 (congrArg (fun x => [x]) h.2)), rfl, by simp⟩)) (⟨_, _, Exists.intro 0 (And.intro rfl rfl), rfl⟩) ?_; rintro v Ms ⟨b8, rfl, rfl⟩ _; simp only [setls, setl, reduceIte, Nat.reduceEqDiff]; (repeat (first | (apply HdM.val; rfl; rfl; (· first | fail ); (· first | fail )) )))
  (refine hm_eff (cs := [1, 2]) rfl (by decide) rfl rfl (by first | exact gok_none | exact gok_run rfl rfl) (fun a ha => outc_mono (outc_app_g rfl rfl (by unfold maxLen; omega) (by omega) a ha) (fun v M h => by obtain ⟨b, c, h1, h2⟩ := h; exact ⟨[[_], [_]], ⟨b, c, h1, rfl⟩, rfl, h2⟩)) (⟨_, _, ⟨none, 0, rfl, rfl⟩, rfl⟩) ?_; rintro v Ms ⟨ao5, c5, rfl, rfl⟩ _; simp only [setls, setl, reduceIte, Nat.reduceEqDiff]; (repeat (first | (apply HdM.val; rfl; rfl; (· first | apply gok_none ); (· first | (apply pv_ev; rfl) | (apply pv_fld; rfl) )) )))
  (refine hm_eff (cs := [1, 0]) rfl (by decide) rfl rfl (by first | exact gok_none | exact gok_run rfl rfl) (fun a ha => outc_mono (outc_frA (X := [u7' ao5 (n + 1) c5 (urs U ++ [urow (⟨at_, ti, mrk, false, ky, tx, tk⟩ : Un)])]) (L := [mkI b (.slice (some ⟨b0, o0, none⟩) n c) wh lo]) (outc_st rfl rfl rfl (by (repeat (first | apply SetAt.here | apply SetAt.there)); done)) a ha) (fun v M h => by obtain ⟨M0, ⟨h1, h2⟩, h3⟩ := h; exact ⟨[[_], [_]], ⟨h1, rfl⟩, rfl, by rw [h3, h2]; rfl⟩)) (⟨_, _, ⟨rfl, rfl⟩, rfl⟩) ?_; rintro v Ms ⟨rfl, rfl⟩ _; simp only [setls, setl, reduceIte, Nat.reduceEqDiff]; (repeat (first | fail )))
  (refine HdM.nil ?_; intro H hH; simp only [Hp, fm, look, setl, List.flatMap_cons, List.flatMap_nil, reduceIte, Nat.reduceEqDiff, Option.getD_some, List.append_nil, List.cons_append, List.nil_append] at hH; subst hH)
  (repeat (first | apply wc_seq ))
  rw [show urs U ++ [urow (⟨at_, ti, mrk, false, ky, tx, tk⟩ : Un)] = urs (U ++ [(⟨at_, ti, mrk, false, ky, tx, tk⟩ : Un)]) from by simp [urs]]
  generalize tzU (U ++ [(⟨at_, ti, mrk, false, ky, tx, tk⟩ : Un)]) = z at *
  (refine wc_quiet mixed (by kernel_rfl) ?_; (repeat (first | ((first | (apply hd_v; rfl) ); (· first | (apply pv_ev; rfl) )) )))
  (refine Hd.call rfl inferInstance (Fn.mono (qo ao5 c5) (fun _ _ _ h => ⟨h.1, h.2.1⟩)) rfl (by (repeat (first | apply sub_nil | (apply sub_cons; (· (repeat (first | apply sel_here | apply sel_there)))))); done) (by first | exact fun _ h => h | (intro r hr; cases hr; done) | (simp; done) | exact fun _ h => List.mem_append_left _ h | (intro r hr; simp [hr]; done)) rfl ?_; (repeat (first | ((first | (apply hd_v; rfl) ); (· first | (apply pv_ev; rfl) | (apply pv_fld; rfl) | (apply g_load; first | (apply pv_ld; rfl; (· (repeat (first | apply sel_here | apply sel_there))); rfl) | (apply pv_lda; rfl; (· (repeat (first | apply sel_here | apply sel_there))); (· (repeat (first | apply Cut.here0 | apply Cut.here | apply Cut.there)))) ) )) | (apply Hd.run; rfl; rfl) | (apply Hd.skip; rfl; rfl; rfl; rfl) | (apply Hd.skipu; rfl; rfl; rfl) | (apply ah_gt; rfl; rfl; (· first | assumption | omega)) | (apply ah_gf; rfl; rfl; (· first | assumption | omega)) )))
  (refine Hd.call rfl inferInstance (Fn.mono (qs ao5 c5) (fun _ _ _ h => ⟨h.1, h.2.1⟩)) rfl (by (repeat (first | apply sub_nil | (apply sub_cons; (· (repeat (first | apply sel_here | apply sel_there)))))); done) (by first | exact fun _ h => h | (intro r hr; cases hr; done) | (simp; done) | exact fun _ h => List.mem_append_left _ h | (intro r hr; simp [hr]; done)) rfl ?_; (repeat (first | ((first | (apply wo_v; rfl) | (apply hd_v; rfl) ); (· first | (apply pv_ev; rfl) | (apply pv_fld; rfl) | (apply g_load; first | (apply pv_ld; rfl; (· (repeat (first | apply sel_here | apply sel_there))); rfl) ) | (apply g_pick; first | (apply pv_pick_t; rfl; rfl) | (apply pv_pick_f; rfl; rfl)) | (apply g_un; first | (apply pv_not_t; rfl) | (apply pv_not_f; rfl) | (apply a_not_d; rfl) | (apply pv_not; rfl) ) )) | apply wo_nil | apply Hd.nil | apply wc_seq | apply wc_region | apply wc_skip | (apply wc_true; rfl) | (apply wc_false; rfl) | (apply a_dec_t; rfl; (· first | assumption | omega)) | (apply a_dec_f; rfl; (· first | assumption | omega)) | (apply a_dec_t; rfl; (· first | (simp; done) | (simp; omega))) | (apply a_dec_f; rfl; (· first | (simp; done) | (simp; omega))) | (apply wo_run; rfl; rfl) | (apply Hd.run; rfl; rfl) )))
  cases mrk with
  | true =>
    (repeat (first | ((first | (apply wo_v; rfl) ); (· first | (apply pv_ev; rfl) | (apply pv_fld; rfl) | (apply g_load; first | (apply pv_ld; rfl; (· (repeat (first | apply sel_here ))); rfl) | (apply pv_lda; rfl; (· (repeat (first | apply sel_here | apply sel_there))); (· (repeat (first | apply Cut.here0 | apply Cut.here | apply Cut.there)))) ) | (apply g_bin; first | (apply a_add; rfl; rfl; infer_instance; omega) ) | (apply g_build; apply pv_build; (· (repeat (first | apply Bld.nil )))) )) | apply wo_nil | apply wc_seq | apply wc_region | apply wc_skip | apply wc_ret | (apply wc_true; rfl) | (apply wc_false; rfl) | (apply wo_st; rfl; rfl; rfl; (· (repeat (first | apply sel_here ))); (· (repeat (first | apply SetAt.here | apply SetAt.there))); rfl) | (apply wo_alloc; rfl; intro bx) | (apply wo_sta; rfl; rfl; rfl; rfl; (· (repeat (first | apply sel_here | apply sel_there))); (· (repeat (first | apply LayAt.nil | apply LayAt.here | apply LayAt.there))); rfl) ))
    exact retv rfl (by (repeat (first | apply RV.nil | (apply RV.tmp; rfl) | (apply RV.agg; rfl; (· (repeat (first | apply sel_here ))); infer_instance; (· (repeat (first | apply Cut.here0 | apply Cut.here )))) )); done) (⟨ao5, c5, rfl, .inl ⟨rfl, rfl, rfl⟩⟩) (by (repeat (first | apply sub_nil | (apply sub_cons; (· (repeat (first | apply sel_here | apply sel_there)))))); done) (by first | exact fun _ h => h | (intro r hr; cases hr; done) | (simp; done) | exact fun _ h => List.mem_append_left _ h | (intro r hr; simp [hr]; done))
  | false =>
    (repeat (first | ((first | (apply wo_v; rfl) ); (· first | (apply pv_ev; rfl) | (apply g_build; apply pv_build; (· (repeat (first | apply Bld.nil )))) )) | apply wo_nil | apply wc_seq | apply wc_region | apply wc_ret | (apply wc_true; rfl) | (apply wo_sta; rfl; rfl; rfl; rfl; (· (repeat (first | apply sel_here ))); (· (repeat (first | apply LayAt.nil | apply LayAt.here ))); rfl) ))
    exact retv rfl (by (repeat (first | apply RV.nil | (apply RV.tmp; rfl) | (apply RV.agg; rfl; (· (repeat (first | apply sel_here ))); infer_instance; (· (repeat (first | apply Cut.here0 | apply Cut.here )))) )); done) (⟨ao5, c5, rfl, .inr ⟨rfl, rfl, rfl⟩⟩) (by (repeat (first | apply sub_nil | (apply sub_cons; (· (repeat (first | apply sel_here | apply sel_there)))))); done) (by first | exact fun _ h => h | (intro r hr; cases hr; done) | (simp; done) | exact fun _ h => List.mem_append_left _ h | (intro r hr; simp [hr]; done))
/-ENDN-/
set_option maxHeartbeats 16000000 in
theorem fPut0 (b : Nat) (wh lo : Int) (at_ ti tk : Int) (mrk ky : Bool) (tx : ByteArray) (htx : tx.size ≤ 50) (hw : 0 ≤ wh ∧ wh ≤ 1000000) (hlo : 0 ≤ lo ∧ lo ≤ 1000000) :
    Fn Try.prog 138 #[.pointer (some ⟨b, 0, none⟩), .agg (urow ⟨at_, ti, mrk, true, ky, tx, tk⟩).toArray] [mkI b (.slice none 0 0) wh lo] [] (PutPost b 0 [] ⟨at_, ti, mrk, true, ky, tx, tk⟩ wh lo) := by
  have qf := fFol0 b wh lo (⟨at_, ti, mrk, true, ky, tx, tk⟩ : Un)
  have qd := fDrop b none 0 0 wh lo ⟨hlo.1, hlo.2, by omega⟩
  rw [show lo + ((0 : Nat) : Int) = lo by omega] at qd
  have qc := fCl none 0 0 [] ⟨rfl, .inl ⟨rfl, rfl, rfl⟩⟩ (by omega)
  have qo := fun ao c => fOpen b ao (0 + 1) c wh lo
  have hu2 : ∀ x ∈ [] ++ [(⟨at_, ti, mrk, true, ky, tx, tk⟩ : Un)], x.tx.size ≤ 50 := fun x hx => by
    rcases List.mem_singleton.1 hx with rfl; exact htx
  have hsz : tzU ([] ++ [(⟨at_, ti, mrk, true, ky, tx, tk⟩ : Un)]) ≤ 50 * (0 + 1) := tzU_le hu2
  have qs := fun ao c => fSize ([] ++ [(⟨at_, ti, mrk, true, ky, tx, tk⟩ : Un)]) ao (0 + 1) c rfl (by omega) (fun x hx => by have := hu2 x hx; omega)
  refine fn_intro Try.func138 rfl Try.ntmps138 rfl (fun E => ?_)
  (repeat (first | ((first | (apply wo_v; rfl) ); (· first | (apply pv_ev; rfl) | (apply g_load; first | (apply pv_lda; rfl; (· (repeat (first | apply sel_here | apply sel_there))); (· (repeat (first | apply Cut.here0 | apply Cut.here )))) ) )) | apply wo_nil | apply wc_seq | apply wc_region | (apply wo_box1; rfl; rfl; rfl; intro bx) | (apply wo_boxa; rfl; rfl; intro bx) | (apply wo_alloc; rfl; intro bx) ))
  rename_i b3
  (refine wo_call (qf) rfl (by (repeat (first | apply sub_nil | (apply sub_cons; (· (repeat (first | apply sel_here | apply sel_there)))))); done) (by first | exact fun _ h => h | (intro r hr; cases hr; done) | (simp; done) | exact fun _ h => List.mem_append_left _ h | (intro r hr; simp [hr]; done)) rfl ?_; rintro v L' R' ⟨rfl, rfl, rfl⟩ H' hH RR hR; simp only [List.cons_append, List.nil_append] at hH hR; subst hH; have hR := hR.symm; subst hR)
  (repeat (first | ((first | (apply wo_v; rfl) ); (· first | (apply pv_ev; rfl) | (apply g_un; first | (apply pv_not_t; rfl) | (apply pv_not_f; rfl) ) )) | apply wo_nil | apply wc_seq | apply wc_region | (apply wc_true; rfl) ))
  (refine wo_call (qd) rfl (by (repeat (first | apply sub_nil )); done) (by first | exact fun _ h => h | (intro r hr; cases hr; done) | (simp; done) | exact fun _ h => List.mem_append_left _ h | (intro r hr; simp [hr]; done)) rfl ?_; rintro v L' R' ⟨rfl, rfl, rfl⟩ H' hH RR hR; simp only [List.cons_append, List.nil_append] at hH hR; subst hH; have hR := hR.symm; subst hR)
  (repeat (first | ((first | (apply wo_v; rfl) ); (· first | (apply pv_ev; rfl) | (apply pv_fld; rfl) | (apply g_load; first | (apply pv_ld; rfl; (· (repeat (first | apply sel_here | apply sel_there))); rfl) ) | (apply g_pick; first | (apply pv_pick_t; rfl; rfl) ) | (apply g_un; first | (apply pv_not_t; rfl) ) )) | apply wo_nil | apply wc_seq | apply wc_region | apply wc_skip | (apply wc_true; rfl) | (apply wc_false; rfl) | (apply wo_run; rfl; rfl) ))
  refine wc_own0 106 7 ?_
/-TAIL0-/
  obtain ⟨b4, hb4⟩ : ∃ g, g = bx := ⟨_, rfl⟩
  subst hb4
  (refine wc_regM [0, 1, 2] (aslL [(5, [0]), (6, [1]), (8, [2]), (9, [1, 2]), (13, [1, 0])]) (tblPt b none 0 0 ([] : List Un) (⟨at_, ti, mrk, true, ky, tx, tk⟩ : Un) wh lo) ([frB b4, unB b3 (⟨at_, ti, mrk, true, ky, tx, tk⟩ : Un)]) (fm [(0, [mkI b (.slice none 0 0) wh lo]), (1, [u7 none 0 0 ([] : List Un)]), (2, [])]) mixed (by kernel_rfl) (by kernel_rfl) (by decide) (aslL_ok (by decide)) (by (repeat (first | (apply prm_cons; (· (repeat (first | apply sel_here | apply sel_there)))) | apply List.Perm.nil )); done) ?_; (repeat (first | (apply HdM.val; rfl; rfl; (· first | apply gok_none ); (· first | (apply pv_ev; rfl) | (apply pv_fld; rfl) )) )))
  (refine hm_eff (cs := [0]) rfl (by decide) rfl rfl (by first | exact gok_none | exact gok_run rfl rfl) (fun a ha => outc_mono (outc_ld (L := [mkI b (.slice none 0 0) wh lo]) (pv_ld rfl (by (repeat (first | apply sel_here )); done) rfl) a ha) (fun v M h => ⟨[M], And.intro h.1 (congrArg (fun x => [x]) h.2), rfl, by simp⟩)) (⟨_, _, And.intro rfl rfl, rfl⟩) ?_; rintro v Ms ⟨rfl, rfl⟩ _; simp only [setls, setl, reduceIte, Nat.reduceEqDiff]; (repeat (first | (apply HdM.val; rfl; rfl; (· first | fail ); (· first | fail )) )))
  (refine hm_eff (cs := [1]) rfl (by decide) rfl rfl (by first | exact gok_none | exact gok_run rfl rfl) (fun a ha => outc_mono (outc_call (F1 := _) (T := fun v M => ∃ ao2 c2, v = .slice ao2 0 c2 ∧ M = [u7 ao2 0 c2 ([] : List Un)]) qc rfl (by (repeat (first | apply sub_nil )); done) (by first | exact fun _ h => h | (intro r hr; cases hr; done) | (simp; done) | exact fun _ h => List.mem_append_left _ h | (intro r hr; simp [hr]; done)) (by rintro v L' R' ⟨ao2, c2, rfl, rfl, _⟩; exact ⟨_, ⟨ao2, c2, rfl, rfl⟩, (by (repeat (first | (apply prm_cons; (· (repeat (first | apply sel_here )))) | apply List.Perm.nil )); done)⟩) a ha) (fun v M h => by obtain ⟨ao2, c2, h1, h2⟩ := h; exact ⟨[M], ⟨ao2, c2, h1, congrArg (fun x => [x]) h2⟩, rfl, by simp⟩)) (⟨_, _, ⟨none, 0, rfl, rfl⟩, rfl⟩) ?_; rintro v Ms ⟨ao4, c4, rfl, rfl⟩ _; simp only [setls, setl, reduceIte, Nat.reduceEqDiff]; (repeat (first | (apply HdM.val; rfl; rfl; (· first | apply gok_none ); (· first | (apply pv_ev; rfl) | (apply g_load; first | (apply pv_lda; rfl; (· (repeat (first | apply sel_here | apply sel_there))); (· (repeat (first | apply Cut.here0 | apply Cut.here )))) ) )) )))
  (refine hm_eff (cs := [2]) rfl (by decide) rfl rfl (by first | exact gok_none | exact gok_run rfl rfl) (fun a ha => outc_mono (outc_bsl (by (repeat (first | apply Rws'.nil | (apply Rws'.agg; rfl; rfl; rfl))); done) rfl rfl rfl a ha) (fun v M h => Exists.elim h fun b h => ⟨[M], Exists.intro b (And.intro h.1 (congrArg (fun x => [x]) h.2)), rfl, by simp⟩)) (⟨_, _, Exists.intro 0 (And.intro rfl rfl), rfl⟩) ?_; rintro v Ms ⟨b8, rfl, rfl⟩ _; simp only [setls, setl, reduceIte, Nat.reduceEqDiff]; (repeat (first | (apply HdM.val; rfl; rfl; (· first | fail ); (· first | fail )) )))
  (refine hm_eff (cs := [1, 2]) rfl (by decide) rfl rfl (by first | exact gok_none | exact gok_run rfl rfl) (fun a ha => outc_mono (outc_app_g rfl rfl (by unfold maxLen; omega) (by omega) a ha) (fun v M h => by obtain ⟨b, c, h1, h2⟩ := h; exact ⟨[[_], [_]], ⟨b, c, h1, rfl⟩, rfl, h2⟩)) (⟨_, _, ⟨none, 0, rfl, rfl⟩, rfl⟩) ?_; rintro v Ms ⟨ao5, c5, rfl, rfl⟩ _; simp only [setls, setl, reduceIte, Nat.reduceEqDiff]; (repeat (first | (apply HdM.val; rfl; rfl; (· first | apply gok_none ); (· first | (apply pv_ev; rfl) | (apply pv_fld; rfl) )) )))
  (refine hm_eff (cs := [1, 0]) rfl (by decide) rfl rfl (by first | exact gok_none | exact gok_run rfl rfl) (fun a ha => outc_mono (outc_frA (X := [u7' ao5 (0 + 1) c5 (urs ([] : List Un) ++ [urow (⟨at_, ti, mrk, true, ky, tx, tk⟩ : Un)])]) (L := [mkI b (.slice none 0 0) wh lo]) (outc_st rfl rfl rfl (by (repeat (first | apply SetAt.here | apply SetAt.there)); done)) a ha) (fun v M h => by obtain ⟨M0, ⟨h1, h2⟩, h3⟩ := h; exact ⟨[[_], [_]], ⟨h1, rfl⟩, rfl, by rw [h3, h2]; rfl⟩)) (⟨_, _, ⟨rfl, rfl⟩, rfl⟩) ?_; rintro v Ms ⟨rfl, rfl⟩ _; simp only [setls, setl, reduceIte, Nat.reduceEqDiff]; (repeat (first | fail )))
  (refine HdM.nil ?_; intro H hH; simp only [Hp, fm, look, setl, List.flatMap_cons, List.flatMap_nil, reduceIte, Nat.reduceEqDiff, Option.getD_some, List.append_nil, List.cons_append, List.nil_append] at hH; subst hH)
  (repeat (first | apply wc_seq ))
  rw [show urs ([] : List Un) ++ [urow (⟨at_, ti, mrk, true, ky, tx, tk⟩ : Un)] = urs (([] : List Un) ++ [(⟨at_, ti, mrk, true, ky, tx, tk⟩ : Un)]) from by simp [urs]]
  generalize tzU (([] : List Un) ++ [(⟨at_, ti, mrk, true, ky, tx, tk⟩ : Un)]) = z at *
  (refine wc_quiet mixed (by kernel_rfl) ?_; (repeat (first | ((first | (apply hd_v; rfl) ); (· first | (apply pv_ev; rfl) )) )))
  (refine Hd.call rfl inferInstance (Fn.mono (qo ao5 c5) (fun _ _ _ h => ⟨h.1, h.2.1⟩)) rfl (by (repeat (first | apply sub_nil | (apply sub_cons; (· (repeat (first | apply sel_here | apply sel_there)))))); done) (by first | exact fun _ h => h | (intro r hr; cases hr; done) | (simp; done) | exact fun _ h => List.mem_append_left _ h | (intro r hr; simp [hr]; done)) rfl ?_; (repeat (first | ((first | (apply hd_v; rfl) ); (· first | (apply pv_ev; rfl) | (apply pv_fld; rfl) | (apply g_load; first | (apply pv_ld; rfl; (· (repeat (first | apply sel_here | apply sel_there))); rfl) | (apply pv_lda; rfl; (· (repeat (first | apply sel_here | apply sel_there))); (· (repeat (first | apply Cut.here0 | apply Cut.here | apply Cut.there)))) ) )) | (apply Hd.run; rfl; rfl) )))
  (refine Hd.call rfl inferInstance (Fn.mono (qs ao5 c5) (fun _ _ _ h => ⟨h.1, h.2.1⟩)) rfl (by (repeat (first | apply sub_nil | (apply sub_cons; (· (repeat (first | apply sel_here | apply sel_there)))))); done) (by first | exact fun _ h => h | (intro r hr; cases hr; done) | (simp; done) | exact fun _ h => List.mem_append_left _ h | (intro r hr; simp [hr]; done)) rfl ?_; (repeat (first | ((first | (apply wo_v; rfl) | (apply hd_v; rfl) ); (· first | (apply pv_ev; rfl) | (apply pv_fld; rfl) | (apply g_load; first | (apply pv_ld; rfl; (· (repeat (first | apply sel_here | apply sel_there))); rfl) ) | (apply g_pick; first | (apply pv_pick_t; rfl; rfl) | (apply pv_pick_f; rfl; rfl)) | (apply g_un; first | (apply pv_not_t; rfl) | (apply pv_not_f; rfl) | (apply a_not_d; rfl) | (apply pv_not; rfl) ) )) | apply wo_nil | apply Hd.nil | apply wc_seq | apply wc_region | apply wc_skip | (apply wc_true; rfl) | (apply wc_false; rfl) | (apply a_dec_t; rfl; (· first | assumption | omega)) | (apply a_dec_f; rfl; (· first | assumption | omega)) | (apply a_dec_t; rfl; (· first | (simp; done) | (simp; omega))) | (apply a_dec_f; rfl; (· first | (simp; done) | (simp; omega))) | (apply wo_run; rfl; rfl) | (apply Hd.run; rfl; rfl) )))
  cases mrk with
  | true =>
    (repeat (first | ((first | (apply wo_v; rfl) ); (· first | (apply pv_ev; rfl) | (apply pv_fld; rfl) | (apply g_load; first | (apply pv_ld; rfl; (· (repeat (first | apply sel_here ))); rfl) | (apply pv_lda; rfl; (· (repeat (first | apply sel_here | apply sel_there))); (· (repeat (first | apply Cut.here0 | apply Cut.here | apply Cut.there)))) ) | (apply g_bin; first | (apply a_add; rfl; rfl; infer_instance; omega) ) | (apply g_build; apply pv_build; (· (repeat (first | apply Bld.nil )))) )) | apply wo_nil | apply wc_seq | apply wc_region | apply wc_skip | apply wc_ret | (apply wc_true; rfl) | (apply wc_false; rfl) | (apply wo_st; rfl; rfl; rfl; (· (repeat (first | apply sel_here ))); (· (repeat (first | apply SetAt.here | apply SetAt.there))); rfl) | (apply wo_alloc; rfl; intro bx) | (apply wo_sta; rfl; rfl; rfl; rfl; (· (repeat (first | apply sel_here | apply sel_there))); (· (repeat (first | apply LayAt.nil | apply LayAt.here | apply LayAt.there))); rfl) ))
    exact retv rfl (by (repeat (first | apply RV.nil | (apply RV.tmp; rfl) | (apply RV.agg; rfl; (· (repeat (first | apply sel_here ))); infer_instance; (· (repeat (first | apply Cut.here0 | apply Cut.here )))) )); done) (⟨ao5, c5, rfl, .inl ⟨rfl, rfl, rfl⟩⟩) (by (repeat (first | apply sub_nil | (apply sub_cons; (· (repeat (first | apply sel_here | apply sel_there)))))); done) (by first | exact fun _ h => h | (intro r hr; cases hr; done) | (simp; done) | exact fun _ h => List.mem_append_left _ h | (intro r hr; simp [hr]; done))
  | false =>
    (repeat (first | ((first | (apply wo_v; rfl) ); (· first | (apply pv_ev; rfl) | (apply g_build; apply pv_build; (· (repeat (first | apply Bld.nil )))) )) | apply wo_nil | apply wc_seq | apply wc_region | apply wc_ret | (apply wc_true; rfl) | (apply wo_sta; rfl; rfl; rfl; rfl; (· (repeat (first | apply sel_here ))); (· (repeat (first | apply LayAt.nil | apply LayAt.here ))); rfl) ))
    exact retv rfl (by (repeat (first | apply RV.nil | (apply RV.tmp; rfl) | (apply RV.agg; rfl; (· (repeat (first | apply sel_here ))); infer_instance; (· (repeat (first | apply Cut.here0 | apply Cut.here )))) )); done) (⟨ao5, c5, rfl, .inr ⟨rfl, rfl, rfl⟩⟩) (by (repeat (first | apply sub_nil | (apply sub_cons; (· (repeat (first | apply sel_here | apply sel_there)))))); done) (by first | exact fun _ h => h | (intro r hr; cases hr; done) | (simp; done) | exact fun _ h => List.mem_append_left _ h | (intro r hr; simp [hr]; done))
/-END0-/
end Go.Proofs.Ytlhlidmhlhodiaa

/-
  Package serial: the nearest number (a part of XExt).
-/
namespace Go.Proofs.Ytlhlidmhlhodiaa
set_option linter.unusedSimpArgs false
set_option linter.unusedVariables false
open Go.RowKit
attribute [local irreducible] Pv WO WC Fn

/-- how far n is ahead of a, going round at m -/
def nearD (a n m : Int) : Int := if 2 * ((n - a) % m) < m then (n - a) % m else (n - a) % m - m
theorem nearD16 (a n : Int) : -32768 ≤ nearD a n 65536 ∧ nearD a n 65536 ≤ 32767 ∧ (a + nearD a n 65536) % 65536 = n % 65536 := by unfold nearD; split <;> omega
theorem nearD32 (a n : Int) : -2147483648 ≤ nearD a n 4294967296 ∧ nearD a n 4294967296 ≤ 2147483647 ∧ (a + nearD a n 4294967296) % 4294967296 = n % 4294967296 := by unfold nearD; split <;> omega
theorem half16 : Fn Try.prog 171 #[] [] [] (fun v L' R' => v = .int .u16 32768 ∧ L' = [] ∧ R' = []) := by
  refine fn_intro Try.func171 rfl Try.ntmps171 rfl (fun E => ?_)
  (repeat (first | ((first | (apply wo_v; rfl) ); (· first | (apply pv_ev; rfl) | (apply g_bin; first | (apply a_add; rfl; rfl; infer_instance; omega) | (apply a_sub; rfl; rfl; infer_instance; omega) | (apply a_sub_u; rfl; rfl; infer_instance) | (apply a_shr; rfl; rfl; rfl; omega; rfl) ) )) | apply wo_nil | apply wc_seq | apply wc_region | apply wc_ret ))
  exact retv rfl (by (repeat (first | apply RV.nil | (apply RV.tmp; rfl) )); done) (⟨rfl, rfl, rfl⟩) (by (repeat (first | apply sub_nil )); done) (by first | exact fun _ h => h | (intro r hr; cases hr; done) | (simp; done) | exact fun _ h => List.mem_append_left _ h | (intro r hr; simp [hr]; done))
theorem half32 : Fn Try.prog 185 #[] [] [] (fun v L' R' => v = .int .u32 2147483648 ∧ L' = [] ∧ R' = []) := by
  refine fn_intro Try.func185 rfl Try.ntmps185 rfl (fun E => ?_)
  (repeat (first | ((first | (apply wo_v; rfl) ); (· first | (apply pv_ev; rfl) | (apply g_bin; first | (apply a_add; rfl; rfl; infer_instance; omega) | (apply a_sub; rfl; rfl; infer_instance; omega) | (apply a_sub_u; rfl; rfl; infer_instance) | (apply a_shr; rfl; rfl; rfl; omega; rfl) ) )) | apply wo_nil | apply wc_seq | apply wc_region | apply wc_ret ))
  exact retv rfl (by (repeat (first | apply RV.nil | (apply RV.tmp; rfl) )); done) (⟨rfl, rfl, rfl⟩) (by (repeat (first | apply sub_nil )); done) (by first | exact fun _ h => h | (intro r hr; cases hr; done) | (simp; done) | exact fun _ h => List.mem_append_left _ h | (intro r hr; simp [hr]; done))
theorem dist16s (x y : Int) : Fn Try.prog 153 #[.int .u16 x, .int .u16 y] [] [] (fun v L' R' => v = .int .i64 (nearD y x 65536) ∧ L' = [] ∧ R' = []) := by
  by_cases h : (x - y) % 65536 < 32768
  all_goals
    refine fn_intro Try.func153 rfl Try.ntmps153 rfl (fun E => ?_)
    (repeat (first | ((first | (apply wo_v; rfl) ); (· first | (apply pv_ev; rfl) | (apply g_bin; first | (apply a_sub; rfl; rfl; infer_instance; omega) | (apply a_sub_u; rfl; rfl; infer_instance) ) )) | apply wo_nil | apply wc_seq | apply wc_region ))
    (refine wo_call (half16) rfl (by (repeat (first | apply sub_nil )); done) (by first | exact fun _ h => h | (intro r hr; cases hr; done) | (simp; done) | exact fun _ h => List.mem_append_left _ h | (intro r hr; simp [hr]; done)) rfl ?_; rintro v L' R' ⟨rfl, rfl, rfl⟩ H' hH RR hR; simp only [List.cons_append, List.nil_append] at hH hR; subst hH; have hR := hR.symm; subst hR)
    (repeat (first | ((first | (apply wo_v; rfl) ); (· first | (apply pv_ev; rfl) | (apply g_bin; first | (apply a_sub; rfl; rfl; infer_instance; omega) | (apply a_sub_u; rfl; rfl; infer_instance) ) | (apply g_un; first | (apply a_neg; rfl; infer_instance; omega)) | (apply g_conv; first | (apply a_conv; rfl; infer_instance; infer_instance; infer_instance; omega) ) )) | apply wo_nil | apply wc_seq | apply wc_region | apply wc_skip | apply wc_ret | (apply wc_true; rfl) | (apply wc_false; rfl) | (apply a_dec_t; rfl; (· first | assumption | omega)) | (apply a_dec_f; rfl; (· first | assumption | omega)) ))
    exact retv rfl (by (repeat (first | apply RV.nil | (apply RV.tmp; rfl) )); done) (⟨by show Value.int _ _ = Value.int _ _; congr 1; unfold nearD; split <;> omega, rfl, rfl⟩) (by (repeat (first | apply sub_nil )); done) (by first | exact fun _ h => h | (intro r hr; cases hr; done) | (simp; done) | exact fun _ h => List.mem_append_left _ h | (intro r hr; simp [hr]; done))
theorem near16s (a n : Int) (ha : -1152921504606846976 ≤ a ∧ a ≤ 1152921504606846976) : Fn Try.prog 134 #[.int .i64 a, .int .u16 n] [] [] (fun v L' R' => v = .int .i64 (a + nearD a n 65536) ∧ L' = [] ∧ R' = []) := by
  have h0 := nearD16 (a % 65536) n
  have h1 : nearD (a % 65536) n 65536 = nearD a n 65536 := by
    unfold nearD; rw [show (n - a % 65536) % 65536 = (n - a) % 65536 by omega]
  have h2 := nearD16 a n
  have hd := dist16s n (a % 65536)
  rw [h1] at hd
  clear h0 h1
  refine fn_intro Try.func134 rfl Try.ntmps134 rfl (fun E => ?_)
  (repeat (first | ((first | (apply wo_v; rfl) ); (· first | (apply pv_ev; rfl) | (apply g_conv; first | (apply a_conv; rfl; infer_instance; infer_instance; infer_instance; omega) | (apply a_conv_u; rfl; infer_instance; infer_instance; infer_instance) ) )) | apply wo_nil | apply wc_seq | apply wc_region ))
  (refine wo_call (hd) rfl (by (repeat (first | apply sub_nil )); done) (by first | exact fun _ h => h | (intro r hr; cases hr; done) | (simp; done) | exact fun _ h => List.mem_append_left _ h | (intro r hr; simp [hr]; done)) rfl ?_; rintro v L' R' ⟨rfl, rfl, rfl⟩ H' hH RR hR; simp only [List.cons_append, List.nil_append] at hH hR; subst hH; have hR := hR.symm; subst hR)
  (repeat (first | ((first | (apply wo_v; rfl) ); (· first | (apply pv_ev; rfl) | (apply g_bin; first | (apply a_add; rfl; rfl; infer_instance; omega) ) )) | apply wo_nil | apply wc_ret ))
  exact retv rfl (by (repeat (first | apply RV.nil | (apply RV.tmp; rfl) )); done) (⟨rfl, rfl, rfl⟩) (by (repeat (first | apply sub_nil )); done) (by first | exact fun _ h => h | (intro r hr; cases hr; done) | (simp; done) | exact fun _ h => List.mem_append_left _ h | (intro r hr; simp [hr]; done))
theorem dist32s (x y : Int) : Fn Try.prog 180 #[.int .u32 x, .int .u32 y] [] [] (fun v L' R' => v = .int .i64 (nearD y x 4294967296) ∧ L' = [] ∧ R' = []) := by
  by_cases h : (x - y) % 4294967296 < 2147483648
  all_goals
    refine fn_intro Try.func180 rfl Try.ntmps180 rfl (fun E => ?_)
    (repeat (first | ((first | (apply wo_v; rfl) ); (· first | (apply pv_ev; rfl) | (apply g_bin; first | (apply a_sub; rfl; rfl; infer_instance; omega) | (apply a_sub_u; rfl; rfl; infer_instance) ) )) | apply wo_nil | apply wc_seq | apply wc_region ))
    (refine wo_call (half32) rfl (by (repeat (first | apply sub_nil )); done) (by first | exact fun _ h => h | (intro r hr; cases hr; done) | (simp; done) | exact fun _ h => List.mem_append_left _ h | (intro r hr; simp [hr]; done)) rfl ?_; rintro v L' R' ⟨rfl, rfl, rfl⟩ H' hH RR hR; simp only [List.cons_append, List.nil_append] at hH hR; subst hH; have hR := hR.symm; subst hR)
    (repeat (first | ((first | (apply wo_v; rfl) ); (· first | (apply pv_ev; rfl) | (apply g_bin; first | (apply a_sub; rfl; rfl; infer_instance; omega) | (apply a_sub_u; rfl; rfl; infer_instance) ) | (apply g_un; first | (apply a_neg; rfl; infer_instance; omega)) | (apply g_conv; first | (apply a_conv; rfl; infer_instance; infer_instance; infer_instance; omega) ) )) | apply wo_nil | apply wc_seq | apply wc_region | apply wc_skip | apply wc_ret | (apply wc_true; rfl) | (apply wc_false; rfl) | (apply a_dec_t; rfl; (· first | assumption | omega)) | (apply a_dec_f; rfl; (· first | assumption | omega)) ))
    exact retv rfl (by (repeat (first | apply RV.nil | (apply RV.tmp; rfl) )); done) (⟨by show Value.int _ _ = Value.int _ _; congr 1; unfold nearD; split <;> omega, rfl, rfl⟩) (by (repeat (first | apply sub_nil )); done) (by first | exact fun _ h => h | (intro r hr; cases hr; done) | (simp; done) | exact fun _ h => List.mem_append_left _ h | (intro r hr; simp [hr]; done))
theorem near32s (a n : Int) (ha : -1152921504606846976 ≤ a ∧ a ≤ 1152921504606846976) : Fn Try.prog 172 #[.int .i64 a, .int .u32 n] [] [] (fun v L' R' => v = .int .i64 (a + nearD a n 4294967296) ∧ L' = [] ∧ R' = []) := by
  have h0 := nearD32 (a % 4294967296) n
  have h1 : nearD (a % 4294967296) n 4294967296 = nearD a n 4294967296 := by
    unfold nearD; rw [show (n - a % 4294967296) % 4294967296 = (n - a) % 4294967296 by omega]
  have h2 := nearD32 a n
  have hd := dist32s n (a % 4294967296)
  rw [h1] at hd
  clear h0 h1
  refine fn_intro Try.func172 rfl Try.ntmps172 rfl (fun E => ?_)
  (repeat (first | ((first | (apply wo_v; rfl) ); (· first | (apply pv_ev; rfl) | (apply g_conv; first | (apply a_conv; rfl; infer_instance; infer_instance; infer_instance; omega) | (apply a_conv_u; rfl; infer_instance; infer_instance; infer_instance) ) )) | apply wo_nil | apply wc_seq | apply wc_region ))
  (refine wo_call (hd) rfl (by (repeat (first | apply sub_nil )); done) (by first | exact fun _ h => h | (intro r hr; cases hr; done) | (simp; done) | exact fun _ h => List.mem_append_left _ h | (intro r hr; simp [hr]; done)) rfl ?_; rintro v L' R' ⟨rfl, rfl, rfl⟩ H' hH RR hR; simp only [List.cons_append, List.nil_append] at hH hR; subst hH; have hR := hR.symm; subst hR)
  (repeat (first | ((first | (apply wo_v; rfl) ); (· first | (apply pv_ev; rfl) | (apply g_bin; first | (apply a_add; rfl; rfl; infer_instance; omega) ) )) | apply wo_nil | apply wc_ret ))
  exact retv rfl (by (repeat (first | apply RV.nil | (apply RV.tmp; rfl) )); done) (⟨rfl, rfl, rfl⟩) (by (repeat (first | apply sub_nil )); done) (by first | exact fun _ h => h | (intro r hr; cases hr; done) | (simp; done) | exact fun _ h => List.mem_append_left _ h | (intro r hr; simp [hr]; done))
end Go.Proofs.Ytlhlidmhlhodiaa

/-
  Package ingress: packets in their order.
-/
namespace Go.Proofs.Ytlhlidmhlhodiaa
set_option linter.unusedSimpArgs false
set_option linter.unusedVariables false
open Go.RowKit
attribute [local irreducible] Pv WO WC Fn
set_option maxRecDepth 100000
attribute [local irreducible] ByteArray.extract

abbrev srI (g bB bM : Nat) (sb : Bool) (sm : Int) (cb : Bool) (cl : Int) (mp : Nat) (ks : Int) : It := .ob g (.cells #[.pointer (some ⟨bB, 0, none⟩), .pointer (some ⟨bM, 0, none⟩), .bool sb, .int .i64 sm, .int .u16 0, .int .i64 0, .int .i64 0, .bool cb, .int .i64 cl, .map (some mp), .int .i64 0, .int .i64 ks] 210 (0, 0))
theorem sxPut0 (g bB bM : Nat) (cb : Bool) (cl : Int) (mp : Nat) (ks n : Int) (hn : 0 ≤ n ∧ n ≤ 65535) : Fn Try.prog 95 #[.pointer (some ⟨g, 2, none⟩), .int .u16 n] [srI g bB bM false 0 cb cl mp ks] []
    (fun v L' R' => v = .tuple #[.int .i64 (1048576 + n), .bool true] ∧ L' = [srI g bB bM true (1048576 + n) cb cl mp ks] ∧ R' = []) := by
  refine fn_intro Try.func95 rfl Try.ntmps95 rfl (fun E => ?_)
  (repeat (first | ((first | (apply wo_v; rfl) ); (· first | (apply pv_ev; rfl) | (apply pv_fld; rfl) | (apply g_load; first | (apply pv_ld; rfl; (· (repeat (first | apply sel_here ))); rfl) ) | (apply g_bin; first | (apply a_add; rfl; rfl; infer_instance; omega) ) | (apply g_un; first | (apply pv_not_t; rfl) | (apply pv_not_f; rfl) ) | (apply g_conv; first | (apply a_conv; rfl; infer_instance; infer_instance; infer_instance; omega) ) )) | apply wo_nil | apply wc_seq | apply wc_region | apply wc_ret | (apply wc_true; rfl) | (apply wo_st; rfl; rfl; rfl; (· (repeat (first | apply sel_here ))); (· (repeat (first | apply SetAt.here | apply SetAt.there))); rfl) ))
  exact retv rfl (by (repeat (first | apply RV.nil | (apply RV.tmp; rfl) )); done) (⟨rfl, rfl, rfl⟩) (by (repeat (first | apply sub_nil )); done) (by first | exact fun _ h => h | (intro r hr; cases hr; done) | (simp; done) | exact fun _ h => List.mem_append_left _ h | (intro r hr; simp [hr]; done))
theorem sxPut1 (g bB bM : Nat) (m : Int) (cb : Bool) (cl : Int) (mp : Nat) (ks n : Int) (hm : 0 ≤ m ∧ m ≤ 1125899906842624) (hn : 0 ≤ n ∧ n ≤ 65535) (h : nearD m n 65536 = 1) : Fn Try.prog 95 #[.pointer (some ⟨g, 2, none⟩), .int .u16 n] [srI g bB bM true m cb cl mp ks] []
    (fun v L' R' => v = .tuple #[.int .i64 (m + 1), .bool true] ∧ L' = [srI g bB bM true (m + 1) cb cl mp ks] ∧ R' = []) := by
  have q := near16s m n (by omega)
  rw [h] at q
  have e : max m (m + 1) = m + 1 := by omega
  refine fn_intro Try.func95 rfl Try.ntmps95 rfl (fun E => ?_)
  (repeat (first | ((first | (apply wo_v; rfl) ); (· first | (apply pv_ev; rfl) | (apply pv_fld; rfl) | (apply g_load; first | (apply pv_ld; rfl; (· (repeat (first | apply sel_here ))); rfl) ) | (apply g_un; first | (apply pv_not_t; rfl) ) )) | apply wo_nil | apply wc_seq | apply wc_region | apply wc_skip | (apply wc_true; rfl) | (apply wc_false; rfl) ))
  (refine wo_call (q) rfl (by (repeat (first | apply sub_nil )); done) (by first | exact fun _ h => h | (intro r hr; cases hr; done) | (simp; done) | exact fun _ h => List.mem_append_left _ h | (intro r hr; simp [hr]; done)) rfl ?_; rintro v L' R' ⟨rfl, rfl, rfl⟩ H' hH RR hR; simp only [List.cons_append, List.nil_append] at hH hR; subst hH; have hR := hR.symm; subst hR)
  (repeat (first | ((first | (apply wo_v; rfl) ); (· first | (apply pv_ev; rfl) | (apply pv_fld; rfl) | (apply g_load; first | (apply pv_ld; rfl; (· (repeat (first | apply sel_here ))); rfl) ) | (apply g_pick; first | (apply pv_pick_t; rfl; rfl) ) | (apply g_bin; first | (apply a_sub; rfl; rfl; infer_instance; omega) ) | (apply g_bi; first | (apply pv_max; rfl; rfl)) )) | apply wo_nil | apply wc_seq | apply wc_region | apply wc_ret | (apply wc_true; rfl) | (apply wc_false; rfl) | (apply a_dec_t; rfl; (· first | assumption | omega)) | (apply wo_run; rfl; rfl) | (apply wo_skip; rfl; rfl; rfl; rfl) | (apply wo_skip_u; rfl; rfl; rfl) | (apply a_gt; rfl; rfl; (· first | assumption | omega)) | (apply wo_st; rfl; rfl; rfl; (· (repeat (first | apply sel_here ))); (· (repeat (first | apply SetAt.here | apply SetAt.there))); rfl) ))
  rw [e]
  exact retv rfl (by (repeat (first | apply RV.nil | (apply RV.tmp; rfl) )); done) (⟨rfl, rfl, rfl⟩) (by (repeat (first | apply sub_nil )); done) (by first | exact fun _ h => h | (intro r hr; cases hr; done) | (simp; done) | exact fun _ h => List.mem_append_left _ h | (intro r hr; simp [hr]; done))
theorem cxPut0 (g bB bM : Nat) (sb : Bool) (sm : Int) (mp : Nat) (ks n : Int) (hn : 0 ≤ n ∧ n ≤ 4294967295) : Fn Try.prog 157 #[.pointer (some ⟨g, 7, none⟩), .int .u32 n] [srI g bB bM sb sm false 0 mp ks] []
    (fun v L' R' => v = .int .i64 (68719476736 + n) ∧ L' = [srI g bB bM sb sm true (68719476736 + n) mp ks] ∧ R' = []) := by
  refine fn_intro Try.func157 rfl Try.ntmps157 rfl (fun E => ?_)
  (repeat (first | ((first | (apply wo_v; rfl) ); (· first | (apply pv_ev; rfl) | (apply pv_fld; rfl) | (apply g_load; first | (apply pv_ld; rfl; (· (repeat (first | apply sel_here ))); rfl) ) | (apply g_bin; first | (apply a_add; rfl; rfl; infer_instance; omega) ) | (apply g_un; first | (apply pv_not_t; rfl) | (apply pv_not_f; rfl) ) | (apply g_conv; first | (apply a_conv; rfl; infer_instance; infer_instance; infer_instance; omega) ) )) | apply wo_nil | apply wc_seq | apply wc_region | apply wc_ret | (apply wc_true; rfl) | (apply wo_st; rfl; rfl; rfl; (· (repeat (first | apply sel_here ))); (· (repeat (first | apply SetAt.here | apply SetAt.there))); rfl) ))
  exact retv rfl (by (repeat (first | apply RV.nil | (apply RV.tmp; rfl) )); done) (⟨rfl, rfl, rfl⟩) (by (repeat (first | apply sub_nil )); done) (by first | exact fun _ h => h | (intro r hr; cases hr; done) | (simp; done) | exact fun _ h => List.mem_append_left _ h | (intro r hr; simp [hr]; done))
theorem cxPut1 (g bB bM : Nat) (sb : Bool) (sm l : Int) (mp : Nat) (ks n d : Int) (hl : 0 ≤ l ∧ l ≤ 1125899906842624) (hn : 0 ≤ n ∧ n ≤ 4294967295) (h : nearD l n 4294967296 = d) (hd : 0 ≤ d ∧ d ≤ 4294967296) : Fn Try.prog 157 #[.pointer (some ⟨g, 7, none⟩), .int .u32 n] [srI g bB bM sb sm true l mp ks] []
    (fun v L' R' => v = .int .i64 (l + d) ∧ L' = [srI g bB bM sb sm true (l + d) mp ks] ∧ R' = []) := by
  have q := near32s l n (by omega)
  rw [h] at q
  have e : max l (l + d) = l + d := by omega
  refine fn_intro Try.func157 rfl Try.ntmps157 rfl (fun E => ?_)
  (repeat (first | ((first | (apply wo_v; rfl) ); (· first | (apply pv_ev; rfl) | (apply pv_fld; rfl) | (apply g_load; first | (apply pv_ld; rfl; (· (repeat (first | apply sel_here ))); rfl) ) | (apply g_un; first | (apply pv_not_t; rfl) ) )) | apply wo_nil | apply wc_seq | apply wc_region | apply wc_skip | (apply wc_true; rfl) | (apply wc_false; rfl) ))
  (refine wo_call (q) rfl (by (repeat (first | apply sub_nil )); done) (by first | exact fun _ h => h | (intro r hr; cases hr; done) | (simp; done) | exact fun _ h => List.mem_append_left _ h | (intro r hr; simp [hr]; done)) rfl ?_; rintro v L' R' ⟨rfl, rfl, rfl⟩ H' hH RR hR; simp only [List.cons_append, List.nil_append] at hH hR; subst hH; have hR := hR.symm; subst hR)
  (repeat (first | ((first | (apply wo_v; rfl) ); (· first | (apply pv_ev; rfl) | (apply pv_fld; rfl) | (apply g_load; first | (apply pv_ld; rfl; (· (repeat (first | apply sel_here ))); rfl) ) | (apply g_bi; first | (apply pv_max; rfl; rfl)) )) | apply wo_nil | apply wc_seq | apply wc_region | apply wc_ret | (apply wo_st; rfl; rfl; rfl; (· (repeat (first | apply sel_here ))); (· (repeat (first | apply SetAt.here | apply SetAt.there))); rfl) ))
  rw [e]
  exact retv rfl (by (repeat (first | apply RV.nil | (apply RV.tmp; rfl) )); done) (⟨rfl, rfl, rfl⟩) (by (repeat (first | apply sub_nil )); done) (by first | exact fun _ h => h | (intro r hr; cases hr; done) | (simp; done) | exact fun _ h => List.mem_append_left _ h | (intro r hr; simp [hr]; done))
abbrev bfN (b mp : Nat) : It := bfI b false 0 mp 0
theorem oNew : Fn Try.prog 93 #[.agg #[.int .i64 4, .int .i64 3]] [] [] (fun v L' R' => ∃ b mp, v = .tuple #[.pointer (some ⟨b, 0, none⟩), .int .i64 0] ∧ L' = [bfN b mp, .ob mp (m0 0)] ∧ R' = []) := by
  have qc : Fn Try.prog 132 #[.agg #[.int .i64 4, .int .i64 3]] [] [] (fun v L' R' => v = .int .i64 0 ∧ L' = [] ∧ R' = []) := by
    refine fn_intro Try.func132 rfl Try.ntmps132 rfl (fun E => ?_)
    (repeat (first | ((first | (apply wo_v; rfl) ); (· first | (apply pv_ev; rfl) | (apply pv_fld; rfl) | (apply g_load; first | (apply pv_ld; rfl; (· (repeat (first | apply sel_here ))); rfl) ) | (apply g_pick; first | (apply pv_pick_t; rfl; rfl) | (apply pv_pick_f; rfl; rfl)) )) | apply wo_nil | apply wc_seq | apply wc_region | apply wc_skip | apply wc_ret | (apply wc_true; rfl) | (apply wc_false; rfl) | (apply wo_run; rfl; rfl) | (apply wo_box1; rfl; rfl; rfl; intro bx) | (apply wo_boxa; rfl; rfl; intro bx) ))
    exact retv rfl (by (repeat (first | apply RV.nil | (apply RV.tmp; rfl) )); done) (⟨rfl, rfl, rfl⟩) (by (repeat (first | apply sub_nil )); done) (by first | exact fun _ h => h | (intro r hr; cases hr; done) | (simp; done) | exact fun _ h => List.mem_append_left _ h | (intro r hr; simp [hr]; done))
  refine fn_intro Try.func93 rfl Try.ntmps93 rfl (fun E => ?_)
  (repeat (first | ((first | (apply wo_v; rfl) ); (· first | (apply pv_ev; rfl) | (apply g_load; first | (apply pv_lda; rfl; (· (repeat (first | apply sel_here ))); (· (repeat (first | apply Cut.here0 | apply Cut.here )))) ) )) | apply wo_nil | apply wc_seq | apply wc_region | (apply wo_box1; rfl; rfl; rfl; intro bx) | (apply wo_boxa; rfl; rfl; intro bx) ))
  (refine wo_call (qc) rfl (by (repeat (first | apply sub_nil )); done) (by first | exact fun _ h => h | (intro r hr; cases hr; done) | (simp; done) | exact fun _ h => List.mem_append_left _ h | (intro r hr; simp [hr]; done)) rfl ?_; rintro v L' R' ⟨rfl, rfl, rfl⟩ H' hH RR hR; simp only [List.cons_append, List.nil_append] at hH hR; subst hH; have hR := hR.symm; subst hR)
  (repeat (first | ((first | (apply wo_v; rfl) ); (· first | (apply pv_ev; rfl) | (apply g_load; first | (apply pv_lda; rfl; (· (repeat (first | apply sel_here ))); (· (repeat (first | apply Cut.here0 | apply Cut.here )))) ) )) | apply wo_nil | apply wc_seq | apply wc_region | apply wc_skip | (apply wc_true; rfl) | (apply wc_false; rfl) ))
  refine wo_mmake .i64 rfl (fun mp => ?_)
  show WO _ _ _ _ _ ⟨_, .ob mp (m0 0) :: _, _⟩ _
  (repeat (first | ((first | (apply wo_v; rfl) ); (· first | (apply pv_ev; rfl) | (apply g_build; apply pv_build; (· (repeat (first | apply Bld.nil | (apply Bld.one; rfl; rfl; (· (repeat (first | apply SetAt.here | apply SetAt.there)))) | (apply Bld.agg; rfl; rfl; (· (repeat (first | apply LayAt.nil | apply LayAt.here )))))))) )) | apply wo_nil | apply wc_ret | (apply wo_box1; rfl; rfl; rfl; intro bx) | (apply wo_boxa; rfl; rfl; intro bx) ))
  exact ret2 rfl rfl rfl ⟨_, mp, rfl, rfl, rfl⟩ ((by (repeat (first | apply sub_nil )); done) : List.Perm _ ([_, _] ++ _)) (by first | exact fun _ h => h | (intro r hr; cases hr; done) | (simp; done) | exact fun _ h => List.mem_append_left _ h | (intro r hr; simp [hr]; done))
theorem mNew : Fn Try.prog 94 #[.agg #[.bool true, .int .i64 400, .int .i64 8, .int .i64 30]] [] [] (fun v L' R' => ∃ b, v = .tuple #[.pointer (some ⟨b, 0, none⟩), .int .i64 0] ∧ L' = [mkI b (.slice none 0 0) 0 0] ∧ R' = []) := by
  have qc : Fn Try.prog 133 #[.agg #[.bool true, .int .i64 400, .int .i64 8, .int .i64 30]] [] [] (fun v L' R' => v = .int .i64 0 ∧ L' = [] ∧ R' = []) := by
    refine fn_intro Try.func133 rfl Try.ntmps133 rfl (fun E => ?_)
    (repeat (first | ((first | (apply wo_v; rfl) ); (· first | (apply pv_ev; rfl) | (apply pv_fld; rfl) | (apply g_load; first | (apply pv_ld; rfl; (· (repeat (first | apply sel_here ))); rfl) ) | (apply g_pick; first | (apply pv_pick_t; rfl; rfl) | (apply pv_pick_f; rfl; rfl)) )) | apply wo_nil | apply wc_seq | apply wc_region | apply wc_skip | apply wc_ret | (apply wc_true; rfl) | (apply wc_false; rfl) | (apply wo_run; rfl; rfl) | (apply wo_box1; rfl; rfl; rfl; intro bx) | (apply wo_boxa; rfl; rfl; intro bx) ))
    exact retv rfl (by (repeat (first | apply RV.nil | (apply RV.tmp; rfl) )); done) (⟨rfl, rfl, rfl⟩) (by (repeat (first | apply sub_nil )); done) (by first | exact fun _ h => h | (intro r hr; cases hr; done) | (simp; done) | exact fun _ h => List.mem_append_left _ h | (intro r hr; simp [hr]; done))
  refine fn_intro Try.func94 rfl Try.ntmps94 rfl (fun E => ?_)
  (repeat (first | ((first | (apply wo_v; rfl) ); (· first | (apply pv_ev; rfl) | (apply g_load; first | (apply pv_lda; rfl; (· (repeat (first | apply sel_here ))); (· (repeat (first | apply Cut.here0 | apply Cut.here )))) ) )) | apply wo_nil | apply wc_seq | apply wc_region | (apply wo_box1; rfl; rfl; rfl; intro bx) | (apply wo_boxa; rfl; rfl; intro bx) ))
  (refine wo_call (qc) rfl (by (repeat (first | apply sub_nil )); done) (by first | exact fun _ h => h | (intro r hr; cases hr; done) | (simp; done) | exact fun _ h => List.mem_append_left _ h | (intro r hr; simp [hr]; done)) rfl ?_; rintro v L' R' ⟨rfl, rfl, rfl⟩ H' hH RR hR; simp only [List.cons_append, List.nil_append] at hH hR; subst hH; have hR := hR.symm; subst hR)
  (repeat (first | ((first | (apply wo_v; rfl) ); (· first | (apply pv_ev; rfl) | (apply g_load; first | (apply pv_lda; rfl; (· (repeat (first | apply sel_here ))); (· (repeat (first | apply Cut.here0 | apply Cut.here )))) ) | (apply g_build; apply pv_build; (· (repeat (first | apply Bld.nil | (apply Bld.agg; rfl; rfl; (· (repeat (first | apply LayAt.nil | apply LayAt.here )))))))) )) | apply wo_nil | apply wc_seq | apply wc_region | apply wc_skip | apply wc_ret | (apply wc_true; rfl) | (apply wc_false; rfl) | (apply wo_box1; rfl; rfl; rfl; intro bx) | (apply wo_boxa; rfl; rfl; intro bx) ))
  exact ret2 rfl rfl rfl ⟨_, rfl, rfl, rfl⟩ ((by (repeat (first | apply sub_nil )); done) : List.Perm _ ([_] ++ _)) (by first | exact fun _ h => h | (intro r hr; cases hr; done) | (simp; done) | exact fun _ h => List.mem_append_left _ h | (intro r hr; simp [hr]; done))
theorem iNew : Fn Try.prog 40 #[.agg #[.int .i64 4, .int .i64 3, .bool true, .int .i64 400, .int .i64 8, .int .i64 30]] [] [] (fun v L' R' => ∃ g bB bM mp mq, v = .tuple #[.pointer (some ⟨g, 0, none⟩), .int .i64 0] ∧ L' = [srI g bB bM false 0 false 0 mp 0, bfN bB mq, mkI bM (.slice none 0 0) 0 0, .ob mp (m0 0), .ob mq (m0 0)] ∧ R' = []) := by
  refine fn_intro Try.func40 rfl Try.ntmps40 rfl (fun E => ?_)
  (repeat (first | ((first | (apply wo_v; rfl) ); (· first | (apply pv_ev; rfl) | (apply pv_fld; rfl) | (apply g_load; first | (apply pv_lda; rfl; (· (repeat (first | apply sel_here ))); (· (repeat (first | apply Cut.here0 | apply Cut.here )))) ) )) | apply wo_nil | apply wc_seq | apply wc_region | (apply wo_box1; rfl; rfl; rfl; intro bx) | (apply wo_boxa; rfl; rfl; intro bx) ))
  (refine wo_call (oNew) rfl (by (repeat (first | apply sub_nil )); done) (by first | exact fun _ h => h | (intro r hr; cases hr; done) | (simp; done) | exact fun _ h => List.mem_append_left _ h | (intro r hr; simp [hr]; done)) rfl ?_; rintro v L' R' ⟨bB, mq, rfl, rfl, rfl⟩ H' hH RR hR; simp only [List.cons_append, List.nil_append] at hH hR; subst hH; have hR := hR.symm; subst hR)
  (repeat (first | ((first | (apply wo_v; rfl) ); (· first | (apply pv_ev; rfl) | (apply pv_fld; rfl) | (apply g_load; first | (apply pv_lda; rfl; (· (repeat (first | apply sel_here | apply sel_there))); (· (repeat (first | apply Cut.here0 | apply Cut.here | apply Cut.there)))) ) )) | apply wo_nil | apply wc_seq | apply wc_region | apply wc_skip | (apply wc_true; rfl) | (apply wc_false; rfl) ))
  (refine wo_call (mNew) rfl (by (repeat (first | apply sub_nil )); done) (by first | exact fun _ h => h | (intro r hr; cases hr; done) | (simp; done) | exact fun _ h => List.mem_append_left _ h | (intro r hr; simp [hr]; done)) rfl ?_; rintro v L' R' ⟨bM, rfl, rfl, rfl⟩ H' hH RR hR; simp only [List.cons_append, List.nil_append] at hH hR; subst hH; have hR := hR.symm; subst hR)
  (repeat (first | ((first | (apply wo_v; rfl) ); (· first | (apply pv_ev; rfl) )) | apply wo_nil | apply wc_seq | apply wc_region | apply wc_skip | (apply wc_true; rfl) | (apply wc_false; rfl) ))
  refine wo_mmake .i64 rfl (fun mp => ?_)
  show WO _ _ _ _ _ ⟨_, .ob mp (m0 0) :: _, _⟩ _
  (repeat (first | ((first | (apply wo_v; rfl) ); (· first | (apply pv_ev; rfl) | (apply g_build; apply pv_build; (· (repeat (first | apply Bld.nil | (apply Bld.one; rfl; rfl; (· (repeat (first | apply SetAt.here | apply SetAt.there)))) )))) )) | apply wo_nil | apply wc_ret | (apply wo_box1; rfl; rfl; rfl; intro bx) | (apply wo_boxa; rfl; rfl; intro bx) ))
  exact ret2 rfl rfl rfl ⟨_, bB, bM, mp, mq, rfl, rfl, rfl⟩ ((by (repeat (first | apply sub_nil | (apply sub_cons; (· (repeat (first | apply sel_here | apply sel_there)))))); done) : List.Perm _ ([_, _, _, _, _] ++ _)) (by first | exact fun _ h => h | (intro r hr; cases hr; done) | (simp; done) | exact fun _ h => List.mem_append_left _ h | (intro r hr; simp [hr]; done))
end Go.Proofs.Ytlhlidmhlhodiaa

/-
  Package ingress: a packet in its order, as a unit.
-/
namespace Go.Proofs.Ytlhlidmhlhodiaa
set_option linter.unusedSimpArgs false
set_option linter.unusedVariables false
open Go.RowKit
attribute [local irreducible] Pv WO WC Fn
set_option maxRecDepth 100000
attribute [local irreducible] ByteArray.extract

abbrev pkV (mrk : Bool) (kd sq t ss : Int) (pl : ByteArray) : Value := .agg (pkR mrk kd sq t ss pl).toArray
abbrev pkB (b : Nat) (mrk : Bool) (kd sq t ss : Int) (pl : ByteArray) : It := .ob b (.cells (pkR mrk kd sq t ss pl).toArray 33 (0, 0))
abbrev dP (st : Bool) : Dc := ⟨false, st, 0, -1, false, -1, -1, false, -1⟩
def tblU1 (v1 : Value) (row : List Value) : Nat → List (List It) → Value → List (List It) → Prop := fun k Ls v Ms => match k, Ls with
  | 6, L => v = v1 ∧ Ms = L
  | 7, _ => ∃ b, v = .pointer (some ⟨b, 0, none⟩) ∧ Ms = [[pkB b false 0 0 0 0 ByteArray.empty]]
  | 8, [[.ob b _]] => v = undef ∧ Ms = [[.ob b (.cells row.toArray 33 (0, 0))]]
  | _, _ => False
def tblU3 (g bB bM : Nat) (sm : Int) (cl' : Int) (mp : Nat) (ks : Int) (u : Un) : Nat → List (List It) → Value → List (List It) → Prop := fun k Ls v Ms => match k, Ls with
  | 7, _ => v = .int .i64 cl' ∧ Ms = [[srI g bB bM true sm true cl' mp ks]]
  | 15, _ => ∃ b, v = .pointer (some ⟨b, 0, none⟩) ∧ Ms = [[unB b ⟨0, 0, false, false, false, ByteArray.empty, 0⟩]]
  | 16, [[.ob b _]] => v = undef ∧ Ms = [[unB b u]]
  | _, _ => False
end Go.Proofs.Ytlhlidmhlhodiaa

/-
  AntiphonFrames: which pictures are whole (plain).
-/
namespace Go.Proofs.Ytlhlidmhlhodiaa
set_option linter.unusedSimpArgs false
set_option linter.unusedVariables false

structure Sg where
  i : Nat
  k : Nat
  l : Bool
/-- what follows what -/
def Fol (x y : Sg) : Prop := (x.l = false ∧ y.i = x.i ∧ y.k = x.k + 1) ∨ (x.l = true ∧ y.i = x.i + 1 ∧ y.k = 0)
structure WFS (L : List Sg) : Prop where
  zero : ∀ x, L[0]? = some x → x.i = 0 ∧ x.k = 0
  fol : ∀ (j : Nat) x y, L[j]? = some x → L[j + 1]? = some y → Fol x y
  bd : ∀ (j : Nat) x, L[j]? = some x → x.i ≤ 59 ∧ x.k ≤ 3
theorem WFS.nil : WFS [] := ⟨fun x h => by simp at h, fun j x y h => by simp at h, fun j x h => by simp at h⟩
theorem WFS.snoc {L : List Sg} (h : WFS L) {y : Sg} (h0 : L = [] → y.i = 0 ∧ y.k = 0) (h1 : ∀ x, L[L.length - 1]? = some x → Fol x y) (h2 : y.i ≤ 59 ∧ y.k ≤ 3) : WFS (L ++ [y]) := by
  have lst : ∀ {j x}, (L ++ [y])[j]? = some x → (j < L.length ∧ L[j]? = some x) ∨ (j = L.length ∧ x = y) := fun {j x} hj => by
    rcases Nat.lt_trichotomy j L.length with hl | hl | hl
    · rw [List.getElem?_append_left hl] at hj
      exact .inl ⟨hl, hj⟩
    · subst hl
      rw [List.getElem?_append_right (Nat.le_refl _), Nat.sub_self] at hj
      exact .inr ⟨rfl, (Option.some.inj hj).symm⟩
    · rw [List.getElem?_eq_none (by rw [List.length_append, List.length_singleton]; omega)] at hj
      cases hj
  refine ⟨fun x hx => ?_, fun j x z hx hz => ?_, fun j x hx => ?_⟩
  · rcases lst hx with ⟨_, h3⟩ | ⟨h3, rfl⟩
    · exact h.zero x h3
    · exact h0 (List.eq_nil_of_length_eq_zero h3.symm)
  · rcases lst hz with ⟨h3, h4⟩ | ⟨h3, rfl⟩
    · rcases lst hx with ⟨_, h5⟩ | ⟨h5, _⟩
      · exact h.fol j x z h5 h4
      · omega
    · rcases lst hx with ⟨_, h5⟩ | ⟨h5, _⟩
      · exact h1 x (by rw [show L.length - 1 = j by omega]; exact h5)
      · omega
  · rcases lst hx with ⟨_, h3⟩ | ⟨_, rfl⟩
    · exact h.bd j x h3
    · exact h2
/-- what is there before packet k (of n) of picture i -/
def Beg (L : List Sg) (i k n : Nat) : Prop := (L = [] → i = 0 ∧ k = 0) ∧ ∀ x, L[L.length - 1]? = some x → (k = 0 ∧ x.l = true ∧ i = x.i + 1) ∨ (0 < k ∧ x.i = i ∧ x.k + 1 = k ∧ x.l = decide (k = n))
theorem Beg.snoc {L : List Sg} {i k n : Nat} (h : Beg L i k n) (hw : WFS L) (hk : k < n) (hn : n ≤ 4) (hi : i ≤ 59) : WFS (L ++ [⟨i, k, decide (k + 1 = n)⟩]) ∧ Beg (L ++ [⟨i, k, decide (k + 1 = n)⟩]) i (k + 1) n := by
  refine ⟨hw.snoc h.1 (fun x hx => ?_) ⟨hi, by show k ≤ 3; omega⟩, fun h0 => by simp at h0, fun x hx => ?_⟩
  · rcases h.2 x hx with ⟨h1, h2, h3⟩ | ⟨h1, h2, h3, h4⟩
    · exact .inr ⟨h2, h3, h1⟩
    · rw [decide_eq_false (by omega)] at h4
      exact .inl ⟨h4, h2.symm, h3.symm⟩
  · rw [List.length_append, List.length_singleton, Nat.add_sub_cancel, List.getElem?_append_right (Nat.le_refl _), Nat.sub_self] at hx
    obtain rfl := Option.some.inj hx
    exact .inr ⟨by omega, rfl, rfl, rfl⟩
theorem Beg.next {L : List Sg} {i n : Nat} (h : Beg L i n n) (hn : 0 < n) (m : Nat) : Beg L (i + 1) 0 m :=
  ⟨fun h0 => by have := (h.1 h0).2; omega, fun x hx => by
    rcases h.2 x hx with ⟨h1, _⟩ | ⟨_, h2, _, h4⟩
    · omega
    · exact .inl ⟨rfl, by rw [h4]; simp, by omega⟩⟩
theorem Beg.any {L : List Sg} {i n : Nat} (h : Beg L i 0 n) (m : Nat) : Beg L i 0 m :=
  ⟨h.1, fun x hx => by
    rcases h.2 x hx with h1 | ⟨h1, _⟩
    · exact .inl h1
    · omega⟩
theorem Beg.last {L : List Sg} {i n : Nat} (h : Beg L i 0 n) (x : Sg) (hx : L[L.length - 1]? = some x) : x.l = true := by
  rcases h.2 x hx with h1 | ⟨h1, _⟩
  · exact h1.2.1
  · omega

section
variable {L : List Sg} {G : Nat → Bool}
/-- what came, of numbers from a on before b -/
def ng (G : Nat → Bool) (a b : Nat) : List Nat := (List.range' a (b - a)).filter fun i => !G i
theorem ng_mem {a b i : Nat} : i ∈ ng G a b ↔ a ≤ i ∧ i < b ∧ G i = false := by
  unfold ng
  rw [List.mem_filter, List.mem_range'_1, Bool.not_eq_true']
  constructor
  · rintro ⟨⟨h1, h2⟩, h3⟩; exact ⟨h1, by omega, h3⟩
  · rintro ⟨h1, h2, h3⟩; exact ⟨⟨h1, by omega⟩, h3⟩
theorem ng_nil {a b : Nat} : ng G a b = [] ↔ ∀ i, a ≤ i → i < b → G i = true := by
  constructor
  · intro h i h1 h2
    cases h3 : G i
    · have : i ∈ ng G a b := ng_mem.2 ⟨h1, h2, h3⟩
      rw [h] at this; cases this
    · rfl
  · intro h
    refine List.eq_nil_iff_forall_not_mem.2 fun i hi => ?_
    obtain ⟨h1, h2, h3⟩ := ng_mem.1 hi
    rw [h i h1 h2] at h3; cases h3
theorem ng_step {a b : Nat} (h : a < b) : ng G a b = if G a then ng G (a + 1) b else a :: ng G (a + 1) b := by
  unfold ng
  rw [show b - a = (b - (a + 1)) + 1 by omega, List.range'_succ, List.filter_cons]
  cases G a <;> rfl
theorem ng_app {a b c : Nat} (h1 : a ≤ b) (h2 : b ≤ c) : ng G a c = ng G a b ++ ng G b c := by
  unfold ng
  rw [← List.filter_append]
  congr 1
  have := @List.range'_append a (b - a) (c - b) 1
  rw [show c - a = (b - a) + (c - b) by omega, ← this, show a + 1 * (b - a) = b by omega]
theorem ng_refl (a : Nat) : ng G a a = [] := by unfold ng; rw [Nat.sub_self]; rfl
theorem ng_snoc {a b : Nat} (h : a ≤ b) (hg : G b = false) : ng G a (b + 1) = ng G a b ++ [b] := by
  rw [ng_app h (Nat.le_succ b), ng_step (Nat.lt_succ_self b), hg, ng_refl]; rfl
theorem ng_skip {a b : Nat} (h : a ≤ b) (hg : G b = true) : ng G a (b + 1) = ng G a b := by
  rw [ng_app h (Nat.le_succ b), ng_step (Nat.lt_succ_self b), hg, ng_refl, if_pos rfl, List.append_nil]
/-- the first that came -/
theorem ng_hd {a b i : Nat} {l : List Nat} (h : ng G a b = i :: l) : a ≤ i ∧ i < b ∧ G i = false ∧ ng G a i = [] ∧ l = ng G (i + 1) b := by
  have hi : i ∈ ng G a b := by rw [h]; exact .head _
  obtain ⟨h1, h2, h3⟩ := ng_mem.1 hi
  have h4 := ng_app (G := G) h1 (Nat.le_of_lt h2)
  rw [ng_step h2, h3, h] at h4
  cases hn : ng G a i with
  | nil => rw [hn] at h4; exact ⟨h1, h2, h3, rfl, (List.cons.inj h4).2⟩
  | cons x m =>
    rw [hn] at h4
    have hx : x ∈ ng G a i := by rw [hn]; exact .head _
    have := (List.cons.inj h4).1
    have := ng_mem.1 hx
    omega
theorem ng_len (a b : Nat) : (ng G a b).length ≤ b - a := by
  unfold ng
  exact Nat.le_trans (List.length_filter_le _ _) (by simp)
/-- are all of n there from s on? -/
def okW (G : Nat → Bool) (s n : Nat) : Bool := (List.range' s n).all fun i => !G i
theorem okW_zero (s : Nat) : okW G s 0 = true := rfl
theorem okW_snoc (s n : Nat) : okW G s (n + 1) = (okW G s n && !G (s + n)) := by
  unfold okW
  rw [List.range'_concat, List.all_append]
  simp
/-- the pictures that are whole, before a number -/
def wh (L : List Sg) (G : Nat → Bool) : Nat → List (List Nat)
  | 0 => []
  | p + 1 => match L[p]? with
    | some y => if y.l && okW G (p - y.k) (y.k + 1) then wh L G p ++ [List.range' (p - y.k) (y.k + 1)] else wh L G p
    | none => wh L G p
theorem wh_at {p : Nat} {y : Sg} (h : L[p]? = some y) : wh L G (p + 1) = if y.l && okW G (p - y.k) (y.k + 1) then wh L G p ++ [List.range' (p - y.k) (y.k + 1)] else wh L G p := by
  rw [wh, h]
theorem wh_pre : ∀ {q p : Nat}, p ≤ q → ∃ t, wh L G q = wh L G p ++ t
  | 0, p, h => ⟨[], by rw [show p = 0 by omega]; rfl⟩
  | q + 1, p, h => by
    by_cases he : p = q + 1
    · subst he; exact ⟨[], by rw [List.append_nil]⟩
    · obtain ⟨t, ht⟩ := wh_pre (q := q) (p := p) (by omega)
      rw [wh]
      split
      · split
        · exact ⟨t ++ [_], by rw [ht, List.append_assoc]⟩
        · exact ⟨t, ht⟩
      · exact ⟨t, ht⟩
/-- the number in its picture is not greater than the number -/
theorem WFS.k_le (hw : WFS L) : ∀ {p : Nat} {y : Sg}, L[p]? = some y → y.k ≤ p
  | 0, y, h => by have := (hw.zero y h).2; omega
  | p + 1, y, h => by
    obtain ⟨x, hx⟩ : ∃ x, L[p]? = some x := ⟨_, List.getElem?_eq_getElem (by have := (List.getElem?_eq_some_iff.1 h).1; omega)⟩
    have := hw.k_le hx
    rcases hw.fol p x y hx h with ⟨_, _, h3⟩ | ⟨_, _, h3⟩ <;> omega
theorem WFS.i_mono (hw : WFS L) {p : Nat} {x : Sg} (hx : L[p]? = some x) : ∀ {q : Nat} {y : Sg}, p ≤ q → L[q]? = some y → x.i ≤ y.i
  | q, y, h, hy => by
    by_cases he : p = q
    · subst he; rw [hx] at hy; obtain rfl := Option.some.inj hy; exact Nat.le_refl _
    · obtain ⟨q, rfl⟩ : ∃ r, q = r + 1 := ⟨q - 1, by omega⟩
      obtain ⟨z, hz⟩ : ∃ z, L[q]? = some z := ⟨_, List.getElem?_eq_getElem (by have := (List.getElem?_eq_some_iff.1 hy).1; omega)⟩
      have h1 := hw.i_mono hx (q := q) (by omega) hz
      rcases hw.fol q z y hz hy with ⟨_, h3, _⟩ | ⟨_, h3, _⟩ <;> omega
/-- does a packet belong to what is begun? -/
def folB (op : List Nat) (p : Nat) (y : Sg) : Bool := match op.getLast? with
  | some m => decide (m + 1 = p) && decide (y.k ≠ 0)
  | none => false
/-- what is whole by a packet, and what is begun -/
def feed (op : List Nat) (p : Nat) (y : Sg) : Option (List Nat) × List Nat :=
  if folB op p y then (if y.l then (some (op ++ [p]), []) else (none, op ++ [p]))
  else if y.k = 0 then (if y.l then (some [p], []) else (none, [p]))
  else (none, [])
structure Fd (L : List Sg) (G : Nat → Bool) (p : Nat) (fs : List (List Nat)) (op : List Nat) : Prop where
  fs : fs = wh L G p
  le : p ≤ L.length
  lt : ∀ i ∈ op, i < p
  len : op.length ≤ 4
  z : p = 0 → op = []
  cur : ∀ q y, p = q + 1 → L[q]? = some y → (y.l = false ∧ okW G (q - y.k) (y.k + 1) = true ∧ op = List.range' (q - y.k) (y.k + 1)) ∨ ((y.l = true ∨ okW G (q - y.k) (y.k + 1) = false) ∧ (op = [] ∨ ∃ m, op.getLast? = some m ∧ m + 1 < p))
theorem Fd.zero : Fd L G 0 [] [] := ⟨rfl, Nat.zero_le _, fun i h => (by cases h), by simp, fun _ => rfl, fun q y h => by omega⟩
theorem Fd.gone {p : Nat} {fs : List (List Nat)} {op : List Nat} (hw : WFS L) (h : Fd L G p fs op) (hg : G p = true) (hp : p < L.length) : Fd L G (p + 1) fs op := by
  obtain ⟨y, hy⟩ : ∃ y, L[p]? = some y := ⟨_, List.getElem?_eq_getElem hp⟩
  have hk := hw.k_le hy
  have hf : okW G (p - y.k) (y.k + 1) = false := by rw [okW_snoc, show p - y.k + y.k = p by omega, hg]; simp
  refine ⟨?_, hp, fun i hi => by have := h.lt i hi; omega, h.len, fun h0 => by omega, fun q z hq hz => ?_⟩
  · rw [wh_at hy, hf, h.fs]; simp
  · obtain rfl : p = q := by omega
    rw [hy] at hz
    obtain rfl := Option.some.inj hz
    refine .inr ⟨.inr hf, ?_⟩
    cases ho : op.getLast? with
    | none => exact .inl (List.getLast?_eq_none_iff.1 ho)
    | some m => exact .inr ⟨m, rfl, by have := h.lt m (List.mem_of_getLast? ho); omega⟩
theorem Fd.drop {p : Nat} {fs : List (List Nat)} {op : List Nat} (h : Fd L G p fs op) (hd : ∀ q y, p = q + 1 → L[q]? = some y → y.l = true ∨ okW G (q - y.k) (y.k + 1) = false) : Fd L G p fs [] :=
  ⟨h.fs, h.le, fun i hi => (by cases hi), by simp, fun _ => rfl, fun q y hq hy => .inr ⟨hd q y hq hy, .inl rfl⟩⟩
theorem Fd.goneDrop {p : Nat} {fs : List (List Nat)} {op : List Nat} (hw : WFS L) (h : Fd L G p fs op) (hg : G p = true) (hp : p < L.length) : Fd L G (p + 1) fs [] :=
  (h.gone hw hg hp).drop fun q y hq hy => by
    obtain rfl : p = q := by omega
    have hk := hw.k_le hy
    exact .inr (by rw [okW_snoc, show p - y.k + y.k = p by omega, hg]; simp)
/-- if a packet belongs to what is begun, that is its picture's beginning -/
theorem Fd.follow {p : Nat} {fs : List (List Nat)} {op : List Nat} {y : Sg} (hw : WFS L) (h : Fd L G p fs op) (hy : L[p]? = some y) (hf : folB op p y = true) :
    ∃ x, L[p - 1]? = some x ∧ 0 < p ∧ y.k = x.k + 1 ∧ y.i = x.i ∧ op = List.range' (p - y.k) y.k ∧ okW G (p - y.k) y.k = true := by
  unfold folB at hf
  split at hf
  · rename_i m hm
    simp only [Bool.and_eq_true, decide_eq_true_eq] at hf
    obtain ⟨h1, h2⟩ := hf
    obtain ⟨x, hx⟩ : ∃ x, L[p - 1]? = some x := ⟨_, List.getElem?_eq_getElem (by have := (List.getElem?_eq_some_iff.1 hy).1; omega)⟩
    have hfo := hw.fol (p - 1) x y hx (by rw [show p - 1 + 1 = p by omega]; exact hy)
    have hk := hw.k_le hx
    rcases hfo with ⟨h3, h4, h5⟩ | ⟨_, _, h5⟩
    · rcases h.cur (p - 1) x (by omega) hx with ⟨_, h7, h8⟩ | ⟨_, h7 | ⟨m2, h7, h8⟩⟩
      · rw [show p - 1 - x.k = p - y.k by omega, ← h5] at h7 h8
        exact ⟨x, hx, by omega, h5, h4, h8, h7⟩
      · rw [h7] at hm; cases hm
      · rw [h7] at hm; obtain rfl := Option.some.inj hm; omega
    · omega
  · cases hf
theorem Fd.feed {p : Nat} {fs : List (List Nat)} {op : List Nat} {y : Sg} (hw : WFS L) (h : Fd L G p fs op) (hy : L[p]? = some y) (hg : G p = false) :
    Fd L G (p + 1) (fs ++ (feed op p y).1.toList) (feed op p y).2 := by
  have hp := (List.getElem?_eq_some_iff.1 hy).1
  have hk := hw.k_le hy
  have hb := (hw.bd p y hy).2
  have key : ∀ op2 : List Nat, okW G (p - y.k) (y.k + 1) = true → op2 = List.range' (p - y.k) (y.k + 1) → Fd L G (p + 1) (fs ++ (if y.l then (some op2, []) else (none, op2) : Option (List Nat) × List Nat).1.toList) (if y.l then (some op2, []) else (none, op2) : Option (List Nat) × List Nat).2 := by
    rintro op2 hok rfl
    have hq : ∀ (q : Nat) (z : Sg), p + 1 = q + 1 → L[q]? = some z → q = p ∧ z = y := fun q z h1 h2 => by
      obtain rfl : p = q := by omega
      rw [hy] at h2
      exact ⟨rfl, (Option.some.inj h2).symm⟩
    cases hl : y.l with
    | true =>
      refine ⟨by rw [wh_at hy, hok, hl, ← h.fs]; rfl, hp, fun i hi => (by cases hi), by simp, fun _ => rfl, fun q z h1 h2 => ?_⟩
      obtain ⟨rfl, rfl⟩ := hq q z h1 h2
      exact .inr ⟨.inl hl, .inl rfl⟩
    | false =>
      refine ⟨by rw [wh_at hy, hl, ← h.fs]; simp, hp, fun i hi => ?_, by simp; omega, fun h0 => by omega, fun q z h1 h2 => ?_⟩
      · have := List.mem_range'_1.1 hi; omega
      · obtain ⟨rfl, rfl⟩ := hq q z h1 h2
        exact .inl ⟨hl, hok, rfl⟩
  unfold Go.Proofs.Ytlhlidmhlhodiaa.feed
  by_cases hf : folB op p y = true
  · rw [if_pos hf]
    obtain ⟨x, hx, h0, h1, _, h2, h3⟩ := h.follow hw hy hf
    refine key _ (by rw [okW_snoc, h3, show p - y.k + y.k = p by omega, hg]; rfl) ?_
    rw [h2, List.range'_concat]
    simp; omega
  · rw [if_neg hf]
    by_cases hk0 : y.k = 0
    · rw [if_pos hk0]
      refine key _ (by rw [hk0, okW_snoc, okW_zero]; simp [hg]) ?_
      rw [hk0]; rfl
    · rw [if_neg hk0]
      have hno : okW G (p - y.k) (y.k + 1) = false := by
        obtain ⟨x, hx⟩ : ∃ x, L[p - 1]? = some x := ⟨_, List.getElem?_eq_getElem (by omega)⟩
        have hfo := hw.fol (p - 1) x y hx (by rw [show p - 1 + 1 = p by omega]; exact hy)
        have hkx := hw.k_le hx
        rcases hfo with ⟨h3, h4, h5⟩ | ⟨_, _, h5⟩
        · rcases h.cur (p - 1) x (by omega) hx with ⟨_, h7, h8⟩ | ⟨h6 | h6, _⟩
          · exfalso
            apply hf
            unfold folB
            rw [h8, show x.k + 1 = x.k + 1 from rfl, List.range'_concat, List.getLast?_concat]
            simp; omega
          · rw [h3] at h6; cases h6
          · rw [okW_snoc, show p - y.k = p - 1 - x.k by omega, h5, h6]; rfl
        · omega
      refine ⟨by rw [wh_at hy, hno, ← h.fs]; simp, hp, fun i hi => (by cases hi), by simp, fun _ => rfl, fun q z h1 h2 => ?_⟩
      obtain rfl : p = q := by omega
      rw [hy] at h2
      obtain rfl := Option.some.inj h2
      exact .inr ⟨.inr hno, .inl rfl⟩
/-- what is begun, behind what was lost -/
def FX (L : List Sg) (G : Nat → Bool) (a : Nat) (fs : List (List Nat)) (op : List Nat) : Prop := ∃ p, a ≤ p ∧ ng G a p = [] ∧ Fd L G p fs op
theorem Fd.fx {p : Nat} {fs : List (List Nat)} {op : List Nat} (h : Fd L G p fs op) : FX L G p fs op := ⟨p, Nat.le_refl _, ng_refl p, h⟩
theorem Fd.gones {p : Nat} {fs : List (List Nat)} {op : List Nat} (hw : WFS L) (h : Fd L G p fs op) : ∀ {q : Nat}, p ≤ q → q ≤ L.length → ng G p q = [] → Fd L G q fs op
  | q, h1, h2, h3 => by
    by_cases he : p = q
    · subst he; exact h
    · obtain ⟨q, rfl⟩ : ∃ r, q = r + 1 := ⟨q - 1, by omega⟩
      have h4 := ng_nil.1 h3
      exact (h.gones hw (q := q) (by omega) (by omega) (ng_nil.2 fun i h5 h6 => h4 i h5 (by omega))).gone hw (h4 q (by omega) (by omega)) (by omega)
theorem FX.to {a b : Nat} {fs : List (List Nat)} {op : List Nat} (hw : WFS L) (h : FX L G a fs op) (h1 : a ≤ b) (h2 : b ≤ L.length) (h3 : ng G a b = []) : FX L G b fs op := by
  obtain ⟨p, hp, hn, hf⟩ := h
  by_cases hb : b ≤ p
  · exact ⟨p, hb, ng_nil.2 fun i h4 h5 => ng_nil.1 hn i (by omega) h5, hf⟩
  · exact (hf.gones hw (q := b) (by omega) h2 (ng_nil.2 fun i h4 h5 => ng_nil.1 h3 i (by omega) h5)).fx
theorem FX.at_ {a : Nat} {fs : List (List Nat)} {op : List Nat} (h : FX L G a fs op) (hg : G a = false) : Fd L G a fs op := by
  obtain ⟨p, hp, hn, hf⟩ := h
  by_cases he : a = p
  · subst he; exact hf
  · have := ng_nil.1 hn a (Nat.le_refl _) (by omega)
    rw [hg] at this; cases this
theorem FX.end_ {fs : List (List Nat)} {op : List Nat} (h : FX L G L.length fs op) : fs = wh L G L.length := by
  obtain ⟨p, hp, _, hf⟩ := h
  have := hf.le
  obtain rfl : p = L.length := by omega
  exact hf.fs
theorem FX.lt {a : Nat} {fs : List (List Nat)} {op : List Nat} (h : FX L G a fs op) : ∀ i ∈ op, i < L.length := fun i hi => by
  obtain ⟨p, _, _, hf⟩ := h
  have := hf.lt i hi
  have := hf.le
  omega
theorem FX.len {a : Nat} {fs : List (List Nat)} {op : List Nat} (h : FX L G a fs op) : op.length ≤ 4 := by
  obtain ⟨p, _, _, hf⟩ := h
  exact hf.len
theorem FX.nil (h : 0 ≤ L.length) : FX L G 0 [] [] := Fd.zero.fx
/-- what is begun may be dropped, where what comes next is lost, or the end -/
theorem FX.drop {a : Nat} {fs : List (List Nat)} {op : List Nat} (hw : WFS L) (hl : ∀ x, L[L.length - 1]? = some x → x.l = true) (h : FX L G a fs op) (ha : a = L.length ∨ (a < L.length ∧ G a = true)) : FX L G a fs [] := by
  rcases ha with rfl | ⟨h1, h2⟩
  · obtain ⟨p, hp, hn, hf⟩ := h
    have := hf.le
    obtain rfl : p = L.length := by omega
    exact ⟨_, hp, hn, hf.drop fun q y hq hy => .inl (hl y (by rw [show L.length - 1 = q by omega]; exact hy))⟩
  · obtain ⟨p, hp, hn, hf⟩ := h
    by_cases he : a = p
    · subst he
      exact ⟨a + 1, by omega, by rw [ng_step (Nat.lt_succ_self a), h2, ng_refl]; rfl, hf.goneDrop hw h2 h1⟩
    · obtain ⟨q, rfl⟩ : ∃ r, p = r + 1 := ⟨p - 1, by omega⟩
      refine ⟨_, hp, hn, hf.drop fun q2 y hq hy => ?_⟩
      obtain rfl : q = q2 := by omega
      have hg := ng_nil.1 hn q (by omega) (by omega)
      have hk := hw.k_le hy
      exact .inr (by rw [okW_snoc, show q - y.k + y.k = q by omega, hg]; simp)
/-- a picture from its first packet on -/
structure PicR (L : List Sg) (a e : Nat) (x : Sg) : Prop where
  le : a ≤ e
  hx : L[a]? = some x
  at_ : ∀ (q : Nat) y, a ≤ q → q < e → L[q]? = some y → y.i = x.i ∧ y.k = q - a ∧ (q + 1 < e → y.l = false)
theorem PicR.zero {a : Nat} {x : Sg} (hx : L[a]? = some x) : PicR L a a x := ⟨Nat.le_refl _, hx, fun q y h1 h2 => by omega⟩
theorem PicR.more (hw : WFS L) {a e : Nat} {x y : Sg} (h : PicR L a e x) (hk : x.k = 0) (hy : L[e]? = some y) (hi : y.i = x.i) : PicR L a (e + 1) x := by
  refine ⟨by have := h.le; omega, h.hx, fun q z h1 h2 hz => ?_⟩
  have step : ∀ w v, L[e - 1]? = some w → L[e]? = some v → a < e → v.i = x.i → w.l = false ∧ v.k = e - a := fun w v hw2 hv hae hvi => by
    obtain ⟨g1, g2, _⟩ := h.at_ (e - 1) w (by omega) (by omega) hw2
    rcases hw.fol (e - 1) w v hw2 (by rw [show e - 1 + 1 = e by omega]; exact hv) with ⟨g3, g4, g5⟩ | ⟨_, g4, _⟩
    · exact ⟨g3, by omega⟩
    · omega
  by_cases he : q = e
  · subst he
    rw [hy] at hz
    obtain rfl := Option.some.inj hz
    refine ⟨hi, ?_, fun h3 => by omega⟩
    by_cases hae : a = q
    · subst hae
      have := h.hx
      rw [hy] at this
      obtain rfl := Option.some.inj this
      omega
    · obtain ⟨w, hw2⟩ : ∃ w, L[q - 1]? = some w := ⟨_, List.getElem?_eq_getElem (by have := (List.getElem?_eq_some_iff.1 hy).1; omega)⟩
      exact (step w y hw2 hy (by omega) hi).2
  · obtain ⟨g1, g2, g3⟩ := h.at_ q z h1 (by omega) hz
    refine ⟨g1, g2, fun h3 => ?_⟩
    by_cases hq : q + 1 = e
    · obtain rfl : q = e - 1 := by omega
      exact (step z y hz hy (by omega) hi).1
    · exact g3 (by omega)
/-- behind a picture -/
theorem PicR.wh (hw : WFS L) (hl : ∀ x, L[L.length - 1]? = some x → x.l = true) {a e : Nat} {x : Sg} (h : PicR L a e x) (hae : a < e) (hle : e ≤ L.length) (he : ∀ y, L[e]? = some y → y.i ≠ x.i) :
    Go.Proofs.Ytlhlidmhlhodiaa.wh L G e = (if okW G a (e - a) then Go.Proofs.Ytlhlidmhlhodiaa.wh L G a ++ [List.range' a (e - a)] else Go.Proofs.Ytlhlidmhlhodiaa.wh L G a) ∧ ∀ y, L[e]? = some y → y.k = 0 := by
  have mid : ∀ d, a + d < e → Go.Proofs.Ytlhlidmhlhodiaa.wh L G (a + d) = Go.Proofs.Ytlhlidmhlhodiaa.wh L G a := fun d => by
    induction d with
    | zero => intro _; rfl
    | succ d ih =>
      intro hd
      obtain ⟨y, hy⟩ : ∃ y, L[a + d]? = some y := ⟨_, List.getElem?_eq_getElem (by omega)⟩
      obtain ⟨_, _, g3⟩ := h.at_ (a + d) y (by omega) (by omega) hy
      rw [← Nat.add_assoc, wh_at hy, g3 (by omega), ih (by omega)]; rfl
  obtain ⟨y, hy⟩ : ∃ y, L[e - 1]? = some y := ⟨_, List.getElem?_eq_getElem (by omega)⟩
  obtain ⟨g1, g2, _⟩ := h.at_ (e - 1) y (by omega) (by omega) hy
  have hnx : y.l = true ∧ ∀ z, L[e]? = some z → z.k = 0 := by
    by_cases hend : e = L.length
    · subst hend
      exact ⟨hl y hy, fun z hz => by simp at hz⟩
    · obtain ⟨z, hz⟩ : ∃ z, L[e]? = some z := ⟨_, List.getElem?_eq_getElem (by omega)⟩
      rcases hw.fol (e - 1) y z hy (by rw [show e - 1 + 1 = e by omega]; exact hz) with ⟨_, g4, _⟩ | ⟨g3, g4, g5⟩
      · exact absurd (g4.trans g1) (he z hz)
      · refine ⟨g3, fun z2 hz2 => ?_⟩
        rw [hz] at hz2
        obtain rfl := Option.some.inj hz2
        exact g5
  refine ⟨?_, hnx.2⟩
  have e1 := wh_at (G := G) hy
  rw [show e - 1 + 1 = e by omega, hnx.1, show e - 1 - y.k = a by omega, show y.k + 1 = e - a by omega, show e - 1 = a + (e - 1 - a) by omega, mid _ (by omega)] at e1
  rw [e1]; simp
end
end Go.Proofs.Ytlhlidmhlhodiaa

/-
  antiphonlaw11.Stream: the packets of pictures, of any first number.
-/
namespace Go.Proofs.Ytlhlidmhlhodiaa
set_option linter.unusedSimpArgs false
set_option linter.unusedVariables false
open Go.RowKit
attribute [local irreducible] Pv WO WC Fn
set_option maxRecDepth 100000
attribute [local irreducible] ByteArray.extract

def spl (i k : Nat) : ByteArray := txt (dP (decide ((k : Int) = 0))) ++ bytesOf [if (i : Int) % 3 = 0 then 0 else 1, (i : Int), (k : Int)]
def sgP (f : Int) (j : Nat) (x : Sg) : Pm := ⟨x.l, 96, (f + (j : Int)) % 65536, 3000 * (x.i : Int), 7, spl x.i x.k⟩
def sgs (f : Int) : Nat → List Sg → List Pm
  | _, [] => []
  | j, x :: l => sgP f j x :: sgs f (j + 1) l
theorem sgs_snoc (f : Int) : ∀ (l : List Sg) (j : Nat) (x : Sg), sgs f j (l ++ [x]) = sgs f j l ++ [sgP f (j + l.length) x]
  | [], _, _ => rfl
  | y :: l, j, x => by
    show sgP f j y :: sgs f (j + 1) (l ++ [x]) = sgP f j y :: (sgs f (j + 1) l ++ [sgP f (j + (l.length + 1)) x])
    rw [sgs_snoc f l (j + 1) x, show j + 1 + l.length = j + (l.length + 1) by omega]
theorem sgs_len (f : Int) : ∀ (l : List Sg) (j : Nat), (sgs f j l).length = l.length
  | [], _ => rfl
  | _ :: l, j => congrArg (· + 1) (sgs_len f l (j + 1))
theorem sgs_at (f : Int) : ∀ {l : List Sg} {j n : Nat} {x : Sg}, l[n]? = some x → (sgs f j l)[n]? = some (sgP f (j + n) x)
  | y :: l, j, 0, x, h => by
    obtain rfl := Option.some.inj h
    rfl
  | y :: l, j, n + 1, x, h => by
    show (sgs f (j + 1) l)[n]? = _
    rw [sgs_at f (l := l) (j := j + 1) (by simpa using h), show j + 1 + n = j + (n + 1) by omega]
abbrev c64 (l : List Int) : List (List Value) := l.map fun x => [.int .i64 x]
theorem c64_at {l : List Int} {j : Nat} {x : Int} (h : l[j]? = some x) : (c64 l)[j]? = some [.int .i64 x] := by rw [List.getElem?_map, h]; rfl
abbrev dcB (b : Nat) (st : Bool) : It := .ob b (.cells (dL false st 0 (-1) false (-1) (-1) false (-1)).toArray 23 (0, 0))
abbrev by3 (b : Nat) (x y z : Int) : It := .own 5 1 (some ⟨b, 0, none⟩) 3 3 [[.int .u8 x], [.int .u8 y], [.int .u8 z]]
abbrev pkO' (ao : Option Addr) (n c : Nat) (xs : List (List Value)) : It := .own pkT 11 ao n c xs
def tblS (t : ByteArray) (x y z : Int) (n : Nat) (xs : List (List Value)) (row : List Value) : Nat → List (List It) → Value → List (List It) → Prop := fun k Ls v Ms => match k, Ls with
  | 14, _ => v = .string t ∧ Ms = [[]]
  | 20, _ => ∃ b, v = .slice (some ⟨b, 0, none⟩) 3 3 ∧ Ms = [[by3 b x y z]]
  | 21, [l] => v = .string (bytesOf [x, y, z]) ∧ Ms = [l]
  | 24, _ => ∃ b, v = .slice (some ⟨b, 0, none⟩) 1 1 ∧ Ms = [[pkO' (some ⟨b, 0, none⟩) 1 1 [row]]]
  | 25, [_, y] => ∃ ao2 c2, v = .slice ao2 (n + 1) c2 ∧ Ms = [[pkO' ao2 (n + 1) c2 (xs ++ [row])], y]
  | _, _ => False
set_option maxHeartbeats 16000000 in
theorem sStream (f : Int) (hf : 0 ≤ f ∧ f ≤ 65535) (l : List Int) (A : Option Addr) (c : Nat) (R : List Ro) (hS : SQ R 1 A l.length c (c64 l)) :
    Fn Try.prog 41 #[.int .u16 f, .slice A l.length c] [] R
      (fun v L' R' => ∃ L ao c', v = .slice ao L.length c' ∧ L' = [pkO' ao L.length c' (prs' (sgs f 0 L))] ∧ R' = [] ∧ WFS L ∧ L.length ≤ 59 ∧ ∀ x, L[L.length - 1]? = some x → x.l = true) := by
  have hTx : ∀ st : Bool, Fn Try.prog 14 #[.agg (dL false st 0 (-1) false (-1) (-1) false (-1)).toArray] [] [] (fun v L' R' => v = .string (txt (dP st)) ∧ L' = [] ∧ R' = []) := fun st => vText false st 0 (-1) false (-1) (-1) false (-1) (by cases st <;> decide) (by cases st <;> decide)
  refine fn_intro Try.func41 rfl Try.ntmps41 rfl (fun E => ?_)
  (repeat (first | ((first | (apply wo_v; rfl) ); (· first | (apply pv_ev; rfl) )) | apply wo_nil | apply wc_seq | apply wc_region | (apply wo_bsl; (· (repeat (first | apply Rws'.nil ))); rfl; rfl; rfl; rfl; intro bx) ))
  refine wc_block ?_
  refine wc_loop' (fun q st => ∃ (i : Nat) (L : List Sg) (ao : Option Addr) (c' : Nat), q = 60 - i ∧ st = ⟨[(0, .int .u16 f), (1, .slice A l.length c), (5, .slice ao L.length c'), (6, .int .i64 i)], [pkO' ao L.length c' (prs' (sgs f 0 L))], R⟩ ∧ WFS L ∧ Beg L i 0 0 ∧ i ≤ L.length ∧ L.length ≤ 59)
    ⟨0, [], some ⟨bx, 0, none⟩, 0, rfl, rfl, WFS.nil, ⟨fun _ => ⟨rfl, rfl⟩, fun x h => by simp at h⟩, Nat.le_refl _, by simp⟩ (wk_mk (by (repeat (first | apply wkf_nil | (apply wkf_cons; rfl))); done) (by (repeat (first | apply sub_nil )); done) (by first | exact fun _ h => h | (intro r hr; cases hr; done) | (simp; done) | exact fun _ h => List.mem_append_left _ h | (intro r hr; simp [hr]; done))) ?_
  rintro q st ⟨i, L, ao, c', rfl, rfl, hw, hb, hi, hl⟩
  by_cases h1 : i < l.length
  · by_cases h2 : L.length < 56
    · obtain ⟨x, hx⟩ : ∃ x, l[i]? = some x := ⟨_, List.getElem?_eq_getElem h1⟩
      have hr := c64_at hx
      obtain ⟨a0, o0, rfl, hmem⟩ := hS.pos (by omega)
      have ha : bits .and .i64 x 3 = x % 4 := and_ones x 2 (by omega)
      have hxm : 0 ≤ bits .and .i64 x 3 ∧ bits .and .i64 x 3 ≤ 3 := by omega
      (repeat (first | ((first | (apply wo_v; rfl) ); (· first | (apply pv_ev; rfl) | (apply g_pick; first | (apply pv_pick_t; rfl; rfl) ) | (apply g_bi; first | (apply pv_len_sl; rfl) ) )) | apply wo_nil | apply wc_seq | apply wc_region | apply wc_skip | (apply wc_true; rfl) | (apply wc_false; rfl) | (apply a_dec_t; rfl; (· first | assumption | omega)) | (apply wo_run; rfl; rfl) | (apply wo_skip; rfl; rfl; rfl; rfl) | (apply wo_skip_u; rfl; rfl; rfl) | (apply a_gt; rfl; rfl; (· first | assumption | omega)) ))
      refine wc_block ?_
      (repeat (first | ((first | (apply wo_v; rfl) ); (· first | (apply pv_ev; rfl) | (apply g_load; first | (apply pv_ld; rfl; (· (repeat (first | apply sel_there))); rfl) | (apply pv_ld_ownf; rfl; (· (repeat (first | fail ))); (· assumption); rfl) | (apply pv_ld_own1; rfl; (· (repeat (first | apply sel_there))); (· assumption)) | (apply pv_ld_rof; rfl; (· (first | assumption )); (· assumption); rfl) | (apply pv_ld_ro1; rfl; (· (first | assumption )); (· assumption)) ) | (apply g_bin; first | (apply a_add; rfl; rfl; infer_instance; omega) | (apply pv_and; rfl; rfl) ) | (apply g_idx; first | (apply pv_idx; rfl; rfl; omega) ) )) | apply wo_nil | apply wc_seq | apply wc_region ))
      rw [ha] at hxm ⊢
      obtain ⟨n, hn⟩ : ∃ n : Nat, 1 + x % 4 = (n : Int) := ⟨(1 + x % 4).toNat, by omega⟩
      rw [hn]
      have hn4 : 1 ≤ n ∧ n ≤ 4 := by omega
      clear hn hxm ha hr hx
      refine wc_block ?_
      refine wc_loop' (fun q st => ∃ (k : Nat) (M : List Sg) (ao : Option Addr) (c' : Nat), q = n - k ∧ k ≤ n ∧ st = ⟨[(0, .int .u16 f), (1, .slice (some ⟨a0, o0, none⟩) l.length c), (5, .slice ao M.length c'), (6, .int .i64 i), (7, .int .i64 n), (29, .int .i64 n), (30, .int .i64 k)], [pkO' ao M.length c' (prs' (sgs f 0 M))], R⟩ ∧ WFS M ∧ Beg M i k n ∧ M.length = L.length + k)
        ⟨0, L, ao, c', rfl, Nat.zero_le _, rfl, hw, hb.any n, rfl⟩ (wk_mk (by (repeat (first | apply wkf_nil | (apply wkf_cons; rfl))); done) (by (repeat (first | apply sub_nil )); done) (by first | exact fun _ h => h | (intro r hr; cases hr; done) | (simp; done) | exact fun _ h => List.mem_append_left _ h | (intro r hr; simp [hr]; done))) ?_
      clear hw hb
      rintro q st ⟨k, M, ao, c', rfl, hk, rfl, hw, hb, hM⟩
      by_cases hlt : k < n
      · (repeat (first | ((first | (apply wo_v; rfl) ); (· first | (apply pv_ev; rfl) )) | apply wo_nil | apply wc_seq | apply wc_region | apply wc_skip | (apply wc_true; rfl) | (apply wc_false; rfl) | (apply a_dec_t; rfl; (· first | assumption | omega)) ))
        refine wc_block ?_
        (repeat (first | ((first | (apply wo_v; rfl) ); (· first | (apply pv_ev; rfl) )) | apply wo_nil | apply wc_seq | apply wc_region ))
        (refine wo_call (vPlain) rfl (by (repeat (first | apply sub_nil )); done) (by first | exact fun _ h => h | (intro r hr; cases hr; done) | (simp; done) | exact fun _ h => List.mem_append_left _ h | (intro r hr; simp [hr]; done)) rfl ?_; rintro v L' R' ⟨rfl, rfl, rfl⟩ H' hH RR hR; simp only [List.cons_append, List.nil_append] at hH hR; subst hH; have hR := hR.symm; subst hR)
        (repeat (first | ((first | (apply wo_v; rfl) ); (· first | (apply pv_ev; rfl) | (apply pv_fld; rfl) | (apply g_bin; first | (apply pv_rem; rfl; rfl; omega) ) )) | apply wo_nil | apply wc_seq | apply wc_region | (apply wc_true; rfl) | (apply wc_false; rfl) | (apply a_dec_t; rfl; (· first | assumption | omega)) | (apply a_dec_f; rfl; (· first | assumption | omega)) | (apply a_dec_t; rfl; (· first | (simp; done) | (simp; omega))) | (apply a_dec_f; rfl; (· first | (simp; done) | (simp; omega))) | (apply wo_st; rfl; rfl; rfl; (· (repeat (first | apply sel_here ))); (· (repeat (first | apply SetAt.here | apply SetAt.there))); rfl) | (apply wo_alloc; rfl; intro bx) | (apply wo_sta; rfl; rfl; rfl; rfl; (· (repeat (first | apply sel_here ))); (· (repeat (first | apply LayAt.nil | apply LayAt.here ))); rfl) ))
        obtain ⟨b9, hb9⟩ : ∃ g, g = bx := ⟨_, rfl⟩
        subst hb9
        refine wc_join0 (fun st => st = ⟨[(0, .int .u16 f), (1, .slice (some ⟨a0, o0, none⟩) l.length c), (5, .slice ao M.length c'), (6, .int .i64 i), (7, .int .i64 n), (8, .int .i64 k), (9, .pointer (some ⟨b9, 0, none⟩)), (10, .int .u8 (if (i : Int) % 3 = 0 then 0 else 1)), (29, .int .i64 n), (30, .int .i64 k)], [dcB b9 (decide ((k : Int) = 0)), pkO' ao M.length c' (prs' (sgs f 0 M))], R⟩) ?_ ?_
        · by_cases h3 : (i : Int) % 3 = 0
          · (repeat (first | ((first | (apply wo_v; rfl) ); (· first | (apply pv_ev; rfl) )) | apply wo_nil | apply wc_region | (apply wc_true; rfl) | (apply wc_false; rfl) | (apply a_dec_t; rfl; (· first | assumption | omega)) ))
            exact cut_end (by rw [if_pos h3]) (wk_mk (by (repeat (first | apply wkf_nil | (apply wkf_cons; rfl))); done) (by (repeat (first | apply sub_nil )); done) (by first | exact fun _ h => h | (intro r hr; cases hr; done) | (simp; done) | exact fun _ h => List.mem_append_left _ h | (intro r hr; simp [hr]; done)))
          · (repeat (first | apply wc_skip | (apply wc_true; rfl) | (apply wc_false; rfl) | (apply a_dec_t; rfl; (· first | assumption | omega)) | (apply a_dec_f; rfl; (· first | assumption | omega)) ))
            exact cut_end (by rw [if_neg h3]) (wk_mk (by (repeat (first | apply wkf_nil | (apply wkf_cons; rfl))); done) (by (repeat (first | apply sub_nil )); done) (by first | exact fun _ h => h | (intro r hr; cases hr; done) | (simp; done) | exact fun _ h => List.mem_append_left _ h | (intro r hr; simp [hr]; done)))
        rintro st rfl
        obtain ⟨y, hy⟩ : ∃ y, (if (i : Int) % 3 = 0 then (0 : Int) else 1) = y := ⟨_, rfl⟩
        have hy2 : 0 ≤ y ∧ y ≤ 255 := by rw [← hy]; split <;> omega
        rw [hy]
        obtain ⟨hw2, hb2⟩ := hb.snoc hw hlt hn4.2 (by omega)
        have hT := hTx (decide ((k : Int) = 0))
        have hTz := txt_le (dP (decide ((k : Int) = 0)))
        have hrow : prow (sgP f (0 + M.length) ⟨i, k, decide (k + 1 = n)⟩) = pkR (decide ((k : Int) = (n : Int) - 1)) 96 ((f + (M.length : Int)) % 65536) (3000 * (i : Int)) 7 (txt (dP (decide ((k : Int) = 0))) ++ bytesOf [y, (i : Int), (k : Int)]) := by
          unfold prow sgP spl
          rw [hy, Nat.zero_add, show decide (k + 1 = n) = decide ((k : Int) = (n : Int) - 1) from decide_eq_decide.2 (by omega)]
        generalize txt (dP (decide ((k : Int) = 0))) = t at hT hTz hrow
        have hz3 : (bytesOf [y, (i : Int), (k : Int)]).size = 3 := rfl
        (repeat (first | fail ))
        (refine wc_regM [0, 1, 2, 3] (aslL [(14, [3]), (20, [0]), (21, [0]), (24, [1]), (25, [2, 1])]) (tblS t y i k M.length (prs' (sgs f 0 M)) (prow (sgP f (0 + M.length) ⟨i, k, decide (k + 1 = n)⟩))) ([dcB b9 (decide ((k : Int) = 0))]) (fm [(0, []), (1, []), (2, [pkO' ao M.length c' (prs' (sgs f 0 M))]), (3, [])]) mixed (by kernel_rfl) (by kernel_rfl) (by decide) (aslL_ok (by decide)) (by (repeat (first | (apply prm_cons; (· (repeat (first | apply sel_here )))) | apply List.Perm.nil )); done) ?_; (repeat (first | (apply HdM.val; rfl; rfl; (· first | apply gok_none ); (· first | (apply pv_ev; rfl) | (apply g_load; first | (apply pv_lda; rfl; (· (repeat (first | apply sel_here ))); (· (repeat (first | apply Cut.here0 | apply Cut.here )))) ) | (apply g_bin; first | (apply a_add; rfl; rfl; infer_instance; omega) | (apply a_sub; rfl; rfl; infer_instance; omega) | (apply a_mul; rfl; rfl; infer_instance; omega) | (apply pv_add_s; rfl; rfl; omega) | (apply a_add_u; rfl; rfl; infer_instance) ) | (apply g_bi; first | (apply pv_len_sl; rfl) ) | (apply g_conv; first | (apply a_conv; rfl; infer_instance; infer_instance; infer_instance; omega) ) )) )))
        rw [hrow]
        (refine hm_eff (cs := [3]) rfl (by decide) rfl rfl (by first | exact gok_none | exact gok_run rfl rfl) (fun a ha => outc_mono (outc_call (F1 := _) (T := fun v M => v = .string t ∧ M = []) (hT) rfl (by (repeat (first | apply sub_nil )); done) (by first | exact fun _ h => h | (intro r hr; cases hr; done) | (simp; done) | exact fun _ h => List.mem_append_left _ h | (intro r hr; simp [hr]; done)) (by rintro v L' R' ⟨rfl, rfl, _⟩; exact ⟨_, ⟨rfl, rfl⟩, (by (repeat (first | (apply prm_cons; (· (repeat (first | apply sel_here )))) | apply List.Perm.nil )); done)⟩) a ha) (fun v M h => ⟨[[]], And.intro h.1 rfl, rfl, h.2⟩)) ⟨_, _, And.intro rfl rfl, rfl⟩ ?_; rintro v Ms ⟨rfl, rfl⟩ _; simp only [setls, setl, reduceIte, Nat.reduceEqDiff]; (repeat (first | (apply HdM.val; rfl; rfl; (· first | apply gok_none ); (· first | (apply pv_ev; rfl) | (apply g_conv; first | (apply a_conv; rfl; infer_instance; infer_instance; infer_instance; omega) ) )) )))
        (refine hm_eff (cs := [0]) rfl (by decide) rfl rfl (by first | exact gok_none | exact gok_run rfl rfl) (fun a ha => outc_mono (outc_bsl (by (repeat (first | apply Rws'.nil | (apply Rws'.one; rfl; rfl; rfl) )); done) rfl rfl rfl a ha) (fun v M h => Exists.elim h fun b h => ⟨[M], Exists.intro b (And.intro h.1 (congrArg (fun x => [x]) h.2)), rfl, by simp⟩)) (⟨_, _, Exists.intro 0 (And.intro rfl rfl), rfl⟩) ?_; rintro v Ms ⟨b60, rfl, rfl⟩ _; simp only [setls, setl, reduceIte, Nat.reduceEqDiff]; (repeat (first | (apply HdM.val; rfl; rfl; (· first | fail ); (· first | fail )) )))
        (refine hm_eff (cs := [0]) rfl (by decide) rfl rfl (by first | exact gok_none | exact gok_run rfl rfl) (fun a ha => outc_mono (outc_pv (L := [by3 b60 y i k]) (pv_conv_bs (ns := [y, (i : Int), (k : Int)]) rfl (by (repeat (first | apply sel_here )); done) rfl) a ha) (fun v M h => ⟨[M], And.intro h.1 (congrArg (fun x => [x]) h.2), rfl, by simp⟩)) (⟨_, _, And.intro rfl rfl, rfl⟩) ?_; rintro v Ms ⟨rfl, rfl⟩ _; simp only [setls, setl, reduceIte, Nat.reduceEqDiff]; (repeat (first | (apply HdM.val; rfl; rfl; (· first | apply gok_none ); (· first | (apply pv_ev; rfl) | (apply g_bin; first | (apply a_add; rfl; rfl; infer_instance; omega) | (apply pv_add_s; rfl; rfl; omega) ) | (apply g_build; apply pv_build; (· (repeat (first | apply Bld.nil | (apply Bld.one; rfl; rfl; (· (repeat (first | apply SetAt.here | apply SetAt.there)))) )))) )) )))
        (refine hm_eff (cs := [1]) rfl (by decide) rfl rfl (by first | exact gok_none | exact gok_run rfl rfl) (fun a ha => outc_mono (outc_bsl (by (repeat (first | apply Rws'.nil | (apply Rws'.agg; rfl; rfl; rfl))); done) rfl rfl rfl a ha) (fun v M h => Exists.elim h fun b h => ⟨[M], Exists.intro b (And.intro h.1 (congrArg (fun x => [x]) h.2)), rfl, by simp⟩)) (⟨_, _, Exists.intro 0 (And.intro rfl rfl), rfl⟩) ?_; rintro v Ms ⟨b64, rfl, rfl⟩ _; simp only [setls, setl, reduceIte, Nat.reduceEqDiff]; (repeat (first | (apply HdM.val; rfl; rfl; (· first | fail ); (· first | fail )) )))
        (refine hm_eff (cs := [2, 1]) rfl (by decide) rfl rfl (by first | exact gok_none | exact gok_run rfl rfl) (fun a ha => outc_mono (outc_app_g rfl rfl (by unfold maxLen; omega) (by omega) a ha) (fun v M h => by obtain ⟨b, c, h1, h2⟩ := h; exact ⟨[[_], [_]], ⟨b, c, h1, rfl⟩, rfl, h2⟩)) (⟨_, _, ⟨none, 0, rfl, rfl⟩, rfl⟩) ?_; rintro v Ms ⟨ao2, c2, rfl, rfl⟩ _; simp only [setls, setl, reduceIte, Nat.reduceEqDiff]; (repeat (first | (apply HdM.val; rfl; rfl; (· first | apply gok_none ); (· first | (apply pv_ev; rfl) )) )))
        (refine HdM.nil ?_; intro H hH; simp only [Hp, fm, look, setl, List.flatMap_cons, List.flatMap_nil, reduceIte, Nat.reduceEqDiff, Option.getD_some, List.append_nil, List.cons_append, List.nil_append] at hH; subst hH)
        rw [show prs' (sgs f 0 M) ++ [pkR (decide ((k : Int) = (n : Int) - 1)) 96 ((f + (M.length : Int)) % 65536) (3000 * (i : Int)) 7 (t ++ bytesOf [y, (i : Int), (k : Int)])] = prs' (sgs f 0 (M ++ [⟨i, k, decide (k + 1 = n)⟩])) from by rw [← hrow, sgs_snoc]; simp [prs']]
        (repeat (first | ((first | (apply wo_v; rfl) ); (· first | (apply pv_ev; rfl) | (apply g_bin; first | (apply a_add; rfl; rfl; infer_instance; omega) ) )) | apply wo_nil | apply wc_region ))
        exact loop_end ⟨k + 1, M ++ [⟨i, k, decide (k + 1 = n)⟩], ao2, c2, rfl, by omega, by rw [List.length_append, List.length_singleton], hw2, hb2, by rw [List.length_append, List.length_singleton]; omega⟩ (by omega) (wk_mk (by (repeat (first | apply wkf_nil | (apply wkf_cons; rfl))); done) (by (repeat (first | apply sub_nil | (apply sub_cons; (· (repeat (first | apply sel_here | apply sel_there)))))); done) (by first | exact fun _ h => h | (intro r hr; cases hr; done) | (simp; done) | exact fun _ h => List.mem_append_left _ h | (intro r hr; simp [hr]; done)))
      · have e : k = n := by omega
        subst e
        (repeat (first | ((first | (apply wo_v; rfl) ); (· first | (apply pv_ev; rfl) | (apply g_bin; first | (apply a_add; rfl; rfl; infer_instance; omega) ) )) | apply wo_nil | apply wc_seq | apply wc_region | (apply wc_exit; rfl) | (apply wc_true; rfl) | (apply wc_false; rfl) | (apply a_dec_t; rfl; (· first | assumption | omega)) | (apply a_dec_f; rfl; (· first | assumption | omega)) ))
        exact loop_end ⟨i + 1, M, ao, c', rfl, rfl, hw, (hb.next hn4.1 0), by omega, by omega⟩ (by omega) (wk_mk (by (repeat (first | apply wkf_nil | (apply wkf_cons; rfl))); done) (by (repeat (first | apply sub_nil )); done) (by first | exact fun _ h => h | (intro r hr; cases hr; done) | (simp; done) | exact fun _ h => List.mem_append_left _ h | (intro r hr; simp [hr]; done)))
    · (repeat (first | ((first | (apply wo_v; rfl) ); (· first | (apply pv_ev; rfl) | (apply g_pick; first | (apply pv_pick_t; rfl; rfl) ) | (apply g_bi; first | (apply pv_len_sl; rfl) ) )) | apply wo_nil | apply wc_seq | apply wc_region | (apply wc_exit; rfl) | apply wc_ret | (apply wc_true; rfl) | (apply wc_false; rfl) | (apply a_dec_t; rfl; (· first | assumption | omega)) | (apply a_dec_f; rfl; (· first | assumption | omega)) | (apply wo_run; rfl; rfl) | (apply wo_skip; rfl; rfl; rfl; rfl) | (apply wo_skip_u; rfl; rfl; rfl) | (apply a_gt; rfl; rfl; (· first | assumption | omega)) ))
      exact retv rfl (by (repeat (first | apply RV.nil | (apply RV.tmp; rfl) )); done) (⟨L, ao, c', rfl, rfl, rfl, hw, hl, hb.last⟩) (by (repeat (first | apply sub_nil )); done) (by first | exact fun _ h => h | (intro r hr; cases hr; done) | (simp; done) | exact fun _ h => List.mem_append_left _ h | (intro r hr; simp [hr]; done))
  · (repeat (first | ((first | (apply wo_v; rfl) ); (· first | (apply pv_ev; rfl) | (apply g_pick; first | (apply pv_pick_t; rfl; rfl) | (apply pv_pick_f; rfl; rfl)) | (apply g_bi; first | (apply pv_len_sl; rfl) ) )) | apply wo_nil | apply wc_seq | apply wc_region | (apply wc_exit; rfl) | apply wc_ret | (apply wc_true; rfl) | (apply wc_false; rfl) | (apply wo_run; rfl; rfl) | (apply wo_skip; rfl; rfl; rfl; rfl) | (apply wo_skip_u; rfl; rfl; rfl) | (apply a_gt; rfl; rfl; (· first | assumption | omega)) | (apply a_gf; rfl; rfl; (· first | assumption | omega)) ))
    exact retv rfl (by (repeat (first | apply RV.nil | (apply RV.tmp; rfl) )); done) (⟨L, ao, c', rfl, rfl, rfl, hw, hl, hb.last⟩) (by (repeat (first | apply sub_nil )); done) (by first | exact fun _ h => h | (intro r hr; cases hr; done) | (simp; done) | exact fun _ h => List.mem_append_left _ h | (intro r hr; simp [hr]; done))
end Go.Proofs.Ytlhlidmhlhodiaa

/-
  Sparse frames: maps by the list of their entries (with the stamps that they have): looked up at the first key, put behind, deleted in front. No program in sight.
-/
namespace Go.Proofs.Ytlhlidmhlhodiaa
set_option linter.unusedSimpArgs false
set_option linter.unusedVariables false
open Go.RowKit

abbrev Me := Int × Value × Nat
def mEs (l : List Me) : List MapEntry := l.map fun e => ⟨.int .i64 e.1, e.2.1, e.2.2⟩
abbrev mL (l : List Me) (ck : Nat) : Obj := .map (mEs l).toArray ck
theorem mEs_snoc (l : List Me) (a : Int) (v : Value) (n : Nat) : mEs l ++ [⟨.int .i64 a, v, n⟩] = mEs (l ++ [(a, v, n)]) := by simp [mEs]
theorem mEs_cons (l : List Me) (a : Int) (v : Value) (n : Nat) : mEs ((a, v, n) :: l) = ⟨.int .i64 a, v, n⟩ :: mEs l := rfl
theorem findL_no (x : Int) : ∀ (l : List Me) (i : Nat), (∀ e ∈ l, e.1 ≠ x) → Instr.findNow (.int .i64) (.int .i64 x) (mEs l) i = some none
  | [], _, _ => rfl
  | (a, v, n) :: l, i, h => by
    have e : Instr.sameNow (.int .i64) (.int .i64 x) (.int .i64 a) = some (x == a) := by simp [Instr.sameNow]
    have hb : (x == a) = false := by have := h (a, v, n) (.head _); simpa using fun h2 => this h2.symm
    show Instr.findNow (.int .i64) (.int .i64 x) (⟨.int .i64 a, v, n⟩ :: mEs l) i = _
    unfold Instr.findNow
    rw [e, hb]
    exact findL_no x l (i + 1) (fun e he => h e (.tail _ he))
theorem findL_hd (x : Int) (v : Value) (n : Nat) (l : List Me) : Instr.findNow (.int .i64) (.int .i64 x) (mEs ((x, v, n) :: l)) 0 = some (some (0, v)) := by
  have e : Instr.sameNow (.int .i64) (.int .i64 x) (.int .i64 x) = some (x == x) := by simp [Instr.sameNow]
  show Instr.findNow (.int .i64) (.int .i64 x) (⟨.int .i64 x, v, n⟩ :: mEs l) 0 = _
  unfold Instr.findNow
  rw [e]; simp
def mlk : List Me → Int → Option Value
  | [], _ => none
  | e :: l, x => if x = e.1 then some e.2.1 else mlk l x
def mix : List Me → Int → Nat
  | [], _ => 0
  | e :: l, x => if x = e.1 then 0 else mix l x + 1
theorem findL (x : Int) : ∀ (l : List Me) (i : Nat), Instr.findNow (.int .i64) (.int .i64 x) (mEs l) i = some ((mlk l x).map fun v => (i + mix l x, v))
  | [], _ => rfl
  | (a, v, n) :: l, i => by
    have e : Instr.sameNow (.int .i64) (.int .i64 x) (.int .i64 a) = some (x == a) := by simp [Instr.sameNow]
    show Instr.findNow (.int .i64) (.int .i64 x) (⟨.int .i64 a, v, n⟩ :: mEs l) i = _
    unfold Instr.findNow
    rw [e]
    by_cases h : x = a
    · subst h; simp [mlk, mix]
    · rw [show (x == a) = false by simpa using h]
      simp only [findL x l (i + 1), mlk, mix, if_neg h]
      cases mlk l x <;> simp; omega
theorem mix_none {l : List Me} {x : Int} (h : mlk l x = none) : mix l x = l.length := by
  induction l with
  | nil => rfl
  | cons e l ih =>
    unfold mlk at h
    unfold mix
    split at h
    · cases h
    · rename_i h2; rw [if_neg h2, ih h]; rfl
def mdel (l : List Me) (x : Int) : List Me := l.eraseIdx (mix l x)
theorem erase_map {α β : Type} (f : α → β) : ∀ (l : List α) (i : Nat), (l.eraseIdx i).map f = (l.map f).eraseIdx i
  | [], _ => rfl
  | _ :: _, 0 => rfl
  | a :: l, i + 1 => congrArg (f a :: ·) (erase_map f l i)
theorem mdel_ne {x y : Int} (h : y ≠ x) : ∀ l : List Me, mlk (mdel l x) y = mlk l y
  | [] => rfl
  | e :: l => by
    unfold mdel mix
    by_cases h2 : x = e.1
    · rw [if_pos h2]
      show mlk l y = _
      unfold mlk
      rw [if_neg (by omega)]
      cases l <;> rfl
    · rw [if_neg h2, List.eraseIdx_cons_succ]
      show (if y = e.1 then _ else mlk (mdel l x) y) = _
      rw [mdel_ne h l]; rfl
theorem mlk_mem {l : List Me} {x : Int} {v : Value} (h : mlk l x = some v) : ∃ e ∈ l, e.1 = x ∧ e.2.1 = v := by
  induction l with
  | nil => cases h
  | cons e l ih =>
    unfold mlk at h
    split at h
    · rename_i h2
      exact ⟨e, .head _, h2.symm, Option.some.inj h⟩
    · obtain ⟨e2, h3, h4⟩ := ih h
      exact ⟨e2, .tail _ h3, h4⟩
theorem mdel_self {x : Int} : ∀ {l : List Me}, (l.map (·.1)).Nodup → mlk (mdel l x) x = none
  | [], _ => rfl
  | e :: l, hn => by
    rw [List.map_cons, List.nodup_cons] at hn
    unfold mdel mix
    by_cases h2 : x = e.1
    · rw [if_pos h2]
      show mlk l x = none
      cases h3 : mlk l x with
      | none => rfl
      | some v =>
        obtain ⟨e2, h4, h5, _⟩ := mlk_mem h3
        exact absurd (List.mem_map.2 ⟨e2, h4, by omega⟩) hn.1
    · rw [if_neg h2, List.eraseIdx_cons_succ]
      show (if x = e.1 then _ else mlk (mdel l x) x) = _
      rw [if_neg h2]
      exact mdel_self hn.2
/-- entries with their stamps -/
def stp : Nat → List (Int × Value) → List Me
  | _, [] => []
  | n, (a, v) :: l => (a, v, n) :: stp (n + 1) l
theorem stp_ent : ∀ (l : List (Int × Value)) (n : Nat), mEnt .i64 n l = mEs (stp n l)
  | [], _ => rfl
  | (a, v) :: l, n => by
    show _ :: mEnt .i64 (n + 1) l = _ :: mEs (stp (n + 1) l)
    rw [stp_ent l (n + 1)]
theorem stp_lk : ∀ (l : List (Int × Value)) (n : Nat) (x : Int), mlk (stp n l) x = alook l x
  | [], _, _ => rfl
  | (a, v) :: l, n, x => by
    unfold stp mlk alook
    rw [stp_lk l (n + 1) x]
theorem stp_key : ∀ (l : List (Int × Value)) (n : Nat), (stp n l).map (·.1) = l.map (·.1)
  | [], _ => rfl
  | (a, v) :: l, n => congrArg (a :: ·) (stp_key l (n + 1))
theorem aset_keys (l : List (Int × Value)) (x : Int) (v : Value) (h : (l.map (·.1)).Nodup) : ((aset l x v).map (·.1)).Nodup := by
  cases hx : alook l x with
  | none =>
    rw [aset_none v hx, List.map_append, List.nodup_append]
    refine ⟨h, by simp, fun a ha b hb => ?_⟩
    obtain rfl := List.mem_singleton.1 hb
    rintro rfl
    obtain ⟨e, he, rfl⟩ := List.mem_map.1 ha
    clear h ha hb
    induction l with
    | nil => cases he
    | cons y l ih =>
      unfold alook at hx
      split at hx
      · cases hx
      · rename_i h2
        rcases List.mem_cons.1 he with rfl | he
        · exact h2 rfl
        · exact ih he hx
  | some u =>
    have : (aset l x v).map (·.1) = l.map (·.1) := by
      clear h
      induction l with
      | nil => cases hx
      | cons y l ih =>
        obtain ⟨a, w⟩ := y
        unfold alook at hx
        unfold aset
        split at hx
        · rename_i h2; rw [if_pos h2]; rfl
        · rename_i h2; rw [if_neg h2, List.map_cons, ih hx]; rfl
    rw [this]; exact h
/-- stamps that rise, below the clock -/
theorem mL_stamped {l : List Me} {ck : Nat} (h1 : (l.map (·.2.2)).Nodup) (h2 : ∀ e ∈ l, e.2.2 < ck) (h3 : (l.map (·.1)).Nodup) : MapKept.Stamped (mEs l).toArray ck := by
  refine ⟨fun x hx => ?_, ?_, ?_⟩
  · simp only [mEs, List.mem_map] at hx
    obtain ⟨e, he, rfl⟩ := hx
    exact h2 e he
  · simpa [mEs, Function.comp_def] using h1
  · have : (mEs l).map (fun x => x.key) = (l.map (·.1)).map (Value.int .i64) := by simp [mEs, Function.comp_def]
    show ((mEs l).map (fun x => x.key)).Nodup
    rw [this]
    clear this h1 h2
    generalize l.map (·.1) = ks at h3
    induction ks with
    | nil => exact List.nodup_nil
    | cons x ks ih =>
      rw [List.nodup_cons] at h3
      rw [List.map_cons, List.nodup_cons]
      refine ⟨fun hm => ?_, ih h3.2⟩
      obtain ⟨y, hy, he⟩ := List.mem_map.1 hm
      obtain rfl : y = x := by injection he
      exact h3.1 hy
section
variable {P : Program} {N : Nat} {E : Env} {fr : List (Nat × Value)} {hp F B0 : List It} {ro : List Ro} {dst : Option Tmp} {ty t : TypeId} {pos : String} {af : Array Edge} {x y z : Operand} {b bn ck : Nat} {a : Int} {v : Value} {kt e : TypeId} {g : Option (Nat × Bool)} {l : List Me}
theorem pv_mL_no {zv : Value} [ht : TMap P t kt e] [hk : TInt P kt .i64] [hz : TZV P e zv] (hx : opd fr x = some (.map (some b))) (hy : opd fr y = some (.int .i64 a)) (hs : hp.Perm (.ob b (mL l ck) :: F)) (hl : ∀ e ∈ l, e.1 ≠ a) :
    Pv P ⟨fr, hp, ro⟩ (.lookup t x y true) (.tuple #[zv, .bool false]) := fun N E ac w dst ty pos af g ok => by
  have hb : w.heap[b]? = some (mL l ck) := ok.s.get hs
  simp only [execOp, ok.h.eval hx, ok.h.eval hy]
  have hf := MapKept.run_findKey (P := P) (w := w) (k := .int .i64 a) hk.h (findL_no a l 0 hl)
  have hc : ∀ em, (Instr.checkKey em 10000 kt (.int .i64 a)).run P w = .ok () w := fun em => MapKept.run_checkKey hk.h (by simp [MapKept.IsKey]) em 9999
  simp [Instr.lookup, run_underlying ht.h, MapKept.run_getObj_map hb, hc, hf, Result.andThen, run_zeroV (P := P) (T := e)]
theorem pv_mL_hd [ht : TMap P t kt e] [hk : TInt P kt .i64] (hx : opd fr x = some (.map (some b))) (hy : opd fr y = some (.int .i64 a)) (hs : hp.Perm (.ob b (mL ((a, v, bn) :: l) ck) :: F)) :
    Pv P ⟨fr, hp, ro⟩ (.lookup t x y true) (.tuple #[v, .bool true]) := fun N E ac w dst ty pos af g ok => by
  have hb : w.heap[b]? = some (mL ((a, v, bn) :: l) ck) := ok.s.get hs
  simp only [execOp, ok.h.eval hx, ok.h.eval hy]
  have hf := MapKept.run_findKey (P := P) (w := w) (k := .int .i64 a) hk.h (findL_hd a v bn l)
  have hc : ∀ em, (Instr.checkKey em 10000 kt (.int .i64 a)).run P w = .ok () w := fun em => MapKept.run_checkKey hk.h (by simp [MapKept.IsKey]) em 9999
  simp [Instr.lookup, run_underlying ht.h, MapKept.run_getObj_map hb, hc, hf, Result.andThen]
theorem pv_mL_hd1 [ht : TMap P t kt e] [hk : TInt P kt .i64] (hx : opd fr x = some (.map (some b))) (hy : opd fr y = some (.int .i64 a)) (hs : hp.Perm (.ob b (mL ((a, v, bn) :: l) ck) :: F)) :
    Pv P ⟨fr, hp, ro⟩ (.lookup t x y false) v := fun N E ac w dst ty pos af g ok => by
  have hb : w.heap[b]? = some (mL ((a, v, bn) :: l) ck) := ok.s.get hs
  simp only [execOp, ok.h.eval hx, ok.h.eval hy]
  have hf := MapKept.run_findKey (P := P) (w := w) (k := .int .i64 a) hk.h (findL_hd a v bn l)
  have hc : ∀ em, (Instr.checkKey em 10000 kt (.int .i64 a)).run P w = .ok () w := fun em => MapKept.run_checkKey hk.h (by simp [MapKept.IsKey]) em 9999
  simp [Instr.lookup, run_underlying ht.h, MapKept.run_getObj_map hb, hc, hf, Result.andThen]
theorem pv_mL_len [ht : TMap P t kt e] (hx : opd fr x = some (.map (some b))) (hs : hp.Perm (.ob b (mL l ck) :: F)) : Pv P ⟨fr, hp, ro⟩ (.call ⟨.builtin .len, #[x], #[t]⟩) (.int .i64 l.length) := fun N E ac w dst ty pos af g ok => by
  have hb : w.heap[b]? = some (mL l ck) := ok.s.get hs
  simp only [execOp, resolve, List.map_toArray, List.map_cons, List.map_nil, ok.h.eval hx]; simp [invoke, builtin, Builtin.len_, run_underlying ht.h, MapKept.run_getObj_map hb, Result.andThen, goInt, go_sem, mEs]
theorem run_mLput {w : World} [ht : TMap P t kt e] [hk : TInt P kt .i64] (hb : w.heap[b]? = some (mL l ck)) (hl : ∀ e ∈ l, e.1 ≠ a) :
    (Instr.mapUpdate t (.map (some b)) (.int .i64 a) v).run P w = .ok () { w with heap := w.heap.setIfInBounds b (mL (l ++ [(a, v, ck)]) (ck + 1)) } := by
  have hf := MapKept.run_findKey (P := P) (w := w) (k := .int .i64 a) hk.h (findL_no a l 0 hl)
  have hc : (Instr.checkKey false 10000 kt (.int .i64 a)).run P w = .ok () w := MapKept.run_checkKey hk.h (by simp [MapKept.IsKey]) false 9999
  simp [Instr.mapUpdate, run_underlying ht.h, MapKept.run_getObj_map hb, hc, hf, MapKept.run_setObj_map _ hb, Result.andThen, mEs_snoc]
theorem run_mLdel {w : World} [ht : TMap P t kt e] [hk : TInt P kt .i64] {kt' : TypeId} (hb : w.heap[b]? = some (mL ((a, v, bn) :: l) ck)) :
    (Builtin.delete_ #[t, kt'] ty #[.map (some b), .int .i64 a]).run P w = .ok (.tuple #[]) { w with heap := w.heap.setIfInBounds b (mL l ck) } := by
  have hf := MapKept.run_findKey (P := P) (w := w) (k := .int .i64 a) hk.h (findL_hd a v bn l)
  rw [mEs_cons] at hf
  have hc : ∀ em, (Instr.checkKey em 10000 kt (.int .i64 a)).run P w = .ok () w := fun em => MapKept.run_checkKey hk.h (by simp [MapKept.IsKey]) em 9999
  simp [Builtin.delete_, run_underlying ht.h, MapKept.run_getObj_map hb, hc, hf, MapKept.run_setObj_map _ hb, Result.andThen, mEs_cons]
theorem outc_mLput [ht : TMap P t kt e] [hk : TInt P kt .i64] (hx : opd fr x = some (.map (some b))) (hy : opd fr y = some (.int .i64 a)) (hz : opd fr z = some v) (hl : ∀ e ∈ l, e.1 ≠ a) :
    ∀ ac, Holds N fr ac → Outc P E B0 ro ⟨dst, .mapUpdate t x y z, ty, pos, af, g⟩ ac [.ob b (mL l ck)] (fun u M => u = undef ∧ M = [.ob b (mL (l ++ [(a, v, ck)]) (ck + 1))]) := fun ac hh F w hw => by
  have hb : w.heap[b]? = some (mL l ck) := hw.get (.refl _)
  have e : (execOp ac.eval ⟨dst, .mapUpdate t x y z, ty, pos, af, g⟩).run P w = .ok .skip { w with heap := w.heap.setIfInBounds b (mL (l ++ [(a, v, ck)]) (ck + 1)) } := by
    simp only [execOp, hh.eval hx, hh.eval hy, hh.eval hz, Sem.run_bind, run_mLput hb hl]; rfl
  rw [e]
  exact ⟨_, ⟨rfl, rfl⟩, (hw.step (L := [_]) (T' := []) (.refl _) (by simp) (Sat.relay (set_frm hb).1 (set_frm (o' := mL (l ++ [(a, v, ck)]) (ck + 1)) hb).2)).some_ro (fun r hr => by simpa using hr)⟩
theorem outc_mLdel [ht : TMap P t kt e] [hk : TInt P kt .i64] {kt' : TypeId} (hx : opd fr x = some (.map (some b))) (hy : opd fr y = some (.int .i64 a)) :
    ∀ ac, Holds N fr ac → Outc P E B0 ro ⟨dst, .call ⟨.builtin .delete, #[x, y], #[t, kt']⟩, ty, pos, af, g⟩ ac [.ob b (mL ((a, v, bn) :: l) ck)] (fun u M => u = .tuple #[] ∧ M = [.ob b (mL l ck)]) := fun ac hh F w hw => by
  have hb : w.heap[b]? = some (mL ((a, v, bn) :: l) ck) := hw.get (.refl _)
  have e : (execOp ac.eval ⟨dst, .call ⟨.builtin .delete, #[x, y], #[t, kt']⟩, ty, pos, af, g⟩).run P w = .ok (.value (.tuple #[])) { w with heap := w.heap.setIfInBounds b (mL l ck) } := by
    simp only [execOp, resolve, List.map_toArray, List.map_cons, List.map_nil, hh.eval hx, hh.eval hy]; simp [invoke, builtin, run_mLdel hb, Result.andThen]
  rw [e]
  exact ⟨_, ⟨rfl, rfl⟩, (hw.step (L := [_]) (T' := []) (.refl _) (by simp) (Sat.relay (set_frm hb).1 (set_frm (o' := mL l ck) hb).2)).some_ro (fun r hr => by simpa using hr)⟩
theorem pv_mL_at {zv : Value} [ht : TMap P t kt e] [hk : TInt P kt .i64] [hz : TZV P e zv] (hx : opd fr x = some (.map (some b))) (hy : opd fr y = some (.int .i64 a)) (hs : hp.Perm (.ob b (mL l ck) :: F)) (hv : (mlk l a).getD zv = v) :
    Pv P ⟨fr, hp, ro⟩ (.lookup t x y false) v := fun N E ac w dst ty pos af g ok => by
  have hb : w.heap[b]? = some (mL l ck) := ok.s.get hs
  simp only [execOp, ok.h.eval hx, ok.h.eval hy]
  have hf := MapKept.run_findKey (P := P) (w := w) (k := .int .i64 a) hk.h (findL a l 0)
  have hc : ∀ em, (Instr.checkKey em 10000 kt (.int .i64 a)).run P w = .ok () w := fun em => MapKept.run_checkKey hk.h (by simp [MapKept.IsKey]) em 9999
  cases h : mlk l a with
  | none =>
    rw [h] at hf hv
    obtain rfl := hv
    simp [Instr.lookup, run_underlying ht.h, MapKept.run_getObj_map hb, hc, hf, Result.andThen, run_zeroV (P := P) (T := e)]
  | some u =>
    rw [h] at hf hv
    obtain rfl := hv
    simp [Instr.lookup, run_underlying ht.h, MapKept.run_getObj_map hb, hc, hf, Result.andThen]
theorem run_mdel {w : World} [ht : TMap P t kt e] [hk : TInt P kt .i64] {kt' : TypeId} (hb : w.heap[b]? = some (mL l ck)) :
    (Builtin.delete_ #[t, kt'] ty #[.map (some b), .int .i64 a]).run P w = .ok (.tuple #[]) { w with heap := w.heap.setIfInBounds b (mL (mdel l a) ck) } := by
  have hf := MapKept.run_findKey (P := P) (w := w) (k := .int .i64 a) hk.h (findL a l 0)
  have hc : ∀ em, (Instr.checkKey em 10000 kt (.int .i64 a)).run P w = .ok () w := fun em => MapKept.run_checkKey hk.h (by simp [MapKept.IsKey]) em 9999
  cases h : mlk l a with
  | none =>
    rw [h] at hf
    have e2 : mdel l a = l := by
      unfold mdel
      rw [mix_none h, List.eraseIdx_of_length_le (Nat.le_refl _)]
    rw [e2]
    simp [Builtin.delete_, run_underlying ht.h, MapKept.run_getObj_map hb, hc, hf, MapKept.run_setObj_map _ hb, Result.andThen]
  | some u =>
    rw [h] at hf
    have e2 : mEs (mdel l a) = (mEs l).eraseIdx (mix l a) := by
      unfold mdel mEs
      rw [erase_map]
    have e3 : mL (mdel l a) ck = .map ((mEs l).eraseIdx (mix l a)).toArray ck := congrArg (fun z => Obj.map z.toArray ck) e2
    rw [e3]
    simp [Builtin.delete_, run_underlying ht.h, MapKept.run_getObj_map hb, hc, hf, MapKept.run_setObj_map _ hb, Result.andThen]
theorem outc_mdel [ht : TMap P t kt e] [hk : TInt P kt .i64] {kt' : TypeId} (hx : opd fr x = some (.map (some b))) (hy : opd fr y = some (.int .i64 a)) :
    ∀ ac, Holds N fr ac → Outc P E B0 ro ⟨dst, .call ⟨.builtin .delete, #[x, y], #[t, kt']⟩, ty, pos, af, g⟩ ac [.ob b (mL l ck)] (fun u M => u = .tuple #[] ∧ M = [.ob b (mL (mdel l a) ck)]) := fun ac hh F w hw => by
  have hb : w.heap[b]? = some (mL l ck) := hw.get (.refl _)
  have e : (execOp ac.eval ⟨dst, .call ⟨.builtin .delete, #[x, y], #[t, kt']⟩, ty, pos, af, g⟩).run P w = .ok (.value (.tuple #[])) { w with heap := w.heap.setIfInBounds b (mL (mdel l a) ck) } := by
    simp only [execOp, resolve, List.map_toArray, List.map_cons, List.map_nil, hh.eval hx, hh.eval hy]; simp [invoke, builtin, run_mdel hb, Result.andThen]
  rw [e]
  exact ⟨_, ⟨rfl, rfl⟩, (hw.step (L := [_]) (T' := []) (.refl _) (by simp) (Sat.relay (set_frm hb).1 (set_frm (o' := mL (mdel l a) ck) hb).2)).some_ro (fun r hr => by simpa using hr)⟩
end
end Go.Proofs.Ytlhlidmhlhodiaa

/-
  Package ingress: a packet as a unit, others waiting.
-/
namespace Go.Proofs.Ytlhlidmhlhodiaa
set_option linter.unusedSimpArgs false
set_option linter.unusedVariables false
open Go.RowKit
attribute [local irreducible] Pv WO WC Fn
set_option maxRecDepth 100000
attribute [local irreducible] ByteArray.extract

def tblU2g (ml : List Me) (ck : Nat) : Nat → List (List It) → Value → List (List It) → Prop := fun k Ls v Ms => match k, Ls with
  | 6, [[.ob b _]] => v = .tuple #[] ∧ Ms = [[.ob b (mL ml ck)]]
  | _, _ => False
set_option maxHeartbeats 16000000 in
theorem iUnitG (g bB bM : Nat) (sm : Int) (cb : Bool) (cl cl' : Int) (mp : Nat) (ks : Int) (at_ tk : Int) (mrk : Bool) (kd sq t ss : Int) (pl r : ByteArray) (st kb : Bool) (bn ck : Nat) (ml : List Me) (us : Value) (wh lo : Int)
    (hq : Fn Try.prog 157 #[.pointer (some ⟨g, 7, none⟩), .int .u32 t] [srI g bB bM true sm cb cl mp ks] [] (fun v L' R' => v = .int .i64 cl' ∧ L' = [srI g bB bM true sm true cl' mp ks] ∧ R' = []))
    (hp : prs pl = (dP st, r, 0)) (hpl : pl.size ≤ 1000) (hk : keyB st 0 r = kb) :
    Fn Try.prog 139 #[.pointer (some ⟨g, 0, none⟩), thV at_ ByteArray.empty tk] [srI g bB bM true sm cb cl mp ks, .ob mp (mL ((at_, pkV mrk kd sq t ss pl, bn) :: ml) ck), mkI bM us wh lo] []
      (fun v L' R' => v = .agg (urow ⟨at_, cl', mrk, st, kb, pl, tk⟩).toArray ∧ L' = [srI g bB bM true sm true cl' mp ks, .ob mp (mL ml ck), mkI bM us wh lo] ∧ R' = []) := by
  have qp := vParse pl (by omega)
  rw [hp] at qp
  have qk := vKey false st 0 (-1) false (-1) (-1) false (-1) r kb hk
  refine fn_intro Try.func139 rfl Try.ntmps139 rfl (fun E => ?_)
  (repeat (first | ((first | (apply wo_v; rfl) ); (· first | (apply pv_ev; rfl) )) | apply wo_nil | apply wc_seq | apply wc_region | (apply wo_box1; rfl; rfl; rfl; intro bx) | (apply wo_boxa; rfl; rfl; intro bx) | (apply wo_alloc; rfl; intro bx) ))
  rename_i b3
  obtain ⟨b4, hb4⟩ : ∃ g, g = bx := ⟨_, rfl⟩
  subst hb4
  (refine wc_regM [0, 1] (aslL [(6, [1]), (7, [0]), (8, [0])]) (tblU1 (pkV mrk kd sq t ss pl) (pkR mrk kd sq t ss pl)) ([unB b4 ⟨0, 0, false, false, false, ByteArray.empty, 0⟩, thB b3 at_ ByteArray.empty tk, srI g bB bM true sm cb cl mp ks, mkI bM us wh lo]) (fm [(0, []), (1, [.ob mp (mL ((at_, pkV mrk kd sq t ss pl, bn) :: ml) ck)])]) mixed (by kernel_rfl) (by kernel_rfl) (by decide) (aslL_ok (by decide)) (by (repeat (first | (apply prm_cons; (· (repeat (first | apply sel_here | apply sel_there)))) | apply List.Perm.nil )); done) ?_; (repeat (first | (apply HdM.val; rfl; rfl; (· first | apply gok_none ); (· first | (apply pv_ev; rfl) | (apply pv_fld; rfl) | (apply g_load; first | (apply pv_ld; rfl; (· (repeat (first | apply sel_here | apply sel_there))); rfl) ) )) )))
  (refine hm_eff (cs := [1]) rfl (by decide) rfl rfl (by first | exact gok_none | exact gok_run rfl rfl) (fun a ha => outc_mono (outc_pv (L := [.ob mp (mL ((at_, pkV mrk kd sq t ss pl, bn) :: ml) ck)]) (pv_mL_hd1 rfl rfl (by (repeat (first | apply sel_here )); done)) a ha) (fun v M h => ⟨[M], And.intro h.1 (congrArg (fun x => [x]) h.2), rfl, by simp⟩)) (⟨_, _, And.intro rfl rfl, rfl⟩) ?_; rintro v Ms ⟨rfl, rfl⟩ _; simp only [setls, setl, reduceIte, Nat.reduceEqDiff]; (repeat (first | (apply HdM.val; rfl; rfl; (· first | fail ); (· first | fail )) )))
  (refine hm_eff (cs := [0]) rfl (by decide) rfl rfl (by first | exact gok_none | exact gok_run rfl rfl) (fun a ha => outc_mono (outc_alloc a ha) (fun v M h => Exists.elim h fun b h => ⟨[M], Exists.intro b (And.intro h.1 (congrArg (fun x => [x]) h.2)), rfl, by simp⟩)) (⟨_, _, Exists.intro 0 (And.intro rfl rfl), rfl⟩) ?_; rintro v Ms ⟨b5, rfl, rfl⟩ _; simp only [setls, setl, reduceIte, Nat.reduceEqDiff]; (repeat (first | fail )))
  (refine hm_eff (cs := [0]) rfl (by decide) rfl rfl (by first | exact gok_none | exact gok_run rfl rfl) (fun a ha => outc_mono (outc_sta rfl rfl rfl rfl (by (repeat (first | apply LayAt.nil | apply LayAt.here )); done) a ha) (fun v M h => ⟨[M], And.intro h.1 (congrArg (fun x => [x]) h.2), rfl, by simp⟩)) (⟨_, _, And.intro rfl rfl, rfl⟩) ?_; rintro v Ms ⟨rfl, rfl⟩ _; simp only [setls, setl, reduceIte, Nat.reduceEqDiff]; (repeat (first | fail )))
  (refine HdM.nil ?_; intro H hH; simp only [Hp, fm, look, setl, List.flatMap_cons, List.flatMap_nil, reduceIte, Nat.reduceEqDiff, Option.getD_some, List.append_nil, List.cons_append, List.nil_append] at hH; subst hH)
  (repeat (first | apply wc_seq ))
  (refine wc_regM [0] (aslL [(6, [0])]) (tblU2g ml ck) ([unB b4 ⟨0, 0, false, false, false, ByteArray.empty, 0⟩, thB b3 at_ ByteArray.empty tk, srI g bB bM true sm cb cl mp ks, mkI bM us wh lo, pkB b5 mrk kd sq t ss pl]) (fm [(0, [.ob mp (mL ((at_, pkV mrk kd sq t ss pl, bn) :: ml) ck)])]) mixed (by kernel_rfl) (by kernel_rfl) (by decide) (aslL_ok (by decide)) (by (repeat (first | (apply prm_cons; (· (repeat (first | apply sel_here )))) | apply List.Perm.nil )); done) ?_; (repeat (first | (apply HdM.val; rfl; rfl; (· first | apply gok_none ); (· first | (apply pv_ev; rfl) | (apply pv_fld; rfl) | (apply g_load; first | (apply pv_ld; rfl; (· (repeat (first | apply sel_here | apply sel_there))); rfl) ) )) )))
  (refine hm_eff (cs := [0]) rfl (by decide) rfl rfl (by first | exact gok_none | exact gok_run rfl rfl) (fun a ha => outc_mono (outc_mLdel rfl rfl a ha) (fun v M h => ⟨[M], And.intro h.1 (congrArg (fun x => [x]) h.2), rfl, by simp⟩)) (⟨_, _, And.intro rfl rfl, rfl⟩) ?_; rintro v Ms ⟨rfl, rfl⟩ _; simp only [setls, setl, reduceIte, Nat.reduceEqDiff]; (repeat (first | fail )))
  (refine HdM.nil ?_; intro H hH; simp only [Hp, fm, look, setl, List.flatMap_cons, List.flatMap_nil, reduceIte, Nat.reduceEqDiff, Option.getD_some, List.append_nil, List.cons_append, List.nil_append] at hH; subst hH)
  (repeat (first | apply wc_seq ))
  (refine wc_regM [0, 1] (aslL [(7, [0]), (15, [1]), (16, [1])]) (tblU3 g bB bM sm cl' mp ks ⟨at_, cl', mrk, false, false, pl, tk⟩) ([unB b4 ⟨0, 0, false, false, false, ByteArray.empty, 0⟩, thB b3 at_ ByteArray.empty tk, mkI bM us wh lo, pkB b5 mrk kd sq t ss pl, .ob mp (mL ml ck)]) (fm [(0, [srI g bB bM true sm cb cl mp ks]), (1, [])]) mixed (by kernel_rfl) (by kernel_rfl) (by decide) (aslL_ok (by decide)) (by (repeat (first | (apply prm_cons; (· (repeat (first | apply sel_here | apply sel_there)))) | apply List.Perm.nil )); done) ?_; (repeat (first | (apply HdM.val; rfl; rfl; (· first | apply gok_none ); (· first | (apply pv_ev; rfl) | (apply pv_fld; rfl) | (apply g_load; first | (apply pv_ld; rfl; (· (repeat (first | apply sel_here | apply sel_there))); rfl) ) )) )))
  (refine hm_eff (cs := [0]) rfl (by decide) rfl rfl (by first | exact gok_none | exact gok_run rfl rfl) (fun a ha => outc_mono (outc_call (F1 := _) (T := fun v M => v = .int .i64 cl' ∧ M = [srI g bB bM true sm true cl' mp ks]) hq rfl (by (repeat (first | apply sub_nil )); done) (by first | exact fun _ h => h | (intro r hr; cases hr; done) | (simp; done) | exact fun _ h => List.mem_append_left _ h | (intro r hr; simp [hr]; done)) (by rintro v L' R' ⟨rfl, rfl, _⟩; exact ⟨_, ⟨rfl, rfl⟩, (by (repeat (first | (apply prm_cons; (· (repeat (first | apply sel_here )))) | apply List.Perm.nil )); done)⟩) a ha) (fun v M h => ⟨[M], And.intro h.1 (congrArg (fun x => [x]) h.2), rfl, by simp⟩)) (⟨_, _, And.intro rfl rfl, rfl⟩) ?_; rintro v Ms ⟨rfl, rfl⟩ _; simp only [setls, setl, reduceIte, Nat.reduceEqDiff]; (repeat (first | (apply HdM.val; rfl; rfl; (· first | apply gok_none ); (· first | (apply pv_ev; rfl) | (apply pv_fld; rfl) | (apply g_load; first | (apply pv_ld; rfl; (· (repeat (first | apply sel_here | apply sel_there))); rfl) ) | (apply g_build; apply pv_build; (· (repeat (first | apply Bld.nil | (apply Bld.one; rfl; rfl; (· (repeat (first | apply SetAt.here | apply SetAt.there)))) )))) )) )))
  (refine hm_eff (cs := [1]) rfl (by decide) rfl rfl (by first | exact gok_none | exact gok_run rfl rfl) (fun a ha => outc_mono (outc_alloc a ha) (fun v M h => Exists.elim h fun b h => ⟨[M], Exists.intro b (And.intro h.1 (congrArg (fun x => [x]) h.2)), rfl, by simp⟩)) (⟨_, _, Exists.intro 0 (And.intro rfl rfl), rfl⟩) ?_; rintro v Ms ⟨b6, rfl, rfl⟩ _; simp only [setls, setl, reduceIte, Nat.reduceEqDiff]; (repeat (first | fail )))
  (refine hm_eff (cs := [1]) rfl (by decide) rfl rfl (by first | exact gok_none | exact gok_run rfl rfl) (fun a ha => outc_mono (outc_sta rfl rfl rfl rfl (by (repeat (first | apply LayAt.nil | apply LayAt.here )); done) a ha) (fun v M h => ⟨[M], And.intro h.1 (congrArg (fun x => [x]) h.2), rfl, by simp⟩)) (⟨_, _, And.intro rfl rfl, rfl⟩) ?_; rintro v Ms ⟨rfl, rfl⟩ _; simp only [setls, setl, reduceIte, Nat.reduceEqDiff]; (repeat (first | fail )))
  (refine HdM.nil ?_; intro H hH; simp only [Hp, fm, look, setl, List.flatMap_cons, List.flatMap_nil, reduceIte, Nat.reduceEqDiff, Option.getD_some, List.append_nil, List.cons_append, List.nil_append] at hH; subst hH)
  (repeat (first | ((first | (apply wo_v; rfl) ); (· first | (apply pv_ev; rfl) | (apply pv_fld; rfl) | (apply g_load; first | (apply pv_ld; rfl; (· (repeat (first | apply sel_here | apply sel_there))); rfl) ) )) | apply wc_seq | apply wc_region ))
  (refine wo_call (qp) rfl (by (repeat (first | apply sub_nil )); done) (by first | exact fun _ h => h | (intro r hr; cases hr; done) | (simp; done) | exact fun _ h => List.mem_append_left _ h | (intro r hr; simp [hr]; done)) rfl ?_; rintro v L' R' ⟨rfl, rfl, rfl⟩ H' hH RR hR; simp only [List.cons_append, List.nil_append] at hH hR; subst hH; have hR := hR.symm; subst hR)
  (repeat (first | ((first | (apply wo_v; rfl) ); (· first | (apply pv_ev; rfl) | (apply pv_fld; rfl) | (apply g_load; first | (apply pv_ld; rfl; (· (repeat (first | apply sel_here | apply sel_there))); rfl) ) | (apply g_pick; first | (apply pv_pick_t; rfl; rfl) ) )) | apply wo_nil | apply wc_seq | apply wc_region | (apply wc_true; rfl) | (apply wo_run; rfl; rfl) | (apply wo_skip; rfl; rfl; rfl; rfl) | (apply wo_skip_u; rfl; rfl; rfl) | (apply a_gt; rfl; rfl; (· first | assumption | omega)) | (apply a_gf; rfl; rfl; (· first | assumption | omega)) | (apply a_gt; rfl; rfl; (· first | (simp; done) | (simp; omega))) | (apply a_gf; rfl; rfl; (· first | (simp; done) | (simp; omega))) | (apply wo_alloc; rfl; intro bx) | (apply wo_sta; rfl; rfl; rfl; rfl; (· (repeat (first | apply sel_here ))); (· (repeat (first | apply LayAt.nil | apply LayAt.here ))); rfl) ))
  obtain ⟨b7, hb7⟩ : ∃ g, g = bx := ⟨_, rfl⟩
  subst hb7
  cases st with
  | true =>
    (repeat (first | ((first | (apply wo_v; rfl) ); (· first | (apply pv_ev; rfl) | (apply pv_fld; rfl) | (apply g_load; first | (apply pv_ld; rfl; (· (repeat (first | apply sel_here ))); rfl) | (apply pv_lda; rfl; (· (repeat (first | apply sel_here | apply sel_there))); (· (repeat (first | apply Cut.here0 | apply Cut.here )))) ) | (apply g_pick; first | (apply pv_pick_t; rfl; rfl) ) )) | apply wo_nil | apply wc_region | (apply wo_run; rfl; rfl) | (apply wo_st; rfl; rfl; rfl; (· (repeat (first | apply sel_here | apply sel_there))); (· (repeat (first | apply SetAt.here | apply SetAt.there))); rfl) ))
    (refine wo_call (qk) rfl (by (repeat (first | apply sub_nil )); done) (by first | exact fun _ h => h | (intro r hr; cases hr; done) | (simp; done) | exact fun _ h => List.mem_append_left _ h | (intro r hr; simp [hr]; done)) rfl ?_; rintro v L' R' ⟨rfl, rfl, rfl⟩ H' hH RR hR; simp only [List.cons_append, List.nil_append] at hH hR; subst hH; have hR := hR.symm; subst hR)
    (repeat (first | ((first | (apply wo_v; rfl) ); (· first | (apply pv_ev; rfl) | (apply pv_fld; rfl) | (apply g_load; first | (apply pv_lda; rfl; (· (repeat (first | apply sel_here ))); (· (repeat (first | apply Cut.here0 | apply Cut.here )))) ) )) | apply wo_nil | apply wc_seq | apply wc_region | apply wc_ret | (apply wo_st; rfl; rfl; rfl; (· (repeat (first | apply sel_here ))); (· (repeat (first | apply SetAt.here | apply SetAt.there))); rfl) | (apply wo_sta; rfl; rfl; rfl; rfl; (· (repeat (first | apply sel_here | apply sel_there))); (· (repeat (first | apply LayAt.nil | apply LayAt.here ))); rfl) ))
    exact retv rfl (by (repeat (first | apply RV.nil | (apply RV.agg; rfl; (· (repeat (first | apply sel_here ))); infer_instance; (· (repeat (first | apply Cut.here0 | apply Cut.here )))) )); done) (⟨rfl, rfl, rfl⟩) (by (repeat (first | apply sub_nil | (apply sub_cons; (· (repeat (first | apply sel_here | apply sel_there)))))); done) (by first | exact fun _ h => h | (intro r hr; cases hr; done) | (simp; done) | exact fun _ h => List.mem_append_left _ h | (intro r hr; simp [hr]; done))
  | false =>
    (repeat (first | ((first | (apply wo_v; rfl) ); (· first | (apply pv_ev; rfl) | (apply pv_fld; rfl) | (apply g_load; first | (apply pv_lda; rfl; (· (repeat (first | apply sel_here | apply sel_there))); (· (repeat (first | apply Cut.here0 | apply Cut.here )))) ) | (apply g_pick; first | (apply pv_pick_t; rfl; rfl) | (apply pv_pick_f; rfl; rfl)) )) | apply wo_nil | apply wc_region | (apply wo_run; rfl; rfl) | (apply wo_skip; rfl; rfl; rfl; rfl) | (apply wo_st; rfl; rfl; rfl; (· (repeat (first | apply sel_here | apply sel_there))); (· (repeat (first | apply SetAt.here | apply SetAt.there))); rfl) ))
    (refine wo_call (qk) rfl (by (repeat (first | apply sub_nil )); done) (by first | exact fun _ h => h | (intro r hr; cases hr; done) | (simp; done) | exact fun _ h => List.mem_append_left _ h | (intro r hr; simp [hr]; done)) rfl ?_; rintro v L' R' ⟨rfl, rfl, rfl⟩ H' hH RR hR; simp only [List.cons_append, List.nil_append] at hH hR; subst hH; have hR := hR.symm; subst hR)
    (repeat (first | ((first | (apply wo_v; rfl) ); (· first | (apply pv_ev; rfl) | (apply pv_fld; rfl) | (apply g_load; first | (apply pv_lda; rfl; (· (repeat (first | apply sel_here ))); (· (repeat (first | apply Cut.here0 | apply Cut.here )))) ) )) | apply wo_nil | apply wc_seq | apply wc_region | apply wc_ret | (apply wo_st; rfl; rfl; rfl; (· (repeat (first | apply sel_here ))); (· (repeat (first | apply SetAt.here | apply SetAt.there))); rfl) | (apply wo_sta; rfl; rfl; rfl; rfl; (· (repeat (first | apply sel_here | apply sel_there))); (· (repeat (first | apply LayAt.nil | apply LayAt.here ))); rfl) ))
    exact retv rfl (by (repeat (first | apply RV.nil | (apply RV.agg; rfl; (· (repeat (first | apply sel_here ))); infer_instance; (· (repeat (first | apply Cut.here0 | apply Cut.here )))) )); done) (⟨rfl, rfl, rfl⟩) (by (repeat (first | apply sub_nil | (apply sub_cons; (· (repeat (first | apply sel_here | apply sel_there)))))); done) (by first | exact fun _ h => h | (intro r hr; cases hr; done) | (simp; done) | exact fun _ h => List.mem_append_left _ h | (intro r hr; simp [hr]; done))
/-- the clock of a source -/
def CKp (L : List Sg) (cb : Bool) (cl : Int) (p : Nat) : Prop := (cb = false ∧ cl = 0) ∨ (cb = true ∧ ∃ x : Nat, cl = 68719476736 + 3000 * (x : Int) ∧ x ≤ 59 ∧ ∀ i y, p ≤ i → L[i]? = some y → x ≤ y.i)
theorem CKp.mono {L : List Sg} {cb : Bool} {cl : Int} {p q : Nat} (h : CKp L cb cl p) (hpq : p ≤ q) : CKp L cb cl q := by
  rcases h with h | ⟨h1, x, h2, h3, h4⟩
  · exact .inl h
  · exact .inr ⟨h1, x, h2, h3, fun i y hi hy => h4 i y (by omega) hy⟩
theorem CKp.next {L : List Sg} (hw : WFS L) {p : Nat} {y : Sg} (hy : L[p]? = some y) : CKp L true (68719476736 + 3000 * (y.i : Int)) (p + 1) :=
  .inr ⟨rfl, y.i, rfl, (hw.bd p y hy).1, fun i z hi hz => hw.i_mono hy (by omega) hz⟩
theorem cxPutG {L : List Sg} (hw : WFS L) (g bB bM : Nat) (sm : Int) (cb : Bool) (cl : Int) (mp : Nat) (ks : Int) {p : Nat} {y : Sg} (hy : L[p]? = some y) (h : CKp L cb cl p) :
    Fn Try.prog 157 #[.pointer (some ⟨g, 7, none⟩), .int .u32 (3000 * (y.i : Int))] [srI g bB bM true sm cb cl mp ks] [] (fun v L' R' => v = .int .i64 (68719476736 + 3000 * (y.i : Int)) ∧ L' = [srI g bB bM true sm true (68719476736 + 3000 * (y.i : Int)) mp ks] ∧ R' = []) := by
  have hb := hw.bd p y hy
  rcases h with ⟨rfl, rfl⟩ | ⟨rfl, x, rfl, h3, h4⟩
  · exact cxPut0 g bB bM true sm mp ks (3000 * (y.i : Int)) (by omega)
  · have hx := h4 p y (Nat.le_refl _) hy
    have := cxPut1 g bB bM true sm (68719476736 + 3000 * (x : Int)) mp ks (3000 * (y.i : Int)) (3000 * (y.i : Int) - 3000 * (x : Int)) (by omega) (by omega) (by unfold nearD; split <;> omega) (by omega)
    rw [show 68719476736 + 3000 * (x : Int) + (3000 * (y.i : Int) - 3000 * (x : Int)) = 68719476736 + 3000 * (y.i : Int) by omega] at this
    exact this
/-- the unit of packet i, and its packet -/
def gUn (B : Int) (L : List Sg) (i : Nat) : Un := match L[i]? with
  | some y => ⟨B + (i : Int), 68719476736 + 3000 * (y.i : Int), y.l, decide ((y.k : Int) = 0), keyB (decide ((y.k : Int) = 0)) 0 (bytesOf [if (y.i : Int) % 3 = 0 then 0 else 1, (y.i : Int), (y.k : Int)]), spl y.i y.k, (i : Int)⟩
  | none => ⟨0, 0, false, false, false, ⟨#[]⟩, 0⟩
def pkI (f : Int) (L : List Sg) (i : Nat) : Value := match L[i]? with
  | some y => .agg (prow (sgP f i y)).toArray
  | none => .agg #[]
theorem gUn_at {B : Int} {L : List Sg} {i : Nat} {y : Sg} (h : L[i]? = some y) : gUn B L i = ⟨B + (i : Int), 68719476736 + 3000 * (y.i : Int), y.l, decide ((y.k : Int) = 0), keyB (decide ((y.k : Int) = 0)) 0 (bytesOf [if (y.i : Int) % 3 = 0 then 0 else 1, (y.i : Int), (y.k : Int)]), spl y.i y.k, (i : Int)⟩ := by unfold gUn; rw [h]
theorem pkI_at {f : Int} {L : List Sg} {i : Nat} {y : Sg} (h : L[i]? = some y) : pkI f L i = .agg (prow (sgP f i y)).toArray := by unfold pkI; rw [h]
def mP (f B : Int) (L : List Sg) (ws : List (Nat × Nat)) : List Me := ws.map fun e => (B + (e.1 : Int), pkI f L e.1, e.2)
theorem dP_ok (st : Bool) : okA (dP st) ∧ okF (dP st) := by cases st <;> exact ⟨by decide, by decide⟩
theorem spl_prs (i k : Nat) : prs (spl i k) = (dP (decide ((k : Int) = 0)), bytesOf [if (i : Int) % 3 = 0 then 0 else 1, (i : Int), (k : Int)], 0) := prs_txt (dP_ok _).1 (dP_ok _).2 _
theorem spl_size (i k : Nat) : 0 < (spl i k).size ∧ (spl i k).size ≤ 11 := by
  have h1 := txt_le (dP (decide ((k : Int) = 0)))
  have h2 : (bytesOf [if (i : Int) % 3 = 0 then 0 else 1, (i : Int), (k : Int)]).size = 3 := rfl
  unfold spl
  rw [ByteArray.size_append, h2]; omega
theorem gUn_sz (B : Int) (L : List Sg) (i : Nat) : (gUn B L i).tx.size ≤ 50 := by
  unfold gUn
  split
  · have := spl_size; dsimp only; rename_i y _; have := (this y.i y.k).2; omega
  · decide
theorem iUnitL {L : List Sg} (hw : WFS L) (f B : Int) (hf : 0 ≤ f ∧ f ≤ 65535) (hB : 0 ≤ B ∧ B ≤ 1000000000000) (g bB bM : Nat) (sm : Int) (cb : Bool) (cl : Int) (mp : Nat) (ks : Int) (p s ck : Nat) (ws : List (Nat × Nat)) (us : Value) (wh lo : Int) (y : Sg) (hy : L[p]? = some y) (hc : CKp L cb cl p) :
    Fn Try.prog 139 #[.pointer (some ⟨g, 0, none⟩), thV (B + (p : Nat)) ByteArray.empty (p : Nat)] [srI g bB bM true sm cb cl mp ks, .ob mp (mL (mP f B L ((p, s) :: ws)) ck), mkI bM us wh lo] []
      (fun v L' R' => v = .agg (urow (gUn B L p)).toArray ∧ L' = [srI g bB bM true sm true (68719476736 + 3000 * (y.i : Int)) mp ks, .ob mp (mL (mP f B L ws) ck), mkI bM us wh lo] ∧ R' = []) := by
  have h := iUnitG g bB bM sm cb cl (68719476736 + 3000 * (y.i : Int)) mp ks (B + (p : Nat)) (p : Nat) y.l 96 ((f + (p : Nat)) % 65536) (3000 * (y.i : Int)) 7 (spl y.i y.k) _ (decide ((y.k : Int) = 0)) _ s ck (mP f B L ws) us wh lo (cxPutG hw g bB bM sm cb cl mp ks hy hc) (spl_prs y.i y.k) (by have := (spl_size y.i y.k).2; omega) rfl
  rw [gUn_at hy]
  show Fn Try.prog _ _ [_, .ob mp (mL ((B + (p : Nat), pkI f L p, s) :: mP f B L ws) ck), _] _ _
  rw [pkI_at hy]
  exact h
end Go.Proofs.Ytlhlidmhlhodiaa

/-
  Package frame: Put, of any packets.
-/
namespace Go.Proofs.Ytlhlidmhlhodiaa
set_option linter.unusedSimpArgs false
set_option linter.unusedVariables false
open Go.RowKit
attribute [local irreducible] Pv WO WC Fn
set_option maxRecDepth 100000
attribute [local irreducible] ByteArray.extract

/-- a packet that does not belong to what is begun -/
theorem fFolN (b b0 o0 n c : Nat) (wh lo : Int) (U : List Un) (hU : U.length = n) (hn : 0 < n ∧ n ≤ 8) (at_ ti tk : Int) (mrk st ky : Bool) (tx : ByteArray) (l : Un) (hl : U[n - 1]? = some l) (h1 : ¬ (at_ = l.at_ + 1 ∧ ti = l.ti ∧ st = false)) (hb : -1000000000000000 ≤ l.at_ ∧ l.at_ ≤ 1000000000000000) :
    Fn Try.prog 154 #[.pointer (some ⟨b, 0, none⟩), .agg (urow ⟨at_, ti, mrk, st, ky, tx, tk⟩).toArray] [mkI b (.slice (some ⟨b0, o0, none⟩) n c) wh lo, u7 (some ⟨b0, o0, none⟩) n c U] [] (fun v L' R' => v = .bool false ∧ L' = [mkI b (.slice (some ⟨b0, o0, none⟩) n c) wh lo, u7 (some ⟨b0, o0, none⟩) n c U] ∧ R' = []) := by
  have qo := fOpen b (some ⟨b0, o0, none⟩) n c wh lo
  have hr := urs_at hl
  obtain ⟨x1, x2, x3, x4, x5, x6, x7⟩ := l
  dsimp only at hr h1 hb
  by_cases g1 : at_ = x1 + 1
  · by_cases g2 : ti = x2
    · have g3 : st = true := by cases st with
        | true => rfl
        | false => exact absurd ⟨g1, g2, rfl⟩ h1
      subst g1 g2 g3
      clear h1
      refine fn_intro Try.func154 rfl Try.ntmps154 rfl (fun E => ?_)
      (repeat (first | ((first | (apply wo_v; rfl) ); (· first | (apply pv_ev; rfl) )) | apply wo_nil | apply wc_seq | apply wc_region | (apply wo_box1; rfl; rfl; rfl; intro bx) | (apply wo_boxa; rfl; rfl; intro bx) ))
      (refine wo_call (qo) rfl (by (repeat (first | apply sub_nil | (apply sub_cons; (· (repeat (first | apply sel_here | apply sel_there)))))); done) (by first | exact fun _ h => h | (intro r hr; cases hr; done) | (simp; done) | exact fun _ h => List.mem_append_left _ h | (intro r hr; simp [hr]; done)) rfl ?_; rintro v L' R' ⟨rfl, rfl, rfl⟩ H' hH RR hR; simp only [List.cons_append, List.nil_append] at hH hR; subst hH; have hR := hR.symm; subst hR)
      (repeat (first | ((first | (apply wo_v; rfl) ); (· first | (apply pv_ev; rfl) | (apply pv_fld; rfl) | (apply g_load; first | (apply pv_ld; rfl; (· (repeat (first | apply sel_here ))); rfl) | (apply pv_lda; rfl; (· (repeat (first | apply sel_there))); (· (repeat (first | fail )))) | (apply pv_ld_owna; rfl; (· (repeat (first | apply sel_here | apply sel_there))); (· assumption)) | (apply pv_ld_roa; rfl; (· (first | assumption )); (· assumption))) | (apply g_bin; first | (apply a_sub; rfl; rfl; infer_instance; omega) ) | (apply g_idx; first | (apply pv_idx; rfl; rfl; omega) | (apply (pv_idx_e 0); rfl; rfl; rfl; omega) | (apply pv_idx_n; rfl; rfl; omega) ) )) | apply wo_nil | apply wc_seq | apply wc_region | apply wc_skip | (apply wc_true; rfl) | (apply wc_false; rfl) | (apply a_dec_t; rfl; (· first | assumption | omega)) | (apply a_dec_f; rfl; (· first | assumption | omega)) ))
      rw [show ((n : Int) - 1).toNat = n - 1 by omega]
      (repeat (first | ((first | (apply wo_v; rfl) ); (· first | (apply pv_ev; rfl) | (apply pv_fld; rfl) | (apply g_load; first | (apply pv_ld; rfl; (· (repeat (first | apply sel_here | apply sel_there))); rfl) | (apply pv_lda; rfl; (· (repeat (first | apply sel_there))); (· (repeat (first | fail )))) | (apply pv_ld_owna; rfl; (· (repeat (first | apply sel_here | apply sel_there))); (· assumption)) ) | (apply g_pick; first | (apply pv_pick_t; rfl; rfl) ) | (apply g_bin; first | (apply a_add; rfl; rfl; infer_instance; omega) ) | (apply g_un; first | (apply pv_not_t; rfl) ) )) | apply wo_nil | apply wc_seq | apply wc_region | apply wc_ret | (apply wo_run; rfl; rfl) | (apply wo_skip; rfl; rfl; rfl; rfl) | (apply wo_skip_u; rfl; rfl; rfl) | (apply a_gt; rfl; rfl; (· first | assumption | omega)) | (apply a_gf; rfl; rfl; (· first | assumption | omega)) | (apply a_gt; rfl; rfl; (· first | (simp; done) | (simp; omega))) | (apply wo_alloc; rfl; intro bx) | (apply wo_sta; rfl; rfl; rfl; rfl; (· (repeat (first | apply sel_here ))); (· (repeat (first | apply LayAt.nil | apply LayAt.here ))); rfl) ))
      exact ret1 rfl rfl ⟨by simp, rfl, rfl⟩ ((by (repeat (first | apply sub_nil | (apply sub_cons; (· (repeat (first | apply sel_here | apply sel_there)))))); done) : List.Perm _ ([_, _] ++ _)) (by first | exact fun _ h => h | (intro r hr; cases hr; done) | (simp; done) | exact fun _ h => List.mem_append_left _ h | (intro r hr; simp [hr]; done))
    · subst g1
      clear h1
      refine fn_intro Try.func154 rfl Try.ntmps154 rfl (fun E => ?_)
      (repeat (first | ((first | (apply wo_v; rfl) ); (· first | (apply pv_ev; rfl) )) | apply wo_nil | apply wc_seq | apply wc_region | (apply wo_box1; rfl; rfl; rfl; intro bx) | (apply wo_boxa; rfl; rfl; intro bx) ))
      (refine wo_call (qo) rfl (by (repeat (first | apply sub_nil | (apply sub_cons; (· (repeat (first | apply sel_here | apply sel_there)))))); done) (by first | exact fun _ h => h | (intro r hr; cases hr; done) | (simp; done) | exact fun _ h => List.mem_append_left _ h | (intro r hr; simp [hr]; done)) rfl ?_; rintro v L' R' ⟨rfl, rfl, rfl⟩ H' hH RR hR; simp only [List.cons_append, List.nil_append] at hH hR; subst hH; have hR := hR.symm; subst hR)
      (repeat (first | ((first | (apply wo_v; rfl) ); (· first | (apply pv_ev; rfl) | (apply pv_fld; rfl) | (apply g_load; first | (apply pv_ld; rfl; (· (repeat (first | apply sel_here ))); rfl) | (apply pv_lda; rfl; (· (repeat (first | apply sel_there))); (· (repeat (first | fail )))) | (apply pv_ld_owna; rfl; (· (repeat (first | apply sel_here | apply sel_there))); (· assumption)) | (apply pv_ld_roa; rfl; (· (first | assumption )); (· assumption))) | (apply g_bin; first | (apply a_sub; rfl; rfl; infer_instance; omega) ) | (apply g_idx; first | (apply pv_idx; rfl; rfl; omega) | (apply (pv_idx_e 0); rfl; rfl; rfl; omega) | (apply pv_idx_n; rfl; rfl; omega) ) )) | apply wo_nil | apply wc_seq | apply wc_region | apply wc_skip | (apply wc_true; rfl) | (apply wc_false; rfl) | (apply a_dec_t; rfl; (· first | assumption | omega)) | (apply a_dec_f; rfl; (· first | assumption | omega)) ))
      rw [show ((n : Int) - 1).toNat = n - 1 by omega]
      (repeat (first | ((first | (apply wo_v; rfl) ); (· first | (apply pv_ev; rfl) | (apply pv_fld; rfl) | (apply g_load; first | (apply pv_ld; rfl; (· (repeat (first | apply sel_here | apply sel_there))); rfl) | (apply pv_lda; rfl; (· (repeat (first | apply sel_there))); (· (repeat (first | fail )))) | (apply pv_ld_owna; rfl; (· (repeat (first | apply sel_here | apply sel_there))); (· assumption)) ) | (apply g_pick; first | (apply pv_pick_t; rfl; rfl) | (apply pv_pick_f; rfl; rfl)) | (apply g_bin; first | (apply a_add; rfl; rfl; infer_instance; omega) ) )) | apply wo_nil | apply wc_seq | apply wc_region | apply wc_ret | (apply wo_run; rfl; rfl) | (apply wo_skip; rfl; rfl; rfl; rfl) | (apply wo_skip_u; rfl; rfl; rfl) | (apply a_gt; rfl; rfl; (· first | assumption | omega)) | (apply a_gf; rfl; rfl; (· first | assumption | omega)) | (apply a_gt; rfl; rfl; (· first | (simp; done) | (simp; omega))) | (apply wo_alloc; rfl; intro bx) | (apply wo_sta; rfl; rfl; rfl; rfl; (· (repeat (first | apply sel_here ))); (· (repeat (first | apply LayAt.nil | apply LayAt.here ))); rfl) ))
      exact ret1 rfl rfl ⟨by simp, rfl, rfl⟩ ((by (repeat (first | apply sub_nil | (apply sub_cons; (· (repeat (first | apply sel_here | apply sel_there)))))); done) : List.Perm _ ([_, _] ++ _)) (by first | exact fun _ h => h | (intro r hr; cases hr; done) | (simp; done) | exact fun _ h => List.mem_append_left _ h | (intro r hr; simp [hr]; done))
  · clear h1
    refine fn_intro Try.func154 rfl Try.ntmps154 rfl (fun E => ?_)
    (repeat (first | ((first | (apply wo_v; rfl) ); (· first | (apply pv_ev; rfl) )) | apply wo_nil | apply wc_seq | apply wc_region | (apply wo_box1; rfl; rfl; rfl; intro bx) | (apply wo_boxa; rfl; rfl; intro bx) ))
    (refine wo_call (qo) rfl (by (repeat (first | apply sub_nil | (apply sub_cons; (· (repeat (first | apply sel_here | apply sel_there)))))); done) (by first | exact fun _ h => h | (intro r hr; cases hr; done) | (simp; done) | exact fun _ h => List.mem_append_left _ h | (intro r hr; simp [hr]; done)) rfl ?_; rintro v L' R' ⟨rfl, rfl, rfl⟩ H' hH RR hR; simp only [List.cons_append, List.nil_append] at hH hR; subst hH; have hR := hR.symm; subst hR)
    (repeat (first | ((first | (apply wo_v; rfl) ); (· first | (apply pv_ev; rfl) | (apply pv_fld; rfl) | (apply g_load; first | (apply pv_ld; rfl; (· (repeat (first | apply sel_here ))); rfl) | (apply pv_lda; rfl; (· (repeat (first | apply sel_there))); (· (repeat (first | fail )))) | (apply pv_ld_owna; rfl; (· (repeat (first | apply sel_here | apply sel_there))); (· assumption)) | (apply pv_ld_roa; rfl; (· (first | assumption )); (· assumption))) | (apply g_bin; first | (apply a_sub; rfl; rfl; infer_instance; omega) ) | (apply g_idx; first | (apply pv_idx; rfl; rfl; omega) | (apply (pv_idx_e 0); rfl; rfl; rfl; omega) | (apply pv_idx_n; rfl; rfl; omega) ) )) | apply wo_nil | apply wc_seq | apply wc_region | apply wc_skip | (apply wc_true; rfl) | (apply wc_false; rfl) | (apply a_dec_t; rfl; (· first | assumption | omega)) | (apply a_dec_f; rfl; (· first | assumption | omega)) ))
    rw [show ((n : Int) - 1).toNat = n - 1 by omega]
    (repeat (first | ((first | (apply wo_v; rfl) ); (· first | (apply pv_ev; rfl) | (apply pv_fld; rfl) | (apply g_load; first | (apply pv_ld; rfl; (· (repeat (first | apply sel_here | apply sel_there))); rfl) | (apply pv_lda; rfl; (· (repeat (first | apply sel_there))); (· (repeat (first | fail )))) | (apply pv_ld_owna; rfl; (· (repeat (first | apply sel_here | apply sel_there))); (· assumption)) ) | (apply g_pick; first | (apply pv_pick_t; rfl; rfl) | (apply pv_pick_f; rfl; rfl)) | (apply g_bin; first | (apply a_add; rfl; rfl; infer_instance; omega) ) )) | apply wo_nil | apply wc_seq | apply wc_region | apply wc_ret | (apply wo_run; rfl; rfl) | (apply wo_skip; rfl; rfl; rfl; rfl) | (apply wo_skip_u; rfl; rfl; rfl) | (apply a_gt; rfl; rfl; (· first | assumption | omega)) | (apply a_gf; rfl; rfl; (· first | assumption | omega)) | (apply wo_alloc; rfl; intro bx) | (apply wo_sta; rfl; rfl; rfl; rfl; (· (repeat (first | apply sel_here ))); (· (repeat (first | apply LayAt.nil | apply LayAt.here ))); rfl) ))
    exact ret1 rfl rfl ⟨by simp, rfl, rfl⟩ ((by (repeat (first | apply sub_nil | (apply sub_cons; (· (repeat (first | apply sel_here | apply sel_there)))))); done) : List.Perm _ ([_, _] ++ _)) (by first | exact fun _ h => h | (intro r hr; cases hr; done) | (simp; done) | exact fun _ h => List.mem_append_left _ h | (intro r hr; simp [hr]; done))
abbrev FolF (b : Nat) (ao : Option Addr) (n c : Nat) (U : List Un) (u : Un) (wh lo : Int) : Prop := Fn Try.prog 154 #[.pointer (some ⟨b, 0, none⟩), .agg (urow u).toArray] [mkI b (.slice ao n c) wh lo, u7 ao n c U] [] (fun v L' R' => v = .bool false ∧ L' = [mkI b (.slice ao n c) wh lo, u7 ao n c U] ∧ R' = [])
set_option maxHeartbeats 16000000 in
/-- a first packet; what was begun is dropped -/
theorem fPutS (b : Nat) (ao0 : Option Addr) (n c : Nat) (U : List Un) (wh lo0 : Int) (at_ ti tk : Int) (mrk ky : Bool) (tx : ByteArray) (htx : tx.size ≤ 50) (hw : 0 ≤ wh ∧ wh ≤ 1000000) (hn : n ≤ 8) (hlo : 0 ≤ lo0 ∧ lo0 ≤ 100000)
    (qf : FolF b ao0 n c U ⟨at_, ti, mrk, true, ky, tx, tk⟩ wh lo0) :
    Fn Try.prog 138 #[.pointer (some ⟨b, 0, none⟩), .agg (urow ⟨at_, ti, mrk, true, ky, tx, tk⟩).toArray] [mkI b (.slice ao0 n c) wh lo0, u7 ao0 n c U] [] (PutPost b 0 [] ⟨at_, ti, mrk, true, ky, tx, tk⟩ wh (lo0 + n)) := by
  have qd := fDrop b ao0 n c wh lo0 ⟨hlo.1, by omega, by omega⟩
  obtain ⟨lo, hlo2⟩ : ∃ lo, lo0 + (n : Int) = lo := ⟨_, rfl⟩
  rw [hlo2] at qd ⊢
  have qc := fCl none 0 0 [] ⟨rfl, .inl ⟨rfl, rfl, rfl⟩⟩ (by omega)
  have qo := fun ao c => fOpen b ao (0 + 1) c wh lo
  have hu2 : ∀ x ∈ [] ++ [(⟨at_, ti, mrk, true, ky, tx, tk⟩ : Un)], x.tx.size ≤ 50 := fun x hx => by
    rcases List.mem_singleton.1 hx with rfl; exact htx
  have hsz : tzU ([] ++ [(⟨at_, ti, mrk, true, ky, tx, tk⟩ : Un)]) ≤ 50 * (0 + 1) := tzU_le hu2
  have qs := fun ao c => fSize ([] ++ [(⟨at_, ti, mrk, true, ky, tx, tk⟩ : Un)]) ao (0 + 1) c rfl (by omega) (fun x hx => by have := hu2 x hx; omega)
  refine fn_intro Try.func138 rfl Try.ntmps138 rfl (fun E => ?_)
  (repeat (first | ((first | (apply wo_v; rfl) ); (· first | (apply pv_ev; rfl) | (apply g_load; first | (apply pv_lda; rfl; (· (repeat (first | apply sel_here | apply sel_there))); (· (repeat (first | apply Cut.here0 | apply Cut.here )))) ) )) | apply wo_nil | apply wc_seq | apply wc_region | (apply wo_box1; rfl; rfl; rfl; intro bx) | (apply wo_boxa; rfl; rfl; intro bx) | (apply wo_alloc; rfl; intro bx) ))
  rename_i b3
  (refine wo_call (qf) rfl (by (repeat (first | apply sub_nil | (apply sub_cons; (· (repeat (first | apply sel_here | apply sel_there)))))); done) (by first | exact fun _ h => h | (intro r hr; cases hr; done) | (simp; done) | exact fun _ h => List.mem_append_left _ h | (intro r hr; simp [hr]; done)) rfl ?_; rintro v L' R' ⟨rfl, rfl, rfl⟩ H' hH RR hR; simp only [List.cons_append, List.nil_append] at hH hR; subst hH; have hR := hR.symm; subst hR)
  (repeat (first | ((first | (apply wo_v; rfl) ); (· first | (apply pv_ev; rfl) | (apply g_un; first | (apply pv_not_t; rfl) | (apply pv_not_f; rfl) ) )) | apply wo_nil | apply wc_seq | apply wc_region | (apply wc_true; rfl) ))
  (refine wo_call (qd) rfl (by (repeat (first | apply sub_nil )); done) (by first | exact fun _ h => h | (intro r hr; cases hr; done) | (simp; done) | exact fun _ h => List.mem_append_left _ h | (intro r hr; simp [hr]; done)) rfl ?_; rintro v L' R' ⟨rfl, rfl, rfl⟩ H' hH RR hR; simp only [List.cons_append, List.nil_append] at hH hR; subst hH; have hR := hR.symm; subst hR)
  (repeat (first | ((first | (apply wo_v; rfl) ); (· first | (apply pv_ev; rfl) | (apply pv_fld; rfl) | (apply g_load; first | (apply pv_ld; rfl; (· (repeat (first | apply sel_here | apply sel_there))); rfl) ) | (apply g_pick; first | (apply pv_pick_t; rfl; rfl) ) | (apply g_un; first | (apply pv_not_t; rfl) ) )) | apply wo_nil | apply wc_seq | apply wc_region | apply wc_skip | (apply wc_true; rfl) | (apply wc_false; rfl) | (apply wo_run; rfl; rfl) ))
  refine wc_own0 106 7 ?_
  obtain ⟨b4, hb4⟩ : ∃ g, g = bx := ⟨_, rfl⟩
  subst hb4
  (refine wc_regM [0, 1, 2] (aslL [(5, [0]), (6, [1]), (8, [2]), (9, [1, 2]), (13, [1, 0])]) (tblPt b none 0 0 ([] : List Un) (⟨at_, ti, mrk, true, ky, tx, tk⟩ : Un) wh lo) ([frB b4, unB b3 (⟨at_, ti, mrk, true, ky, tx, tk⟩ : Un), u7 ao0 n c U]) (fm [(0, [mkI b (.slice none 0 0) wh lo]), (1, [u7 none 0 0 ([] : List Un)]), (2, [])]) mixed (by kernel_rfl) (by kernel_rfl) (by decide) (aslL_ok (by decide)) (by (repeat (first | (apply prm_cons; (· (repeat (first | apply sel_here | apply sel_there)))) | apply List.Perm.nil )); done) ?_; (repeat (first | (apply HdM.val; rfl; rfl; (· first | apply gok_none ); (· first | (apply pv_ev; rfl) | (apply pv_fld; rfl) )) )))
  (refine hm_eff (cs := [0]) rfl (by decide) rfl rfl (by first | exact gok_none | exact gok_run rfl rfl) (fun a ha => outc_mono (outc_ld (L := [mkI b (.slice none 0 0) wh lo]) (pv_ld rfl (by (repeat (first | apply sel_here )); done) rfl) a ha) (fun v M h => ⟨[M], And.intro h.1 (congrArg (fun x => [x]) h.2), rfl, by simp⟩)) (⟨_, _, And.intro rfl rfl, rfl⟩) ?_; rintro v Ms ⟨rfl, rfl⟩ _; simp only [setls, setl, reduceIte, Nat.reduceEqDiff]; (repeat (first | (apply HdM.val; rfl; rfl; (· first | fail ); (· first | fail )) )))
  (refine hm_eff (cs := [1]) rfl (by decide) rfl rfl (by first | exact gok_none | exact gok_run rfl rfl) (fun a ha => outc_mono (outc_call (F1 := _) (T := fun v M => ∃ ao2 c2, v = .slice ao2 0 c2 ∧ M = [u7 ao2 0 c2 ([] : List Un)]) qc rfl (by (repeat (first | apply sub_nil )); done) (by first | exact fun _ h => h | (intro r hr; cases hr; done) | (simp; done) | exact fun _ h => List.mem_append_left _ h | (intro r hr; simp [hr]; done)) (by rintro v L' R' ⟨ao2, c2, rfl, rfl, _⟩; exact ⟨_, ⟨ao2, c2, rfl, rfl⟩, (by (repeat (first | (apply prm_cons; (· (repeat (first | apply sel_here )))) | apply List.Perm.nil )); done)⟩) a ha) (fun v M h => by obtain ⟨ao2, c2, h1, h2⟩ := h; exact ⟨[M], ⟨ao2, c2, h1, congrArg (fun x => [x]) h2⟩, rfl, by simp⟩)) (⟨_, _, ⟨none, 0, rfl, rfl⟩, rfl⟩) ?_; rintro v Ms ⟨ao4, c4, rfl, rfl⟩ _; simp only [setls, setl, reduceIte, Nat.reduceEqDiff]; (repeat (first | (apply HdM.val; rfl; rfl; (· first | apply gok_none ); (· first | (apply pv_ev; rfl) | (apply g_load; first | (apply pv_lda; rfl; (· (repeat (first | apply sel_here | apply sel_there))); (· (repeat (first | apply Cut.here0 | apply Cut.here )))) ) )) )))
  (refine hm_eff (cs := [2]) rfl (by decide) rfl rfl (by first | exact gok_none | exact gok_run rfl rfl) (fun a ha => outc_mono (outc_bsl (by (repeat (first | apply Rws'.nil | (apply Rws'.agg; rfl; rfl; rfl))); done) rfl rfl rfl a ha) (fun v M h => Exists.elim h fun b h => ⟨[M], Exists.intro b (And.intro h.1 (congrArg (fun x => [x]) h.2)), rfl, by simp⟩)) (⟨_, _, Exists.intro 0 (And.intro rfl rfl), rfl⟩) ?_; rintro v Ms ⟨b8, rfl, rfl⟩ _; simp only [setls, setl, reduceIte, Nat.reduceEqDiff]; (repeat (first | (apply HdM.val; rfl; rfl; (· first | fail ); (· first | fail )) )))
  (refine hm_eff (cs := [1, 2]) rfl (by decide) rfl rfl (by first | exact gok_none | exact gok_run rfl rfl) (fun a ha => outc_mono (outc_app_g rfl rfl (by unfold maxLen; omega) (by omega) a ha) (fun v M h => by obtain ⟨b, c, h1, h2⟩ := h; exact ⟨[[_], [_]], ⟨b, c, h1, rfl⟩, rfl, h2⟩)) (⟨_, _, ⟨none, 0, rfl, rfl⟩, rfl⟩) ?_; rintro v Ms ⟨ao5, c5, rfl, rfl⟩ _; simp only [setls, setl, reduceIte, Nat.reduceEqDiff]; (repeat (first | (apply HdM.val; rfl; rfl; (· first | apply gok_none ); (· first | (apply pv_ev; rfl) | (apply pv_fld; rfl) )) )))
  (refine hm_eff (cs := [1, 0]) rfl (by decide) rfl rfl (by first | exact gok_none | exact gok_run rfl rfl) (fun a ha => outc_mono (outc_frA (X := [u7' ao5 (0 + 1) c5 (urs ([] : List Un) ++ [urow (⟨at_, ti, mrk, true, ky, tx, tk⟩ : Un)])]) (L := [mkI b (.slice none 0 0) wh lo]) (outc_st rfl rfl rfl (by (repeat (first | apply SetAt.here | apply SetAt.there)); done)) a ha) (fun v M h => by obtain ⟨M0, ⟨h1, h2⟩, h3⟩ := h; exact ⟨[[_], [_]], ⟨h1, rfl⟩, rfl, by rw [h3, h2]; rfl⟩)) (⟨_, _, ⟨rfl, rfl⟩, rfl⟩) ?_; rintro v Ms ⟨rfl, rfl⟩ _; simp only [setls, setl, reduceIte, Nat.reduceEqDiff]; (repeat (first | fail )))
  (refine HdM.nil ?_; intro H hH; simp only [Hp, fm, look, setl, List.flatMap_cons, List.flatMap_nil, reduceIte, Nat.reduceEqDiff, Option.getD_some, List.append_nil, List.cons_append, List.nil_append] at hH; subst hH)
  (repeat (first | apply wc_seq ))
  rw [show urs ([] : List Un) ++ [urow (⟨at_, ti, mrk, true, ky, tx, tk⟩ : Un)] = urs (([] : List Un) ++ [(⟨at_, ti, mrk, true, ky, tx, tk⟩ : Un)]) from by simp [urs]]
  generalize tzU (([] : List Un) ++ [(⟨at_, ti, mrk, true, ky, tx, tk⟩ : Un)]) = z at *
  (refine wc_quiet mixed (by kernel_rfl) ?_; (repeat (first | ((first | (apply hd_v; rfl) ); (· first | (apply pv_ev; rfl) )) )))
  (refine Hd.call rfl inferInstance (Fn.mono (qo ao5 c5) (fun _ _ _ h => ⟨h.1, h.2.1⟩)) rfl (by (repeat (first | apply sub_nil | (apply sub_cons; (· (repeat (first | apply sel_here | apply sel_there)))))); done) (by first | exact fun _ h => h | (intro r hr; cases hr; done) | (simp; done) | exact fun _ h => List.mem_append_left _ h | (intro r hr; simp [hr]; done)) rfl ?_; (repeat (first | ((first | (apply hd_v; rfl) ); (· first | (apply pv_ev; rfl) | (apply pv_fld; rfl) | (apply g_load; first | (apply pv_ld; rfl; (· (repeat (first | apply sel_here | apply sel_there))); rfl) | (apply pv_lda; rfl; (· (repeat (first | apply sel_here | apply sel_there))); (· (repeat (first | apply Cut.here0 | apply Cut.here | apply Cut.there)))) ) )) | (apply Hd.run; rfl; rfl) )))
  (refine Hd.call rfl inferInstance (Fn.mono (qs ao5 c5) (fun _ _ _ h => ⟨h.1, h.2.1⟩)) rfl (by (repeat (first | apply sub_nil | (apply sub_cons; (· (repeat (first | apply sel_here | apply sel_there)))))); done) (by first | exact fun _ h => h | (intro r hr; cases hr; done) | (simp; done) | exact fun _ h => List.mem_append_left _ h | (intro r hr; simp [hr]; done)) rfl ?_; (repeat (first | ((first | (apply wo_v; rfl) | (apply hd_v; rfl) ); (· first | (apply pv_ev; rfl) | (apply pv_fld; rfl) | (apply g_load; first | (apply pv_ld; rfl; (· (repeat (first | apply sel_here | apply sel_there))); rfl) ) | (apply g_pick; first | (apply pv_pick_t; rfl; rfl) | (apply pv_pick_f; rfl; rfl)) | (apply g_un; first | (apply pv_not_t; rfl) | (apply pv_not_f; rfl) | (apply a_not_d; rfl) | (apply pv_not; rfl) ) )) | apply wo_nil | apply Hd.nil | apply wc_seq | apply wc_region | apply wc_skip | (apply wc_true; rfl) | (apply wc_false; rfl) | (apply a_dec_t; rfl; (· first | assumption | omega)) | (apply a_dec_f; rfl; (· first | assumption | omega)) | (apply a_dec_t; rfl; (· first | (simp; done) | (simp; omega))) | (apply a_dec_f; rfl; (· first | (simp; done) | (simp; omega))) | (apply wo_run; rfl; rfl) | (apply Hd.run; rfl; rfl) )))
  cases mrk with
  | true =>
    (repeat (first | ((first | (apply wo_v; rfl) ); (· first | (apply pv_ev; rfl) | (apply pv_fld; rfl) | (apply g_load; first | (apply pv_ld; rfl; (· (repeat (first | apply sel_here ))); rfl) | (apply pv_lda; rfl; (· (repeat (first | apply sel_here | apply sel_there))); (· (repeat (first | apply Cut.here0 | apply Cut.here | apply Cut.there)))) ) | (apply g_bin; first | (apply a_add; rfl; rfl; infer_instance; omega) ) | (apply g_build; apply pv_build; (· (repeat (first | apply Bld.nil )))) )) | apply wo_nil | apply wc_seq | apply wc_region | apply wc_skip | apply wc_ret | (apply wc_true; rfl) | (apply wc_false; rfl) | (apply wo_st; rfl; rfl; rfl; (· (repeat (first | apply sel_here ))); (· (repeat (first | apply SetAt.here | apply SetAt.there))); rfl) | (apply wo_alloc; rfl; intro bx) | (apply wo_sta; rfl; rfl; rfl; rfl; (· (repeat (first | apply sel_here | apply sel_there))); (· (repeat (first | apply LayAt.nil | apply LayAt.here | apply LayAt.there))); rfl) ))
    exact retv rfl (by (repeat (first | apply RV.nil | (apply RV.tmp; rfl) | (apply RV.agg; rfl; (· (repeat (first | apply sel_here ))); infer_instance; (· (repeat (first | apply Cut.here0 | apply Cut.here )))) )); done) (⟨ao5, c5, rfl, .inl ⟨rfl, rfl, rfl⟩⟩) (by (repeat (first | apply sub_nil | (apply sub_cons; (· (repeat (first | apply sel_here | apply sel_there)))))); done) (by first | exact fun _ h => h | (intro r hr; cases hr; done) | (simp; done) | exact fun _ h => List.mem_append_left _ h | (intro r hr; simp [hr]; done))
  | false =>
    (repeat (first | ((first | (apply wo_v; rfl) ); (· first | (apply pv_ev; rfl) | (apply g_build; apply pv_build; (· (repeat (first | apply Bld.nil )))) )) | apply wo_nil | apply wc_seq | apply wc_region | apply wc_ret | (apply wc_true; rfl) | (apply wo_sta; rfl; rfl; rfl; rfl; (· (repeat (first | apply sel_here ))); (· (repeat (first | apply LayAt.nil | apply LayAt.here ))); rfl) ))
    exact retv rfl (by (repeat (first | apply RV.nil | (apply RV.tmp; rfl) | (apply RV.agg; rfl; (· (repeat (first | apply sel_here ))); infer_instance; (· (repeat (first | apply Cut.here0 | apply Cut.here )))) )); done) (⟨ao5, c5, rfl, .inr ⟨rfl, rfl, rfl⟩⟩) (by (repeat (first | apply sub_nil | (apply sub_cons; (· (repeat (first | apply sel_here | apply sel_there)))))); done) (by first | exact fun _ h => h | (intro r hr; cases hr; done) | (simp; done) | exact fun _ h => List.mem_append_left _ h | (intro r hr; simp [hr]; done))
set_option maxHeartbeats 16000000 in
/-- a packet whose picture's beginning is lost -/
theorem fPutL (b : Nat) (ao0 : Option Addr) (n c : Nat) (U : List Un) (wh lo0 : Int) (at_ ti tk : Int) (mrk ky : Bool) (tx : ByteArray) (hn : n ≤ 8) (hlo : 0 ≤ lo0 ∧ lo0 ≤ 100000)
    (qf : FolF b ao0 n c U ⟨at_, ti, mrk, false, ky, tx, tk⟩ wh lo0) :
    Fn Try.prog 138 #[.pointer (some ⟨b, 0, none⟩), .agg (urow ⟨at_, ti, mrk, false, ky, tx, tk⟩).toArray] [mkI b (.slice ao0 n c) wh lo0, u7 ao0 n c U] [] (fun v L' R' => v = .tuple #[.agg #[.slice none 0 0], .bool false] ∧ L' = [mkI b (.slice none 0 0) wh (lo0 + n + 1), u7 none 0 0 []] ∧ R' = []) := by
  have qd := fDrop b ao0 n c wh lo0 ⟨hlo.1, by omega, by omega⟩
  obtain ⟨lo, hlo2⟩ : ∃ lo, lo0 + (n : Int) = lo := ⟨_, rfl⟩
  rw [hlo2] at qd ⊢
  refine fn_intro Try.func138 rfl Try.ntmps138 rfl (fun E => ?_)
  (repeat (first | ((first | (apply wo_v; rfl) ); (· first | (apply pv_ev; rfl) | (apply g_load; first | (apply pv_lda; rfl; (· (repeat (first | apply sel_here | apply sel_there))); (· (repeat (first | apply Cut.here0 | apply Cut.here )))) ) )) | apply wo_nil | apply wc_seq | apply wc_region | (apply wo_box1; rfl; rfl; rfl; intro bx) | (apply wo_boxa; rfl; rfl; intro bx) | (apply wo_alloc; rfl; intro bx) ))
  (refine wo_call (qf) rfl (by (repeat (first | apply sub_nil | (apply sub_cons; (· (repeat (first | apply sel_here | apply sel_there)))))); done) (by first | exact fun _ h => h | (intro r hr; cases hr; done) | (simp; done) | exact fun _ h => List.mem_append_left _ h | (intro r hr; simp [hr]; done)) rfl ?_; rintro v L' R' ⟨rfl, rfl, rfl⟩ H' hH RR hR; simp only [List.cons_append, List.nil_append] at hH hR; subst hH; have hR := hR.symm; subst hR)
  (repeat (first | ((first | (apply wo_v; rfl) ); (· first | (apply pv_ev; rfl) | (apply g_un; first | (apply pv_not_t; rfl) | (apply pv_not_f; rfl) ) )) | apply wo_nil | apply wc_seq | apply wc_region | (apply wc_true; rfl) ))
  (refine wo_call (qd) rfl (by (repeat (first | apply sub_nil )); done) (by first | exact fun _ h => h | (intro r hr; cases hr; done) | (simp; done) | exact fun _ h => List.mem_append_left _ h | (intro r hr; simp [hr]; done)) rfl ?_; rintro v L' R' ⟨rfl, rfl, rfl⟩ H' hH RR hR; simp only [List.cons_append, List.nil_append] at hH hR; subst hH; have hR := hR.symm; subst hR)
  refine wo_own0 106 7 ?_
  (repeat (first | ((first | (apply wo_v; rfl) ); (· first | (apply pv_ev; rfl) | (apply pv_fld; rfl) | (apply g_load; first | (apply pv_ld; rfl; (· (repeat (first | apply sel_here | apply sel_there))); rfl) ) | (apply g_pick; first | (apply pv_pick_t; rfl; rfl) ) | (apply g_bin; first | (apply a_add; rfl; rfl; infer_instance; omega) ) | (apply g_un; first | (apply pv_not_t; rfl) | (apply pv_not_f; rfl) ) | (apply g_build; apply pv_build; (· (repeat (first | apply Bld.nil )))) )) | apply wo_nil | apply wc_seq | apply wc_region | apply wc_ret | (apply wc_true; rfl) | (apply wo_run; rfl; rfl) | (apply wo_st; rfl; rfl; rfl; (· (repeat (first | apply sel_here | apply sel_there))); (· (repeat (first | apply SetAt.here | apply SetAt.there))); rfl) | (apply wo_sta; rfl; rfl; rfl; rfl; (· (repeat (first | apply sel_here | apply sel_there))); (· (repeat (first | apply LayAt.nil | apply LayAt.here ))); rfl) ))
  exact retv rfl (by (repeat (first | apply RV.nil | (apply RV.tmp; rfl) | (apply RV.agg; rfl; (· (repeat (first | apply sel_here ))); infer_instance; (· (repeat (first | apply Cut.here0 | apply Cut.here )))) )); done) (⟨rfl, rfl, rfl⟩) (by (repeat (first | apply sub_nil | (apply sub_cons; (· (repeat (first | apply sel_here | apply sel_there)))))); done) (by first | exact fun _ h => h | (intro r hr; cases hr; done) | (simp; done) | exact fun _ h => List.mem_append_left _ h | (intro r hr; simp [hr]; done))
/-- Tick -/
theorem fTick (b : Nat) (ao : Option Addr) (n c : Nat) (U : List Un) (wh lo now : Int) (hop : U.length = n ∧ (n = 0 ∨ ∃ b0 o0, ao = some ⟨b0, o0, none⟩)) (hn : n ≤ 8) (hlo : 0 ≤ lo ∧ lo ≤ 100000) (hnow : 0 ≤ now ∧ now ≤ 1000) (ht : ∀ u ∈ U, 0 ≤ u.tk ∧ u.tk ≤ 1000) :
    Fn Try.prog 99 #[.pointer (some ⟨b, 0, none⟩), .int .i64 now] [mkI b (.slice ao n c) wh lo, u7 ao n c U] [] (fun v L' R' => R' = [] ∧ ∃ x, v = .bool x ∧ (L' = [mkI b (.slice ao n c) wh lo, u7 ao n c U] ∨ L' = [mkI b (.slice none 0 0) wh (lo + n)])) := by
  have qo := fOpen b ao n c wh lo
  have qd := fDrop b ao n c wh lo ⟨hlo.1, by omega, by omega⟩
  obtain ⟨hU, hn0⟩ := hop
  by_cases h0 : n = 0
  · subst h0
    refine fn_intro Try.func99 rfl Try.ntmps99 rfl (fun E => ?_)
    (repeat (first | ((first | (apply wo_v; rfl) ); (· first | (apply pv_ev; rfl) )) | apply wo_nil | apply wc_seq | apply wc_region ))
    (refine wc_quiet mixed (by kernel_rfl) ?_; (repeat (first | ((first | (apply hd_v; rfl) ); (· first | (apply pv_ev; rfl) )) )))
    (refine Hd.call rfl inferInstance (Fn.mono (qo) (fun _ _ _ h => ⟨h.1, h.2.1⟩)) rfl (by (repeat (first | apply sub_nil )); done) (by first | exact fun _ h => h | (intro r hr; cases hr; done) | (simp; done) | exact fun _ h => List.mem_append_left _ h | (intro r hr; simp [hr]; done)) rfl ?_; (repeat (first | ((first | (apply wo_v; rfl) | (apply hd_v; rfl) ); (· first | (apply pv_ev; rfl) | (apply g_pick; first | (apply pv_pick_t; rfl; rfl) ) )) | apply wo_nil | apply Hd.nil | apply wc_seq | apply wc_region | apply wc_ret | (apply wc_true; rfl) | (apply Hd.run; rfl; rfl) | (apply Hd.skip; rfl; rfl; rfl; rfl) )))
    (repeat (first | fail ))
    exact ret1 rfl rfl ⟨rfl, _, rfl, .inl rfl⟩ ((by (repeat (first | apply sub_nil )); done) : List.Perm _ ([_, _] ++ _)) (by first | exact fun _ h => h | (intro r hr; cases hr; done) | (simp; done) | exact fun _ h => List.mem_append_left _ h | (intro r hr; simp [hr]; done))
  · obtain ⟨b0, o0, rfl⟩ := hn0.resolve_left h0
    obtain ⟨u, hu⟩ : ∃ u, U[0]? = some u := ⟨_, List.getElem?_eq_getElem (by omega)⟩
    have hr := urs_at hu
    have htk := ht u (List.mem_of_getElem? hu)
    obtain ⟨x1, x2, x3, x4, x5, x6, x7⟩ := u
    dsimp only at hr htk
    by_cases h30 : now - x7 < 30
    · refine fn_intro Try.func99 rfl Try.ntmps99 rfl (fun E => ?_)
      (repeat (first | ((first | (apply wo_v; rfl) ); (· first | (apply pv_ev; rfl) )) | apply wo_nil | apply wc_seq | apply wc_region ))
      (refine wc_quiet mixed (by kernel_rfl) ?_; (repeat (first | ((first | (apply hd_v; rfl) ); (· first | (apply pv_ev; rfl) )) )))
      (refine Hd.call rfl inferInstance (Fn.mono (qo) (fun _ _ _ h => ⟨h.1, h.2.1⟩)) rfl (by (repeat (first | apply sub_nil )); done) (by first | exact fun _ h => h | (intro r hr; cases hr; done) | (simp; done) | exact fun _ h => List.mem_append_left _ h | (intro r hr; simp [hr]; done)) rfl ?_; (repeat (first | ((first | (apply wo_v; rfl) | (apply hd_v; rfl) ); (· first | (apply pv_ev; rfl) | (apply pv_fld; rfl) | (apply g_load; first | (apply pv_ld; rfl; (· (repeat (first | apply sel_here | apply sel_there))); rfl) | (apply pv_ld_ownf; rfl; (· (repeat (first | apply sel_here | apply sel_there))); (· assumption); rfl) ) | (apply g_pick; first | (apply pv_pick_t; rfl; rfl) | (apply pv_pick_f; rfl; rfl)) | (apply g_bin; first | (apply a_sub; rfl; rfl; infer_instance; omega) ) | (apply g_idx; first | (apply pv_idx; rfl; rfl; omega) | (apply (pv_idx_e 0); rfl; rfl; rfl; omega) ) )) | apply wo_nil | apply Hd.nil | apply wc_seq | apply wc_region | apply wc_ret | (apply wc_true; rfl) | (apply wc_false; rfl) | (apply a_dec_t; rfl; (· first | assumption | omega)) | (apply Hd.run; rfl; rfl) | (apply Hd.skip; rfl; rfl; rfl; rfl) | (apply Hd.skipu; rfl; rfl; rfl) | (apply ah_gt; rfl; rfl; (· first | assumption | omega)) | (apply ah_gf; rfl; rfl; (· first | assumption | omega)) )))
      (repeat (first | fail ))
      exact ret1 rfl rfl ⟨rfl, _, rfl, .inl rfl⟩ ((by (repeat (first | apply sub_nil )); done) : List.Perm _ ([_, _] ++ _)) (by first | exact fun _ h => h | (intro r hr; cases hr; done) | (simp; done) | exact fun _ h => List.mem_append_left _ h | (intro r hr; simp [hr]; done))
    · refine fn_intro Try.func99 rfl Try.ntmps99 rfl (fun E => ?_)
      (repeat (first | ((first | (apply wo_v; rfl) ); (· first | (apply pv_ev; rfl) )) | apply wo_nil | apply wc_seq | apply wc_region ))
      (refine wc_quiet mixed (by kernel_rfl) ?_; (repeat (first | ((first | (apply hd_v; rfl) ); (· first | (apply pv_ev; rfl) )) )))
      (refine Hd.call rfl inferInstance (Fn.mono (qo) (fun _ _ _ h => ⟨h.1, h.2.1⟩)) rfl (by (repeat (first | apply sub_nil )); done) (by first | exact fun _ h => h | (intro r hr; cases hr; done) | (simp; done) | exact fun _ h => List.mem_append_left _ h | (intro r hr; simp [hr]; done)) rfl ?_; (repeat (first | ((first | (apply wo_v; rfl) | (apply hd_v; rfl) ); (· first | (apply pv_ev; rfl) | (apply pv_fld; rfl) | (apply g_load; first | (apply pv_ld; rfl; (· (repeat (first | apply sel_here | apply sel_there))); rfl) | (apply pv_ld_ownf; rfl; (· (repeat (first | apply sel_here | apply sel_there))); (· assumption); rfl) ) | (apply g_pick; first | (apply pv_pick_t; rfl; rfl) | (apply pv_pick_f; rfl; rfl)) | (apply g_bin; first | (apply a_sub; rfl; rfl; infer_instance; omega) ) | (apply g_idx; first | (apply pv_idx; rfl; rfl; omega) | (apply (pv_idx_e 0); rfl; rfl; rfl; omega) ) )) | apply Hd.nil | apply wc_seq | apply wc_region | apply wc_skip | (apply wc_true; rfl) | (apply wc_false; rfl) | (apply a_dec_t; rfl; (· first | assumption | omega)) | (apply a_dec_f; rfl; (· first | assumption | omega)) | (apply Hd.run; rfl; rfl) | (apply Hd.skip; rfl; rfl; rfl; rfl) | (apply Hd.skipu; rfl; rfl; rfl) | (apply ah_gt; rfl; rfl; (· first | assumption | omega)) | (apply ah_gf; rfl; rfl; (· first | assumption | omega)) )))
      (repeat (first | ((first | (apply wo_v; rfl) ); (· first | (apply pv_ev; rfl) )) ))
      (refine wo_call (qd) rfl (by (repeat (first | apply sub_nil )); done) (by first | exact fun _ h => h | (intro r hr; cases hr; done) | (simp; done) | exact fun _ h => List.mem_append_left _ h | (intro r hr; simp [hr]; done)) rfl ?_; rintro v L' R' ⟨rfl, rfl, rfl⟩ H' hH RR hR; simp only [List.cons_append, List.nil_append] at hH hR; subst hH; have hR := hR.symm; subst hR)
      (repeat (first | ((first | (apply wo_v; rfl) ); (· first | (apply pv_ev; rfl) )) | apply wo_nil | apply wc_seq | apply wc_region | apply wc_ret ))
      exact ret1 rfl rfl ⟨rfl, _, rfl, .inr rfl⟩ ((by (repeat (first | apply sub_nil )); done) : List.Perm _ ([_] ++ _)) (by first | exact fun _ h => h | (intro r hr; cases hr; done) | (simp; done) | exact fun _ h => List.mem_append_left _ h | (intro r hr; simp [hr]; done))
end Go.Proofs.Ytlhlidmhlhodiaa

/-
  Package frame: Put over the plain law's pictures.
-/
namespace Go.Proofs.Ytlhlidmhlhodiaa
set_option linter.unusedSimpArgs false
set_option linter.unusedVariables false
open Go.RowKit
attribute [local irreducible] Pv WO WC Fn
set_option maxRecDepth 100000
attribute [local irreducible] ByteArray.extract

def fdX (op : List Nat) (p : Nat) (y : Sg) : Bool × List Nat := if folB op p y then (y.l, op ++ [p]) else if y.k = 0 then (y.l, [p]) else (false, [])
theorem feed_fdX (op : List Nat) (p : Nat) (y : Sg) : feed op p y = (if (fdX op p y).1 then (some (fdX op p y).2, []) else (none, (fdX op p y).2)) := by
  unfold feed fdX
  split
  · rfl
  · split <;> rfl
theorem fFolZ (b : Nat) (ao : Option Addr) (c : Nat) (wh lo : Int) (u : Un) : FolF b ao 0 c [] u wh lo := by
  have qo := fOpen b ao 0 c wh lo
  refine fn_intro Try.func154 rfl Try.ntmps154 rfl (fun E => ?_)
  (repeat (first | ((first | (apply wo_v; rfl) ); (· first | (apply pv_ev; rfl) )) | apply wo_nil | apply wc_seq | apply wc_region | (apply wo_box1; rfl; rfl; rfl; intro bx) | (apply wo_boxa; rfl; rfl; intro bx) ))
  (refine wo_call (qo) rfl (by (repeat (first | apply sub_nil | (apply sub_cons; (· (repeat (first | apply sel_here | apply sel_there)))))); done) (by first | exact fun _ h => h | (intro r hr; cases hr; done) | (simp; done) | exact fun _ h => List.mem_append_left _ h | (intro r hr; simp [hr]; done)) rfl ?_; rintro v L' R' ⟨rfl, rfl, rfl⟩ H' hH RR hR; simp only [List.cons_append, List.nil_append] at hH hR; subst hH; have hR := hR.symm; subst hR)
  (repeat (first | ((first | (apply wo_v; rfl) ); (· first | (apply pv_ev; rfl) )) | apply wo_nil | apply wc_seq | apply wc_region | apply wc_ret | (apply wc_true; rfl) ))
  exact ret1 rfl rfl ⟨rfl, rfl, rfl⟩ ((by (repeat (first | apply sub_nil | (apply sub_cons; (· (repeat (first | apply sel_here | apply sel_there)))))); done) : List.Perm _ ([_, _] ++ _)) (by first | exact fun _ h => h | (intro r hr; cases hr; done) | (simp; done) | exact fun _ h => List.mem_append_left _ h | (intro r hr; simp [hr]; done))
abbrev gUs (B : Int) (L : List Sg) (X : List Nat) : List Un := X.map (gUn B L)
abbrev MPost (b : Nat) (wh lo : Int) (B : Int) (L : List Sg) (mk : Bool) (X : List Nat) : Value → List It → List Ro → Prop := fun v L' R' => R' = [] ∧ ∃ a2 c2 wh' lo', (wh ≤ wh' ∧ wh' ≤ wh + 1 ∧ lo ≤ lo' ∧ lo' ≤ lo + 9) ∧ v = .tuple #[bif mk then .agg #[.slice a2 X.length c2] else .agg #[.slice none 0 0], .bool mk] ∧ L' = [mkI b (bif mk then .slice none 0 0 else .slice a2 X.length c2) wh' lo', u7 a2 X.length c2 (gUs B L X)]
theorem PutPost.m {b n : Nat} {U : List Un} {u : Un} {wh lo0 lo B : Int} {L : List Sg} {X : List Nat} {mk : Bool} (hX : U ++ [u] = gUs B L X) (hn : n + 1 = X.length) (hu : u.mrk = mk) (hlo : lo0 ≤ lo ∧ lo ≤ lo0 + 9) {v : Value} {L' : List It} {R' : List Ro} (h : PutPost b n U u wh lo v L' R') : MPost b wh lo0 B L mk X v L' R' := by
  subst hu
  obtain ⟨a2, c2, rfl, ⟨hm, rfl, rfl⟩ | ⟨hm, rfl, rfl⟩⟩ := h
  · rw [hm, hX, hn]
    exact ⟨rfl, a2, c2, wh + 1, lo, ⟨by omega, by omega, by omega, by omega⟩, rfl, rfl⟩
  · rw [hm, hX, hn]
    exact ⟨rfl, a2, c2, wh, lo, ⟨by omega, by omega, by omega, by omega⟩, rfl, rfl⟩
theorem fPutM {L : List Sg} {G : Nat → Bool} (hw : WFS L) {p : Nat} {fs : List (List Nat)} {op : List Nat} (hF : Fd L G p fs op) (y : Sg) (hy : L[p]? = some y) (hp : p ≤ 90) (B : Int) (hB : 0 ≤ B ∧ B ≤ 1000000000000) (b : Nat) (ao : Option Addr) (c : Nat) (wh lo : Int) (hao : op.length = 0 ∨ ∃ b0 o0, ao = some ⟨b0, o0, none⟩) (hwh : 0 ≤ wh ∧ wh ≤ 1000) (hlo : 0 ≤ lo ∧ lo ≤ 10000) :
    Fn Try.prog 138 #[.pointer (some ⟨b, 0, none⟩), .agg (urow (gUn B L p)).toArray] [mkI b (.slice ao op.length c) wh lo, u7 ao op.length c (gUs B L op)] [] (MPost b wh lo B L (fdX op p y).1 (fdX op p y).2) := by
  have hu := gUn_at (B := B) hy
  have hsz := gUn_sz B L
  have hl4 := hF.len
  have hbp := hw.bd p y hy
  have hop := hF.lt
  have hspl := (spl_size y.i y.k).2
  by_cases hf : folB op p y = true
  · -- it follows
    obtain ⟨x, hx, h0, h1, h2, h3, h4⟩ := hF.follow hw hy hf
    have hux := gUn_at (B := B) hx
    have hlen : op.length = y.k := by rw [h3, List.length_range']
    have hlast : (gUs B L op)[op.length - 1]? = some (gUn B L (p - 1)) := by
      rw [List.getElem?_map, hlen, h3, List.getElem?_range' (by omega)]
      have hkp := hw.k_le hy
      simp only [Option.map_some, Option.some.injEq]
      congr 1; omega
    have e1 : fdX op p y = (y.l, op ++ [p]) := by unfold fdX; rw [if_pos hf]
    rw [e1]
    obtain ⟨b0, o0, rfl⟩ := hao.resolve_left (by omega)
    have hpp : (B + (p : Int)) = (gUn B L (p - 1)).at_ + 1 := by rw [hux]; dsimp only; omega
    have hti : (68719476736 + 3000 * (y.i : Int)) = (gUn B L (p - 1)).ti := by rw [hux, h2]
    have hatb : -1000000000000000 ≤ (gUn B L (p - 1)).at_ ∧ (gUn B L (p - 1)).at_ ≤ 1000000000000000 := by rw [hux]; dsimp only; omega
    have hk0 : ¬ (y.k : Int) = 0 := by omega
    have h := fPutN b b0 o0 op.length c wh lo (gUs B L op) (by simp) ⟨by omega, by omega⟩ (B + (p : Int)) (68719476736 + 3000 * (y.i : Int)) (p : Int) y.l (gUn B L p).ky (spl y.i y.k) (gUn B L (p - 1)) hlast hpp hti hatb (fun u hu => by
      obtain ⟨i, _, rfl⟩ := List.mem_map.1 hu
      exact hsz i) (by omega) (by omega)
    have e2 : (⟨B + (p : Int), 68719476736 + 3000 * (y.i : Int), y.l, false, (gUn B L p).ky, spl y.i y.k, (p : Int)⟩ : Un) = gUn B L p := by rw [hu, decide_eq_false hk0]
    rw [e2] at h
    exact h.mono fun v L' R' hq => hq.m (X := op ++ [p]) (by show _ = List.map _ (op ++ [p]); rw [List.map_append]; rfl) (by rw [List.length_append]; rfl) (by rw [hu]) ⟨by omega, by omega⟩
  · -- it does not
    have hfol : FolF b ao op.length c (gUs B L op) (gUn B L p) wh lo := by
      rcases hao with h0 | ⟨b0, o0, rfl⟩
      · have : op = [] := List.eq_nil_of_length_eq_zero h0
        subst this
        exact fFolZ b ao c wh lo _
      · by_cases h0 : op = []
        · subst h0
          exact fFolZ b _ c wh lo _
        · have hpos : 0 < op.length := List.length_pos_iff.2 h0
          obtain ⟨m, hm⟩ : ∃ m, op[op.length - 1]? = some m := ⟨_, List.getElem?_eq_getElem (by omega)⟩
          have hmp := hop m (List.mem_of_getElem? hm)
          have hlast : (gUs B L op)[op.length - 1]? = some (gUn B L m) := by rw [List.getElem?_map, hm]; rfl
          obtain ⟨z, hz⟩ : ∃ z, L[m]? = some z := ⟨_, List.getElem?_eq_getElem (by have := (List.getElem?_eq_some_iff.1 hy).1; omega)⟩
          have huz := gUn_at (B := B) hz
          have hgl : op.getLast? = some m := by rw [List.getLast?_eq_getElem?]; exact hm
          rw [hu]
          refine fFolN b b0 o0 op.length c wh lo (gUs B L op) (by simp) ⟨hpos, by omega⟩ _ _ _ _ _ _ _ (gUn B L m) hlast ?_ (by rw [huz]; dsimp only; omega)
          rintro ⟨g1, _, g3⟩
          rw [huz] at g1
          dsimp only at g1
          apply hf
          unfold folB
          rw [hgl]
          have g4 : ¬ (y.k : Int) = 0 := of_decide_eq_false g3
          simp only [Bool.and_eq_true, decide_eq_true_eq]
          omega
    by_cases hk : y.k = 0
    · have e1 : fdX op p y = (y.l, [p]) := by unfold fdX; rw [if_neg hf, if_pos hk]
      rw [e1]
      have e2 : (⟨B + (p : Int), 68719476736 + 3000 * (y.i : Int), y.l, true, (gUn B L p).ky, spl y.i y.k, (p : Int)⟩ : Un) = gUn B L p := by rw [hu, decide_eq_true (show (y.k : Int) = 0 by omega)]
      have h := fPutS b ao op.length c (gUs B L op) wh lo (B + (p : Int)) (68719476736 + 3000 * (y.i : Int)) (p : Int) y.l (gUn B L p).ky (spl y.i y.k) (by omega) (by omega) (by omega) (by omega) (by rw [e2]; exact hfol)
      rw [e2] at h
      exact h.mono fun v L' R' hq => hq.m rfl rfl (by rw [hu]) ⟨by omega, by omega⟩
    · have e1 : fdX op p y = (false, []) := by unfold fdX; rw [if_neg hf, if_neg hk]
      rw [e1]
      have e2 : (⟨B + (p : Int), 68719476736 + 3000 * (y.i : Int), y.l, false, (gUn B L p).ky, spl y.i y.k, (p : Int)⟩ : Un) = gUn B L p := by rw [hu, decide_eq_false (show ¬ (y.k : Int) = 0 by omega)]
      have h := fPutL b ao op.length c (gUs B L op) wh lo (B + (p : Int)) (68719476736 + 3000 * (y.i : Int)) (p : Int) y.l (gUn B L p).ky (spl y.i y.k) (by omega) (by omega) (by rw [e2]; exact hfol)
      rw [e2] at h
      refine h.mono fun v L' R' ⟨h1, h2, h3⟩ => ⟨h3, none, 0, wh, lo + op.length + 1, ⟨by omega, by omega, by omega, by omega⟩, h1, h2⟩
end Go.Proofs.Ytlhlidmhlhodiaa

/-
  Iterators: maps.Keys and slices.Collect, laid at this seat.
-/
namespace Go.Proofs.Ytlhlidmhlhodiaa
set_option linter.unusedSimpArgs false
set_option linter.unusedVariables false
open Go.RowKit Go.Maps Go.Sort Go.Shelf
def itD_ren : Go.Shelf.Ren := ⟨fun | 7 => 161 | 10 => 174 | n => n, fun | 23 => 279 | 26 => 2 | 3 => 218 | 28 => 327 | 0 => 0 | 27 => 326 | 33 => 345 | 4 => 4 | n => n, fun n => n⟩
theorem itD : SlLaysZI.n7 Try.prog itD_ren :=
  { mixed := by kernel_rfl,
    f7 := ⟨Try.f161.name, by decide, Try.func161.trans (congrArg some (by kernel_rfl))⟩,
    f10 := ⟨Try.f174.name, by decide, Try.func174.trans (congrArg some (by kernel_rfl))⟩,
    t0 := Try.underlying0,
    a0 := Try.isAgg0,
    z0 := Try.sizeOf0,
    v0 := Try.zeroValue0,
    t4 := Try.underlying4,
    a4 := Try.isAgg4,
    z4 := Try.sizeOf4,
    v4 := Try.zeroValue4,
    t23 := Try.underlying279,
    a23 := Try.isAgg279,
    z23 := Try.sizeOf279,
    v23 := Try.zeroValue279,
    t26 := Try.underlying2,
    a26 := Try.isAgg2,
    z26 := Try.sizeOf2,
    v26 := Try.zeroValue2,
    t27 := Try.underlying326,
    a27 := Try.isAgg326,
    z27 := Try.sizeOf326,
    v27 := Try.zeroValue326,
    t28 := Try.underlying327,
    a28 := Try.isAgg327,
    z28 := Try.sizeOf327,
    v28 := Try.zeroValue327,
    t33 := Try.underlying345,
    a33 := Try.isAgg345,
    z33 := Try.sizeOf345,
    v33 := Try.zeroValue345 }
def itE_ren : Go.Shelf.Ren := ⟨fun | 8 => 160 | 11 => 173 | n => n, fun | 26 => 2 | 28 => 327 | 24 => 324 | 0 => 0 | 33 => 345 | 4 => 4 | n => n, fun n => n⟩
theorem itE : SlLaysZI.n8 Try.prog itE_ren :=
  { mixed := by kernel_rfl,
    f8 := ⟨Try.f160.name, by decide, Try.func160.trans (congrArg some (by kernel_rfl))⟩,
    f11 := ⟨Try.f173.name, by decide, Try.func173.trans (congrArg some (by kernel_rfl))⟩,
    t0 := Try.underlying0,
    a0 := Try.isAgg0,
    z0 := Try.sizeOf0,
    v0 := Try.zeroValue0,
    t24 := Try.underlying324,
    a24 := Try.isAgg324,
    z24 := Try.sizeOf324,
    v24 := Try.zeroValue324,
    t26 := Try.underlying2,
    a26 := Try.isAgg2,
    z26 := Try.sizeOf2,
    v26 := Try.zeroValue2,
    t28 := Try.underlying327,
    a28 := Try.isAgg327,
    z28 := Try.sizeOf327,
    v28 := Try.zeroValue327,
    i26 := by kernel_rfl }
end Go.Proofs.Ytlhlidmhlhodiaa

/-
  Iterators: maps.Keys and slices.Collect as contracts over sparse frames.
-/
namespace Go.Proofs.Ytlhlidmhlhodiaa
set_option linter.unusedSimpArgs false
set_option linter.unusedVariables false
open Go.RowKit Go.Maps Go.Sort Go.Shelf

def kInt : Value → Int
  | .int _ a => a
  | _ => 0
/-- a map with int keys -/
structure MOk (es : Array MapEntry) (ck : Nat) : Prop where
  st : MapKept.Stamped es ck
  size : es.size ≤ 1000
  key : ∀ x ∈ es.toList, ∃ a : Int, x.key = .int .i64 a ∧ (Lit.int .i64 a).wf = true
def mKeys (es : Array MapEntry) : List Int := es.toList.map fun x => kInt x.key
abbrev freeR : Value → Option (DataW Unit × List MemPlace) := fun _ => some (.nil, [])
theorem MOk.rd {P : Program} {k : TypeId} (hk : P.underlying k = some (.int .i64)) {es : Array MapEntry} {ck : Nat} (h : MOk es ck) {x : MapEntry} (hx : x ∈ es.toList) : WideElems.rd P k freeR x = some (.int .i64 (kInt x.key), .nil) := by
  obtain ⟨a, ha, hw⟩ := h.key x hx
  unfold WideElems.rd
  rw [ha, keyOf_int_mk hk hw]
  rfl
theorem MOk.own {P : Program} {k : TypeId} (hk : P.underlying k = some (.int .i64)) {es : Array MapEntry} {ck : Nat} (h : MOk es ck) {w : World} {b : Nat} (hb : w.heap[b]? = some (.map es ck)) :
    w.ownsMap P k freeR b es.size (.map ((es.toList.map (WideElems.rg P k freeR)).foldr DataW.insert [])) :=
  ⟨es, ck, hb, ⟨by have := h.size; unfold maxLen; omega, h.st, fun x hx => ⟨_, h.rd hk hx⟩⟩, Nat.le_refl _, rfl⟩
theorem MOk.keys {P : Program} {k : TypeId} (hk : P.underlying k = some (.int .i64)) {es : Array MapEntry} {ck : Nat} (h : MOk es ck) : (intKeys (H := Unit) (.map ((es.toList.map (WideElems.rg P k freeR)).foldr DataW.insert []))).Perm (mKeys es) := by
  have h1 := (WideShapes.sorted_perm (es.toList.map (WideElems.rg P k freeR))).map (fun p => intOf p.1)
  refine h1.trans ?_
  rw [List.map_map]
  have : es.toList.map ((fun p : Lit × DataW Unit => intOf p.1) ∘ WideElems.rg P k freeR) = mKeys es := List.map_congr_left fun x hx => by
    show intOf (WideElems.rg P k freeR x).1 = kInt x.key
    unfold WideElems.rg
    rw [h.rd hk hx]; rfl
  rw [this]
theorem row_own {w' : World} {base : Nat} {T : TypeId} {v : Value} {ss : List Int} (h : w'.ownsRow base T 1 v ss.length (ss.map encZ)) : ∃ ao c, v = .slice ao ss.length c ∧ OwnSat w' T 1 ao ss.length c (ss.map fun x => [.int .i64 x]) ∧ ∀ a, ao = some a → base ≤ a.block := by
  have hrow : RowsOk 1 (ss.map fun x => [Value.int .i64 x]) := fun r hr => by
    obtain ⟨x, _, rfl⟩ := List.mem_map.1 hr
    exact ⟨rfl, fun u hu => by rw [List.mem_singleton.1 hu]; rfl⟩
  have hfl : (ss.map fun x => [Value.int .i64 x]).flatten = ss.map encZ := by
    clear h hrow
    induction ss with
    | nil => rfl
    | cons x l ih =>
      show Value.int .i64 x :: (l.map fun x => [Value.int .i64 x]).flatten = _
      rw [ih]; rfl
  rcases h.2 with ⟨rfl, h0⟩ | ⟨g, cap, cur, rfl, h1, h2, h3, h4, h5, h6⟩
  · rw [h0]
    refine ⟨none, 0, rfl, ⟨by simp [h0], hrow, Nat.le_refl _, Nat.zero_le _, fun _ => rfl, fun a ha => by cases ha⟩, fun a ha => by cases ha⟩
  · refine ⟨some ⟨g, 0, none⟩, cap, rfl, ⟨by simp, hrow, h3, h4, (fun h => by cases h), fun a ha => ?_⟩, fun a ha => ?_⟩
    · cases ha
      refine ⟨rfl, cur, h2, by simp only; omega, fun j u hj => ?_⟩
      rw [hfl, ← h6] at hj
      rw [List.getElem?_take] at hj
      split at hj
      · simpa using hj
      · cases hj
    · cases ha; exact h1
theorem fn_row {P : Program} {f : FuncId} {args : Array Value} {L : List It} {T : TypeId} {S : List Int → Prop}
    (h : ∀ w, (∀ x ∈ L, x.sat w) → Calls P f args w fun e w' => ∃ (v : Value) (ss : List Int), e = .returned v ∧ S ss ∧ w'.ownsRow w.heap.size T 1 v ss.length (ss.map encZ) ∧ Below w.heap.size w w') :
    Fn P f args L [] (fun v L' R' => ∃ ao ss c, v = .slice ao (ss : List Int).length c ∧ S ss ∧ L' = .own T 1 ao ss.length c (ss.map fun x => [.int .i64 x]) :: L ∧ R' = []) := fun w hw =>
  (h w hw.sat).mono fun e w' ⟨v, ss, he, hS, hrow, hb⟩ => by
    obtain ⟨ao, c, rfl, h1, h2⟩ := row_own hrow
    refine ⟨_, _, [], he, ⟨ao, ss, c, rfl, hS, rfl, rfl⟩, ?_⟩
    exact (hw.step (w' := w') (F := L) (L := []) (T' := []) (.refl _) (by simp) (Sat.one (y := .own T 1 ao ss.length c (ss.map fun x => [.int .i64 x])) ⟨hb.os, hb.tape, hb.output, hb.size, fun k hk _ => hb.block k hk⟩ h1 (fun b hbb => by
      cases ao with
      | none => cases hbb
      | some a => obtain rfl := Option.some.inj hbb; exact .inr (h2 a rfl)))).some_ro (fun r hr => by simp at hr)
theorem fn_keys {P : Program} {f g : FuncId} {mt : TypeId} (mb : Option Nat)
    (h : ∀ w, Calls P f #[.map mb] w fun e w' => e = .returned (.func (.func g) #[] #[.pointer (some ⟨w.heap.size, 0, none⟩)]) ∧ w' = w.alloc (.cells #[.map mb] mt)) :
    Fn P f #[.map mb] [] [] (fun v L' R' => ∃ bx, v = .func (.func g) #[] #[.pointer (some ⟨bx, 0, none⟩)] ∧ L' = [.ob bx (.cells #[.map mb] mt (0, 0))] ∧ R' = []) := fun w hw =>
  (h w).mono fun e w' ⟨he, hw'⟩ => by
    subst hw'
    refine ⟨_, _, [], he, ⟨w.heap.size, rfl, rfl, rfl⟩, ?_⟩
    exact (hw.step (w' := w.alloc (.cells #[.map mb] mt)) (F := []) (L := []) (R' := []) (T' := []) (.refl _) (by simp) (Sat.one (y := .ob w.heap.size (.cells #[.map mb] mt (0, 0))) ⟨rfl, rfl, rfl, by simp, fun k hk _ => Below.heap_alloc w _ k hk⟩ (heap_alloc_new w _) (fun b hbb => by
      obtain rfl := Option.some.inj hbb; exact .inr (Nat.le_refl _)))).some_ro (fun r hr => by simp at hr)
theorem itKeysD (mb : Option Nat) : Fn Try.prog 161 #[.map mb] [] [] (fun v L' R' => ∃ bx, v = .func (.func 174) #[] #[.pointer (some ⟨bx, 0, none⟩)] ∧ L' = [.ob bx (.cells #[.map mb] 279 (0, 0))] ∧ R' = []) :=
  fn_keys mb fun w => (callsIn_wide (n := 6)).1 (AnyZI.keys_in itD Fence.wide 6 trivial rfl mb w)
theorem itCol {f g kt mt : Nat} (hk : Try.prog.underlying kt = some (.int .i64)) (bx b : Nat) (es : Array MapEntry) (ck : Nat) (hm : MOk es ck)
    (hg : ∀ w : World, bx < w.heap.size → w.cell? ⟨bx, 0, none⟩ = some (.map (some b)) → ∀ {nn : Nat} {D0 : DataW Unit}, w.ownsMap Try.prog kt freeR b nn D0 → SeqGives Fence.wide 6 Try.prog g #[.pointer (some ⟨bx, 0, none⟩)] encZ (fun ss => ss.Perm (intKeys D0)) (Maps.size D0) w)
    (hc : ∀ (S : List Int → Prop) (N : Nat), N ≤ maxLen → N * 8 ≤ 140737488355328 → ∀ w : World, SeqGives Fence.wide 6 Try.prog g #[.pointer (some ⟨bx, 0, none⟩)] encZ S N w →
      CallsIn Fence.wide 8 Try.prog f #[.func (.func g) #[] #[.pointer (some ⟨bx, 0, none⟩)]] w fun e w' => ∃ (v : Value) (ss : List Int), e = .returned v ∧ S ss ∧ w'.ownsRow w.heap.size kt 1 v ss.length (ss.map encZ) ∧ (v = .slice none 0 0 ↔ ss = []) ∧ RowKit.Below w.heap.size w w') :
    Fn Try.prog f #[.func (.func g) #[] #[.pointer (some ⟨bx, 0, none⟩)]] [.ob bx (.cells #[.map (some b)] mt (0, 0)), .ob b (.map es ck)] []
      (fun v L' R' => ∃ ao ss c, v = .slice ao (ss : List Int).length c ∧ ss.Perm (mKeys es) ∧ L' = .own kt 1 ao ss.length c (ss.map fun x => [.int .i64 x]) :: [.ob bx (.cells #[.map (some b)] mt (0, 0)), .ob b (.map es ck)] ∧ R' = []) :=
  fn_row (S := fun ss => ss.Perm (mKeys es)) fun w hw => by
    have h1 : w.heap[bx]? = some (.cells #[.map (some b)] mt (0, 0)) := hw _ (.head _)
    have h2 : w.heap[b]? = some (.map es ck) := hw _ (.tail _ (.head _))
    have hlt : bx < w.heap.size := (Array.getElem?_eq_some_iff.1 h1).1
    have hsz : Maps.size (.map ((es.toList.map (WideElems.rg Try.prog kt freeR)).foldr DataW.insert [])) = es.size := by
      show (List.foldr DataW.insert [] _).length = _
      rw [length_sorted]; simp
    have hs := hg w hlt (by simp [World.cell?, h1]) (hm.own hk h2)
    refine ((callsIn_wide (n := 8)).1 (hc _ _ (by rw [hsz]; have := hm.size; unfold maxLen; omega) (by rw [hsz]; have := hm.size; omega) w hs)).mono fun e w' ⟨v, ss, he, hS, hrow, _, hb⟩ => ⟨v, ss, he, hS.trans (hm.keys hk), hrow, hb⟩
theorem itColD (bx b : Nat) (es : Array MapEntry) (ck : Nat) (hm : MOk es ck) :
    Fn Try.prog 160 #[.func (.func 174) #[] #[.pointer (some ⟨bx, 0, none⟩)]] [.ob bx (.cells #[.map (some b)] 279 (0, 0)), .ob b (.map es ck)] []
      (fun v L' R' => ∃ ao ss c, v = .slice ao (ss : List Int).length c ∧ ss.Perm (mKeys es) ∧ L' = .own 2 1 ao ss.length c (ss.map fun x => [.int .i64 x]) :: [.ob bx (.cells #[.map (some b)] 279 (0, 0)), .ob b (.map es ck)] ∧ R' = []) :=
  itCol (kt := 2) Try.underlying2 bx b es ck hm (fun w h1 h2 {nn D0} h3 => AnyZI.keys_gives (ρ := itD_ren) { itD with } Fence.wide 6 trivial rfl (by omega) bx b nn D0 w h1 h2 h3)
    (fun S N h1 h2 w hs => AnyZI.collect_in itE Fence.wide 8 trivial trivial rfl (by omega) _ _ trivial (enters_of Try.func174 (by kernel_rfl) rfl) S N h1 h2 w hs)
end Go.Proofs.Ytlhlidmhlhodiaa
