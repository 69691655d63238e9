/-
  Texts of this proof, laid together (part 7 of 7).
-/
import Derived.Test.YtlhlidmhlhodiaaB6
/-
  Package ingress: frames, of one thing.
-/
namespace Go.Proofs.Ytlhlidmhlhodiaa
set_option linter.unusedSimpArgs false
set_option linter.unusedVariables false
open Go.RowKit
attribute [local irreducible] Pv WO WC Fn
set_option maxRecDepth 100000
attribute [local irreducible] ByteArray.extract

theorem fKey (A : Option Addr) (n c : Nat) (U : List Un) (u0 : Un) (h0 : U[0]? = some u0) (hn : U.length = n) : Fn Try.prog 46 #[.agg #[.slice A n c]] [u7 A n c U] [] (fun v L' R' => v = .bool u0.ky ∧ L' = [u7 A n c U] ∧ R' = []) := by
  have hr := urs_at h0
  obtain ⟨x1, x2, x3, x4, x5, x6, x7⟩ := u0
  dsimp only at hr
  have hp : 0 < n := by rcases U with _ | ⟨a, U⟩; (· cases h0); (· simp at hn; omega)
  refine fn_intro Try.func46 rfl Try.ntmps46 rfl (fun E => ?_)
  (repeat (first | ((first | (apply wo_v; rfl) ); (· first | (apply pv_ev; rfl) | (apply pv_fld; rfl) | (apply g_load; first | (apply pv_ld; rfl; (· (repeat (first | apply sel_here ))); rfl) ) | (apply g_bi; first | (apply pv_len_sl; rfl) ) | (apply g_idx; first | (apply pv_idx; rfl; rfl; omega) | (apply (pv_idx_e 0); rfl; rfl; rfl; omega) | (apply pv_idx_n; rfl; rfl; omega) | (apply (pv_idx_ar_e 0); rfl; rfl; rfl; omega; omega) | (apply (pv_idx_ar_e 1); rfl; rfl; rfl; omega; omega) | (apply (pv_idx_ar_e 2); rfl; rfl; rfl; omega; omega) | (apply (pv_idx_ar_e 3); rfl; rfl; rfl; omega; omega)) )) | apply wo_nil | apply wc_seq | apply wc_region | (apply wo_run; rfl; rfl) | (apply wo_skip; rfl; rfl; rfl; rfl) | (apply wo_skip_u; rfl; rfl; rfl) | (apply a_gt; rfl; rfl; (· first | assumption | omega)) | (apply wo_box1; rfl; rfl; rfl; intro bx) | (apply wo_boxa; rfl; rfl; intro bx) ))
  refine wo_some (ao := A) (by (repeat (first | apply sel_here | apply sel_there)); done) (by omega) ?_
  rintro bs os rfl
  (repeat (first | ((first | (apply wo_v; rfl) ); (· first | (apply pv_ev; rfl) | (apply pv_fld; rfl) | (apply g_load; first | (apply pv_ld; rfl; (· (repeat (first | apply sel_there))); rfl) | (apply pv_ld_ownf; rfl; (· (repeat (first | apply sel_here | apply sel_there))); (· assumption); rfl) ) | (apply g_pick; first | (apply pv_pick_t; rfl; rfl) ) | (apply g_idx; first | (apply pv_idx; rfl; rfl; omega) ) )) | apply wo_nil | apply wc_ret | (apply wo_run; rfl; rfl) ))
  exact ret1 rfl rfl ⟨rfl, rfl, rfl⟩ ((by (repeat (first | apply sub_nil | (apply sub_cons; (· (repeat (first | apply sel_here | apply sel_there)))))); done) : List.Perm _ ([_] ++ _)) (by first | exact fun _ h => h | (intro r hr; cases hr; done) | (simp; done) | exact fun _ h => List.mem_append_left _ h | (intro r hr; simp [hr]; done))
abbrev frO (ao : Option Addr) (n c : Nat) (xs : List (List Value)) : It := .own 104 1 ao n c xs
abbrev frV (ao : Option Addr) (n c : Nat) : Value := .agg #[.slice ao n c]
abbrev frB' (b : Nat) (v : Value) : It := .ob b (.cells #[v] 104 (0, 0))
def tblFs (g bB bM : Nat) (sm cl' : Int) (mp : Nat) (ks : Int) (us : Value) (wh lo : Int) (ck : Nat) (n : Nat) (U : List Un) (u : Un) (mk : Bool) : Nat → List (List It) → Value → List (List It) → Prop := fun k Ls v Ms => match k, Ls with
  | 6, _ => v = .agg (urow u).toArray ∧ Ms = [[srI g bB bM true sm true cl' mp ks], [.ob mp (m0 ck)], [mkI bM us wh lo]]
  | 7, _ => ∃ a2 c2, v = .tuple #[bif mk then frV a2 (n + 1) c2 else frV none 0 0, .bool mk] ∧ Ms = [[mkI bM (bif mk then .slice none 0 0 else .slice a2 (n + 1) c2) (bif mk then wh + 1 else wh) lo], [u7 a2 (n + 1) c2 (U ++ [u])]]
  | 11, _ => ∃ b, v = .pointer (some ⟨b, 0, none⟩) ∧ Ms = [[frB' b (.slice none 0 0)]]
  | 12, [[.own T sz a2 n2 c2 xs], [.ob b _]] => v = undef ∧ Ms = [[.own T sz a2 n2 c2 xs], [frB' b (bif mk then .slice a2 n2 c2 else .slice none 0 0)]]
  | _, _ => False
def FmS (g bB bM : Nat) (sm : Int) (mp : Nat) (ks : Int) (L : List It) : Prop := ∃ cb cl, L = [srI g bB bM true sm cb cl mp ks]
theorem famFs (g bB bM : Nat) (sm cl' : Int) (mp : Nat) (ks : Int) (us : Value) (wh lo : Int) (ck : Nat) (n : Nat) (U : List Un) (u : Un) (mk : Bool) (i : Nat) (m : Nat → List It) (v : Value) (Ms : List (List It)) (hF : FmS g bB bM sm mp ks (m 0))
    (ht : tblFs g bB bM sm cl' mp ks us wh lo ck n U u mk i ((aslL [(6, [0, 1, 2]), (7, [2, 3]), (11, [4]), (12, [3, 4])] i).map m) v Ms) (hl : Ms.length = (aslL [(6, [0, 1, 2]), (7, [2, 3]), (11, [4]), (12, [3, 4])] i).length) :
    FmS g bB bM sm mp ks (updL m (aslL [(6, [0, 1, 2]), (7, [2, 3]), (11, [4]), (12, [3, 4])] i) Ms 0) := by
  by_cases h6 : i = 6
  · subst h6
    obtain ⟨_, rfl⟩ := ht
    exact ⟨true, cl', rfl⟩
  · have h0 : (0 : Nat) ∉ aslL [(6, [0, 1, 2]), (7, [2, 3]), (11, [4]), (12, [3, 4])] i := by
      simp only [aslL]
      have h6' : Nat.beq 6 i = false := by
        cases h : Nat.beq 6 i
        · rfl
        · exact absurd (Nat.eq_of_beq_eq_true h).symm h6
      rw [h6']
      cases Nat.beq 7 i <;> cases Nat.beq 11 i <;> cases Nat.beq 12 i <;> decide
    rw [updL_ne _ _ _ h0]
    exact hF
abbrev FrPost (g bB bM : Nat) (sm cl' : Int) (mp : Nat) (ks : Int) (wh lo : Int) (ck : Nat) (n : Nat) (U : List Un) (u : Un) (kb : Bool) : Value → List It → List Ro → Prop := fun v L' R' => ∃ a2 c2, R' = [] ∧ ((u.mrk = true ∧ ∃ o1 k1, v = .slice o1 1 k1 ∧ L' = [srI g bB bM true sm true cl' mp (bif kb then ks + 1 else ks), .ob mp (m0 ck), mkI bM (.slice none 0 0) (wh + 1) lo, u7 a2 (n + 1) c2 (U ++ [u]), frO o1 1 k1 [[.slice a2 (n + 1) c2]]])
  ∨ (u.mrk = false ∧ v = .slice none 0 0 ∧ L' = [srI g bB bM true sm true cl' mp ks, .ob mp (m0 ck), mkI bM (.slice a2 (n + 1) c2) wh lo, u7 a2 (n + 1) c2 (U ++ [u])]))
set_option maxHeartbeats 16000000 in
theorem iFrames (g bB bM : Nat) (sm : Int) (cb : Bool) (cl cl' : Int) (mp : Nat) (ks : Int) (at_ tk : Int) (pk : Value) (bn ck : Nat) (us : Value) (wh lo : Int) (ao : Option Addr) (n c : Nat) (U : List Un) (u u0 : Un) (b1 ob1 c1 : Nat) (hks : 0 ≤ ks ∧ ks ≤ 1000000)
    (qu : Fn Try.prog 139 #[.pointer (some ⟨g, 0, none⟩), thV at_ ByteArray.empty tk] [srI g bB bM true sm cb cl mp ks, .ob mp (m1 .i64 at_ pk bn ck), mkI bM us wh lo] []
      (fun v L' R' => v = .agg (urow u).toArray ∧ L' = [srI g bB bM true sm true cl' mp ks, .ob mp (m0 ck), mkI bM us wh lo] ∧ R' = []))
    (qm : Fn Try.prog 138 #[.pointer (some ⟨bM, 0, none⟩), .agg (urow u).toArray] [mkI bM us wh lo, u7 ao n c U] [] (PutPost bM n U u wh lo))
    (hU : U.length = n) (hu0 : (U ++ [u])[0]? = some u0) :
    Fn Try.prog 97 #[.pointer (some ⟨g, 0, none⟩), .slice (some ⟨b1, ob1, none⟩) 1 c1] [srI g bB bM true sm cb cl mp ks, .ob mp (m1 .i64 at_ pk bn ck), mkI bM us wh lo, u7 ao n c U, thO (some ⟨b1, ob1, none⟩) 1 c1 [[.int .i64 at_, .string ByteArray.empty, .int .i64 tk]]] []
      (FrPost g bB bM sm cl' mp ks wh lo ck n U u u0.ky) := by
  have hrow : ([[.int .i64 at_, .string ByteArray.empty, .int .i64 tk]] : List (List Value))[0]? = some [.int .i64 at_, .string ByteArray.empty, .int .i64 tk] := rfl
  have qk := fun A c => fKey A (n + 1) c (U ++ [u]) u0 hu0 (by rw [List.length_append, hU]; rfl)
  refine fn_intro Try.func97 rfl Try.ntmps97 rfl (fun E => ?_)
  (repeat (first | ((first | (apply wo_v; rfl) ); (· first | (apply pv_ev; rfl) | (apply g_bi; first | (apply pv_len_sl; rfl) ) )) | apply wo_nil | apply wc_seq | apply wc_region ))
  refine wc_own0 104 1 ?_
  refine wc_block ?_
  refine wc_loop' (fun q st => (q = 1 ∧ st = ⟨[(0, .pointer (some ⟨g, 0, none⟩)), (5, .slice none 0 0), (10, .slice (some ⟨b1, ob1, none⟩) 1 c1), (11, .int .i64 1), (12, .int .i64 0)], [srI g bB bM true sm cb cl mp ks, .ob mp (m1 .i64 at_ pk bn ck), mkI bM us wh lo, u7 ao n c U, thO (some ⟨b1, ob1, none⟩) 1 c1 [[.int .i64 at_, .string ByteArray.empty, .int .i64 tk]], frO none 0 0 []], []⟩)
    ∨ (q = 0 ∧ ∃ a2 c2 o1 k1, u.mrk = true ∧ st = ⟨[(5, .slice o1 1 k1), (11, .int .i64 1), (12, .int .i64 1)], [srI g bB bM true sm true cl' mp (bif u0.ky then ks + 1 else ks), .ob mp (m0 ck), mkI bM (.slice none 0 0) (wh + 1) lo, u7 a2 (n + 1) c2 (U ++ [u]), frO o1 1 k1 [[.slice a2 (n + 1) c2]]], []⟩)
    ∨ (q = 0 ∧ ∃ a2 c2, u.mrk = false ∧ st = ⟨[(5, .slice none 0 0), (11, .int .i64 1), (12, .int .i64 1)], [srI g bB bM true sm true cl' mp ks, .ob mp (m0 ck), mkI bM (.slice a2 (n + 1) c2) wh lo, u7 a2 (n + 1) c2 (U ++ [u])], []⟩)) (.inl ⟨rfl, rfl⟩) (wk_mk (by (repeat (first | apply wkf_nil | (apply wkf_cons; rfl))); done) (by (repeat (first | apply sub_nil | (apply sub_cons; (· (repeat (first | apply sel_here | apply sel_there)))))); done) (by first | exact fun _ h => h | (intro r hr; cases hr; done) | (simp; done) | exact fun _ h => List.mem_append_left _ h | (intro r hr; simp [hr]; done))) ?_
  rintro q st (⟨rfl, rfl⟩ | ⟨rfl, a2, c2, o1, k1, hm, rfl⟩ | ⟨rfl, a2, c2, hm, rfl⟩)
  · (repeat (first | ((first | (apply wo_v; rfl) ); (· first | (apply pv_ev; rfl) )) | apply wo_nil | apply wc_seq | apply wc_region | apply wc_skip | (apply wc_true; rfl) ))
    refine wc_block ?_
    (repeat (first | ((first | (apply wo_v; rfl) ); (· first | (apply pv_ev; rfl) | (apply g_load; first | (apply pv_lda; rfl; (· (repeat (first | apply sel_there))); (· (repeat (first | fail )))) | (apply pv_ld_owna; rfl; (· (repeat (first | apply sel_here | apply sel_there))); (· assumption)) ) | (apply g_idx; first | (apply pv_idx; rfl; rfl; omega) | (apply (pv_idx_e 0); rfl; rfl; rfl; omega) ) )) | apply wo_nil | apply wc_seq | apply wc_region | (apply wo_alloc; rfl; intro bx) | (apply wo_sta; rfl; rfl; rfl; rfl; (· (repeat (first | apply sel_here ))); (· (repeat (first | apply LayAt.nil | apply LayAt.here ))); rfl) ))
    obtain ⟨b7, hb7⟩ : ∃ g, g = bx := ⟨_, rfl⟩
    subst hb7
    cases hmk : u.mrk with
    | true =>
      refine wc_regF (FmS g bB bM sm mp ks) 0 [] [0, 1, 2, 3, 4] (aslL [(6, [0, 1, 2]), (7, [2, 3]), (11, [4]), (12, [3, 4])]) (tblFs g bB bM sm cl' mp ks us wh lo ck n U u true) ([thB b7 at_ ByteArray.empty tk, thO (some ⟨b1, ob1, none⟩) 1 c1 [[.int .i64 at_, .string ByteArray.empty, .int .i64 tk]], frO none 0 0 []]) (fm [(0, [srI g bB bM true sm cb cl mp ks]), (1, [.ob mp (m1 .i64 at_ pk bn ck)]), (2, [mkI bM us wh lo]), (3, [u7 ao n c U]), (4, [])]) mixed (by kernel_rfl) (by kernel_rfl) (fun _ h => by cases h) (by decide) (by decide) (famFs g bB bM sm cl' mp ks us wh lo ck n U u true) ⟨cb, cl, rfl⟩ (aslL_ok (by decide)) (by (repeat (first | (apply prm_cons; (· (repeat (first | apply sel_here | apply sel_there)))) | apply List.Perm.nil )); done) ?_
      refine .val rfl rfl (pv_move rfl) (.val rfl rfl (pv_nil rfl) (.val rfl rfl (pv_fld rfl) (.vst (v := .pointer (some ⟨bM, 0, none⟩)) rfl rfl ?_ ?_)))
      · rintro L ⟨cb', cl2, rfl⟩
        exact pv_ld rfl (by (repeat (first | apply sel_here )); done) rfl
      refine .done ?_
      (repeat (first | (apply HdM.val; rfl; rfl; (· first | apply gok_none ); (· first | (apply pv_ev; rfl) | (apply g_load; first | (apply pv_lda; rfl; (· (repeat (first | apply sel_here ))); (· (repeat (first | apply Cut.here0 | apply Cut.here )))) ) )) ))
      (refine hm_eff (cs := [0, 1, 2]) rfl (by decide) rfl rfl (by first | exact gok_none | exact gok_run rfl rfl) (fun a ha => outc_mono (outc_call (F1 := _) (T := fun v M => v = .agg (urow u).toArray ∧ M = [srI g bB bM true sm true cl' mp ks, .ob mp (m0 ck), mkI bM us wh lo]) qu rfl (by (repeat (first | apply sub_nil )); done) (by first | exact fun _ h => h | (intro r hr; cases hr; done) | (simp; done) | exact fun _ h => List.mem_append_left _ h | (intro r hr; simp [hr]; done)) (by rintro v L' R' ⟨rfl, rfl, _⟩; exact ⟨_, ⟨rfl, rfl⟩, (by (repeat (first | (apply prm_cons; (· (repeat (first | apply sel_here )))) | apply List.Perm.nil )); done)⟩) a ha) (fun v M h => ⟨[[_], [_], [_]], ⟨h.1, rfl⟩, rfl, h.2⟩)) (⟨_, _, ⟨rfl, rfl⟩, rfl⟩) ?_; rintro v Ms ⟨rfl, rfl⟩ _; simp only [setls, setl, reduceIte, Nat.reduceEqDiff]; (repeat (first | (apply HdM.val; rfl; rfl; (· first | fail ); (· first | fail )) )))
      (refine hm_eff (cs := [2, 3]) rfl (by decide) rfl rfl (by first | exact gok_none | exact gok_run rfl rfl) (fun a ha => outc_mono (outc_call (F1 := _) (T := fun v M => ∃ a2 c2, v = .tuple #[bif true then frV a2 (n + 1) c2 else frV none 0 0, .bool true] ∧ M = [mkI bM (bif true then .slice none 0 0 else .slice a2 (n + 1) c2) (bif true then wh + 1 else wh) lo, u7 a2 (n + 1) c2 (U ++ [u])]) qm rfl (by (repeat (first | apply sub_nil )); done) (by first | exact fun _ h => h | (intro r hr; cases hr; done) | (simp; done) | exact fun _ h => List.mem_append_left _ h | (intro r hr; simp [hr]; done)) (by rintro v L' R' ⟨a2, c2, rfl, ⟨h, rfl, rfl⟩ | ⟨h, rfl, rfl⟩⟩; (· first | (exact ⟨_, ⟨a2, c2, rfl, rfl⟩, (by (repeat (first | (apply prm_cons; (· (repeat (first | apply sel_here )))) | apply List.Perm.nil )); done)⟩) | (rw [hmk] at h; cases h)); (· first | (exact ⟨_, ⟨a2, c2, rfl, rfl⟩, (by (repeat (first | (apply prm_cons; (· (repeat (first | apply sel_there)))) )); done)⟩) | (rw [hmk] at h; cases h))) a ha) (fun v M h => by obtain ⟨a2, c2, h1, h2⟩ := h; exact ⟨[[_], [_]], ⟨a2, c2, h1, rfl⟩, rfl, h2⟩)) (⟨_, _, ⟨none, 0, rfl, rfl⟩, rfl⟩) ?_; rintro v Ms ⟨a2, c2, rfl, rfl⟩ _; simp only [setls, setl, reduceIte, Nat.reduceEqDiff]; (repeat (first | (apply HdM.val; rfl; rfl; (· first | apply gok_none ); (· first | (apply pv_ev; rfl) )) )))
      (refine hm_eff (cs := [4]) rfl (by decide) rfl rfl (by first | exact gok_none | exact gok_run rfl rfl) (fun a ha => outc_mono (outc_alloc a ha) (fun v M h => Exists.elim h fun b h => ⟨[M], Exists.intro b (And.intro h.1 (congrArg (fun x => [x]) h.2)), rfl, by simp⟩)) (⟨_, _, Exists.intro 0 (And.intro rfl rfl), rfl⟩) ?_; rintro v Ms ⟨b8, rfl, rfl⟩ _; simp only [setls, setl, reduceIte, Nat.reduceEqDiff]; (repeat (first | fail )))
      (refine hm_eff (cs := [3, 4]) rfl (by decide) rfl rfl (by first | exact gok_none | exact gok_run rfl rfl) (fun a ha => outc_mono (outc_frA (X := [u7 a2 (n + 1) c2 (U ++ [u])]) (L := [frB' b8 (.slice none 0 0)]) (outc_sta rfl rfl rfl rfl (by (repeat (first | apply LayAt.nil | apply LayAt.here )); done)) a ha) (fun v M h => by obtain ⟨M0, ⟨h1, h2⟩, h3⟩ := h; exact ⟨[[_], [_]], ⟨h1, rfl⟩, rfl, by rw [h3, h2]; rfl⟩)) (⟨_, _, ⟨rfl, rfl⟩, rfl⟩) ?_; rintro v Ms ⟨rfl, rfl⟩ _; simp only [setls, setl, reduceIte, Nat.reduceEqDiff]; (repeat (first | (apply HdM.val; rfl; rfl; (· first | apply gok_none ); (· first | (apply pv_ev; rfl) )) )))
      (refine HdM.nil ?_; intro H hH; simp only [Hp, fm, look, setl, List.flatMap_cons, List.flatMap_nil, reduceIte, Nat.reduceEqDiff, Option.getD_some, List.append_nil, List.cons_append, List.nil_append] at hH; subst hH)
      simp only [cond_true]
      (repeat (first | ((first | (apply wo_v; rfl) ); (· first | (apply pv_ev; rfl) | (apply g_load; first | (apply pv_lda; rfl; (· (repeat (first | apply sel_here | apply sel_there))); (· (repeat (first | apply Cut.here0 | apply Cut.here )))) ) | (apply g_un; first | (apply pv_not_t; rfl) ) )) | apply wo_nil | apply wc_seq | apply wc_region | apply wc_skip | (apply wc_true; rfl) | (apply wc_false; rfl) ))
      (refine wo_call (qk a2 c2) rfl (by (repeat (first | apply sub_nil | (apply sub_cons; (· (repeat (first | apply sel_here | apply sel_there)))))); done) (by first | exact fun _ h => h | (intro r hr; cases hr; done) | (simp; done) | exact fun _ h => List.mem_append_left _ h | (intro r hr; simp [hr]; done)) rfl ?_; rintro v L' R' ⟨rfl, rfl, rfl⟩ H' hH RR hR; simp only [List.cons_append, List.nil_append] at hH hR; subst hH; have hR := hR.symm; subst hR)
      (repeat (first | apply wo_nil | (apply wc_true; rfl) | (apply wc_false; rfl) | (apply a_dec_t; rfl; (· first | assumption | omega)) | (apply a_dec_f; rfl; (· first | assumption | omega)) | (apply a_dec_t; rfl; (· first | (simp; done) | (simp; omega))) | (apply a_dec_f; rfl; (· first | (simp; done) | (simp; omega))) ))
      cases hky : u0.ky with
      | true =>
        (repeat (first | ((first | (apply wo_v; rfl) ); (· first | (apply pv_ev; rfl) | (apply pv_fld; rfl) | (apply g_load; first | (apply pv_ld; rfl; (· (repeat (first | apply sel_here | apply sel_there))); rfl) | (apply pv_lda; rfl; (· (repeat (first | apply sel_here | apply sel_there))); (· (repeat (first | apply Cut.here0 | apply Cut.here )))) ) | (apply g_bin; first | (apply a_add; rfl; rfl; infer_instance; omega) ) | (apply g_bi; first | fail ) )) | apply wo_nil | apply wc_region | (apply wc_true; rfl) | (apply wo_st; rfl; rfl; rfl; (· (repeat (first | apply sel_here | apply sel_there))); (· (repeat (first | apply SetAt.here | apply SetAt.there))); rfl) | (apply wo_bsl; (· (repeat (first | apply Rws'.nil | (apply Rws'.one; rfl; rfl; rfl) | (apply Rws'.agg; rfl; rfl; rfl)))); rfl; rfl; rfl; rfl; intro bx) ))
        refine wo_app (ao := none) (n := 0) (m := 1) rfl rfl (by (repeat (first | apply sel_here | apply sel_there)); done) (by (repeat (first | apply sel_here )); done) (by unfold maxLen; omega) (by omega) rfl (fun o1 k1 => ?_)
        (repeat (first | ((first | (apply wo_v; rfl) ); (· first | (apply pv_ev; rfl) | (apply g_bin; first | (apply a_add; rfl; rfl; infer_instance; omega) ) )) | apply wo_nil | apply wc_region ))
        exact loop_end (.inr (.inl ⟨rfl, a2, c2, o1, k1, trivial, rfl⟩)) (by omega) (wk_mk (by (repeat (first | apply wkf_nil | (apply wkf_cons; rfl))); done) (by (repeat (first | apply sub_nil | (apply sub_cons; (· (repeat (first | apply sel_here | apply sel_there)))))); done) (by first | exact fun _ h => h | (intro r hr; cases hr; done) | (simp; done) | exact fun _ h => List.mem_append_left _ h | (intro r hr; simp [hr]; done)))
      | false =>
        (repeat (first | ((first | (apply wo_v; rfl) ); (· first | (apply pv_ev; rfl) | (apply g_load; first | (apply pv_lda; rfl; (· (repeat (first | apply sel_here | apply sel_there))); (· (repeat (first | apply Cut.here0 | apply Cut.here )))) ) | (apply g_bi; first | fail ) )) | apply wc_region | apply wc_skip | (apply wc_true; rfl) | (apply wc_false; rfl) | (apply wo_bsl; (· (repeat (first | apply Rws'.nil | (apply Rws'.one; rfl; rfl; rfl) | (apply Rws'.agg; rfl; rfl; rfl)))); rfl; rfl; rfl; rfl; intro bx) ))
        refine wo_app (ao := none) (n := 0) (m := 1) rfl rfl (by (repeat (first | apply sel_here | apply sel_there)); done) (by (repeat (first | apply sel_here )); done) (by unfold maxLen; omega) (by omega) rfl (fun o1 k1 => ?_)
        (repeat (first | ((first | (apply wo_v; rfl) ); (· first | (apply pv_ev; rfl) | (apply g_bin; first | (apply a_add; rfl; rfl; infer_instance; omega) ) )) | apply wo_nil | apply wc_region ))
        exact loop_end (.inr (.inl ⟨rfl, a2, c2, o1, k1, trivial, rfl⟩)) (by omega) (wk_mk (by (repeat (first | apply wkf_nil | (apply wkf_cons; rfl))); done) (by (repeat (first | apply sub_nil | (apply sub_cons; (· (repeat (first | apply sel_here | apply sel_there)))))); done) (by first | exact fun _ h => h | (intro r hr; cases hr; done) | (simp; done) | exact fun _ h => List.mem_append_left _ h | (intro r hr; simp [hr]; done)))
    | false =>
      refine wc_regF (FmS g bB bM sm mp ks) 0 [] [0, 1, 2, 3, 4] (aslL [(6, [0, 1, 2]), (7, [2, 3]), (11, [4]), (12, [3, 4])]) (tblFs g bB bM sm cl' mp ks us wh lo ck n U u false) ([thB b7 at_ ByteArray.empty tk, thO (some ⟨b1, ob1, none⟩) 1 c1 [[.int .i64 at_, .string ByteArray.empty, .int .i64 tk]], frO none 0 0 []]) (fm [(0, [srI g bB bM true sm cb cl mp ks]), (1, [.ob mp (m1 .i64 at_ pk bn ck)]), (2, [mkI bM us wh lo]), (3, [u7 ao n c U]), (4, [])]) mixed (by kernel_rfl) (by kernel_rfl) (fun _ h => by cases h) (by decide) (by decide) (famFs g bB bM sm cl' mp ks us wh lo ck n U u false) ⟨cb, cl, rfl⟩ (aslL_ok (by decide)) (by (repeat (first | (apply prm_cons; (· (repeat (first | apply sel_here | apply sel_there)))) | apply List.Perm.nil )); done) ?_
      refine .val rfl rfl (pv_move rfl) (.val rfl rfl (pv_nil rfl) (.val rfl rfl (pv_fld rfl) (.vst (v := .pointer (some ⟨bM, 0, none⟩)) rfl rfl ?_ ?_)))
      · rintro L ⟨cb', cl2, rfl⟩
        exact pv_ld rfl (by (repeat (first | apply sel_here )); done) rfl
      refine .done ?_
      (repeat (first | (apply HdM.val; rfl; rfl; (· first | apply gok_none ); (· first | (apply pv_ev; rfl) | (apply g_load; first | (apply pv_lda; rfl; (· (repeat (first | apply sel_here ))); (· (repeat (first | apply Cut.here0 | apply Cut.here )))) ) )) ))
      (refine hm_eff (cs := [0, 1, 2]) rfl (by decide) rfl rfl (by first | exact gok_none | exact gok_run rfl rfl) (fun a ha => outc_mono (outc_call (F1 := _) (T := fun v M => v = .agg (urow u).toArray ∧ M = [srI g bB bM true sm true cl' mp ks, .ob mp (m0 ck), mkI bM us wh lo]) qu rfl (by (repeat (first | apply sub_nil )); done) (by first | exact fun _ h => h | (intro r hr; cases hr; done) | (simp; done) | exact fun _ h => List.mem_append_left _ h | (intro r hr; simp [hr]; done)) (by rintro v L' R' ⟨rfl, rfl, _⟩; exact ⟨_, ⟨rfl, rfl⟩, (by (repeat (first | (apply prm_cons; (· (repeat (first | apply sel_here )))) | apply List.Perm.nil )); done)⟩) a ha) (fun v M h => ⟨[[_], [_], [_]], ⟨h.1, rfl⟩, rfl, h.2⟩)) (⟨_, _, ⟨rfl, rfl⟩, rfl⟩) ?_; rintro v Ms ⟨rfl, rfl⟩ _; simp only [setls, setl, reduceIte, Nat.reduceEqDiff]; (repeat (first | (apply HdM.val; rfl; rfl; (· first | fail ); (· first | fail )) )))
      (refine hm_eff (cs := [2, 3]) rfl (by decide) rfl rfl (by first | exact gok_none | exact gok_run rfl rfl) (fun a ha => outc_mono (outc_call (F1 := _) (T := fun v M => ∃ a2 c2, v = .tuple #[bif false then frV a2 (n + 1) c2 else frV none 0 0, .bool false] ∧ M = [mkI bM (bif false then .slice none 0 0 else .slice a2 (n + 1) c2) (bif false then wh + 1 else wh) lo, u7 a2 (n + 1) c2 (U ++ [u])]) qm rfl (by (repeat (first | apply sub_nil )); done) (by first | exact fun _ h => h | (intro r hr; cases hr; done) | (simp; done) | exact fun _ h => List.mem_append_left _ h | (intro r hr; simp [hr]; done)) (by rintro v L' R' ⟨a2, c2, rfl, ⟨h, rfl, rfl⟩ | ⟨h, rfl, rfl⟩⟩; (· first | (exact ⟨_, ⟨a2, c2, rfl, rfl⟩, (by (repeat (first | (apply prm_cons; (· (repeat (first | apply sel_there)))) )); done)⟩) | (rw [hmk] at h; cases h)); (· first | (exact ⟨_, ⟨a2, c2, rfl, rfl⟩, (by (repeat (first | (apply prm_cons; (· (repeat (first | apply sel_here )))) | apply List.Perm.nil )); done)⟩) | (rw [hmk] at h; cases h))) a ha) (fun v M h => by obtain ⟨a2, c2, h1, h2⟩ := h; exact ⟨[[_], [_]], ⟨a2, c2, h1, rfl⟩, rfl, h2⟩)) (⟨_, _, ⟨none, 0, rfl, rfl⟩, rfl⟩) ?_; rintro v Ms ⟨a2, c2, rfl, rfl⟩ _; simp only [setls, setl, reduceIte, Nat.reduceEqDiff]; (repeat (first | (apply HdM.val; rfl; rfl; (· first | apply gok_none ); (· first | (apply pv_ev; rfl) )) )))
      (refine hm_eff (cs := [4]) rfl (by decide) rfl rfl (by first | exact gok_none | exact gok_run rfl rfl) (fun a ha => outc_mono (outc_alloc a ha) (fun v M h => Exists.elim h fun b h => ⟨[M], Exists.intro b (And.intro h.1 (congrArg (fun x => [x]) h.2)), rfl, by simp⟩)) (⟨_, _, Exists.intro 0 (And.intro rfl rfl), rfl⟩) ?_; rintro v Ms ⟨b8, rfl, rfl⟩ _; simp only [setls, setl, reduceIte, Nat.reduceEqDiff]; (repeat (first | fail )))
      (refine hm_eff (cs := [3, 4]) rfl (by decide) rfl rfl (by first | exact gok_none | exact gok_run rfl rfl) (fun a ha => outc_mono (outc_frA (X := [u7 a2 (n + 1) c2 (U ++ [u])]) (L := [frB' b8 (.slice none 0 0)]) (outc_sta rfl rfl rfl rfl (by (repeat (first | apply LayAt.nil | apply LayAt.here )); done)) a ha) (fun v M h => by obtain ⟨M0, ⟨h1, h2⟩, h3⟩ := h; exact ⟨[[_], [_]], ⟨h1, rfl⟩, rfl, by rw [h3, h2]; rfl⟩)) (⟨_, _, ⟨rfl, rfl⟩, rfl⟩) ?_; rintro v Ms ⟨rfl, rfl⟩ _; simp only [setls, setl, reduceIte, Nat.reduceEqDiff]; (repeat (first | (apply HdM.val; rfl; rfl; (· first | apply gok_none ); (· first | (apply pv_ev; rfl) )) )))
      (refine HdM.nil ?_; intro H hH; simp only [Hp, fm, look, setl, List.flatMap_cons, List.flatMap_nil, reduceIte, Nat.reduceEqDiff, Option.getD_some, List.append_nil, List.cons_append, List.nil_append] at hH; subst hH)
      simp only [cond_false]
      (repeat (first | ((first | (apply wo_v; rfl) ); (· first | (apply pv_ev; rfl) | (apply g_bin; first | (apply a_add; rfl; rfl; infer_instance; omega) ) | (apply g_un; first | (apply pv_not_t; rfl) | (apply pv_not_f; rfl) ) )) | apply wo_nil | apply wc_seq | apply wc_region | (apply wc_exit; rfl) | (apply wc_true; rfl) ))
      exact loop_end (.inr (.inr ⟨rfl, a2, c2, trivial, rfl⟩)) (by omega) (wk_mk (by (repeat (first | apply wkf_nil | (apply wkf_cons; rfl))); done) (by (repeat (first | apply sub_nil | (apply sub_cons; (· (repeat (first | apply sel_here | apply sel_there)))))); done) (by first | exact fun _ h => h | (intro r hr; cases hr; done) | (simp; done) | exact fun _ h => List.mem_append_left _ h | (intro r hr; simp [hr]; done)))
  · (repeat (first | ((first | (apply wo_v; rfl) ); (· first | (apply pv_ev; rfl) )) | apply wo_nil | apply wc_seq | apply wc_region | (apply wc_exit; rfl) | apply wc_ret | (apply wc_true; rfl) | (apply wc_false; rfl) ))
    exact retv rfl (by (repeat (first | apply RV.nil | (apply RV.tmp; rfl) )); done) (⟨a2, c2, rfl, .inl ⟨hm, o1, k1, rfl, rfl⟩⟩) (by (repeat (first | apply sub_nil )); done) (by first | exact fun _ h => h | (intro r hr; cases hr; done) | (simp; done) | exact fun _ h => List.mem_append_left _ h | (intro r hr; simp [hr]; done))
  · (repeat (first | ((first | (apply wo_v; rfl) ); (· first | (apply pv_ev; rfl) )) | apply wo_nil | apply wc_seq | apply wc_region | (apply wc_exit; rfl) | apply wc_ret | (apply wc_true; rfl) | (apply wc_false; rfl) ))
    exact retv rfl (by (repeat (first | apply RV.nil | (apply RV.tmp; rfl) )); done) (⟨a2, c2, rfl, .inr ⟨hm, rfl, rfl⟩⟩) (by (repeat (first | apply sub_nil )); done) (by first | exact fun _ h => h | (intro r hr; cases hr; done) | (simp; done) | exact fun _ h => List.mem_append_left _ h | (intro r hr; simp [hr]; done))
end Go.Proofs.Ytlhlidmhlhodiaa

/-
  Package ingress: Put, of packets in their order.
-/
namespace Go.Proofs.Ytlhlidmhlhodiaa
set_option linter.unusedSimpArgs false
set_option linter.unusedVariables false
open Go.RowKit
instance : TZV Try.prog 33 (.agg (pkR false 0 0 0 0 ByteArray.empty).toArray) := ⟨by kernel_rfl⟩
attribute [local irreducible] Pv WO WC Fn
set_option maxRecDepth 100000
attribute [local irreducible] ByteArray.extract

def tblP1 (g bB bM : Nat) (at_ : Int) (cb : Bool) (cl : Int) (mp : Nat) (ks : Int) : Nat → List (List It) → Value → List (List It) → Prop := fun k Ls v Ms => match k, Ls with
  | 5, _ => v = .tuple #[.int .i64 at_, .bool true] ∧ Ms = [[srI g bB bM true at_ cb cl mp ks]]
  | _, _ => False
def tblMv (at_ : Int) (v1 : Value) (ck : Nat) : Nat → List (List It) → Value → List (List It) → Prop := fun k Ls v Ms => match k, Ls with
  | 6, [[.ob b _]] => v = undef ∧ Ms = [[.ob b (m1 .i64 at_ v1 ck (ck + 1))]]
  | _, _ => False
abbrev IPost (g bB bM : Nat) (at_ cl' : Int) (mp mq : Nat) (ks : Int) (wh lo : Int) (ck cq : Nat) (n : Nat) (U : List Un) (u : Un) (kb : Bool) : Value → List It → List Ro → Prop := fun v L' R' => ∃ a2 c2, R' = [] ∧ ((u.mrk = true ∧ ∃ o1 k1, v = .tuple #[.slice o1 1 k1, .int .i64 0] ∧ L' = [srI g bB bM true at_ true cl' mp (bif kb then ks + 1 else ks), bfI bB true (at_ + 1) mq 0, .ob mq (m0 (cq + 1)), .ob mp (m0 (ck + 1)), mkI bM (.slice none 0 0) (wh + 1) lo, u7 a2 (n + 1) c2 (U ++ [u]), frO o1 1 k1 [[.slice a2 (n + 1) c2]]])
  ∨ (u.mrk = false ∧ v = .tuple #[.slice none 0 0, .int .i64 0] ∧ L' = [srI g bB bM true at_ true cl' mp ks, bfI bB true (at_ + 1) mq 0, .ob mq (m0 (cq + 1)), .ob mp (m0 (ck + 1)), mkI bM (.slice a2 (n + 1) c2) wh lo, u7 a2 (n + 1) c2 (U ++ [u])]))
set_option maxHeartbeats 16000000 in
theorem iPut (g bB bM : Nat) (sb : Bool) (sm : Int) (cb : Bool) (cl cl' : Int) (mp mq : Nat) (ks : Int) (bg : Bool) (nx at_ tk : Int) (mrk : Bool) (sq t : Int) (pl : ByteArray) (ck cq : Nat) (us : Value) (wh lo : Int) (ao : Option Addr) (n c : Nat) (U : List Un) (u u0 : Un) (hks : 0 ≤ ks ∧ ks ≤ 1000000) (hat : 0 ≤ at_ ∧ at_ ≤ 1000000000000) (hpl : 0 < pl.size)
    (hs : Fn Try.prog 95 #[.pointer (some ⟨g, 2, none⟩), .int .u16 sq] [srI g bB bM sb sm cb cl mp ks] [] (fun v L' R' => v = .tuple #[.int .i64 at_, .bool true] ∧ L' = [srI g bB bM true at_ cb cl mp ks] ∧ R' = []))
    (hb : Fn Try.prog 96 #[.pointer (some ⟨bB, 0, none⟩), thV at_ ByteArray.empty tk] [bfI bB bg nx mq 0, .ob mq (m0 cq)] [] (BPost bB at_ ByteArray.empty tk mq cq))
    (hf : ∀ b1 ob1 c1, Fn Try.prog 97 #[.pointer (some ⟨g, 0, none⟩), .slice (some ⟨b1, ob1, none⟩) 1 c1] [srI g bB bM true at_ cb cl mp ks, .ob mp (m1 .i64 at_ (pkV mrk 96 sq t 7 pl) ck (ck + 1)), mkI bM us wh lo, u7 ao n c U, thO (some ⟨b1, ob1, none⟩) 1 c1 [[.int .i64 at_, .string ByteArray.empty, .int .i64 tk]]] []
      (FrPost g bB bM at_ cl' mp ks wh lo (ck + 1) n U u u0.ky)) :
    Fn Try.prog 42 #[.pointer (some ⟨g, 0, none⟩), pkV mrk 96 sq t 7 pl, .int .i64 tk] [srI g bB bM sb sm cb cl mp ks, bfI bB bg nx mq 0, .ob mq (m0 cq), .ob mp (m0 ck), mkI bM us wh lo, u7 ao n c U] []
      (IPost g bB bM at_ cl' mp mq ks wh lo ck cq n U u u0.ky) := by
  have hne : ¬ pl = (⟨#[]⟩ : ByteArray) := fun h => by rw [h] at hpl; exact absurd hpl (by decide)
  refine fn_intro Try.func42 rfl Try.ntmps42 rfl (fun E => ?_)
  (repeat (first | ((first | (apply wo_v; rfl) ); (· first | (apply pv_ev; rfl) )) | apply wo_nil | apply wc_seq | apply wc_region | (apply wo_box1; rfl; rfl; rfl; intro bx) | (apply wo_boxa; rfl; rfl; intro bx) ))
  obtain ⟨b4, hb4⟩ : ∃ g, g = bx := ⟨_, rfl⟩
  subst hb4
  (refine wc_regM [0] (aslL [(5, [0])]) (tblP1 g bB bM at_ cb cl mp ks) ([pkB b4 mrk 96 sq t 7 pl, bfI bB bg nx mq 0, .ob mq (m0 cq), .ob mp (m0 ck), mkI bM us wh lo, u7 ao n c U]) (fm [(0, [srI g bB bM sb sm cb cl mp ks])]) mixed (by kernel_rfl) (by kernel_rfl) (by decide) (aslL_ok (by decide)) (by (repeat (first | (apply prm_cons; (· (repeat (first | apply sel_here | apply sel_there)))) | apply List.Perm.nil )); done) ?_; (repeat (first | (apply HdM.val; rfl; rfl; (· first | apply gok_none ); (· first | (apply pv_ev; rfl) | (apply pv_fld; rfl) | (apply g_load; first | (apply pv_ld; rfl; (· (repeat (first | apply sel_here ))); rfl) ) )) )))
  (refine hm_eff (cs := [0]) rfl (by decide) rfl rfl (by first | exact gok_none | exact gok_run rfl rfl) (fun a ha => outc_mono (outc_call (F1 := _) (T := fun v M => v = .tuple #[.int .i64 at_, .bool true] ∧ M = [srI g bB bM true at_ cb cl mp ks]) hs rfl (by (repeat (first | apply sub_nil )); done) (by first | exact fun _ h => h | (intro r hr; cases hr; done) | (simp; done) | exact fun _ h => List.mem_append_left _ h | (intro r hr; simp [hr]; done)) (by rintro v L' R' ⟨rfl, rfl, _⟩; exact ⟨_, ⟨rfl, rfl⟩, (by (repeat (first | (apply prm_cons; (· (repeat (first | apply sel_here )))) | apply List.Perm.nil )); done)⟩) a ha) (fun v M h => ⟨[M], And.intro h.1 (congrArg (fun x => [x]) h.2), rfl, by simp⟩)) (⟨_, _, And.intro rfl rfl, rfl⟩) ?_; rintro v Ms ⟨rfl, rfl⟩ _; simp only [setls, setl, reduceIte, Nat.reduceEqDiff]; (repeat (first | (apply HdM.val; rfl; rfl; (· first | apply gok_none ); (· first | (apply pv_ev; rfl) )) )))
  (refine HdM.nil ?_; intro H hH; simp only [Hp, fm, look, setl, List.flatMap_cons, List.flatMap_nil, reduceIte, Nat.reduceEqDiff, Option.getD_some, List.append_nil, List.cons_append, List.nil_append] at hH; subst hH)
  (repeat (first | ((first | (apply wo_v; rfl) ); (· first | (apply pv_ev; rfl) | (apply pv_fld; rfl) | (apply g_load; first | (apply pv_ld; rfl; (· (repeat (first | apply sel_here | apply sel_there))); rfl) ) | (apply g_bin; first | (apply pv_eql_s; rfl; rfl) ) | (apply g_un; first | (apply pv_not_t; rfl) ) )) | apply wo_nil | apply wc_seq | apply wc_region | apply wc_skip | (apply wc_true; rfl) | (apply wc_false; rfl) | (apply a_dec_t; rfl; (· first | assumption | omega)) | (apply a_dec_f; rfl; (· first | assumption | omega)) ))
  refine wo_v rfl (pv_m0 rfl rfl (by (repeat (first | apply sel_here | apply sel_there)); done)) ?_
  (repeat (first | ((first | (apply wo_v; rfl) ); (· first | (apply pv_ev; rfl) | (apply g_un; first | (apply pv_not_t; rfl) | (apply pv_not_f; rfl) ) )) | apply wo_nil | apply wc_seq | apply wc_region | (apply wc_true; rfl) | (apply wo_alloc; rfl; intro bx) | (apply wo_sta; rfl; rfl; rfl; rfl; (· (repeat (first | apply sel_here ))); (· (repeat (first | apply LayAt.nil | apply LayAt.here ))); rfl) ))
  obtain ⟨b10, hb10⟩ : ∃ g, g = bx := ⟨_, rfl⟩
  subst hb10
  (refine wc_regM [0] (aslL [(6, [0])]) (tblMv at_ (pkV mrk 96 sq t 7 pl) ck) ([pkB b10 false 0 0 0 0 ByteArray.empty, pkB b4 mrk 96 sq t 7 pl, bfI bB bg nx mq 0, .ob mq (m0 cq), mkI bM us wh lo, u7 ao n c U, srI g bB bM true at_ cb cl mp ks]) (fm [(0, [.ob mp (m0 ck)])]) mixed (by kernel_rfl) (by kernel_rfl) (by decide) (aslL_ok (by decide)) (by (repeat (first | (apply prm_cons; (· (repeat (first | apply sel_here | apply sel_there)))) | apply List.Perm.nil )); done) ?_; (repeat (first | (apply HdM.val; rfl; rfl; (· first | apply gok_none ); (· first | (apply pv_ev; rfl) | (apply pv_fld; rfl) | (apply g_load; first | (apply pv_ld; rfl; (· (repeat (first | apply sel_here | apply sel_there))); rfl) | (apply pv_lda; rfl; (· (repeat (first | apply sel_here | apply sel_there))); (· (repeat (first | apply Cut.here0 | apply Cut.here )))) ) )) )))
  (refine hm_eff (cs := [0]) rfl (by decide) rfl rfl (by first | exact gok_none | exact gok_run rfl rfl) (fun a ha => outc_mono (outc_m0put rfl rfl rfl a ha) (fun v M h => ⟨[M], And.intro h.1 (congrArg (fun x => [x]) h.2), rfl, by simp⟩)) (⟨_, _, And.intro rfl rfl, rfl⟩) ?_; rintro v Ms ⟨rfl, rfl⟩ _; simp only [setls, setl, reduceIte, Nat.reduceEqDiff]; (repeat (first | fail )))
  (refine HdM.nil ?_; intro H hH; simp only [Hp, fm, look, setl, List.flatMap_cons, List.flatMap_nil, reduceIte, Nat.reduceEqDiff, Option.getD_some, List.append_nil, List.cons_append, List.nil_append] at hH; subst hH)
  (repeat (first | ((first | (apply wo_v; rfl) ); (· first | (apply pv_ev; rfl) | (apply pv_fld; rfl) | (apply g_load; first | (apply pv_ld; rfl; (· (repeat (first | apply sel_here | apply sel_there))); rfl) ) | (apply g_build; apply pv_build; (· (repeat (first | apply Bld.nil | (apply Bld.one; rfl; rfl; (· (repeat (first | apply SetAt.here | apply SetAt.there)))) )))) )) | apply wc_seq | apply wc_region ))
  (refine wo_call (hb) rfl (by (repeat (first | apply sub_nil | (apply sub_cons; (· (repeat (first | apply sel_here | apply sel_there)))))); done) (by first | exact fun _ h => h | (intro r hr; cases hr; done) | (simp; done) | exact fun _ h => List.mem_append_left _ h | (intro r hr; simp [hr]; done)) rfl ?_; rintro v L' R' ⟨oo, co, rfl, rfl, rfl⟩ H' hH RR hR; simp only [List.cons_append, List.nil_append] at hH hR; subst hH; have hR := hR.symm; subst hR)
  (repeat (first | ((first | (apply wo_v; rfl) ); (· first | (apply pv_ev; rfl) )) | apply wo_nil | apply wc_seq | apply wc_region | apply wc_skip | (apply wc_true; rfl) | (apply wc_false; rfl) ))
  refine wo_some (ao := oo) (n := 1) (by (repeat (first | apply sel_here | apply sel_there)); done) (by omega) ?_
  rintro b1 ob1 rfl
  have hf1 := hf b1 ob1 co
  (refine wo_call (hf1) rfl (by (repeat (first | apply sub_nil | (apply sub_cons; (· (repeat (first | apply sel_here | apply sel_there)))))); done) (by first | exact fun _ h => h | (intro r hr; cases hr; done) | (simp; done) | exact fun _ h => List.mem_append_left _ h | (intro r hr; simp [hr]; done)) rfl ?_; rintro v L' R' ⟨a2, c2, rfl, ⟨hm, o1, k1, rfl, rfl⟩ | ⟨hm, rfl, rfl⟩⟩ H' hH RR hR; simp only [List.cons_append, List.nil_append] at hH hR; subst hH; have hR := hR.symm; subst hR)
  · (repeat (first | ((first | (apply wo_v; rfl) ); (· first | (apply pv_ev; rfl) )) | apply wo_nil | apply wc_ret ))
    exact ret2 rfl rfl rfl ⟨a2, c2, rfl, .inl ⟨hm, o1, k1, rfl, rfl⟩⟩ ((by (repeat (first | apply sub_nil | (apply sub_cons; (· (repeat (first | apply sel_here | apply sel_there)))))); done) : List.Perm _ ([_, _, _, _, _, _, _] ++ _)) (by first | exact fun _ h => h | (intro r hr; cases hr; done) | (simp; done) | exact fun _ h => List.mem_append_left _ h | (intro r hr; simp [hr]; done))
  · simp only [List.cons_append, List.nil_append] at hH hR
    subst hH
    have hR := hR.symm
    subst hR
    (repeat (first | ((first | (apply wo_v; rfl) ); (· first | (apply pv_ev; rfl) )) | apply wo_nil | apply wc_ret ))
    exact ret2 rfl rfl rfl ⟨a2, c2, rfl, .inr ⟨hm, rfl, rfl⟩⟩ ((by (repeat (first | apply sub_nil | (apply sub_cons; (· (repeat (first | apply sel_here | apply sel_there)))))); done) : List.Perm _ ([_, _, _, _, _, _] ++ _)) (by first | exact fun _ h => h | (intro r hr; cases hr; done) | (simp; done) | exact fun _ h => List.mem_append_left _ h | (intro r hr; simp [hr]; done))
end Go.Proofs.Ytlhlidmhlhodiaa

/-
  antiphonlaw11.Stream: the packets of pictures.
-/
namespace Go.Proofs.Ytlhlidmhlhodiaa
set_option linter.unusedSimpArgs false
set_option linter.unusedVariables false
open Go.RowKit
attribute [local irreducible] Pv WO WC Fn
set_option maxRecDepth 100000
attribute [local irreducible] ByteArray.extract

structure Sg where
  i : Nat
  k : Nat
  l : Bool
def spl (i k : Nat) : ByteArray := txt (dP (decide ((k : Int) = 0))) ++ bytesOf [if (i : Int) % 3 = 0 then 0 else 1, (i : Int), (k : Int)]
def sgP (j : Nat) (x : Sg) : Pm := ⟨x.l, 96, 9 + (j : Int), 3000 * (x.i : Int), 7, spl x.i x.k⟩
def sgs : Nat → List Sg → List Pm
  | _, [] => []
  | j, x :: l => sgP j x :: sgs (j + 1) l
theorem sgs_snoc : ∀ (l : List Sg) (j : Nat) (x : Sg), sgs j (l ++ [x]) = sgs j l ++ [sgP (j + l.length) x]
  | [], _, _ => rfl
  | y :: l, j, x => by
    show sgP j y :: sgs (j + 1) (l ++ [x]) = sgP j y :: (sgs (j + 1) l ++ [sgP (j + (l.length + 1)) x])
    rw [sgs_snoc l (j + 1) x, show j + 1 + l.length = j + (l.length + 1) by omega]
theorem sgs_len : ∀ (l : List Sg) (j : Nat), (sgs j l).length = l.length
  | [], _ => rfl
  | _ :: l, j => congrArg (· + 1) (sgs_len l (j + 1))
theorem sgs_at : ∀ {l : List Sg} {j n : Nat} {x : Sg}, l[n]? = some x → (sgs j l)[n]? = some (sgP (j + n) x)
  | y :: l, j, 0, x, h => by
    obtain rfl := Option.some.inj h
    rfl
  | y :: l, j, n + 1, x, h => by
    show (sgs (j + 1) l)[n]? = _
    rw [sgs_at (l := l) (j := j + 1) (by simpa using h), show j + 1 + n = j + (n + 1) by omega]
/-- what follows what -/
def Fol (x y : Sg) : Prop := (x.l = false ∧ y.i = x.i ∧ y.k = x.k + 1) ∨ (x.l = true ∧ y.i = x.i + 1 ∧ y.k = 0)
structure WFS (L : List Sg) : Prop where
  zero : ∀ x, L[0]? = some x → x.i = 0 ∧ x.k = 0
  fol : ∀ (j : Nat) x y, L[j]? = some x → L[j + 1]? = some y → Fol x y
  bd : ∀ (j : Nat) x, L[j]? = some x → x.i ≤ 59 ∧ x.k ≤ 3
theorem WFS.nil : WFS [] := ⟨fun x h => by simp at h, fun j x y h => by simp at h, fun j x h => by simp at h⟩
theorem WFS.snoc {L : List Sg} (h : WFS L) {y : Sg} (h0 : L = [] → y.i = 0 ∧ y.k = 0) (h1 : ∀ x, L[L.length - 1]? = some x → Fol x y) (h2 : y.i ≤ 59 ∧ y.k ≤ 3) : WFS (L ++ [y]) := by
  have lst : ∀ {j x}, (L ++ [y])[j]? = some x → (j < L.length ∧ L[j]? = some x) ∨ (j = L.length ∧ x = y) := fun {j x} hj => by
    rcases Nat.lt_trichotomy j L.length with hl | hl | hl
    · rw [List.getElem?_append_left hl] at hj
      exact .inl ⟨hl, hj⟩
    · subst hl
      rw [List.getElem?_append_right (Nat.le_refl _), Nat.sub_self] at hj
      exact .inr ⟨rfl, (Option.some.inj hj).symm⟩
    · rw [List.getElem?_eq_none (by rw [List.length_append, List.length_singleton]; omega)] at hj
      cases hj
  refine ⟨fun x hx => ?_, fun j x z hx hz => ?_, fun j x hx => ?_⟩
  · rcases lst hx with ⟨_, h3⟩ | ⟨h3, rfl⟩
    · exact h.zero x h3
    · exact h0 (List.eq_nil_of_length_eq_zero h3.symm)
  · rcases lst hz with ⟨h3, h4⟩ | ⟨h3, rfl⟩
    · rcases lst hx with ⟨_, h5⟩ | ⟨h5, _⟩
      · exact h.fol j x z h5 h4
      · omega
    · rcases lst hx with ⟨_, h5⟩ | ⟨h5, _⟩
      · exact h1 x (by rw [show L.length - 1 = j by omega]; exact h5)
      · omega
  · rcases lst hx with ⟨_, h3⟩ | ⟨_, rfl⟩
    · exact h.bd j x h3
    · exact h2
/-- what is there before packet k (of n) of picture i -/
def Beg (L : List Sg) (i k n : Nat) : Prop := (L = [] → i = 0 ∧ k = 0) ∧ ∀ x, L[L.length - 1]? = some x → (k = 0 ∧ x.l = true ∧ i = x.i + 1) ∨ (0 < k ∧ x.i = i ∧ x.k + 1 = k ∧ x.l = decide (k = n))
theorem Beg.snoc {L : List Sg} {i k n : Nat} (h : Beg L i k n) (hw : WFS L) (hk : k < n) (hn : n ≤ 4) (hi : i ≤ 59) : WFS (L ++ [⟨i, k, decide (k + 1 = n)⟩]) ∧ Beg (L ++ [⟨i, k, decide (k + 1 = n)⟩]) i (k + 1) n := by
  refine ⟨hw.snoc h.1 (fun x hx => ?_) ⟨hi, by show k ≤ 3; omega⟩, fun h0 => by simp at h0, fun x hx => ?_⟩
  · rcases h.2 x hx with ⟨h1, h2, h3⟩ | ⟨h1, h2, h3, h4⟩
    · exact .inr ⟨h2, h3, h1⟩
    · rw [decide_eq_false (by omega)] at h4
      exact .inl ⟨h4, h2.symm, h3.symm⟩
  · rw [List.length_append, List.length_singleton, Nat.add_sub_cancel, List.getElem?_append_right (Nat.le_refl _), Nat.sub_self] at hx
    obtain rfl := Option.some.inj hx
    exact .inr ⟨by omega, rfl, rfl, rfl⟩
theorem Beg.next {L : List Sg} {i n : Nat} (h : Beg L i n n) (hn : 0 < n) (m : Nat) : Beg L (i + 1) 0 m :=
  ⟨fun h0 => by have := (h.1 h0).2; omega, fun x hx => by
    rcases h.2 x hx with ⟨h1, _⟩ | ⟨_, h2, _, h4⟩
    · omega
    · exact .inl ⟨rfl, by rw [h4]; simp, by omega⟩⟩
theorem Beg.any {L : List Sg} {i n : Nat} (h : Beg L i 0 n) (m : Nat) : Beg L i 0 m :=
  ⟨h.1, fun x hx => by
    rcases h.2 x hx with h1 | ⟨h1, _⟩
    · exact .inl h1
    · omega⟩
abbrev c64 (l : List Int) : List (List Value) := l.map fun x => [.int .i64 x]
theorem c64_at {l : List Int} {j : Nat} {x : Int} (h : l[j]? = some x) : (c64 l)[j]? = some [.int .i64 x] := by rw [List.getElem?_map, h]; rfl
abbrev dcB (b : Nat) (st : Bool) : It := .ob b (.cells (dL false st 0 (-1) false (-1) (-1) false (-1)).toArray 23 (0, 0))
abbrev by3 (b : Nat) (x y z : Int) : It := .own 5 1 (some ⟨b, 0, none⟩) 3 3 [[.int .u8 x], [.int .u8 y], [.int .u8 z]]
abbrev pkO' (ao : Option Addr) (n c : Nat) (xs : List (List Value)) : It := .own pkT 11 ao n c xs
def tblS (t : ByteArray) (x y z : Int) (n : Nat) (xs : List (List Value)) (row : List Value) : Nat → List (List It) → Value → List (List It) → Prop := fun k Ls v Ms => match k, Ls with
  | 14, _ => v = .string t ∧ Ms = [[]]
  | 20, _ => ∃ b, v = .slice (some ⟨b, 0, none⟩) 3 3 ∧ Ms = [[by3 b x y z]]
  | 21, [l] => v = .string (bytesOf [x, y, z]) ∧ Ms = [l]
  | 24, _ => ∃ b, v = .slice (some ⟨b, 0, none⟩) 1 1 ∧ Ms = [[pkO' (some ⟨b, 0, none⟩) 1 1 [row]]]
  | 25, [_, y] => ∃ ao2 c2, v = .slice ao2 (n + 1) c2 ∧ Ms = [[pkO' ao2 (n + 1) c2 (xs ++ [row])], y]
  | _, _ => False
set_option maxHeartbeats 16000000 in
theorem sStream (l : List Int) (A : Option Addr) (c : Nat) (R : List Ro) (hS : SQ R 1 A l.length c (c64 l)) :
    Fn Try.prog 41 #[.int .u16 9, .slice A l.length c] [] R
      (fun v L' R' => ∃ L ao c', v = .slice ao L.length c' ∧ L' = [pkO' ao L.length c' (prs' (sgs 0 L))] ∧ R' = [] ∧ WFS L ∧ L.length ≤ 59) := by
  have hTx : ∀ st : Bool, Fn Try.prog 14 #[.agg (dL false st 0 (-1) false (-1) (-1) false (-1)).toArray] [] [] (fun v L' R' => v = .string (txt (dP st)) ∧ L' = [] ∧ R' = []) := fun st => vText false st 0 (-1) false (-1) (-1) false (-1) (by cases st <;> decide) (by cases st <;> decide)
  refine fn_intro Try.func41 rfl Try.ntmps41 rfl (fun E => ?_)
  (repeat (first | ((first | (apply wo_v; rfl) ); (· first | (apply pv_ev; rfl) )) | apply wo_nil | apply wc_seq | apply wc_region | (apply wo_bsl; (· (repeat (first | apply Rws'.nil ))); rfl; rfl; rfl; rfl; intro bx) ))
  refine wc_block ?_
  refine wc_loop' (fun q st => ∃ (i : Nat) (L : List Sg) (ao : Option Addr) (c' : Nat), q = 60 - i ∧ st = ⟨[(0, .int .u16 9), (1, .slice A l.length c), (5, .slice ao L.length c'), (6, .int .i64 i)], [pkO' ao L.length c' (prs' (sgs 0 L))], R⟩ ∧ WFS L ∧ Beg L i 0 0 ∧ i ≤ L.length ∧ L.length ≤ 59)
    ⟨0, [], some ⟨bx, 0, none⟩, 0, rfl, rfl, WFS.nil, ⟨fun _ => ⟨rfl, rfl⟩, fun x h => by simp at h⟩, Nat.le_refl _, by simp⟩ (wk_mk (by (repeat (first | apply wkf_nil | (apply wkf_cons; rfl))); done) (by (repeat (first | apply sub_nil )); done) (by first | exact fun _ h => h | (intro r hr; cases hr; done) | (simp; done) | exact fun _ h => List.mem_append_left _ h | (intro r hr; simp [hr]; done))) ?_
  rintro q st ⟨i, L, ao, c', rfl, rfl, hw, hb, hi, hl⟩
  by_cases h1 : i < l.length
  · by_cases h2 : L.length < 56
    · obtain ⟨x, hx⟩ : ∃ x, l[i]? = some x := ⟨_, List.getElem?_eq_getElem h1⟩
      have hr := c64_at hx
      obtain ⟨a0, o0, rfl, hmem⟩ := hS.pos (by omega)
      have ha : bits .and .i64 x 3 = x % 4 := and_ones x 2 (by omega)
      have hxm : 0 ≤ bits .and .i64 x 3 ∧ bits .and .i64 x 3 ≤ 3 := by omega
      (repeat (first | ((first | (apply wo_v; rfl) ); (· first | (apply pv_ev; rfl) | (apply g_pick; first | (apply pv_pick_t; rfl; rfl) ) | (apply g_bi; first | (apply pv_len_sl; rfl) ) )) | apply wo_nil | apply wc_seq | apply wc_region | apply wc_skip | (apply wc_true; rfl) | (apply wc_false; rfl) | (apply a_dec_t; rfl; (· first | assumption | omega)) | (apply wo_run; rfl; rfl) | (apply wo_skip; rfl; rfl; rfl; rfl) | (apply wo_skip_u; rfl; rfl; rfl) | (apply a_gt; rfl; rfl; (· first | assumption | omega)) ))
      refine wc_block ?_
      (repeat (first | ((first | (apply wo_v; rfl) ); (· first | (apply pv_ev; rfl) | (apply g_load; first | (apply pv_ld; rfl; (· (repeat (first | apply sel_there))); rfl) | (apply pv_ld_ownf; rfl; (· (repeat (first | fail ))); (· assumption); rfl) | (apply pv_ld_own1; rfl; (· (repeat (first | apply sel_there))); (· assumption)) | (apply pv_ld_rof; rfl; (· (first | assumption )); (· assumption); rfl) | (apply pv_ld_ro1; rfl; (· (first | assumption )); (· assumption)) ) | (apply g_bin; first | (apply a_add; rfl; rfl; infer_instance; omega) | (apply pv_and; rfl; rfl) ) | (apply g_idx; first | (apply pv_idx; rfl; rfl; omega) ) )) | apply wo_nil | apply wc_seq | apply wc_region ))
      rw [ha] at hxm ⊢
      obtain ⟨n, hn⟩ : ∃ n : Nat, 1 + x % 4 = (n : Int) := ⟨(1 + x % 4).toNat, by omega⟩
      rw [hn]
      have hn4 : 1 ≤ n ∧ n ≤ 4 := by omega
      clear hn hxm ha hr hx
      refine wc_block ?_
      refine wc_loop' (fun q st => ∃ (k : Nat) (M : List Sg) (ao : Option Addr) (c' : Nat), q = n - k ∧ k ≤ n ∧ st = ⟨[(0, .int .u16 9), (1, .slice (some ⟨a0, o0, none⟩) l.length c), (5, .slice ao M.length c'), (6, .int .i64 i), (7, .int .i64 n), (29, .int .i64 n), (30, .int .i64 k)], [pkO' ao M.length c' (prs' (sgs 0 M))], R⟩ ∧ WFS M ∧ Beg M i k n ∧ M.length = L.length + k)
        ⟨0, L, ao, c', rfl, Nat.zero_le _, rfl, hw, hb.any n, rfl⟩ (wk_mk (by (repeat (first | apply wkf_nil | (apply wkf_cons; rfl))); done) (by (repeat (first | apply sub_nil )); done) (by first | exact fun _ h => h | (intro r hr; cases hr; done) | (simp; done) | exact fun _ h => List.mem_append_left _ h | (intro r hr; simp [hr]; done))) ?_
      clear hw hb
      rintro q st ⟨k, M, ao, c', rfl, hk, rfl, hw, hb, hM⟩
      by_cases hlt : k < n
      · (repeat (first | ((first | (apply wo_v; rfl) ); (· first | (apply pv_ev; rfl) )) | apply wo_nil | apply wc_seq | apply wc_region | apply wc_skip | (apply wc_true; rfl) | (apply wc_false; rfl) | (apply a_dec_t; rfl; (· first | assumption | omega)) ))
        refine wc_block ?_
        (repeat (first | ((first | (apply wo_v; rfl) ); (· first | (apply pv_ev; rfl) )) | apply wo_nil | apply wc_seq | apply wc_region ))
        (refine wo_call (vPlain) rfl (by (repeat (first | apply sub_nil )); done) (by first | exact fun _ h => h | (intro r hr; cases hr; done) | (simp; done) | exact fun _ h => List.mem_append_left _ h | (intro r hr; simp [hr]; done)) rfl ?_; rintro v L' R' ⟨rfl, rfl, rfl⟩ H' hH RR hR; simp only [List.cons_append, List.nil_append] at hH hR; subst hH; have hR := hR.symm; subst hR)
        (repeat (first | ((first | (apply wo_v; rfl) ); (· first | (apply pv_ev; rfl) | (apply pv_fld; rfl) | (apply g_bin; first | (apply pv_rem; rfl; rfl; omega) ) )) | apply wo_nil | apply wc_seq | apply wc_region | (apply wc_true; rfl) | (apply wc_false; rfl) | (apply a_dec_t; rfl; (· first | assumption | omega)) | (apply a_dec_f; rfl; (· first | assumption | omega)) | (apply a_dec_t; rfl; (· first | (simp; done) | (simp; omega))) | (apply a_dec_f; rfl; (· first | (simp; done) | (simp; omega))) | (apply wo_st; rfl; rfl; rfl; (· (repeat (first | apply sel_here ))); (· (repeat (first | apply SetAt.here | apply SetAt.there))); rfl) | (apply wo_alloc; rfl; intro bx) | (apply wo_sta; rfl; rfl; rfl; rfl; (· (repeat (first | apply sel_here ))); (· (repeat (first | apply LayAt.nil | apply LayAt.here ))); rfl) ))
        obtain ⟨b9, hb9⟩ : ∃ g, g = bx := ⟨_, rfl⟩
        subst hb9
        refine wc_join0 (fun st => st = ⟨[(0, .int .u16 9), (1, .slice (some ⟨a0, o0, none⟩) l.length c), (5, .slice ao M.length c'), (6, .int .i64 i), (7, .int .i64 n), (8, .int .i64 k), (9, .pointer (some ⟨b9, 0, none⟩)), (10, .int .u8 (if (i : Int) % 3 = 0 then 0 else 1)), (29, .int .i64 n), (30, .int .i64 k)], [dcB b9 (decide ((k : Int) = 0)), pkO' ao M.length c' (prs' (sgs 0 M))], R⟩) ?_ ?_
        · by_cases h3 : (i : Int) % 3 = 0
          · (repeat (first | ((first | (apply wo_v; rfl) ); (· first | (apply pv_ev; rfl) )) | apply wo_nil | apply wc_region | (apply wc_true; rfl) | (apply wc_false; rfl) | (apply a_dec_t; rfl; (· first | assumption | omega)) ))
            exact cut_end (by rw [if_pos h3]) (wk_mk (by (repeat (first | apply wkf_nil | (apply wkf_cons; rfl))); done) (by (repeat (first | apply sub_nil )); done) (by first | exact fun _ h => h | (intro r hr; cases hr; done) | (simp; done) | exact fun _ h => List.mem_append_left _ h | (intro r hr; simp [hr]; done)))
          · (repeat (first | apply wc_skip | (apply wc_true; rfl) | (apply wc_false; rfl) | (apply a_dec_t; rfl; (· first | assumption | omega)) | (apply a_dec_f; rfl; (· first | assumption | omega)) ))
            exact cut_end (by rw [if_neg h3]) (wk_mk (by (repeat (first | apply wkf_nil | (apply wkf_cons; rfl))); done) (by (repeat (first | apply sub_nil )); done) (by first | exact fun _ h => h | (intro r hr; cases hr; done) | (simp; done) | exact fun _ h => List.mem_append_left _ h | (intro r hr; simp [hr]; done)))
        rintro st rfl
        obtain ⟨y, hy⟩ : ∃ y, (if (i : Int) % 3 = 0 then (0 : Int) else 1) = y := ⟨_, rfl⟩
        have hy2 : 0 ≤ y ∧ y ≤ 255 := by rw [← hy]; split <;> omega
        rw [hy]
        obtain ⟨hw2, hb2⟩ := hb.snoc hw hlt hn4.2 (by omega)
        have hT := hTx (decide ((k : Int) = 0))
        have hTz := txt_le (dP (decide ((k : Int) = 0)))
        have hrow : prow (sgP (0 + M.length) ⟨i, k, decide (k + 1 = n)⟩) = pkR (decide ((k : Int) = (n : Int) - 1)) 96 (9 + (M.length : Int)) (3000 * (i : Int)) 7 (txt (dP (decide ((k : Int) = 0))) ++ bytesOf [y, (i : Int), (k : Int)]) := by
          unfold prow sgP spl
          rw [hy, Nat.zero_add, show decide (k + 1 = n) = decide ((k : Int) = (n : Int) - 1) from decide_eq_decide.2 (by omega)]
        generalize txt (dP (decide ((k : Int) = 0))) = t at hT hTz hrow
        have hz3 : (bytesOf [y, (i : Int), (k : Int)]).size = 3 := rfl
        (repeat (first | fail ))
        (refine wc_regM [0, 1, 2, 3] (aslL [(14, [3]), (20, [0]), (21, [0]), (24, [1]), (25, [2, 1])]) (tblS t y i k M.length (prs' (sgs 0 M)) (prow (sgP (0 + M.length) ⟨i, k, decide (k + 1 = n)⟩))) ([dcB b9 (decide ((k : Int) = 0))]) (fm [(0, []), (1, []), (2, [pkO' ao M.length c' (prs' (sgs 0 M))]), (3, [])]) mixed (by kernel_rfl) (by kernel_rfl) (by decide) (aslL_ok (by decide)) (by (repeat (first | (apply prm_cons; (· (repeat (first | apply sel_here )))) | apply List.Perm.nil )); done) ?_; (repeat (first | (apply HdM.val; rfl; rfl; (· first | apply gok_none ); (· first | (apply pv_ev; rfl) | (apply g_load; first | (apply pv_lda; rfl; (· (repeat (first | apply sel_here ))); (· (repeat (first | apply Cut.here0 | apply Cut.here )))) ) | (apply g_bin; first | (apply a_add; rfl; rfl; infer_instance; omega) | (apply a_sub; rfl; rfl; infer_instance; omega) | (apply a_mul; rfl; rfl; infer_instance; omega) ) | (apply g_bi; first | (apply pv_len_sl; rfl) ) | (apply g_conv; first | (apply a_conv; rfl; infer_instance; infer_instance; infer_instance; omega) ) )) )))
        rw [hrow]
        (refine hm_eff (cs := [3]) rfl (by decide) rfl rfl (by first | exact gok_none | exact gok_run rfl rfl) (fun a ha => outc_mono (outc_call (F1 := _) (T := fun v M => v = .string t ∧ M = []) (hT) rfl (by (repeat (first | apply sub_nil )); done) (by first | exact fun _ h => h | (intro r hr; cases hr; done) | (simp; done) | exact fun _ h => List.mem_append_left _ h | (intro r hr; simp [hr]; done)) (by rintro v L' R' ⟨rfl, rfl, _⟩; exact ⟨_, ⟨rfl, rfl⟩, (by (repeat (first | (apply prm_cons; (· (repeat (first | apply sel_here )))) | apply List.Perm.nil )); done)⟩) a ha) (fun v M h => ⟨[[]], And.intro h.1 rfl, rfl, h.2⟩)) ⟨_, _, And.intro rfl rfl, rfl⟩ ?_; rintro v Ms ⟨rfl, rfl⟩ _; simp only [setls, setl, reduceIte, Nat.reduceEqDiff]; (repeat (first | (apply HdM.val; rfl; rfl; (· first | apply gok_none ); (· first | (apply pv_ev; rfl) | (apply g_conv; first | (apply a_conv; rfl; infer_instance; infer_instance; infer_instance; omega) ) )) )))
        (refine hm_eff (cs := [0]) rfl (by decide) rfl rfl (by first | exact gok_none | exact gok_run rfl rfl) (fun a ha => outc_mono (outc_bsl (by (repeat (first | apply Rws'.nil | (apply Rws'.one; rfl; rfl; rfl) )); done) rfl rfl rfl a ha) (fun v M h => Exists.elim h fun b h => ⟨[M], Exists.intro b (And.intro h.1 (congrArg (fun x => [x]) h.2)), rfl, by simp⟩)) (⟨_, _, Exists.intro 0 (And.intro rfl rfl), rfl⟩) ?_; rintro v Ms ⟨b60, rfl, rfl⟩ _; simp only [setls, setl, reduceIte, Nat.reduceEqDiff]; (repeat (first | (apply HdM.val; rfl; rfl; (· first | fail ); (· first | fail )) )))
        (refine hm_eff (cs := [0]) rfl (by decide) rfl rfl (by first | exact gok_none | exact gok_run rfl rfl) (fun a ha => outc_mono (outc_pv (L := [by3 b60 y i k]) (pv_conv_bs (ns := [y, (i : Int), (k : Int)]) rfl (by (repeat (first | apply sel_here )); done) rfl) a ha) (fun v M h => ⟨[M], And.intro h.1 (congrArg (fun x => [x]) h.2), rfl, by simp⟩)) (⟨_, _, And.intro rfl rfl, rfl⟩) ?_; rintro v Ms ⟨rfl, rfl⟩ _; simp only [setls, setl, reduceIte, Nat.reduceEqDiff]; (repeat (first | (apply HdM.val; rfl; rfl; (· first | apply gok_none ); (· first | (apply pv_ev; rfl) | (apply g_bin; first | (apply a_add; rfl; rfl; infer_instance; omega) | (apply pv_add_s; rfl; rfl; omega) ) | (apply g_build; apply pv_build; (· (repeat (first | apply Bld.nil | (apply Bld.one; rfl; rfl; (· (repeat (first | apply SetAt.here | apply SetAt.there)))) )))) )) )))
        (refine hm_eff (cs := [1]) rfl (by decide) rfl rfl (by first | exact gok_none | exact gok_run rfl rfl) (fun a ha => outc_mono (outc_bsl (by (repeat (first | apply Rws'.nil | (apply Rws'.agg; rfl; rfl; rfl))); done) rfl rfl rfl a ha) (fun v M h => Exists.elim h fun b h => ⟨[M], Exists.intro b (And.intro h.1 (congrArg (fun x => [x]) h.2)), rfl, by simp⟩)) (⟨_, _, Exists.intro 0 (And.intro rfl rfl), rfl⟩) ?_; rintro v Ms ⟨b64, rfl, rfl⟩ _; simp only [setls, setl, reduceIte, Nat.reduceEqDiff]; (repeat (first | (apply HdM.val; rfl; rfl; (· first | fail ); (· first | fail )) )))
        (refine hm_eff (cs := [2, 1]) rfl (by decide) rfl rfl (by first | exact gok_none | exact gok_run rfl rfl) (fun a ha => outc_mono (outc_app_g rfl rfl (by unfold maxLen; omega) (by omega) a ha) (fun v M h => by obtain ⟨b, c, h1, h2⟩ := h; exact ⟨[[_], [_]], ⟨b, c, h1, rfl⟩, rfl, h2⟩)) (⟨_, _, ⟨none, 0, rfl, rfl⟩, rfl⟩) ?_; rintro v Ms ⟨ao2, c2, rfl, rfl⟩ _; simp only [setls, setl, reduceIte, Nat.reduceEqDiff]; (repeat (first | (apply HdM.val; rfl; rfl; (· first | apply gok_none ); (· first | (apply pv_ev; rfl) )) )))
        (refine HdM.nil ?_; intro H hH; simp only [Hp, fm, look, setl, List.flatMap_cons, List.flatMap_nil, reduceIte, Nat.reduceEqDiff, Option.getD_some, List.append_nil, List.cons_append, List.nil_append] at hH; subst hH)
        rw [show prs' (sgs 0 M) ++ [pkR (decide ((k : Int) = (n : Int) - 1)) 96 (9 + (M.length : Int)) (3000 * (i : Int)) 7 (t ++ bytesOf [y, (i : Int), (k : Int)])] = prs' (sgs 0 (M ++ [⟨i, k, decide (k + 1 = n)⟩])) from by rw [← hrow, sgs_snoc]; simp [prs']]
        (repeat (first | ((first | (apply wo_v; rfl) ); (· first | (apply pv_ev; rfl) | (apply g_bin; first | (apply a_add; rfl; rfl; infer_instance; omega) ) )) | apply wo_nil | apply wc_region ))
        exact loop_end ⟨k + 1, M ++ [⟨i, k, decide (k + 1 = n)⟩], ao2, c2, rfl, by omega, by rw [List.length_append, List.length_singleton], hw2, hb2, by rw [List.length_append, List.length_singleton]; omega⟩ (by omega) (wk_mk (by (repeat (first | apply wkf_nil | (apply wkf_cons; rfl))); done) (by (repeat (first | apply sub_nil | (apply sub_cons; (· (repeat (first | apply sel_here | apply sel_there)))))); done) (by first | exact fun _ h => h | (intro r hr; cases hr; done) | (simp; done) | exact fun _ h => List.mem_append_left _ h | (intro r hr; simp [hr]; done)))
      · have e : k = n := by omega
        subst e
        (repeat (first | ((first | (apply wo_v; rfl) ); (· first | (apply pv_ev; rfl) | (apply g_bin; first | (apply a_add; rfl; rfl; infer_instance; omega) ) )) | apply wo_nil | apply wc_seq | apply wc_region | (apply wc_exit; rfl) | (apply wc_true; rfl) | (apply wc_false; rfl) | (apply a_dec_t; rfl; (· first | assumption | omega)) | (apply a_dec_f; rfl; (· first | assumption | omega)) ))
        exact loop_end ⟨i + 1, M, ao, c', rfl, rfl, hw, (hb.next hn4.1 0), by omega, by omega⟩ (by omega) (wk_mk (by (repeat (first | apply wkf_nil | (apply wkf_cons; rfl))); done) (by (repeat (first | apply sub_nil )); done) (by first | exact fun _ h => h | (intro r hr; cases hr; done) | (simp; done) | exact fun _ h => List.mem_append_left _ h | (intro r hr; simp [hr]; done)))
    · (repeat (first | ((first | (apply wo_v; rfl) ); (· first | (apply pv_ev; rfl) | (apply g_pick; first | (apply pv_pick_t; rfl; rfl) ) | (apply g_bi; first | (apply pv_len_sl; rfl) ) )) | apply wo_nil | apply wc_seq | apply wc_region | (apply wc_exit; rfl) | apply wc_ret | (apply wc_true; rfl) | (apply wc_false; rfl) | (apply a_dec_t; rfl; (· first | assumption | omega)) | (apply a_dec_f; rfl; (· first | assumption | omega)) | (apply wo_run; rfl; rfl) | (apply wo_skip; rfl; rfl; rfl; rfl) | (apply wo_skip_u; rfl; rfl; rfl) | (apply a_gt; rfl; rfl; (· first | assumption | omega)) ))
      exact retv rfl (by (repeat (first | apply RV.nil | (apply RV.tmp; rfl) )); done) (⟨L, ao, c', rfl, rfl, rfl, hw, hl⟩) (by (repeat (first | apply sub_nil )); done) (by first | exact fun _ h => h | (intro r hr; cases hr; done) | (simp; done) | exact fun _ h => List.mem_append_left _ h | (intro r hr; simp [hr]; done))
  · (repeat (first | ((first | (apply wo_v; rfl) ); (· first | (apply pv_ev; rfl) | (apply g_pick; first | (apply pv_pick_t; rfl; rfl) | (apply pv_pick_f; rfl; rfl)) | (apply g_bi; first | (apply pv_len_sl; rfl) ) )) | apply wo_nil | apply wc_seq | apply wc_region | (apply wc_exit; rfl) | apply wc_ret | (apply wc_true; rfl) | (apply wc_false; rfl) | (apply wo_run; rfl; rfl) | (apply wo_skip; rfl; rfl; rfl; rfl) | (apply wo_skip_u; rfl; rfl; rfl) | (apply a_gt; rfl; rfl; (· first | assumption | omega)) | (apply a_gf; rfl; rfl; (· first | assumption | omega)) ))
    exact retv rfl (by (repeat (first | apply RV.nil | (apply RV.tmp; rfl) )); done) (⟨L, ao, c', rfl, rfl, rfl, hw, hl⟩) (by (repeat (first | apply sub_nil )); done) (by first | exact fun _ h => h | (intro r hr; cases hr; done) | (simp; done) | exact fun _ h => List.mem_append_left _ h | (intro r hr; simp [hr]; done))
end Go.Proofs.Ytlhlidmhlhodiaa

/-
  Package ingress: one packet of a stream more.
-/
namespace Go.Proofs.Ytlhlidmhlhodiaa
set_option linter.unusedSimpArgs false
set_option linter.unusedVariables false
open Go.RowKit
attribute [local irreducible] Pv WO WC Fn
set_option maxRecDepth 100000
attribute [local irreducible] ByteArray.extract

theorem dP_ok (st : Bool) : okA (dP st) ∧ okF (dP st) := by cases st <;> exact ⟨by decide, by decide⟩
theorem spl_prs (i k : Nat) : ∃ r, prs (spl i k) = (dP (decide ((k : Int) = 0)), r, 0) ∧ r = bytesOf [if (i : Int) % 3 = 0 then 0 else 1, (i : Int), (k : Int)] := ⟨_, prs_txt (dP_ok _).1 (dP_ok _).2 _, rfl⟩
theorem spl_size (i k : Nat) : 0 < (spl i k).size ∧ (spl i k).size ≤ 11 := by
  have h1 := txt_le (dP (decide ((k : Int) = 0)))
  have h2 : (bytesOf [if (i : Int) % 3 = 0 then 0 else 1, (i : Int), (k : Int)]).size = 3 := rfl
  unfold spl
  rw [ByteArray.size_append, h2]; omega
theorem iAll (g bB bM : Nat) (sb : Bool) (sm : Int) (cb : Bool) (cl cl' : Int) (mp mq : Nat) (ks : Int) (bg : Bool) (nx at_ tk : Int) (mrk : Bool) (sq t : Int) (pl r : ByteArray) (st kb : Bool) (ck cq : Nat) (us : Value) (wh lo : Int) (ao : Option Addr) (n c : Nat) (U : List Un) (u0 : Un) (hks : 0 ≤ ks ∧ ks ≤ 1000000) (hat : 0 ≤ at_ ∧ at_ ≤ 1000000000000) (hpl : 0 < pl.size) (hpl2 : pl.size ≤ 1000)
    (hs : Fn Try.prog 95 #[.pointer (some ⟨g, 2, none⟩), .int .u16 sq] [srI g bB bM sb sm cb cl mp ks] [] (fun v L' R' => v = .tuple #[.int .i64 at_, .bool true] ∧ L' = [srI g bB bM true at_ cb cl mp ks] ∧ R' = []))
    (hb : Fn Try.prog 96 #[.pointer (some ⟨bB, 0, none⟩), thV at_ ByteArray.empty tk] [bfI bB bg nx mq 0, .ob mq (m0 cq)] [] (BPost bB at_ ByteArray.empty tk mq cq))
    (hq : Fn Try.prog 157 #[.pointer (some ⟨g, 7, none⟩), .int .u32 t] [srI g bB bM true at_ cb cl mp ks] [] (fun v L' R' => v = .int .i64 cl' ∧ L' = [srI g bB bM true at_ true cl' mp ks] ∧ R' = []))
    (hp : prs pl = (dP st, r, 0)) (hk : keyB st 0 r = kb)
    (qm : Fn Try.prog 138 #[.pointer (some ⟨bM, 0, none⟩), .agg (urow ⟨at_, cl', mrk, st, kb, pl, tk⟩).toArray] [mkI bM us wh lo, u7 ao n c U] [] (PutPost bM n U ⟨at_, cl', mrk, st, kb, pl, tk⟩ wh lo))
    (hU : U.length = n) (hu0 : (U ++ [⟨at_, cl', mrk, st, kb, pl, tk⟩])[0]? = some u0) :
    Fn Try.prog 42 #[.pointer (some ⟨g, 0, none⟩), pkV mrk 96 sq t 7 pl, .int .i64 tk] [srI g bB bM sb sm cb cl mp ks, bfI bB bg nx mq 0, .ob mq (m0 cq), .ob mp (m0 ck), mkI bM us wh lo, u7 ao n c U] []
      (IPost g bB bM at_ cl' mp mq ks wh lo ck cq n U ⟨at_, cl', mrk, st, kb, pl, tk⟩ u0.ky) :=
  iPut g bB bM sb sm cb cl cl' mp mq ks bg nx at_ tk mrk sq t pl ck cq us wh lo ao n c U ⟨at_, cl', mrk, st, kb, pl, tk⟩ u0 hks hat hpl hs hb fun b1 ob1 c1 =>
    iFrames g bB bM at_ cb cl cl' mp ks at_ tk (pkV mrk 96 sq t 7 pl) ck (ck + 1) us wh lo ao n c U ⟨at_, cl', mrk, st, kb, pl, tk⟩ u0 b1 ob1 c1 hks
      (iUnit g bB bM at_ cb cl cl' mp ks at_ tk mrk 96 sq t 7 pl r st kb ck (ck + 1) us wh lo hq hp hpl2 hk) qm hU hu0
/-- what is known before packet j -/
structure Sr where
  sb : Bool
  sm : Int
  cb : Bool
  cl : Int
  ks : Int
  bg : Bool
  nx : Int
  wh : Int
  ao : Option Addr
  n : Nat
  c : Nat
  U : List Un
abbrev srG (g bB bM mp mq : Nat) (s : Sr) (j : Nat) : List It := [srI g bB bM s.sb s.sm s.cb s.cl mp s.ks, bfI bB s.bg s.nx mq 0, .ob mq (m0 j), .ob mp (m0 j), mkI bM (.slice s.ao s.n s.c) s.wh 0, u7 s.ao s.n s.c s.U]
def Nopen (s : Sr) : Prop := s.ao = none ∧ s.n = 0 ∧ s.c = 0
structure SOk (L : List Sg) (j : Nat) (s : Sr) : Prop where
  len : s.U.length = s.n
  ks : 0 ≤ s.ks ∧ s.ks ≤ j
  wh : 0 ≤ s.wh ∧ s.wh ≤ j
  sz : ∀ u ∈ s.U, u.tx.size ≤ 50 ∧ 0 ≤ u.ti ∧ u.ti ≤ 1000000000000
  st : (j = 0 ∧ s.sb = false ∧ s.sm = 0 ∧ s.cb = false ∧ s.cl = 0 ∧ s.bg = false ∧ s.nx = 0 ∧ Nopen s) ∨
    (∃ x, 0 < j ∧ L[j - 1]? = some x ∧ s.sb = true ∧ s.sm = 1048584 + (j : Int) ∧ s.cb = true ∧ s.cl = 68719476736 + 3000 * (x.i : Int) ∧ s.bg = true ∧ s.nx = 1048585 + (j : Int) ∧ ((x.l = true ∧ Nopen s) ∨
      (x.l = false ∧ s.n = x.k + 1 ∧ ∃ u, s.U[s.n - 1]? = some u ∧ u.at_ = 1048584 + (j : Int) ∧ u.ti = s.cl)))
/-- a frame that came out -/
structure FOk (W : List Un) (n : Nat) : Prop where
  len : W.length = n
  pos : 0 < n
  le : n ≤ 4
  sz : ∀ u ∈ W, u.tx.size ≤ 50 ∧ 0 ≤ u.ti ∧ u.ti ≤ 1000000000000
abbrev SPost (L : List Sg) (j g bB bM mp mq : Nat) (y : Sg) : Value → List It → List Ro → Prop := fun v L' R' => R' = [] ∧
  ((y.l = false ∧ v = .tuple #[.slice none 0 0, .int .i64 0] ∧ ∃ s, L' = srG g bB bM mp mq s (j + 1) ∧ SOk L (j + 1) s)
   ∨ (y.l = true ∧ ∃ o1 k1 a2 n2 c2 W s, v = .tuple #[.slice o1 1 k1, .int .i64 0] ∧ s.ao = none ∧ s.n = 0 ∧ s.c = 0 ∧ s.U = [] ∧ SOk L (j + 1) s ∧ FOk W n2
      ∧ L' = [srI g bB bM s.sb s.sm s.cb s.cl mp s.ks, bfI bB s.bg s.nx mq 0, .ob mq (m0 (j + 1)), .ob mp (m0 (j + 1)), mkI bM (.slice none 0 0) s.wh 0, u7 a2 n2 c2 W, frO o1 1 k1 [[.slice a2 n2 c2]]]))
theorem iStep (L : List Sg) (hw : WFS L) (j : Nat) (y : Sg) (hy : L[j]? = some y) (hj : j ≤ 59) (s : Sr) (hs : SOk L j s) (ha : s.n = 0 ∨ ∃ b o, s.ao = some ⟨b, o, none⟩) (g bB bM mp mq : Nat) :
    Fn Try.prog 42 #[.pointer (some ⟨g, 0, none⟩), .agg (prow (sgP (0 + j) y)).toArray, .int .i64 j] (srG g bB bM mp mq s j) [] (SPost L j g bB bM mp mq y) := by
  obtain ⟨sb, sm, cb, cl, ks, bg, nx, wh, ao, n, c, U⟩ := s
  obtain ⟨hlen, hks, hwh, hsz, hst⟩ := hs
  obtain ⟨r, hp, hr⟩ := spl_prs y.i y.k
  have hpz := spl_size y.i y.k
  have hbd := hw.bd j y hy
  obtain ⟨kb, hkb⟩ : ∃ kb, keyB (decide ((y.k : Int) = 0)) 0 r = kb := ⟨_, rfl⟩
  dsimp only at hlen hks hwh hsz hst ha
  unfold Nopen at hst
  dsimp only at hst
  -- the number and the time
  obtain ⟨at_, hat⟩ : ∃ a : Int, a = 1048585 + (j : Int) := ⟨_, rfl⟩
  obtain ⟨cl', hcl⟩ : ∃ a : Int, a = 68719476736 + 3000 * (y.i : Int) := ⟨_, rfl⟩
  have hS : Fn Try.prog 95 #[.pointer (some ⟨g, 2, none⟩), .int .u16 (9 + ((0 + j : Nat) : Int))] [srI g bB bM sb sm cb cl mp ks] [] (fun v L' R' => v = .tuple #[.int .i64 at_, .bool true] ∧ L' = [srI g bB bM true at_ cb cl mp ks] ∧ R' = []) := by
    rcases hst with ⟨rfl, rfl, rfl, _⟩ | ⟨x, h0, h1, rfl, rfl, _⟩
    · have := sxPut0 g bB bM cb cl mp ks (9 + ((0 + 0 : Nat) : Int)) (by omega)
      rw [show 1048576 + (9 + ((0 + 0 : Nat) : Int)) = at_ by omega] at this
      exact this
    · have := sxPut1 g bB bM (1048584 + (j : Int)) cb cl mp ks (9 + ((0 + j : Nat) : Int)) (by omega) (by omega) (by unfold nearD; split <;> omega)
      rw [show 1048584 + (j : Int) + 1 = at_ by omega] at this
      exact this
  have hC : Fn Try.prog 157 #[.pointer (some ⟨g, 7, none⟩), .int .u32 (3000 * (y.i : Int))] [srI g bB bM true at_ cb cl mp ks] [] (fun v L' R' => v = .int .i64 cl' ∧ L' = [srI g bB bM true at_ true cl' mp ks] ∧ R' = []) := by
    rcases hst with ⟨rfl, _, _, rfl, rfl, _⟩ | ⟨x, h0, h1, _, _, rfl, rfl, _⟩
    · have := cxPut0 g bB bM true at_ mp ks (3000 * (y.i : Int)) (by omega)
      rw [← hcl] at this
      exact this
    · have hx := hw.bd _ x h1
      have hf := hw.fol (j - 1) x y h1 (by rw [show j - 1 + 1 = j by omega]; exact hy)
      have hi : y.i = x.i ∨ y.i = x.i + 1 := by rcases hf with ⟨_, h, _⟩ | ⟨_, h, _⟩ <;> omega
      have := cxPut1 g bB bM true at_ (68719476736 + 3000 * (x.i : Int)) mp ks (3000 * (y.i : Int)) (3000 * (y.i : Int) - 3000 * (x.i : Int)) (by omega) (by omega) (by unfold nearD; split <;> omega) (by omega)
      rw [show 68719476736 + 3000 * (x.i : Int) + (3000 * (y.i : Int) - 3000 * (x.i : Int)) = cl' by omega] at this
      exact this
  have hB : Fn Try.prog 96 #[.pointer (some ⟨bB, 0, none⟩), thV at_ ByteArray.empty j] [bfI bB bg nx mq 0, .ob mq (m0 j)] [] (BPost bB at_ ByteArray.empty j mq j) := by
    rcases hst with ⟨_, _, _, _, _, rfl, rfl, _⟩ | ⟨x, h0, h1, _, _, _, _, rfl, rfl, _⟩
    · exact oPut0 bB mq at_ ByteArray.empty j j (by omega)
    · rw [← hat]; exact oPut1 bB mq at_ ByteArray.empty j j (by omega)
  have hn4 : n ≤ 3 := by
    rcases hst with ⟨_, _, _, _, _, _, _, _, h, _⟩ | ⟨x, h0, h1, _, _, _, _, _, _, ⟨_, _, h, _⟩ | ⟨h3, h4, _⟩⟩
    · omega
    · omega
    · have hf := hw.fol (j - 1) x y h1 (by rw [show j - 1 + 1 = j by omega]; exact hy)
      rcases hf with ⟨_, _, h⟩ | ⟨h, _⟩
      · omega
      · rw [h3] at h; cases h
  have hM : Fn Try.prog 138 #[.pointer (some ⟨bM, 0, none⟩), .agg (urow ⟨at_, cl', y.l, decide ((y.k : Int) = 0), kb, spl y.i y.k, j⟩).toArray] [mkI bM (.slice ao n c) wh 0, u7 ao n c U] [] (PutPost bM n U ⟨at_, cl', y.l, decide ((y.k : Int) = 0), kb, spl y.i y.k, j⟩ wh 0) := by
    have hop : (y.k = 0 ∧ ao = none ∧ n = 0 ∧ c = 0) ∨ (0 < y.k ∧ 0 < n ∧ ∃ u, U[n - 1]? = some u ∧ at_ = u.at_ + 1 ∧ cl' = u.ti ∧ u.at_ = 1048584 + (j : Int)) := by
      rcases hst with ⟨rfl, _, _, _, _, _, _, h⟩ | ⟨x, h0, h1, _, _, _, h2, _, _, ⟨h3, h⟩ | ⟨h3, h4, u, h5, h6, h7⟩⟩
      · exact .inl ⟨(hw.zero y hy).2, h⟩
      · have hf := hw.fol (j - 1) x y h1 (by rw [show j - 1 + 1 = j by omega]; exact hy)
        rcases hf with ⟨h4, _⟩ | ⟨_, _, h4⟩
        · rw [h3] at h4; cases h4
        · exact .inl ⟨h4, h⟩
      · have hf := hw.fol (j - 1) x y h1 (by rw [show j - 1 + 1 = j by omega]; exact hy)
        rcases hf with ⟨_, h8, h9⟩ | ⟨h8, _⟩
        · exact .inr ⟨by omega, by omega, u, h5, by omega, by rw [hcl, h7, h2, h8], h6⟩
        · rw [h3] at h8; cases h8
    rcases hop with ⟨hk, rfl, rfl, rfl⟩ | ⟨hk, hn, u, h5, h6, h7, h8⟩
    · obtain rfl : U = [] := List.eq_nil_of_length_eq_zero hlen
      rw [decide_eq_true (show (y.k : Int) = 0 by omega)]
      exact (fPut0 bM wh 0 at_ cl' j y.l kb (spl y.i y.k) (by omega) (by omega) (by omega)).wide [u7 none 0 0 []]
    · obtain ⟨b, o, rfl⟩ : ∃ b o, ao = some ⟨b, o, none⟩ := ha.resolve_left (by omega)
      rw [decide_eq_false (show ¬ (y.k : Int) = 0 by omega)]
      exact fPutN bM b o n c wh 0 U hlen ⟨hn, by omega⟩ at_ cl' j y.l kb (spl y.i y.k) u h5 h6 h7 (by omega) (fun u hu => (hsz u hu).1) (by omega) (by omega)
  obtain ⟨u, hu⟩ : ∃ u : Un, u = ⟨at_, cl', y.l, decide ((y.k : Int) = 0), kb, spl y.i y.k, j⟩ := ⟨_, rfl⟩
  obtain ⟨u0, hu0⟩ : ∃ u0, (U ++ [u])[0]? = some u0 := ⟨_, List.getElem?_eq_getElem (by rw [List.length_append, List.length_singleton]; omega)⟩
  have hsz2 : ∀ x ∈ U ++ [u], x.tx.size ≤ 50 ∧ 0 ≤ x.ti ∧ x.ti ≤ 1000000000000 := fun x hx => by
    rcases List.mem_append.1 hx with h | h
    · exact hsz x h
    · rw [List.mem_singleton.1 h, hu]; dsimp only; omega
  have hlen2 : (U ++ [u]).length = n + 1 := by rw [List.length_append, hlen]; rfl
  rw [hu] at hu0
  have hA := iAll g bB bM sb sm cb cl cl' mp mq ks bg nx at_ j y.l (9 + ((0 + j : Nat) : Int)) (3000 * (y.i : Int)) (spl y.i y.k) r (decide ((y.k : Int) = 0)) kb j j (.slice ao n c) wh 0 ao n c U u0 (by omega) (by omega) hpz.1 (by omega) hS hB hC hp hkb hM hlen hu0
  refine hA.mono ?_
  rintro v L' R' ⟨a2, c2, rfl, ⟨hm, o1, k1, rfl, rfl⟩ | ⟨hm, rfl, rfl⟩⟩
  · have hk2 : (0 ≤ (bif u0.ky then ks + 1 else ks)) ∧ (bif u0.ky then ks + 1 else ks) ≤ ((j + 1 : Nat) : Int) := by cases u0.ky <;> simp only [cond_true, cond_false] <;> omega
    rw [← hu]
    refine ⟨rfl, .inr ⟨hm, o1, k1, a2, n + 1, c2, U ++ [u], ⟨true, at_, true, cl', bif u0.ky then ks + 1 else ks, true, at_ + 1, wh + 1, none, 0, 0, []⟩, rfl, rfl, rfl, rfl, rfl, ⟨rfl, hk2, by dsimp only; omega, (fun u hu => by cases hu), .inr ⟨y, by omega, hy, rfl, by dsimp only; omega, rfl, hcl, rfl, by dsimp only; omega, .inl ⟨hm, rfl, rfl, rfl⟩⟩⟩, ⟨hlen2, by omega, by omega, hsz2⟩, rfl⟩⟩
  · rw [← hu]
    refine ⟨rfl, .inl ⟨hm, rfl, ⟨true, at_, true, cl', ks, true, at_ + 1, wh, a2, n + 1, c2, U ++ [u]⟩, rfl, ⟨hlen2, by dsimp only; omega, by dsimp only; omega, hsz2, .inr ⟨y, by omega, hy, rfl, by dsimp only; omega, rfl, hcl, rfl, by dsimp only; omega, .inr ⟨hm, ?_, u, ?_, ?_, ?_⟩⟩⟩⟩⟩
    · show n + 1 = y.k + 1
      rcases hst with ⟨rfl, _, _, _, _, _, _, _, h, _⟩ | ⟨x, h0, h1, _, _, _, h2, _, _, ⟨h3, _, h, _⟩ | ⟨h3, h4, _⟩⟩
      · have := (hw.zero y hy).2; omega
      · have hf := hw.fol (j - 1) x y h1 (by rw [show j - 1 + 1 = j by omega]; exact hy)
        rcases hf with ⟨h4, _⟩ | ⟨_, _, h4⟩
        · rw [h3] at h4; cases h4
        · omega
      · have hf := hw.fol (j - 1) x y h1 (by rw [show j - 1 + 1 = j by omega]; exact hy)
        rcases hf with ⟨_, h8, h9⟩ | ⟨h8, _⟩
        · omega
        · rw [h3] at h8; cases h8
    · show (U ++ [u])[n + 1 - 1]? = some u
      rw [List.getElem?_append_right (by omega), hlen, show n + 1 - 1 - n = 0 by omega]; rfl
    · rw [hu]; dsimp only; omega
    · rw [hu]
end Go.Proofs.Ytlhlidmhlhodiaa

/-
  AntiphonForward: numbers rise by one, the first picture is key.
-/
namespace Go.Proofs.Ytlhlidmhlhodiaa
set_option linter.unusedSimpArgs false
set_option linter.unusedVariables false
open Go.RowKit
theorem wc_somep {P : Program} {N : Nat} {E : Env} {fr : List (Nat × Value)} {hp F : List It} {ro : List Ro} {Kn Kr : St → Prop} {Kx : List (Nat × (St → Prop))} {c : Code} {t sz n k : Nat} {ao : Option Addr} {xs : List (List Value)} (hs : hp.Perm (.own t sz ao n k xs :: F))
    (h : (n = 0 ∨ ∃ b o, ao = some ⟨b, o, none⟩) → WC P N E c ⟨fr, hp, ro⟩ Kn Kx Kr) : WC P N E c ⟨fr, hp, ro⟩ Kn Kx Kr := by
  rcases Nat.eq_zero_or_pos n with h0 | h0
  · exact h (.inl h0)
  · exact wc_some hs h0 fun b o e => h (.inr ⟨b, o, e⟩)
attribute [local irreducible] Pv WO WC Fn
set_option maxRecDepth 100000
attribute [local irreducible] ByteArray.extract

/-- what is known of gate, rewrite, ring and map when j packets came and t were sent -/
structure FI (first : Int) (j t : Nat) (fresh o be : Bool) (sh sq pic lv src la fr pk by_ : Int) (S : List (Option Pk)) (km : List (Int × Value)) : Prop where
  rn : ∃ Q, Lay S t 500 Q ∧ Rn first t km Q ∧ QB Q 0
  t4 : t ≤ 4 * j
  sq : sq = (first + t) % 65536
  fo : fresh = true → o = false
  sh : 0 ≤ sh ∧ sh ≤ j
  pic : -1 ≤ pic ∧ pic ≤ 40000
  lv : -1 ≤ lv ∧ lv ≤ 300
  la : 0 ≤ la ∧ la ≤ 1000000000000
  src : be = true → src = 1
  fr : 0 ≤ fr ∧ fr ≤ j
  pk : 0 ≤ pk ∧ pk ≤ 4 * j
  by_ : 0 ≤ by_ ∧ by_ ≤ 10000 * j
theorem FI.more {first : Int} {j t : Nat} {fresh o be : Bool} {sh sq pic lv src la fr pk by_ : Int} {S : List (Option Pk)} {km : List (Int × Value)} (h : FI first j t fresh o be sh sq pic lv src la fr pk by_ S km) : FI first (j + 1) t fresh o be sh sq pic lv src la fr pk by_ S km := by
  obtain ⟨h1, h2, h3, h4, h5, h6, h7, h8, h9, h10, h11, h12⟩ := h
  exact ⟨h1, by omega, h3, h4, by omega, h6, h7, h8, h9, by omega, by omega, by omega⟩
theorem FI.gate {first : Int} {j t : Nat} {fresh o be : Bool} {sh sq pic lv src la fr pk by_ : Int} {S : List (Option Pk)} {km : List (Int × Value)} (h : FI first j t fresh o be sh sq pic lv src la fr pk by_ S km) {fresh2 o2 o3 : Bool} {sh2 : Int} (_ : fresh2 = true → o2 = false) (h1 : fresh2 = true → o3 = false) (h2 : 0 ≤ sh2 ∧ sh2 ≤ ((j + 1 : Nat) : Int)) : FI first (j + 1) t fresh2 o3 be sh2 sq pic lv src la fr pk by_ S km := by
  obtain ⟨p1, p2, p3, p4, p5, p6, p7, p8, p9, p10, p11, p12⟩ := h
  exact ⟨p1, by omega, p3, h1, h2, p6, p7, p8, p9, by omega, by omega, by omega⟩
abbrev fwG (gg go gr br ms t : Nat) (o be : Bool) (sh sq pic lv src la fr pk by_ : Int) (S : List (Option Pk)) (km : List (Int × Value)) : List It := [gtO gg o sh, otI go true 5 96 sq pic lv src 0 la be fr pk by_, rgO gr br 500 t 9 0 0, slO br 500 (S.map srow), .ob ms (mob .u16 km)]
abbrev fwH (g bB bM mp mq gg go gr br ms t : Nat) (s : Sr) (j : Nat) (o be : Bool) (sh sq pic lv src la fr pk by_ : Int) (S : List (Option Pk)) (km : List (Int × Value)) (X : It) : List It := [X, srI g bB bM s.sb s.sm s.cb s.cl mp s.ks, bfI bB s.bg s.nx mq 0, .ob mq (m0 j), .ob mp (m0 j), mkI bM (.slice s.ao s.n s.c) s.wh 0, u7 s.ao s.n s.c s.U,
  gtO gg o sh, otI go true 5 96 sq pic lv src 0 la be fr pk by_, rgO gr br 500 t 9 0 0, slO br 500 (S.map srow), .ob ms (mob .u16 km)]
abbrev fwK (g bB bM mp mq gg go gr br ms t : Nat) (s : Sr) (j : Nat) (o be : Bool) (sh sq pic lv src la fr pk by_ : Int) (S : List (Option Pk)) (km : List (Int × Value)) (X : It) : List It := [X, srI g bB bM s.sb s.sm s.cb s.cl mp s.ks, bfI bB s.bg s.nx mq 0, .ob mq (m0 j), .ob mp (m0 j), mkI bM (.slice none 0 0) s.wh 0,
  gtO gg o sh, otI go true 5 96 sq pic lv src 0 la be fr pk by_, rgO gr br 500 t 9 0 0, slO br 500 (S.map srow), .ob ms (mob .u16 km)]
abbrev fwS (first : Int) (As : Option Addr) (nls cs : Nat) (Aa : Option Addr) (nlq ca g gr gg go ms : Nat) (sq : Int) (fresh : Bool) (aL : Option Addr) (nL cL j : Nat) (X : List (Nat × Value)) : List (Nat × Value) := (0, .int .u16 first) :: (2, .slice As nls cs) :: (3, .slice Aa nlq ca) :: (9, .pointer (some ⟨g, 0, none⟩)) :: (11, .pointer (some ⟨gr, 0, none⟩)) :: (13, .pointer (some ⟨gg, 0, none⟩)) :: (14, .pointer (some ⟨go, 0, none⟩)) :: (15, .map (some ms)) :: (16, .int .u16 sq) :: (17, .bool fresh) :: (64, .slice aL nL cL) :: (65, .int .i64 nL) :: (66, .int .i64 j) :: X
set_option maxHeartbeats 64000000 in
theorem forward_fn (first : Int) (hf : 0 ≤ first ∧ first ≤ 65535) (lc : List Int) (Ac : Option Addr) (cc : Nat) (ls : List Int) (As : Option Addr) (cs : Nat) (lq : List Int) (Aa : Option Addr) (ca : Nat) (R : List Ro)
    (hC : SQ R 1 Ac lc.length cc (c64 lc)) (hS : SQ R 1 As ls.length cs (c64 ls)) (hA : SQ R 1 Aa lq.length ca (c16 lq)) (hb : ∀ x ∈ lq, in16 x) (hls : ls.length ≤ 9223372036854775807) :
    Fn Try.prog 9 #[.int .u16 first, .slice Ac lc.length cc, .slice As ls.length cs, .slice Aa lq.length ca] [] R (fun v _ _ => v = .bool true) := by
  have hSt := sStream lc Ac cc R hC
  have hRg := ringNew_ok 500 9 0 (by omega) (by omega) (by omega)
  have hRw := rwNew true 5 96 first 96 (by decide)
  refine fn_intro Try.func9 rfl Try.ntmps9 rfl (fun E => ?_)
  (repeat (first | ((first | (apply wo_v; rfl) ); (· first | (apply pv_ev; rfl) )) | apply wo_nil | apply wc_seq | apply wc_region ))
  (refine wo_call (alive) rfl (by (repeat (first | apply sub_nil )); done) (by first | exact fun _ h => h | (intro r hr; cases hr; done) | (simp; done) | exact fun _ h => List.mem_append_left _ h | (intro r hr; simp [hr]; done)) rfl ?_; rintro v L' R' ⟨rfl, rfl, rfl⟩ H' hH RR hR; simp only [List.cons_append, List.nil_append] at hH hR; subst hH; have hR := hR.symm; subst hR)
  (repeat (first | ((first | (apply wo_v; rfl) ); (· first | (apply pv_ev; rfl) | (apply g_un; first | (apply pv_not_t; rfl) ) | (apply g_build; apply pv_build; (· (repeat (first | apply Bld.nil | (apply Bld.one; rfl; rfl; (· (repeat (first | apply SetAt.here | apply SetAt.there)))) | (apply Bld.agg; rfl; rfl; (· (repeat (first | apply LayAt.nil | apply LayAt.here | apply LayAt.there)))))))) )) | apply wo_nil | apply wc_seq | apply wc_region | apply wc_skip | (apply wc_true; rfl) | (apply wc_false; rfl) ))
  (refine wo_call (iNew) rfl (by (repeat (first | apply sub_nil )); done) (by first | exact fun _ h => h | (intro r hr; cases hr; done) | (simp; done) | exact fun _ h => List.mem_append_left _ h | (intro r hr; simp [hr]; done)) rfl ?_; rintro v L' R' ⟨g, bB, bM, mp, mq, rfl, rfl, rfl⟩ H' hH RR hR; simp only [List.cons_append, List.nil_append] at hH hR; subst hH; have hR := hR.symm; subst hR)
  (repeat (first | ((first | (apply wo_v; rfl) ); (· first | (apply pv_ev; rfl) )) | apply wo_nil | apply wc_seq | apply wc_region ))
  (refine wo_call (hRg) rfl (by (repeat (first | apply sub_nil )); done) (by first | exact fun _ h => h | (intro r hr; cases hr; done) | (simp; done) | exact fun _ h => List.mem_append_left _ h | (intro r hr; simp [hr]; done)) rfl ?_; rintro v L' R' ⟨gr, br, rfl, rfl, rfl⟩ H' hH RR hR; simp only [List.cons_append, List.nil_append] at hH hR; subst hH; have hR := hR.symm; subst hR)
  have hL0 := Lay.new 500
  generalize List.replicate 500 (none : Option Pk) = S0 at hL0 ⊢
  (repeat (first | ((first | (apply wo_v; rfl) ); (· first | (apply pv_ev; rfl) )) | apply wo_nil | apply wc_seq | apply wc_region ))
  (refine wo_call (gNew0) rfl (by (repeat (first | apply sub_nil )); done) (by first | exact fun _ h => h | (intro r hr; cases hr; done) | (simp; done) | exact fun _ h => List.mem_append_left _ h | (intro r hr; simp [hr]; done)) rfl ?_; rintro v L' R' ⟨gg, rfl, rfl, rfl⟩ H' hH RR hR; simp only [List.cons_append, List.nil_append] at hH hR; subst hH; have hR := hR.symm; subst hR)
  (repeat (first | ((first | (apply wo_v; rfl) ); (· first | (apply pv_ev; rfl) )) ))
  (refine wo_call (hRw) rfl (by (repeat (first | apply sub_nil )); done) (by first | exact fun _ h => h | (intro r hr; cases hr; done) | (simp; done) | exact fun _ h => List.mem_append_left _ h | (intro r hr; simp [hr]; done)) rfl ?_; rintro v L' R' ⟨go, rfl, rfl, rfl⟩ H' hH RR hR; simp only [List.cons_append, List.nil_append] at hH hR; subst hH; have hR := hR.symm; subst hR)
  (repeat (first | ((first | (apply wo_v; rfl) ); (· first | (apply pv_ev; rfl) | (apply g_pick; first | (apply pv_pick_t; rfl; rfl) | (apply pv_pick_f; rfl; rfl)) | (apply g_bin; first | (apply pv_eql_p; rfl; rfl) ) )) | apply wo_nil | apply wc_seq | apply wc_region | apply wc_skip | (apply wc_true; rfl) | (apply wc_false; rfl) | (apply wo_run; rfl; rfl) ))
  refine wo_mmake .u16 rfl (fun ms => ?_)
  show WO _ _ _ _ _ ⟨_, .ob ms (mob .u16 []) :: _, _⟩ _
  (repeat (first | ((first | (apply wo_v; rfl) ); (· first | (apply pv_ev; rfl) )) | apply wo_nil | apply wc_seq | apply wc_region ))
  (refine wo_call (hSt) rfl (by (repeat (first | apply sub_nil )); done) (by first | exact fun _ h => h | (intro r hr; cases hr; done) | (simp; done) | exact fun _ h => List.mem_append_left _ h | (intro r hr; simp [hr]; done)) rfl ?_; rintro v L' R' ⟨L, aL, cL, rfl, rfl, rfl, hW, hL⟩ H' hH RR hR; simp only [List.cons_append, List.nil_append] at hH hR; subst hH; have hR := hR.symm; subst hR)
  (repeat (first | ((first | (apply wo_v; rfl) ); (· first | (apply pv_ev; rfl) | (apply g_bi; first | (apply pv_len_sl; rfl) ) )) | apply wo_nil ))
  refine wc_own0 106 7 ?_
  refine wc_block ?_
  refine wc_loop' (fun q st => ∃ (j t : Nat) (s : Sr) (fresh o be : Bool) (sh sq pic lv src la fr pk by_ : Int) (S : List (Option Pk)) (km : List (Int × Value)) (RR : List Ro), q = L.length - j ∧ j ≤ L.length ∧ SOk L j s ∧ FI first j t fresh o be sh sq pic lv src la fr pk by_ S km ∧ (∀ r ∈ R, r ∈ RR) ∧
    st = ⟨[(0, .int .u16 first), (2, .slice As ls.length cs), (3, .slice Aa lq.length ca), (9, .pointer (some ⟨g, 0, none⟩)), (11, .pointer (some ⟨gr, 0, none⟩)), (13, .pointer (some ⟨gg, 0, none⟩)), (14, .pointer (some ⟨go, 0, none⟩)), (15, .map (some ms)), (16, .int .u16 sq), (17, .bool fresh), (64, .slice aL L.length cL), (65, .int .i64 L.length), (66, .int .i64 j)],
      fwH g bB bM mp mq gg go gr br ms t s j o be sh sq pic lv src la fr pk by_ S km (pkO' aL L.length cL (prs' (sgs 0 L))), RR⟩)
    ⟨0, 0, ⟨false, 0, false, 0, 0, false, 0, 0, none, 0, 0, []⟩, true, false, false, 0, first, -1, -1, 0, 0, 0, 0, 0, S0, [], R, rfl, Nat.zero_le _, ⟨rfl, by dsimp only; omega, by dsimp only; omega, (fun u h => by cases h), .inl ⟨rfl, rfl, rfl, rfl, rfl, rfl, rfl, rfl, rfl, rfl⟩⟩,
      ⟨⟨[], hL0, Rn.nil first, ⟨fun p h => by cases h⟩⟩, by omega, by omega, fun _ => rfl, by omega, by omega, by omega, by omega, (fun h => by cases h), by omega, by omega, by omega⟩, fun _ h => h, rfl⟩ (wk_mk (by (repeat (first | apply wkf_nil | (apply wkf_cons; rfl))); done) (by (repeat (first | apply sub_nil | (apply sub_cons; (· (repeat (first | apply sel_here | apply sel_there)))))); done) (by first | exact fun _ h => h | (intro r hr; cases hr; done) | (simp; done) | exact fun _ h => List.mem_append_left _ h | (intro r hr; simp [hr]; done))) ?_
  clear hSt hRg hRw hL0
  rintro q st ⟨j, t, s, fresh, o, be, sh, sq, pic, lv, src, la, fr, pk, by_, S, km, RR, rfl, hj, hs, hI, hRR, rfl⟩
  by_cases hlt : j < L.length
  · obtain ⟨y, hy⟩ : ∃ y, L[j]? = some y := ⟨_, List.getElem?_eq_getElem hlt⟩
    have hrow := prs'_at (sgs_at (j := 0) hy)
    refine wc_somep (ao := s.ao) (n := s.n) (by (repeat (first | apply sel_here | apply sel_there)); done) (fun ha => ?_)
    have hP := iStep L hW j y hy (by omega) s hs ha g bB bM mp mq
    refine wc_some (ao := aL) (n := L.length) (by (repeat (first | apply sel_here )); done) (by omega) ?_
    rintro b5 o5 rfl
    (repeat (first | ((first | (apply wo_v; rfl) ); (· first | (apply pv_ev; rfl) )) | apply wo_nil | apply wc_seq | apply wc_region | apply wc_skip | (apply wc_true; rfl) | (apply wc_false; rfl) | (apply a_dec_t; rfl; (· first | assumption | omega)) ))
    refine wc_block ?_
    (repeat (first | ((first | (apply wo_v; rfl) ); (· first | (apply pv_ev; rfl) | (apply g_load; first | (apply pv_lda; rfl; (· (repeat (first | apply sel_here | apply sel_there))); (· (repeat (first | apply Cut.here0 | apply Cut.here )))) | (apply pv_ld_owna; rfl; (· (repeat (first | apply sel_here ))); (· assumption)) ) | (apply g_idx; first | (apply pv_idx; rfl; rfl; omega) ) )) | apply wo_nil | apply wc_seq | apply wc_region | (apply wo_alloc; rfl; intro bx) | (apply wo_sta; rfl; rfl; rfl; rfl; (· (repeat (first | apply sel_here ))); (· (repeat (first | apply LayAt.nil | apply LayAt.here ))); rfl) ))
    (refine wo_call (hP) rfl (by (repeat (first | apply sub_nil | (apply sub_cons; (· (repeat (first | apply sel_here | apply sel_there)))))); done) (by first | exact fun _ h => h | (intro r hr; cases hr; done) | (simp; done) | exact fun _ h => List.mem_append_left _ h | (intro r hr; simp [hr]; done)) rfl ?_; rintro v L' R' ⟨rfl, ⟨hyl, rfl, s2, rfl, hs2⟩ | ⟨hyl, o1, k1, a2, n2, c2, W, s2, rfl, e1, e2, e3, e4, hs2, hW2, rfl⟩⟩ H' hH RR hR; simp only [List.cons_append, List.nil_append] at hH hR; subst hH; have hR := hR.symm; subst hR)
    · (repeat (first | ((first | (apply wo_v; rfl) ); (· first | (apply pv_ev; rfl) | (apply g_bi; first | (apply pv_len_sl; rfl) ) )) | apply wo_nil | apply wc_seq | apply wc_region ))
      refine wc_block ?_
      refine wc_loop' (fun q st => q = 0 ∧ st = ⟨[(0, .int .u16 first), (2, .slice As ls.length cs), (3, .slice Aa lq.length ca), (9, .pointer (some ⟨g, 0, none⟩)), (11, .pointer (some ⟨gr, 0, none⟩)), (13, .pointer (some ⟨gg, 0, none⟩)), (14, .pointer (some ⟨go, 0, none⟩)), (15, .map (some ms)), (16, .int .u16 sq), (17, .bool fresh), (64, .slice (some ⟨b5, o5, none⟩) L.length cL), (65, .int .i64 L.length), (66, .int .i64 j), (78, .slice none 0 0), (79, .int .i64 0), (80, .int .i64 0)],
        fwH g bB bM mp mq gg go gr br ms t s2 (j + 1) o be sh sq pic lv src la fr pk by_ S km (pkO' (some ⟨b5, o5, none⟩) L.length cL (prs' (sgs 0 L))), RR⟩) ⟨rfl, rfl⟩ (wk_mk (by (repeat (first | apply wkf_nil | (apply wkf_cons; rfl))); done) (by (repeat (first | apply sub_nil | (apply sub_cons; (· (repeat (first | apply sel_here | apply sel_there)))))); done) (by first | exact fun _ h => h | (intro r hr; cases hr; done) | (simp; done) | exact fun _ h => List.mem_append_left _ h | (intro r hr; simp [hr]; done))) ?_
      rintro q st ⟨rfl, rfl⟩
      (repeat (first | ((first | (apply wo_v; rfl) ); (· first | (apply pv_ev; rfl) | (apply g_bin; first | (apply a_add; rfl; rfl; infer_instance; omega) ) )) | apply wo_nil | apply wc_seq | apply wc_region | (apply wc_exit; rfl) | (apply wc_true; rfl) | (apply wc_false; rfl) ))
      exact loop_end ⟨j + 1, t, s2, fresh, o, be, sh, sq, pic, lv, src, la, fr, pk, by_, S, km, RR, rfl, by omega, hs2, hI.more, hRR, rfl⟩ (by omega) (wk_mk (by (repeat (first | apply wkf_nil | (apply wkf_cons; rfl))); done) (by (repeat (first | apply sub_nil )); done) (by first | exact fun _ h => h | (intro r hr; cases hr; done) | (simp; done) | exact fun _ h => List.mem_append_left _ h | (intro r hr; simp [hr]; done)))
    · simp only [List.cons_append, List.nil_append] at hH hR
      subst hH
      have hR := hR.symm
      subst hR
      have hs3 : SOk L (j + 1) ⟨s2.sb, s2.sm, s2.cb, s2.cl, s2.ks, s2.bg, s2.nx, s2.wh, none, 0, 0, []⟩ := by
        have e : s2 = ⟨s2.sb, s2.sm, s2.cb, s2.cl, s2.ks, s2.bg, s2.nx, s2.wh, none, 0, 0, []⟩ := by
          obtain ⟨sb2, sm2, cb2, cl2, ks2, bg2, nx2, wh2, ao2, un2, uc2, U2⟩ := s2
          dsimp only at e1 e2 e3 e4
          subst e1 e2 e3 e4; rfl
        rw [e] at hs2; exact hs2
      clear e1 e2 e3 e4 hs2 hs hP hrow ha
      (repeat (first | ((first | (apply wo_v; rfl) ); (· first | (apply pv_ev; rfl) | (apply g_bi; first | (apply pv_len_sl; rfl) ) )) | apply wo_nil | apply wc_seq | apply wc_region ))
      refine wc_block ?_
      refine wc_loop' (fun q st => (q = 1 ∧ st = ⟨fwS first As ls.length cs Aa lq.length ca g gr gg go ms sq fresh (some ⟨b5, o5, none⟩) L.length cL j [(18, .int .i64 j), (78, .slice o1 1 k1), (79, .int .i64 1), (80, .int .i64 0)],
          u7 a2 n2 c2 W :: frO o1 1 k1 [[.slice a2 n2 c2]] :: fwK g bB bM mp mq gg go gr br ms t s2 (j + 1) o be sh sq pic lv src la fr pk by_ S km (pkO' (some ⟨b5, o5, none⟩) L.length cL (prs' (sgs 0 L))), RR⟩)
        ∨ (q = 0 ∧ ∃ (t : Nat) (fresh o be : Bool) (sh sq pic lv src la fr pk by_ : Int) (S : List (Option Pk)) (km : List (Int × Value)) (RR : List Ro), FI first (j + 1) t fresh o be sh sq pic lv src la fr pk by_ S km ∧ (∀ r ∈ R, r ∈ RR) ∧ st = ⟨fwS first As ls.length cs Aa lq.length ca g gr gg go ms sq fresh (some ⟨b5, o5, none⟩) L.length cL j [(79, .int .i64 1), (80, .int .i64 1)],
          fwK g bB bM mp mq gg go gr br ms t s2 (j + 1) o be sh sq pic lv src la fr pk by_ S km (pkO' (some ⟨b5, o5, none⟩) L.length cL (prs' (sgs 0 L))), RR⟩)) (.inl ⟨rfl, rfl⟩) (wk_mk (by (repeat (first | apply wkf_nil | (apply wkf_cons; rfl))); done) (by (repeat (first | apply sub_nil | (apply sub_cons; (· (repeat (first | apply sel_here | apply sel_there)))))); done) (by first | exact fun _ h => h | (intro r hr; cases hr; done) | (simp; done) | exact fun _ h => List.mem_append_left _ h | (intro r hr; simp [hr]; done))) ?_
      rintro q st (⟨rfl, rfl⟩ | ⟨rfl, t, fresh, o, be, sh, sq, pic, lv, src, la, fr, pk, by_, S, km, RR, hI, hRR, rfl⟩)
      · have hfr : ([[.slice a2 n2 c2]] : List (List Value))[0]? = some [.slice a2 n2 c2] := rfl
        refine wc_some (ao := o1) (n := 1) (by (repeat (first | apply sel_here | apply sel_there)); done) (by omega) ?_
        rintro b6 o6 rfl
        (repeat (first | ((first | (apply wo_v; rfl) ); (· first | (apply pv_ev; rfl) )) | apply wo_nil | apply wc_seq | apply wc_region | apply wc_skip | (apply wc_true; rfl) ))
        refine wc_block ?_
        apply wc_seq
        apply wc_region
        (repeat (first | ((first | (apply wo_v; rfl) ); (· first | (apply pv_ev; rfl) | (apply g_load; first | (apply pv_lda; rfl; (· (repeat (first | apply sel_there))); (· (repeat (first | fail )))) | (apply pv_ld_owna; rfl; (· (repeat (first | apply sel_here | apply sel_there))); (· assumption)) ) | (apply g_idx; first | (apply pv_idx; rfl; rfl; omega) | (apply (pv_idx_e 0); rfl; rfl; rfl; omega) ) )) | (apply wo_alloc; rfl; intro bx) | (apply wo_sta; rfl; rfl; rfl; rfl; (· (repeat (first | apply sel_here ))); (· (repeat (first | apply LayAt.nil | apply LayAt.here ))); rfl) ))
        apply wo_nil
        obtain ⟨b23, hb23⟩ : ∃ g, g = bx := ⟨_, rfl⟩
        subst hb23
        apply wc_seq
        refine wc_join0 (fun st => ∃ (o2 fresh2 : Bool) (sh2 : Int), (fresh2 = true → o2 = false) ∧ (0 ≤ sh2 ∧ sh2 ≤ ((j + 1 : Nat) : Int)) ∧ st = ⟨fwS first As ls.length cs Aa lq.length ca g gr gg go ms sq fresh2 (some ⟨b5, o5, none⟩) L.length cL j [(23, .pointer (some ⟨b23, 0, none⟩)), (18, .int .i64 j), (78, .slice (some ⟨b6, o6, none⟩) 1 k1), (79, .int .i64 1), (80, .int .i64 0)],
          frB' b23 (.slice a2 n2 c2) :: u7 a2 n2 c2 W :: frO (some ⟨b6, o6, none⟩) 1 k1 [[.slice a2 n2 c2]] :: fwK g bB bM mp mq gg go gr br ms t s2 (j + 1) o2 be sh2 sq pic lv src la fr pk by_ S km (pkO' (some ⟨b5, o5, none⟩) L.length cL (prs' (sgs 0 L))), RR⟩) ?_ ?_
        · have hsh := hI.sh
          have hfo := hI.fo
          by_cases h0 : 0 < ls.length
          · have hSS := hS.mono hRR
            obtain ⟨a7, o7, rfl, hmem⟩ := hSS.pos h0
            have hq : ((j : Int) % (ls.length : Int)) = ((j % ls.length : Nat) : Int) := by simp
            have hlt7 : j % ls.length < ls.length := Nat.mod_lt _ h0
            obtain ⟨x, hx⟩ : ∃ x, ls[j % ls.length]? = some x := ⟨_, List.getElem?_eq_getElem hlt7⟩
            have h1 : 0 ≤ (j : Int) % (ls.length : Int) ∧ (j : Int) % (ls.length : Int) < (ls.length : Int) := by rw [hq]; omega
            have hr : (c64 ls)[((j : Int) % (ls.length : Int)).toNat]? = some [.int .i64 x] := by rw [hq, Int.toNat_natCast]; exact c64_at hx
            clear hq
            have hSh := gShut0 gg o sh (by omega)
            by_cases h8 : bits .and .i64 x 7 = 1
            · (repeat (first | ((first | (apply wo_v; rfl) ); (· first | (apply pv_ev; rfl) | (apply g_load; first | (apply pv_ld; rfl; (· (repeat (first | apply sel_there))); rfl) | (apply pv_ld_ownf; rfl; (· (repeat (first | fail ))); (· assumption); rfl) | (apply pv_ld_own1; rfl; (· (repeat (first | apply sel_there))); (· assumption)) | (apply pv_ld_rof; rfl; (· (first | assumption )); (· assumption); rfl) | (apply pv_ld_ro1; rfl; (· (first | assumption )); (· assumption)) ) | (apply g_pick; first | (apply pv_pick_t; rfl; rfl) ) | (apply g_bin; first | (apply pv_rem; rfl; rfl; omega) | (apply pv_and; rfl; rfl) ) | (apply g_bi; first | (apply pv_len_sl; rfl) ) | (apply g_idx; first | (apply pv_idx; rfl; rfl; omega) | (apply (pv_idx_e 0); rfl; rfl; rfl; omega) | (apply pv_idx_n; rfl; rfl; omega) ) )) | apply wo_nil | apply wc_seq | apply wc_region | (apply wc_true; rfl) | (apply wc_false; rfl) | (apply a_dec_t; rfl; (· first | assumption | omega)) | (apply wo_run; rfl; rfl) | (apply wo_skip; rfl; rfl; rfl; rfl) | (apply wo_skip_u; rfl; rfl; rfl) | (apply a_gt; rfl; rfl; (· first | assumption | omega)) ))
              (refine wo_call (hSh) rfl (by (repeat (first | apply sub_nil | (apply sub_cons; (· (repeat (first | apply sel_here | apply sel_there)))))); done) (by first | exact fun _ h => h | (intro r hr; cases hr; done) | (simp; done) | exact fun _ h => List.mem_append_left _ h | (intro r hr; simp [hr]; done)) rfl ?_; rintro v L' R' ⟨sh', rfl, rfl, rfl, h9, h10⟩ H' hH RR hR; simp only [List.cons_append, List.nil_append] at hH hR; subst hH; have hR := hR.symm; subst hR)
              (repeat (first | ((first | (apply wo_v; rfl) ); (· first | (apply pv_ev; rfl) )) | apply wo_nil | apply wc_region ))
              exact cut_end ⟨false, true, sh', fun _ => rfl, by omega, rfl⟩ (wk_mk (by (repeat (first | apply wkf_nil | (apply wkf_cons; rfl))); done) (by (repeat (first | apply sub_nil | (apply sub_cons; (· (repeat (first | apply sel_here | apply sel_there)))))); done) (by first | exact fun _ h => h | (intro r hr; cases hr; done) | (simp; done) | exact fun _ h => List.mem_append_left _ h | (intro r hr; simp [hr]; done)))
            · (repeat (first | ((first | (apply wo_v; rfl) ); (· first | (apply pv_ev; rfl) | (apply g_load; first | (apply pv_ld; rfl; (· (repeat (first | apply sel_there))); rfl) | (apply pv_ld_ownf; rfl; (· (repeat (first | fail ))); (· assumption); rfl) | (apply pv_ld_own1; rfl; (· (repeat (first | apply sel_there))); (· assumption)) | (apply pv_ld_rof; rfl; (· (first | assumption )); (· assumption); rfl) | (apply pv_ld_ro1; rfl; (· (first | assumption )); (· assumption)) ) | (apply g_pick; first | (apply pv_pick_t; rfl; rfl) ) | (apply g_bin; first | (apply pv_rem; rfl; rfl; omega) | (apply pv_and; rfl; rfl) ) | (apply g_bi; first | (apply pv_len_sl; rfl) ) | (apply g_idx; first | (apply pv_idx; rfl; rfl; omega) | (apply (pv_idx_e 0); rfl; rfl; rfl; omega) | (apply pv_idx_n; rfl; rfl; omega) ) )) | apply wo_nil | apply wc_seq | apply wc_region | apply wc_skip | (apply wc_true; rfl) | (apply wc_false; rfl) | (apply a_dec_t; rfl; (· first | assumption | omega)) | (apply a_dec_f; rfl; (· first | assumption | omega)) | (apply wo_run; rfl; rfl) | (apply wo_skip; rfl; rfl; rfl; rfl) | (apply wo_skip_u; rfl; rfl; rfl) | (apply a_gt; rfl; rfl; (· first | assumption | omega)) ))
              exact cut_end ⟨o, fresh, sh, hfo, by omega, rfl⟩ (wk_mk (by (repeat (first | apply wkf_nil | (apply wkf_cons; rfl))); done) (by (repeat (first | apply sub_nil )); done) (by first | exact fun _ h => h | (intro r hr; cases hr; done) | (simp; done) | exact fun _ h => List.mem_append_left _ h | (intro r hr; simp [hr]; done)))
          · (repeat (first | ((first | (apply wo_v; rfl) ); (· first | (apply pv_ev; rfl) | (apply g_pick; first | (apply pv_pick_t; rfl; rfl) | (apply pv_pick_f; rfl; rfl)) | (apply g_bi; first | (apply pv_len_sl; rfl) ) )) | apply wo_nil | apply wc_seq | apply wc_region | apply wc_skip | (apply wc_true; rfl) | (apply wc_false; rfl) | (apply wo_run; rfl; rfl) | (apply wo_skip; rfl; rfl; rfl; rfl) | (apply wo_skip_u; rfl; rfl; rfl) | (apply a_gt; rfl; rfl; (· first | assumption | omega)) | (apply a_gf; rfl; rfl; (· first | assumption | omega)) ))
            exact cut_end ⟨o, fresh, sh, hfo, by omega, rfl⟩ (wk_mk (by (repeat (first | apply wkf_nil | (apply wkf_cons; rfl))); done) (by (repeat (first | apply sub_nil )); done) (by first | exact fun _ h => h | (intro r hr; cases hr; done) | (simp; done) | exact fun _ h => List.mem_append_left _ h | (intro r hr; simp [hr]; done)))
        rintro st ⟨o2, fresh2, sh2, hfo2, hsh2, rfl⟩
        obtain ⟨u0, hu0⟩ : ∃ u0, W[0]? = some u0 := ⟨_, List.getElem?_eq_getElem (by have := hW2.len; have := hW2.pos; omega)⟩
        have qK := fKey a2 n2 c2 W u0 hu0 hW2.len
        have qP := gPass0 gg o2 sh2 u0.ky
        obtain ⟨pp, hpp⟩ : ∃ pp, (o2 || u0.ky) = pp := ⟨_, rfl⟩
        rw [hpp] at qP
        have hfk : fresh2 = true → pp = true → u0.ky = true := fun h1 h2 => by rw [hfo2 h1, h2] at hpp; simpa using hpp
        have ho2 : pp = false → o2 = false := fun h1 => by rw [h1] at hpp; cases o2 <;> simp_all
        (repeat (first | ((first | (apply wo_v; rfl) ); (· first | (apply pv_ev; rfl) | (apply g_load; first | (apply pv_lda; rfl; (· (repeat (first | apply sel_here ))); (· (repeat (first | apply Cut.here0 | apply Cut.here )))) ) )) | apply wc_seq | apply wc_region ))
        (refine wo_call (qK) rfl (by (repeat (first | apply sub_nil | (apply sub_cons; (· (repeat (first | apply sel_here | apply sel_there)))))); done) (by first | exact fun _ h => h | (intro r hr; cases hr; done) | (simp; done) | exact fun _ h => List.mem_append_left _ h | (intro r hr; simp [hr]; done)) rfl ?_; rintro v L' R' ⟨rfl, rfl, rfl⟩ H' hH RR hR; simp only [List.cons_append, List.nil_append] at hH hR; subst hH; have hR := hR.symm; subst hR)
        (repeat (first | ((first | (apply wo_v; rfl) ); (· first | (apply pv_ev; rfl) )) ))
        (refine wo_call (qP) rfl (by (repeat (first | apply sub_nil | (apply sub_cons; (· (repeat (first | apply sel_here | apply sel_there)))))); done) (by first | exact fun _ h => h | (intro r hr; cases hr; done) | (simp; done) | exact fun _ h => List.mem_append_left _ h | (intro r hr; simp [hr]; done)) rfl ?_; rintro v L' R' ⟨rfl, rfl, rfl⟩ H' hH RR hR; simp only [List.cons_append, List.nil_append] at hH hR; subst hH; have hR := hR.symm; subst hR)
        cases pp with
        | false =>
          (repeat (first | ((first | (apply wo_v; rfl) ); (· first | (apply pv_ev; rfl) | (apply g_bin; first | (apply a_add; rfl; rfl; infer_instance; omega) ) | (apply g_un; first | (apply pv_not_t; rfl) | (apply pv_not_f; rfl) ) )) | apply wo_nil | apply wc_region | (apply wc_exit; rfl) | (apply wc_true; rfl) ))
          exact loop_end (.inr ⟨rfl, t, fresh2, false, be, sh2, sq, pic, lv, src, la, fr, pk, by_, S, km, RR, hI.gate hfo2 (fun _ => rfl) hsh2, hRR, rfl⟩) (by omega) (wk_mk (by (repeat (first | apply wkf_nil | (apply wkf_cons; rfl))); done) (by (repeat (first | apply sub_nil | (apply sub_cons; (· (repeat (first | apply sel_here | apply sel_there)))))); done) (by first | exact fun _ h => h | (intro r hr; cases hr; done) | (simp; done) | exact fun _ h => List.mem_append_left _ h | (intro r hr; simp [hr]; done)))
        | true =>
          (repeat (first | ((first | (apply wo_v; rfl) ); (· first | (apply pv_ev; rfl) | (apply g_un; first | (apply pv_not_t; rfl) ) )) ))
          apply wo_nil
          apply wc_false
          · rfl
          apply wc_skip
          apply wc_seq
          refine wc_join0 (fun st => st = ⟨fwS first As ls.length cs Aa lq.length ca g gr gg go ms sq fresh2 (some ⟨b5, o5, none⟩) L.length cL j [(23, .pointer (some ⟨b23, 0, none⟩)), (78, .slice (some ⟨b6, o6, none⟩) 1 k1), (79, .int .i64 1), (80, .int .i64 0)],
            frB' b23 (.slice a2 n2 c2) :: u7 a2 n2 c2 W :: frO (some ⟨b6, o6, none⟩) 1 k1 [[.slice a2 n2 c2]] :: fwK g bB bM mp mq gg go gr br ms t s2 (j + 1) true be sh2 sq pic lv src la fr pk by_ S km (pkO' (some ⟨b5, o5, none⟩) L.length cL (prs' (sgs 0 L))), RR⟩) ?_ ?_
          · cases fresh2 with
            | true =>
              rw [hfk rfl rfl] at qK
              (repeat (first | ((first | (apply wo_v; rfl) ); (· first | (apply pv_ev; rfl) | (apply g_load; first | (apply pv_lda; rfl; (· (repeat (first | apply sel_here | apply sel_there))); (· (repeat (first | apply Cut.here0 | apply Cut.here )))) ) )) | apply wc_seq | apply wc_region | (apply wo_run; rfl; rfl) ))
              (refine wo_call (qK) rfl (by (repeat (first | apply sub_nil | (apply sub_cons; (· (repeat (first | apply sel_here | apply sel_there)))))); done) (by first | exact fun _ h => h | (intro r hr; cases hr; done) | (simp; done) | exact fun _ h => List.mem_append_left _ h | (intro r hr; simp [hr]; done)) rfl ?_; rintro v L' R' ⟨rfl, rfl, rfl⟩ H' hH RR hR; simp only [List.cons_append, List.nil_append] at hH hR; subst hH; have hR := hR.symm; subst hR)
              (repeat (first | ((first | (apply wo_v; rfl) ); (· first | (apply pv_ev; rfl) | (apply g_pick; first | (apply pv_pick_t; rfl; rfl) ) | (apply g_un; first | (apply pv_not_t; rfl) ) )) | apply wo_nil | apply wc_skip | (apply wc_true; rfl) | (apply wc_false; rfl) | (apply wo_run; rfl; rfl) ))
              exact cut_end rfl (wk_mk (by (repeat (first | apply wkf_nil | (apply wkf_cons; rfl))); done) (by (repeat (first | apply sub_nil | (apply sub_cons; (· (repeat (first | apply sel_here | apply sel_there)))))); done) (by first | exact fun _ h => h | (intro r hr; cases hr; done) | (simp; done) | exact fun _ h => List.mem_append_left _ h | (intro r hr; simp [hr]; done)))
            | false =>
              (repeat (first | ((first | (apply wo_v; rfl) ); (· first | (apply pv_ev; rfl) | (apply g_pick; first | (apply pv_pick_t; rfl; rfl) | (apply pv_pick_f; rfl; rfl)) )) | apply wo_nil | apply wc_seq | apply wc_region | apply wc_skip | (apply wc_true; rfl) | (apply wc_false; rfl) | (apply wo_run; rfl; rfl) | (apply wo_skip; rfl; rfl; rfl; rfl) ))
              exact cut_end rfl (wk_mk (by (repeat (first | apply wkf_nil | (apply wkf_cons; rfl))); done) (by (repeat (first | apply sub_nil | (apply sub_cons; (· (repeat (first | apply sel_here | apply sel_there)))))); done) (by first | exact fun _ h => h | (intro r hr; cases hr; done) | (simp; done) | exact fun _ h => List.mem_append_left _ h | (intro r hr; simp [hr]; done)))
          rintro st rfl
          clear qK qP hfk ho2 hpp hu0
          obtain ⟨w0, W', rfl⟩ : ∃ w0 W', W = w0 :: W' := by
            cases W with
            | nil => have := hW2.len; have := hW2.pos; simp at *; omega
            | cons a b => exact ⟨a, b, rfl⟩
          (repeat (first | ((first | (apply wo_v; rfl) ); (· first | (apply pv_ev; rfl) | (apply g_load; first | (apply pv_lda; rfl; (· (repeat (first | apply sel_here ))); (· (repeat (first | apply Cut.here0 | apply Cut.here )))) ) )) | apply wo_nil | apply wc_seq | apply wc_region ))
          refine wo_still (ao := a2) (n := n2) (c := c2) (by (repeat (first | apply sel_here | apply sel_there)); done) (fun R7 hS7 => ?_)
          have hI2 := hI
          obtain ⟨hrn, ht4, hsq, _, _, hpic, hlv, hla, hsrc, hfr, hpk, hby⟩ := hI2
          have hw0 := hW2.sz w0 (.head _)
          have hWl := hW2.len
          have hWle := hW2.le
          have hsh0 : shM src 0 la be 1 w0.ti = 0 := by
            unfold shM
            cases be with
            | false => rw [if_pos rfl]
            | true => rw [if_neg (by simp), if_neg (by rw [hsrc rfl]; simp)]
          have hla2 : 0 ≤ laM src 0 la be 1 w0.ti ∧ laM src 0 la be 1 w0.ti ≤ 1000000000000 := by
            unfold laM
            rw [hsh0]
            split <;> omega
          have hF := rwFrame go true 5 96 sq pic lv src 0 la be fr pk by_ 1 a2 n2 c2 w0 W' (R7 ++ RR) hS7 (by omega) (by omega) (by omega) (fun x hx => by have := (hW2.sz x hx).1; omega) (by rw [List.length_cons] at hWl; omega)
          rw [hsh0] at hF
          have hpl := pkN_len true 96 sq (laM src 0 la be 1 w0.ti % 4294967296) 5 (picM true pic) (lvM true lv w0.tx) (w0 :: W') n2 (by omega)
          have hby2 := byN_b true (picM true pic) (lvM true lv w0.tx) (w0 :: W') (fun x hx => by have := (hW2.sz x hx).1; omega) n2
          have hpat := fun (i : Nat) (u : Un) (hu : (w0 :: W')[i]? = some u) (hi : i < n2) => pkN_at true 96 sq (laM src 0 la be 1 w0.ti % 4294967296) 5 (picM true pic) (lvM true lv w0.tx) (w0 :: W') hu n2 hi (by omega)
          have hpic2 : -1 ≤ picM true pic ∧ picM true pic ≤ 40000 := by unfold picM; rw [if_pos rfl]; omega
          have hlv2 : -1 ≤ lvM true lv w0.tx ∧ lvM true lv w0.tx ≤ 300 := by unfold lvM; rw [if_pos rfl]; exact nlM_b lv hlv w0.tx
          generalize picM true pic = pic2 at hF hpl hby2 hpat hpic2
          generalize lvM true lv w0.tx = lv2 at hF hpl hby2 hpat hlv2
          generalize laM src 0 la be 1 w0.ti = la2 at hF hpl hpat hla2
          generalize byN true pic2 lv2 (w0 :: W') n2 = bn2 at hF hby2
          generalize pkN true 96 sq (la2 % 4294967296) 5 pic2 lv2 (w0 :: W') n2 = PK at hF hpl hpat
          (refine wo_call (hF) rfl (by (repeat (first | apply sub_nil | (apply sub_cons; (· (repeat (first | apply sel_here | apply sel_there)))))); done) (by first | exact fun _ h => h | (intro r hr; cases hr; done) | (simp; done) | exact fun _ h => List.mem_append_left _ h | (intro r hr; simp [hr]; done)) rfl ?_; rintro v L' R' ⟨a9, c9, ⟨b9, o9, rfl⟩, rfl, rfl, rfl⟩ H' hH RR hR; simp only [List.cons_append, List.nil_append] at hH hR; subst hH; have hR := hR.symm; subst hR)
          have hRR2 : ∀ r ∈ R, r ∈ R7 ++ RR := fun r hr => List.mem_append_right _ (hRR r hr)
          clear hF hS7 hS hC hA hRR
          generalize R7 ++ RR = RH at hRR2 ⊢
          (repeat (first | ((first | (apply wo_v; rfl) ); (· first | (apply pv_ev; rfl) | (apply g_bi; first | (apply pv_len_sl; rfl) ) )) | apply wo_nil ))
          refine wc_block ?_
          refine wc_loop' (fun q st => ∃ (i : Nat) (sqi : Int) (S : List (Option Pk)) (km : List (Int × Value)), q = PK.length - i ∧ i ≤ PK.length ∧ sqi = (first + ((t + i : Nat) : Int)) % 65536 ∧ (∃ Q, Lay S (t + i) 500 Q ∧ Rn first (t + i) km Q ∧ QB Q 0) ∧
            st = ⟨fwS first As ls.length cs Aa lq.length ca g gr gg go ms sqi false (some ⟨b5, o5, none⟩) L.length cL j [(79, .int .i64 1), (80, .int .i64 0), (78, .slice (some ⟨b6, o6, none⟩) 1 k1), (113, .slice (some ⟨b9, o9, none⟩) PK.length c9), (114, .int .i64 PK.length), (115, .int .i64 i)],
              pkO (some ⟨b9, o9, none⟩) c9 PK :: fwK g bB bM mp mq gg go gr br ms (t + i) s2 (j + 1) true true sh2 (sqI sq n2) pic2 lv2 1 la2 (fr + 1) (pk + n2) (by_ + bn2) S km (pkO' (some ⟨b5, o5, none⟩) L.length cL (prs' (sgs 0 L))), RH⟩)
            ⟨0, sq, S, km, rfl, Nat.zero_le _, hsq, hrn, rfl⟩ (wk_mk (by (repeat (first | apply wkf_nil | (apply wkf_cons; rfl))); done) (by (repeat (first | apply sub_nil | (apply sub_cons; (· (repeat (first | apply sel_here | apply sel_there)))))); done) (by first | exact fun _ h => h | (intro r hr; cases hr; done) | (simp; done) | exact fun _ h => List.mem_append_left _ h | (intro r hr; simp [hr]; done))) ?_
          clear hrn
          rintro q st ⟨i, sqi, S, km, rfl, hi, hsqi, ⟨Q, hL, hR1, hQB⟩, rfl⟩
          have hsqb : 0 ≤ sqi ∧ sqi ≤ 65535 := by omega
          by_cases hlt3 : i < PK.length
          · obtain ⟨w, hw⟩ : ∃ w, (w0 :: W')[i]? = some w := ⟨_, List.getElem?_eq_getElem (by omega)⟩
            have hrow := prs'_at (hpat i w hw (by omega))
            dsimp only at hrow
            have hws := (hW2.sz w (List.mem_of_getElem? hw)).1
            have esq : sqI sq i = sqi := by rw [sqI_eq sq (by omega), hsqi, hsq]; omega
            rw [esq] at hrow
            have hpz := payM_le true pic2 lv2 w.tx
            generalize payM true pic2 lv2 w.tx = pl at hrow hpz
            have hT := gText w.mrk 96 sqi (la2 % 4294967296) 5 [] false 0 E0 pl 0 none 0 0 RH (SQ.nil _ _ _ _) (by decide) (by decide) (by omega) (by decide) (by decide) (by omega) (by omega) (by decide) (by decide) (fun z hz => by cases hz)
            generalize txR w.mrk 96 sqi (la2 % 4294967296) 5 [] false 0 E0 pl 0 = tx at hT
            have hpu := ringPut gr br 500 S (t + i) 9 0 0 sqi tx (by omega) hL.len (by omega)
            have hR2 := hR1.put (by omega) tx sqi hsqi
            have hL2 := hL.put (by omega) (sqi, tx, 0, 0)
            have hQ2 := hQB.put (by omega) 500 sqi tx
            (repeat (first | ((first | (apply wo_v; rfl) ); (· first | (apply pv_ev; rfl) )) | apply wo_nil | apply wc_seq | apply wc_region | apply wc_skip | (apply wc_true; rfl) | (apply wc_false; rfl) | (apply a_dec_t; rfl; (· first | assumption | omega)) ))
            refine wc_block ?_
            (repeat (first | ((first | (apply wo_v; rfl) ); (· first | (apply pv_ev; rfl) | (apply pv_fld; rfl) | (apply g_load; first | (apply pv_ld; rfl; (· (repeat (first | apply sel_here ))); rfl) | (apply pv_lda; rfl; (· (repeat (first | apply sel_here | apply sel_there))); (· (repeat (first | apply Cut.here0 | apply Cut.here )))) | (apply pv_ld_owna; rfl; (· (repeat (first | apply sel_here ))); (· assumption)) ) | (apply g_pick; first | (apply pv_pick_t; rfl; rfl) | (apply pv_pick_f; rfl; rfl)) | (apply g_idx; first | (apply pv_idx; rfl; rfl; omega) ) )) | apply wo_nil | apply wc_seq | apply wc_region | apply wc_skip | (apply wc_true; rfl) | (apply wc_false; rfl) | (apply wo_run; rfl; rfl) | (apply wo_skip; rfl; rfl; rfl; rfl) | (apply wo_skip_u; rfl; rfl; rfl) | (apply a_gt; rfl; rfl; (· first | assumption | omega)) | (apply a_gf; rfl; rfl; (· first | assumption | omega)) | (apply wo_alloc; rfl; intro bx) | (apply wo_sta; rfl; rfl; rfl; rfl; (· (repeat (first | apply sel_here ))); (· (repeat (first | apply LayAt.nil | apply LayAt.here ))); rfl) ))
            (refine wo_call (hT) rfl (by (repeat (first | apply sub_nil )); done) (by first | exact fun _ h => h | (intro r hr; cases hr; done) | (simp; done) | exact fun _ h => List.mem_append_left _ h | (intro r hr; simp [hr]; done)) rfl ?_; rintro v L' R' ⟨rfl, rfl, rfl⟩ H' hH RR hR; simp only [List.cons_append, List.nil_append] at hH hR; subst hH; have hR := hR.symm; subst hR)
            (repeat (first | ((first | (apply wo_v; rfl) ); (· first | (apply pv_ev; rfl) | (apply g_load; first | (apply pv_lda; rfl; (· (repeat (first | apply sel_here | apply sel_there))); (· (repeat (first | apply Cut.here0 | apply Cut.here )))) ) )) | ((apply wo_v; rfl); (· first | fail )) | (apply wo_mput; rfl; rfl; rfl; (· (repeat (first | apply sel_here | apply sel_there))); rfl) | apply wo_nil | apply wc_seq | apply wc_region ))
            (refine wo_call (hT) rfl (by (repeat (first | apply sub_nil )); done) (by first | exact fun _ h => h | (intro r hr; cases hr; done) | (simp; done) | exact fun _ h => List.mem_append_left _ h | (intro r hr; simp [hr]; done)) rfl ?_; rintro v L' R' ⟨rfl, rfl, rfl⟩ H' hH RR hR; simp only [List.cons_append, List.nil_append] at hH hR; subst hH; have hR := hR.symm; subst hR)
            (repeat (first | ((first | (apply wo_v; rfl) ); (· first | (apply pv_ev; rfl) )) | ((apply wo_v; rfl); (· first | fail )) ))
            (refine wo_call (hpu) rfl (by (repeat (first | apply sub_nil | (apply sub_cons; (· (repeat (first | apply sel_here | apply sel_there)))))); done) (by first | exact fun _ h => h | (intro r hr; cases hr; done) | (simp; done) | exact fun _ h => List.mem_append_left _ h | (intro r hr; simp [hr]; done)) rfl ?_; rintro v L' R' ⟨rfl, rfl, rfl⟩ H' hH RR hR; simp only [List.cons_append, List.nil_append] at hH hR; subst hH; have hR := hR.symm; subst hR)
            (repeat (first | ((first | (apply wo_v; rfl) ); (· first | (apply pv_ev; rfl) | (apply g_bin; first | (apply a_add; rfl; rfl; infer_instance; omega) | (apply pv_add_s; rfl; rfl; omega) | (apply a_add_u; rfl; rfl; infer_instance) ) )) | apply wo_nil | apply wc_region ))
            have hnx : (sqi + 1) % 65536 = (first + ((t + (i + 1) : Nat) : Int)) % 65536 := by rw [hsqi]; omega
            exact loop_end ⟨i + 1, (sqi + 1) % 65536, S.set ((t + i) % 500) (some (sqi, tx, 0, 0)), aset km sqi (.string tx), rfl, by omega, hnx, ⟨_, hL2, hR2, hQ2⟩, rfl⟩ (by omega) (wk_mk (by (repeat (first | apply wkf_nil | (apply wkf_cons; rfl))); done) (by (repeat (first | apply sub_nil | (apply sub_cons; (· (repeat (first | apply sel_here | apply sel_there)))))); done) (by first | exact fun _ h => h | (intro r hr; cases hr; done) | (simp; done) | exact fun _ h => List.mem_append_left _ h | (intro r hr; simp [hr]; done)))
          · obtain rfl : i = PK.length := by omega
            have esq : sqI sq n2 = sqi := by rw [sqI_eq sq (by omega), hsqi, hsq]; omega
            rw [esq]
            (repeat (first | ((first | (apply wo_v; rfl) ); (· first | (apply pv_ev; rfl) | (apply g_bin; first | (apply a_add; rfl; rfl; infer_instance; omega) ) )) | apply wo_nil | apply wc_seq | apply wc_region | (apply wc_exit; rfl) | (apply wc_true; rfl) | (apply wc_false; rfl) | (apply a_dec_t; rfl; (· first | assumption | omega)) | (apply a_dec_f; rfl; (· first | assumption | omega)) ))
            exact loop_end (.inr ⟨rfl, t + PK.length, false, true, true, sh2, sqi, pic2, lv2, 1, la2, fr + 1, pk + n2, by_ + bn2, S, km, RH, ⟨⟨Q, hL, hR1, hQB⟩, by omega, hsqi, (fun h => by cases h), hsh2, hpic2, hlv2, hla2, fun _ => rfl, by omega, by omega, by omega⟩, hRR2, rfl⟩) (by omega) (wk_mk (by (repeat (first | apply wkf_nil | (apply wkf_cons; rfl))); done) (by (repeat (first | apply sub_nil | (apply sub_cons; (· (repeat (first | apply sel_here | apply sel_there)))))); done) (by first | exact fun _ h => h | (intro r hr; cases hr; done) | (simp; done) | exact fun _ h => List.mem_append_left _ h | (intro r hr; simp [hr]; done)))
      · refine wc_own0 106 7 ?_
        (repeat (first | ((first | (apply wo_v; rfl) ); (· first | (apply pv_ev; rfl) | (apply g_bin; first | (apply a_add; rfl; rfl; infer_instance; omega) ) )) | apply wo_nil | apply wc_seq | apply wc_region | (apply wc_exit; rfl) | (apply wc_true; rfl) | (apply wc_false; rfl) ))
        exact loop_end ⟨j + 1, t, ⟨s2.sb, s2.sm, s2.cb, s2.cl, s2.ks, s2.bg, s2.nx, s2.wh, none, 0, 0, []⟩, fresh, o, be, sh, sq, pic, lv, src, la, fr, pk, by_, S, km, RR, rfl, by omega, hs3, hI, hRR, rfl⟩ (by omega) (wk_mk (by (repeat (first | apply wkf_nil | (apply wkf_cons; rfl))); done) (by (repeat (first | apply sub_nil | (apply sub_cons; (· (repeat (first | apply sel_here | apply sel_there)))))); done) (by first | exact fun _ h => h | (intro r hr; cases hr; done) | (simp; done) | exact fun _ h => List.mem_append_left _ h | (intro r hr; simp [hr]; done)))
  · obtain rfl : j = L.length := by omega
    obtain ⟨Q, hL3, hR3, hQ3⟩ := hI.rn
    have ht4 := hI.t4
    have hval := hR3.val
    have hsv := hR3.sv
    clear hI hR3 hs
    (repeat (first | ((first | (apply wo_v; rfl) ); (· first | (apply pv_ev; rfl) )) | apply wo_nil | apply wc_seq | apply wc_region | (apply wc_exit; rfl) | (apply wc_true; rfl) | (apply wc_false; rfl) | (apply a_dec_t; rfl; (· first | assumption | omega)) | (apply a_dec_f; rfl; (· first | assumption | omega)) ))
    refine wc_block ?_
    refine wc_loop' (fun q st => ∃ (i : Nat) (S : List (Option Pk)) (Q : List Pk) (sent : Int) (RH : List Ro), q = 20 - i ∧ i ≤ 20 ∧ Lay S t 500 Q ∧ Sv km Q ∧ QB Q (i : Int) ∧ (0 ≤ sent ∧ sent ≤ i) ∧ (∀ r ∈ R, r ∈ RH) ∧
      st = ⟨[(0, .int .u16 first), (3, .slice Aa lq.length ca), (11, .pointer (some ⟨gr, 0, none⟩)), (15, .map (some ms)), (26, .int .i64 i)], [rgO gr br 500 t 9 0 sent, slO br 500 (S.map srow), .ob ms (mob .u16 km)], RH⟩)
      ⟨0, S, Q, 0, RR, rfl, by omega, hL3, hsv, hQ3, by omega, hRR, rfl⟩ (wk_mk (by (repeat (first | apply wkf_nil | (apply wkf_cons; rfl))); done) (by (repeat (first | apply sub_nil | (apply sub_cons; (· (repeat (first | apply sel_here | apply sel_there)))))); done) (by first | exact fun _ h => h | (intro r hr; cases hr; done) | (simp; done) | exact fun _ h => List.mem_append_left _ h | (intro r hr; simp [hr]; done))) ?_
    clear hL3 hsv hQ3 hRR
    rintro q st ⟨i, S, Q, sent, RH, rfl, hi, hL, hsv, hQB, hse, hRH, rfl⟩
    by_cases h1 : i < lq.length
    · by_cases h2 : i < 20
      · obtain ⟨x, hx⟩ : ∃ x, lq[i]? = some x := ⟨_, List.getElem?_eq_getElem h1⟩
        have hr := c16_at hx
        have hAA := hA.mono hRH
        obtain ⟨a7, o7, rfl, hmem⟩ := hAA.pos (by omega)
        (repeat (first | ((first | (apply wo_v; rfl) ); (· first | (apply pv_ev; rfl) | (apply g_pick; first | (apply pv_pick_t; rfl; rfl) ) | (apply g_bi; first | (apply pv_len_sl; rfl) ) )) | apply wo_nil | apply wc_seq | apply wc_region | apply wc_skip | (apply wc_true; rfl) | (apply wc_false; rfl) | (apply a_dec_t; rfl; (· first | assumption | omega)) | (apply wo_run; rfl; rfl) | (apply wo_skip; rfl; rfl; rfl; rfl) | (apply wo_skip_u; rfl; rfl; rfl) | (apply a_gt; rfl; rfl; (· first | assumption | omega)) ))
        refine wc_block ?_
        (repeat (first | ((first | (apply wo_v; rfl) ); (· first | (apply pv_ev; rfl) | (apply g_load; first | (apply pv_ld; rfl; (· (repeat (first | apply sel_there))); rfl) | (apply pv_ld_ownf; rfl; (· (repeat (first | fail ))); (· assumption); rfl) | (apply pv_ld_own1; rfl; (· (repeat (first | apply sel_there))); (· assumption)) | (apply pv_ld_rof; rfl; (· (first | assumption )); (· assumption); rfl) | (apply pv_ld_ro1; rfl; (· (first | assumption )); (· assumption)) ) | (apply g_bin; first | (apply a_add; rfl; rfl; infer_instance; omega) | (apply pv_and; rfl; rfl) | (apply pv_add_s; rfl; rfl; omega) | (apply a_add_u; rfl; rfl; infer_instance) ) | (apply g_idx; first | (apply pv_idx; rfl; rfl; omega) ) | (apply g_build; apply pv_build; (· (repeat (first | apply Bld.nil | (apply Bld.one; rfl; rfl; (· (repeat (first | apply SetAt.here )))) )))) )) | apply wo_nil | apply wc_seq | apply wc_region | (apply wo_bsl; (· (repeat (first | apply Rws'.nil | (apply Rws'.one; rfl; rfl; rfl) ))); rfl; rfl; rfl; rfl; intro bx) ))
        obtain ⟨nn, hnn⟩ : ∃ nn, (first + bits .and .u16 x 63) % 65536 = nn := ⟨_, rfl⟩
        rw [hnn]
        obtain ⟨b7, hb7⟩ : ∃ g, g = bx := ⟨_, rfl⟩
        subst hb7
        refine wo_still (ao := some ⟨b7, 0, none⟩) (n := 1) (c := 1) (by (repeat (first | apply sel_here )); done) (fun R8 hS8 => ?_)
        have hp := pServe gr br 500 S t 9 0 sent i 10000 Q [nn] (some ⟨b7, 0, none⟩) 1 1 (R8 ++ RH) false 0 false (by omega) hL (by omega) hQB (by omega) (by omega) (by omega) hS8.sq (by simp) (by omega)
        have hq := svM_QB (mt := 9) (mg := 0) (now := (i : Int)) (by omega) (by omega) [nn] Q 10000 hQB
        have hv := svM1 hsv 9 0 i 10000 nn
        obtain ⟨QF, out, hF⟩ : ∃ QF out, svM 9 0 (i : Int) [nn] Q 10000 = (QF, out) := ⟨_, _, rfl⟩
        rw [hF] at hp hq hv
        dsimp only at hp hq hv
        obtain ⟨hsv2, hout⟩ := hv
        have hRH2 : ∀ r ∈ R, r ∈ R8 ++ RH := fun r hr => List.mem_append_right _ (hRH r hr)
        generalize R8 ++ RH = RG at hp hRH2 ⊢
        have hq2 : QB QF ((i + 1 : Nat) : Int) := hq.mono (by omega)
        have hse2 : ∀ z : Int, 0 ≤ z → z ≤ sent + ([nn] : List Int).length → 0 ≤ z ∧ z ≤ ((i + 1 : Nat) : Int) := fun z h1 h2 => by simp only [List.length_cons, List.length_nil] at h2; omega
        rcases hout with rfl | ⟨tx, rfl, htx⟩
        · (refine wo_call (hp) rfl (by (repeat (first | apply sub_nil )); done) (by first | exact fun _ h => h | (intro r hr; cases hr; done) | (simp; done) | exact fun _ h => List.mem_append_left _ h | (intro r hr; simp [hr]; done)) rfl ?_; rintro v L' R' ⟨S', sent', ag, cg, rfl, rfl, rfl, hL', h8, h9⟩ H' hH RR hR; simp only [List.cons_append, List.nil_append] at hH hR; subst hH; have hR := hR.symm; subst hR)
          rcases hval nn with hnone | ⟨tx, htx⟩
          · (repeat (first | ((first | (apply wo_v; rfl) ); (· first | (apply pv_ev; rfl) | (apply g_pick; first | (apply pv_pick_t; rfl; rfl) | (apply pv_pick_f; rfl; rfl)) | (apply g_bin; first | (apply a_add; rfl; rfl; infer_instance; omega) ) | (apply g_bi; first | (apply pv_len_sl; rfl) ) | (apply g_un; first | (apply pv_not_t; rfl) | (apply pv_not_f; rfl) ) )) | ((apply wo_v; rfl); (· first | (apply g_lk; first | (apply pv_mlko_n; rfl; rfl; (· (repeat (first | apply sel_here | apply sel_there))); (· assumption)) ) )) | apply wo_nil | apply wc_seq | apply wc_region | apply wc_skip | (apply wc_true; rfl) | (apply wc_false; rfl) | (apply wo_run; rfl; rfl) | (apply wo_skip; rfl; rfl; rfl; rfl) | (apply wo_skip_u; rfl; rfl; rfl) ))
            exact loop_end ⟨i + 1, S', QF, sent', RG, rfl, by omega, hL', hsv2, hq2, hse2 _ h8 h9, hRH2, rfl⟩ (by omega) (wk_mk (by (repeat (first | apply wkf_nil | (apply wkf_cons; rfl))); done) (by (repeat (first | apply sub_nil | (apply sub_cons; (· (repeat (first | apply sel_here | apply sel_there)))))); done) (by first | exact fun _ h => h | (intro r hr; cases hr; done) | (simp; done) | exact fun _ h => List.mem_append_left _ h | (intro r hr; simp [hr]; done)))
          · (repeat (first | ((first | (apply wo_v; rfl) ); (· first | (apply pv_ev; rfl) | (apply g_pick; first | (apply pv_pick_t; rfl; rfl) | (apply pv_pick_f; rfl; rfl)) | (apply g_bin; first | (apply a_add; rfl; rfl; infer_instance; omega) ) | (apply g_bi; first | (apply pv_len_sl; rfl) ) | (apply g_un; first | (apply pv_not_t; rfl) ) )) | ((apply wo_v; rfl); (· first | (apply g_lk; first | (apply pv_mlko_n; rfl; rfl; (· (repeat (first | apply sel_here | apply sel_there))); (· assumption)) | (apply pv_mlko_s; rfl; rfl; (· (repeat (first | apply sel_here | apply sel_there))); (· assumption))) )) | apply wo_nil | apply wc_seq | apply wc_region | apply wc_skip | (apply wc_true; rfl) | (apply wc_false; rfl) | (apply wo_run; rfl; rfl) | (apply wo_skip; rfl; rfl; rfl; rfl) ))
            exact loop_end ⟨i + 1, S', QF, sent', RG, rfl, by omega, hL', hsv2, hq2, hse2 _ h8 h9, hRH2, rfl⟩ (by omega) (wk_mk (by (repeat (first | apply wkf_nil | (apply wkf_cons; rfl))); done) (by (repeat (first | apply sub_nil | (apply sub_cons; (· (repeat (first | apply sel_here | apply sel_there)))))); done) (by first | exact fun _ h => h | (intro r hr; cases hr; done) | (simp; done) | exact fun _ h => List.mem_append_left _ h | (intro r hr; simp [hr]; done)))
        · (refine wo_call (hp) rfl (by (repeat (first | apply sub_nil )); done) (by first | exact fun _ h => h | (intro r hr; cases hr; done) | (simp; done) | exact fun _ h => List.mem_append_left _ h | (intro r hr; simp [hr]; done)) rfl ?_; rintro v L' R' ⟨S', sent', ag, cg, rfl, rfl, rfl, hL', h8, h9⟩ H' hH RR hR; simp only [List.cons_append, List.nil_append] at hH hR; subst hH; have hR := hR.symm; subst hR)
          have hl1 : ([tx] : List ByteArray).length = 1 := rfl
          rw [hl1]
          have hg1 : (gstrs [tx])[0]? = some [.string tx] := rfl
          refine wo_some (ao := ag) (n := 1) (by (repeat (first | apply sel_here | apply sel_there)); done) (by omega) ?_
          rintro b9 o9 rfl
          (repeat (first | ((first | (apply wo_v; rfl) ); (· first | (apply pv_ev; rfl) | (apply g_load; first | (apply pv_ld; rfl; (· (repeat (first | apply sel_there))); rfl) | (apply pv_ld_ownf; rfl; (· (repeat (first | fail ))); (· assumption); rfl) | (apply pv_ld_own1; rfl; (· (repeat (first | apply sel_here | apply sel_there))); (· assumption)) ) | (apply g_pick; first | (apply pv_pick_t; rfl; rfl) | (apply pv_pick_f; rfl; rfl)) | (apply g_bin; first | (apply a_add; rfl; rfl; infer_instance; omega) | (apply pv_neq_s; rfl; rfl) ) | (apply g_bi; first | (apply pv_len_sl; rfl) ) | (apply g_un; first | (apply pv_not_t; rfl) ) | (apply g_idx; first | (apply pv_idx; rfl; rfl; omega) | (apply (pv_idx_e 0); rfl; rfl; rfl; omega) ) )) | ((apply wo_v; rfl); (· first | (apply g_lk; first | (apply pv_mlko_n; rfl; rfl; (· (repeat (first | apply sel_here | apply sel_there))); (· assumption)) | (apply pv_mlko_s; rfl; rfl; (· (repeat (first | apply sel_here | apply sel_there))); (· assumption))) )) | apply wo_nil | apply wc_seq | apply wc_region | apply wc_skip | (apply wc_true; rfl) | (apply wc_false; rfl) | (apply wo_run; rfl; rfl) | (apply wo_skip; rfl; rfl; rfl; rfl) | (apply wo_skip_u; rfl; rfl; rfl) | (apply a_gt; rfl; rfl; (· first | assumption | omega)) | (apply a_gf; rfl; rfl; (· first | assumption | omega)) | (apply a_gt; rfl; rfl; (· first | (simp; done) | (simp; omega))) | (apply a_gf; rfl; rfl; (· first | (simp; done) | (simp; omega))) ))
          exact loop_end ⟨i + 1, S', QF, sent', RG, rfl, by omega, hL', hsv2, hq2, hse2 _ h8 h9, hRH2, rfl⟩ (by omega) (wk_mk (by (repeat (first | apply wkf_nil | (apply wkf_cons; rfl))); done) (by (repeat (first | apply sub_nil | (apply sub_cons; (· (repeat (first | apply sel_here | apply sel_there)))))); done) (by first | exact fun _ h => h | (intro r hr; cases hr; done) | (simp; done) | exact fun _ h => List.mem_append_left _ h | (intro r hr; simp [hr]; done)))
      · (repeat (first | ((first | (apply wo_v; rfl) ); (· first | (apply pv_ev; rfl) | (apply g_pick; first | (apply pv_pick_t; rfl; rfl) ) | (apply g_bi; first | (apply pv_len_sl; rfl) ) )) | apply wo_nil | apply wc_seq | apply wc_region | (apply wc_exit; rfl) | apply wc_ret | (apply wc_true; rfl) | (apply wc_false; rfl) | (apply a_dec_t; rfl; (· first | assumption | omega)) | (apply a_dec_f; rfl; (· first | assumption | omega)) | (apply wo_run; rfl; rfl) | (apply wo_skip; rfl; rfl; rfl; rfl) | (apply wo_skip_u; rfl; rfl; rfl) | (apply a_gt; rfl; rfl; (· first | assumption | omega)) ))
        exact ret1 rfl rfl rfl ((by (repeat (first | apply sub_nil )); done) : List.Perm _ ([] ++ _)) (by first | exact fun _ h => h | (intro r hr; cases hr; done) | (simp; done) | exact fun _ h => List.mem_append_left _ h | (intro r hr; simp [hr]; done))
    · (repeat (first | ((first | (apply wo_v; rfl) ); (· first | (apply pv_ev; rfl) | (apply g_pick; first | (apply pv_pick_t; rfl; rfl) | (apply pv_pick_f; rfl; rfl)) | (apply g_bi; first | (apply pv_len_sl; rfl) ) )) | apply wo_nil | apply wc_seq | apply wc_region | (apply wc_exit; rfl) | apply wc_ret | (apply wc_true; rfl) | (apply wc_false; rfl) | (apply wo_run; rfl; rfl) | (apply wo_skip; rfl; rfl; rfl; rfl) | (apply wo_skip_u; rfl; rfl; rfl) | (apply a_gt; rfl; rfl; (· first | assumption | omega)) | (apply a_gf; rfl; rfl; (· first | assumption | omega)) ))
      exact ret1 rfl rfl rfl ((by (repeat (first | apply sub_nil )); done) : List.Perm _ ([] ++ _)) (by first | exact fun _ h => h | (intro r hr; cases hr; done) | (simp; done) | exact fun _ h => List.mem_append_left _ h | (intro r hr; simp [hr]; done))
theorem c64_rowsF {A : Option Addr} {n c : Nat} {V : Nat → Nat → Value} {w : World} (h : Rws [.int .i64] w A n c V) : ∃ (l : List Int) (R : List Ro), l.length = n ∧ (∀ r ∈ R, r.sat w) ∧ SQ R 1 A n c (c64 l) ∧ n ≤ 9223372036854775807 := by
  have h3 := h.2.1
  obtain ⟨z, R, h4, h5, h6, _⟩ := rws_k h
  refine ⟨(List.range n).map z, R, by simp, h4, ⟨by simp, fun h0 => ?_⟩, by unfold maxLen at h3; omega⟩
  obtain ⟨b, o, hA, hm⟩ := h6 h0
  have e : kseg .i64 z n = c64 ((List.range n).map z) := by simp [kseg, Function.comp_def]
  exact ⟨b, o, hA, by rw [← e]; exact hm⟩
theorem c16_rowsF {A : Option Addr} {n c : Nat} {V : Nat → Nat → Value} {w : World} (h : Rws [.int .u16] w A n c V) : ∃ (l : List Int) (R : List Ro), l.length = n ∧ (∀ r ∈ R, r.sat w) ∧ SQ R 1 A n c (c16 l) ∧ (∀ x ∈ l, in16 x) := by
  obtain ⟨z, R, h4, h5, h6, _⟩ := rws_k h
  refine ⟨(List.range n).map z, R, by simp, h4, ⟨by simp [c16], fun h0 => ?_⟩, fun x hx => ?_⟩
  · obtain ⟨b, o, hA, hm⟩ := h6 h0
    have e : kseg .u16 z n = c16 ((List.range n).map z) := by simp [kseg, c16, Function.comp_def]
    exact ⟨b, o, hA, by rw [← e]; exact hm⟩
  · obtain ⟨i, hi, rfl⟩ := List.mem_map.1 hx
    exact h5 i (List.mem_range.1 hi)
theorem antiphonForward_walk {w : World} (a : Int) (ha : 0 ≤ a ∧ a ≤ 65535) (A : Option Addr) (n c : Nat) (V : Nat → Nat → Value) (hV : Rws [.int .i64] w A n c V) (B : Option Addr) (m d : Nat) (U : Nat → Nat → Value) (hU : Rws [.int .i64] w B m d U) (D : Option Addr) (k f : Nat) (X : Nat → Nat → Value) (hX : Rws [.int .u16] w D k f X) :
    Calls Try.prog 9 #[.int .u16 a, .slice A n c, .slice B m d, .slice D k f] w fun e w' => e = .returned (.bool true) ∧ Below w.heap.size w w' := by
  obtain ⟨l, R, rfl, hR, hS, hn⟩ := c64_rowsF hV
  obtain ⟨l2, R2, rfl, hR2, hS2, hn2⟩ := c64_rowsF hU
  obtain ⟨l3, R3, rfl, hR3, hS3, hb⟩ := c16_rowsF hX
  exact walk_of (forward_fn a ha l A c l2 B d l3 D f (R ++ (R2 ++ R3)) (hS.mono fun r hr => List.mem_append_left _ hr) (hS2.mono fun r hr => List.mem_append_right _ (List.mem_append_left _ hr)) (hS3.mono fun r hr => List.mem_append_right _ (List.mem_append_right _ hr)) hb hn2)
    (fun r hr => by
      rcases List.mem_append.1 hr with h | h
      · exact hR r h
      · rcases List.mem_append.1 h with h | h
        · exact hR2 r h
        · exact hR3 r h)
end Go.Proofs.Ytlhlidmhlhodiaa
