/-
  Package rtcp: Pairs.
-/
import Derived.Test.YtnjicnadlhfocaaSeqs
namespace Go.Proofs.Ytnjicnadlhfocaa
set_option linter.unusedSimpArgs false
set_option linter.unusedVariables false
open Go.RowKit
attribute [local irreducible] Pv WO WC Fn
set_option maxRecDepth 100000

def orB (b d : Int) : Int := bits .or .u16 b (IntKind.u16.wrap (1 * 2 ^ (min ((d - 1).toNat) IntKind.u16.bits)))
theorem orB_in (b d : Int) : in16 (orB b d) := by
  unfold orB in16
  have h : ∀ n : Int, 0 ≤ IntKind.u16.wrap n ∧ IntKind.u16.wrap n ≤ 65535 := fun n => by rw [IntKind.wrap_u16]; omega
  exact h _
/-- one number more -/
def pStep (out : List (Int × Int)) (n : Int) : List (Int × Int) :=
  match out[out.length - 1]? with
  | none => out ++ [(n, 0)]
  | some x => if (n - x.1) % 65536 = 0 then out else if (n - x.1) % 65536 ≤ 16 then out.set (out.length - 1) (x.1, orB x.2 ((n - x.1) % 65536)) else out ++ [(n, 0)]
def pairM (l : List Int) : List (Int × Int) := l.foldl pStep []
theorem pairM_take {l : List Int} {j : Nat} {x : Int} (h : l[j]? = some x) : pairM (l.take (j + 1)) = pStep (pairM (l.take j)) x := by
  unfold pairM
  rw [List.take_add_one, h, List.foldl_append]; rfl
theorem pStep_len (out : List (Int × Int)) (n : Int) : (pStep out n).length ≤ out.length + 1 := by
  unfold pStep
  split
  · simp
  · split
    · omega
    · split
      · simp
      · simp
theorem pStep_in {out : List (Int × Int)} {n : Int} (h : ∀ x ∈ out, in16 x.1 ∧ in16 x.2) (hn : in16 n) : ∀ x ∈ pStep out n, in16 x.1 ∧ in16 x.2 := by
  have hz : in16 0 := by unfold in16; omega
  unfold pStep
  split
  · intro x hx
    rcases List.mem_append.1 hx with hx | hx
    · exact h x hx
    · rcases List.mem_singleton.1 hx with rfl; exact ⟨hn, hz⟩
  · rename_i y hy
    split
    · exact h
    · split
      · intro x hx
        rcases List.mem_or_eq_of_mem_set hx with hx | hx
        · exact h x hx
        · subst hx; exact ⟨(h y (List.mem_of_getElem? hy)).1, orB_in _ _⟩
      · intro x hx
        rcases List.mem_append.1 hx with hx | hx
        · exact h x hx
        · rcases List.mem_singleton.1 hx with rfl; exact ⟨hn, hz⟩
theorem pairM_in {l : List Int} (h : ∀ x ∈ l, in16 x) : ∀ j, j ≤ l.length → (∀ x ∈ pairM (l.take j), in16 x.1 ∧ in16 x.2) ∧ (pairM (l.take j)).length ≤ j
  | 0, _ => ⟨(fun x hx => by cases hx), Nat.le_refl _⟩
  | j + 1, hj => by
    have he := List.getElem?_eq_getElem (show j < l.length by omega)
    obtain ⟨h1, h2⟩ := pairM_in h j (by omega)
    rw [pairM_take he]
    exact ⟨pStep_in h1 (h _ (List.getElem_mem _)), Nat.le_trans (pStep_len _ _) (by omega)⟩
theorem pairM_ok {l : List Int} (h : ∀ x ∈ l, in16 x) : (∀ x ∈ pairM l, in16 x.1 ∧ in16 x.2) ∧ (pairM l).length ≤ l.length := by
  have := pairM_in h l.length (Nat.le_refl _)
  rwa [List.take_length] at this
abbrev pO (ao : Option Addr) (n c : Nat) (l : List (Int × Int)) : It := .own 138 2 ao n c (pairV l)
theorem pO_snoc (ao : Option Addr) (n c : Nat) (l : List (Int × Int)) (x y : Int) : pO ao n c (l ++ [(x, y)]) = It.own 138 2 ao n c (pairV l ++ [[.int .u16 x, .int .u16 y]]) := by simp [pO, pairV]
theorem pO_set (ao : Option Addr) (n c : Nat) (l : List (Int × Int)) (k : Nat) (x y : Int) : pO ao n c (l.set k (x, y)) = It.own 138 2 ao n c ((pairV l).set k [.int .u16 x, .int .u16 y]) := by
  rw [pO, pairV, pairV, List.map_set]
set_option maxHeartbeats 8000000 in
theorem nPairs (l : List Int) (A : Option Addr) (n c : Nat) (R : List Ro) (hS : SQ R 1 A n c (c16 l)) (hl : l.length ≤ 100000) (hb : ∀ x ∈ l, in16 x) :
    Fn Try.prog 20 #[.slice A n c] [] R (fun v L' R' => ∃ ao c', v = .slice ao (pairM l).length c' ∧ L' = [pO ao (pairM l).length c' (pairM l)] ∧ R' = []) := by
  have hn : n = l.length := by rw [← hS.len, c16_len]
  subst hn
  refine fn_intro Try.func20 rfl Try.ntmps20 rfl (fun E => ?_)
  (repeat (first | ((first | (apply wo_v; rfl) ); (· first | (apply pv_ev; rfl) | (apply g_bi; first | (apply pv_len_sl; rfl) ) )) | apply wo_nil | apply wc_seq | apply wc_region ))
  refine wc_own0 138 2 ?_
  refine wc_join0 (fun st => ∃ ao c', st = ⟨[(3, .slice ao (pairM l).length c')], [pO ao (pairM l).length c' (pairM l)], R⟩) ?_ ?_
  · refine wc_block ?_
    refine wc_loop' (fun q st => ∃ (i : Nat) (ao : Option Addr) (c' : Nat) (s : List (Int × Int)), q = l.length - i ∧ i ≤ l.length ∧ s = pairM (l.take i) ∧ st = ⟨[(3, .slice ao s.length c'), (8, .slice A l.length c), (9, .int .i64 l.length), (10, .int .i64 i)], [pO ao s.length c' s], R⟩) ⟨0, none, 0, [], rfl, Nat.zero_le _, rfl, rfl⟩ (wk_mk (by (repeat (first | apply wkf_nil | (apply wkf_cons; rfl))); done) (by (repeat (first | apply sub_nil )); done) (by first | exact fun _ h => h | (intro r hr; cases hr; done) | (simp; done) | exact fun _ h => List.mem_append_left _ h | (intro r hr; simp [hr]; done))) ?_
    rintro q st ⟨i, ao, c', s, rfl, hi, hs, rfl⟩
    by_cases hlt : i < l.length
    · obtain ⟨x, hx⟩ : ∃ x, l[i]? = some x := ⟨_, List.getElem?_eq_getElem hlt⟩
      have hr := c16_at hx
      obtain ⟨x1, x2⟩ := hb _ (List.mem_of_getElem? hx)
      have hnx := pairM_take hx
      obtain ⟨hin, hlen⟩ := pairM_in hb i hi
      rw [← hs] at hnx hin hlen
      obtain ⟨a0, o0, rfl, hmem⟩ := hS.pos (by omega)
      by_cases h0 : s.length = 0
      · obtain rfl := List.eq_nil_of_length_eq_zero h0
        have e : pStep [] x = [] ++ [(x, 0)] := rfl
        rw [e] at hnx
        (repeat (first | ((first | (apply wo_v; rfl) ); (· first | (apply pv_ev; rfl) | (apply g_load; first | (apply pv_ld; rfl; (· (repeat (first | apply sel_there))); rfl) | (apply pv_ld_ownf; rfl; (· (repeat (first | fail ))); (· assumption); rfl) | (apply pv_ld_own1; rfl; (· (repeat (first | apply sel_there))); (· assumption)) | (apply pv_ld_rof; rfl; (· (first | assumption )); (· assumption); rfl) | (apply pv_ld_ro1; rfl; (· (first | assumption )); (· assumption)) ) | (apply g_bin; first | (apply a_sub; rfl; rfl; infer_instance; omega) ) | (apply g_bi; first | (apply pv_len_sl; rfl) ) | (apply g_idx; first | (apply pv_idx; rfl; rfl; omega) ) | (apply g_build; apply pv_build; (· (repeat (first | apply Bld.nil | (apply Bld.one; rfl; rfl; (· (repeat (first | apply SetAt.here )))) )))) )) | apply wo_nil | apply wc_seq | apply wc_region | apply wc_block | apply wc_skip | (apply wc_true; rfl) | (apply wc_false; rfl) | (apply a_dec_t; rfl; (· first | assumption | omega)) | (apply wo_bsl; (· (repeat (first | apply Rws'.nil | (apply Rws'.one; rfl; rfl; rfl) | (apply Rws'.agg; rfl; rfl; rfl)))); rfl; rfl; rfl; rfl; intro bx) ))
        refine wo_app rfl rfl (by (repeat (first | apply sel_here | apply sel_there)); done) (by (repeat (first | apply sel_here )); done) (by unfold maxLen; omega) (by omega) rfl (fun ao2 c2 => ?_)
        (repeat (first | ((first | (apply wo_v; rfl) ); (· first | (apply pv_ev; rfl) | (apply g_bin; first | (apply a_add; rfl; rfl; infer_instance; omega) ) )) | apply wo_nil | apply wc_region ))
        exact loop_end ⟨i + 1, ao2, c2, [] ++ [(x, 0)], rfl, by omega, hnx.symm, by rw [List.length_append, List.length_singleton, pO_snoc]⟩ (by omega) (wk_mk (by (repeat (first | apply wkf_nil | (apply wkf_cons; rfl))); done) (by (repeat (first | apply sub_nil )); done) (by first | exact fun _ h => h | (intro r hr; cases hr; done) | (simp; done) | exact fun _ h => List.mem_append_left _ h | (intro r hr; simp [hr]; done)))
      · obtain ⟨y, hy⟩ : ∃ y, s[s.length - 1]? = some y := ⟨_, List.getElem?_eq_getElem (by omega)⟩
        have hr2 := pairV_at hy
        obtain ⟨y1, y2⟩ := hin y (List.mem_of_getElem? hy)
        obtain ⟨p, b⟩ := y
        dsimp only at hr2 y1 y2
        unfold pStep at hnx
        rw [hy] at hnx
        dsimp only at hnx
        have es : (s.length : Int) - 1 = ((s.length - 1 : Nat) : Int) := by omega
        refine wc_some (ao := ao) (by (repeat (first | apply sel_here )); done) (by omega) (fun b4 o4 hao => ?_)
        subst hao
        have hd : 0 ≤ (x - p) % 65536 ∧ (x - p) % 65536 < 65536 := by omega
        by_cases c1 : (x - p) % 65536 = 0
        · rw [if_pos c1] at hnx
          (repeat (first | ((first | (apply wo_v; rfl) ); (· first | (apply pv_ev; rfl) | (apply pv_fld; rfl) | (apply g_load; first | (apply pv_ld; rfl; (· (repeat (first | apply sel_there))); rfl) | (apply pv_ld_ownf; rfl; (· (repeat (first | apply sel_here ))); (· assumption); rfl) | (apply pv_ld_own1; rfl; (· (repeat (first | apply sel_there))); (· assumption)) | (apply pv_ld_rof; rfl; (· (first | assumption )); (· assumption); rfl) | (apply pv_ld_ro1; rfl; (· (first | assumption )); (· assumption)) ) | (apply g_bin; first | (apply a_sub; rfl; rfl; infer_instance; omega) ) | (apply g_bi; first | (apply pv_len_sl; rfl) ) | (apply g_idx; first | (apply pv_idx; rfl; rfl; omega) | (apply (pv_idx_e 0); rfl; rfl; rfl; omega) | (apply pv_idx_n; rfl; rfl; omega) ) )) | apply wo_nil | apply wc_seq | apply wc_region | apply wc_block | apply wc_skip | (apply wc_true; rfl) | (apply wc_false; rfl) | (apply a_dec_t; rfl; (· first | assumption | omega)) ))
          rw [es]
          (repeat (first | ((first | (apply wo_v; rfl) ); (· first | (apply pv_ev; rfl) | (apply g_load; first | (apply pv_ld; rfl; (· (repeat (first | apply sel_there))); rfl) | (apply pv_ld_ownf; rfl; (· (repeat (first | apply sel_here ))); (· assumption); rfl) ) | (apply g_bin; first | (apply a_add; rfl; rfl; infer_instance; omega) | (apply a_sub; rfl; rfl; infer_instance; omega) | (apply a_sub_u; rfl; rfl; infer_instance) ) )) | apply wo_nil | apply wc_seq | apply wc_region | (apply wc_exit; rfl) | (apply wc_true; rfl) | (apply wc_false; rfl) | (apply a_dec_t; rfl; (· first | assumption | omega)) ))
          exact loop_end ⟨i + 1, _, c', s, rfl, by omega, hnx.symm, rfl⟩ (by omega) (wk_mk (by (repeat (first | apply wkf_nil | (apply wkf_cons; rfl))); done) (by (repeat (first | apply sub_nil )); done) (by first | exact fun _ h => h | (intro r hr; cases hr; done) | (simp; done) | exact fun _ h => List.mem_append_left _ h | (intro r hr; simp [hr]; done)))
        rw [if_neg c1] at hnx
        by_cases c2 : (x - p) % 65536 ≤ 16
        · rw [if_pos c2] at hnx
          (repeat (first | ((first | (apply wo_v; rfl) ); (· first | (apply pv_ev; rfl) | (apply pv_fld; rfl) | (apply g_load; first | (apply pv_ld; rfl; (· (repeat (first | apply sel_there))); rfl) | (apply pv_ld_ownf; rfl; (· (repeat (first | apply sel_here ))); (· assumption); rfl) | (apply pv_ld_own1; rfl; (· (repeat (first | apply sel_there))); (· assumption)) | (apply pv_ld_rof; rfl; (· (first | assumption )); (· assumption); rfl) | (apply pv_ld_ro1; rfl; (· (first | assumption )); (· assumption)) ) | (apply g_bin; first | (apply a_sub; rfl; rfl; infer_instance; omega) ) | (apply g_bi; first | (apply pv_len_sl; rfl) ) | (apply g_idx; first | (apply pv_idx; rfl; rfl; omega) | (apply (pv_idx_e 0); rfl; rfl; rfl; omega) | (apply pv_idx_n; rfl; rfl; omega) ) )) | apply wo_nil | apply wc_seq | apply wc_region | apply wc_block | apply wc_skip | (apply wc_true; rfl) | (apply wc_false; rfl) | (apply a_dec_t; rfl; (· first | assumption | omega)) ))
          rw [es]
          (repeat (first | ((first | (apply wo_v; rfl) ); (· first | (apply pv_ev; rfl) | (apply pv_fld; rfl) | (apply g_load; first | (apply pv_ld; rfl; (· (repeat (first | apply sel_there))); rfl) | (apply pv_ld_ownf; rfl; (· (repeat (first | apply sel_here ))); (· assumption); rfl) ) | (apply g_bin; first | (apply a_add; rfl; rfl; infer_instance; omega) | (apply a_sub; rfl; rfl; infer_instance; omega) | (apply (a_or 4); rfl; rfl; infer_instance; rfl; omega) | (apply (a_or 5); rfl; rfl; infer_instance; rfl; omega) | (apply (a_or 6); rfl; rfl; infer_instance; rfl; omega) | (apply (a_or 7); rfl; rfl; infer_instance; rfl; omega) | (apply (a_or 8); rfl; rfl; infer_instance; rfl; omega) | (apply (a_or 16); rfl; rfl; infer_instance; rfl; omega) | (apply (a_or 24); rfl; rfl; infer_instance; rfl; omega) | (apply (a_or 32); rfl; rfl; infer_instance; rfl; omega) | (apply pv_or; rfl; rfl) | (apply a_sub_u; rfl; rfl; infer_instance) | (apply a_shl; rfl; rfl; rfl; omega; rfl; infer_instance; omega) | (apply a_shl_u; rfl; rfl; rfl; omega; rfl; infer_instance) | (apply pv_shl; rfl; rfl; omega) ) | (apply g_idx; first | (apply pv_idx; rfl; rfl; omega) ) )) | apply wo_nil | apply wc_seq | apply wc_region | apply wc_skip | (apply wc_exit; rfl) | (apply wc_true; rfl) | (apply wc_false; rfl) | (apply a_dec_t; rfl; (· first | assumption | omega)) | (apply a_dec_f; rfl; (· first | assumption | omega)) | (apply wo_st; rfl; rfl; rfl; (· (repeat (first | apply sel_there))); (· (repeat (first | fail ))); rfl) | (apply wo_st_ownf; rfl; rfl; rfl; (· (repeat (first | apply sel_here ))); (· assumption); (· (repeat (first | apply SetAt.here | apply SetAt.there))); rfl) ))
          exact loop_end ⟨i + 1, some ⟨b4, o4, none⟩, c', s.set (s.length - 1) (p, orB b ((x - p) % 65536)), rfl, by omega, hnx.symm, by rw [List.length_set, pO_set]⟩ (by omega) (wk_mk (by (repeat (first | apply wkf_nil | (apply wkf_cons; rfl))); done) (by (repeat (first | apply sub_nil )); done) (by first | exact fun _ h => h | (intro r hr; cases hr; done) | (simp; done) | exact fun _ h => List.mem_append_left _ h | (intro r hr; simp [hr]; done)))
        · rw [if_neg c2] at hnx
          (repeat (first | ((first | (apply wo_v; rfl) ); (· first | (apply pv_ev; rfl) | (apply pv_fld; rfl) | (apply g_load; first | (apply pv_ld; rfl; (· (repeat (first | apply sel_there))); rfl) | (apply pv_ld_ownf; rfl; (· (repeat (first | apply sel_here ))); (· assumption); rfl) | (apply pv_ld_own1; rfl; (· (repeat (first | apply sel_there))); (· assumption)) | (apply pv_ld_rof; rfl; (· (first | assumption )); (· assumption); rfl) | (apply pv_ld_ro1; rfl; (· (first | assumption )); (· assumption)) ) | (apply g_bin; first | (apply a_sub; rfl; rfl; infer_instance; omega) ) | (apply g_bi; first | (apply pv_len_sl; rfl) ) | (apply g_idx; first | (apply pv_idx; rfl; rfl; omega) | (apply (pv_idx_e 0); rfl; rfl; rfl; omega) | (apply pv_idx_n; rfl; rfl; omega) ) )) | apply wo_nil | apply wc_seq | apply wc_region | apply wc_block | apply wc_skip | (apply wc_true; rfl) | (apply wc_false; rfl) | (apply a_dec_t; rfl; (· first | assumption | omega)) ))
          rw [es]
          (repeat (first | ((first | (apply wo_v; rfl) ); (· first | (apply pv_ev; rfl) | (apply g_load; first | (apply pv_ld; rfl; (· (repeat (first | apply sel_there))); rfl) | (apply pv_ld_ownf; rfl; (· (repeat (first | apply sel_here ))); (· assumption); rfl) ) | (apply g_bin; first | (apply a_sub; rfl; rfl; infer_instance; omega) | (apply a_sub_u; rfl; rfl; infer_instance) ) | (apply g_bi; first | fail ) | (apply g_build; apply pv_build; (· (repeat (first | apply Bld.nil | (apply Bld.one; rfl; rfl; (· (repeat (first | apply SetAt.here )))) )))) )) | apply wo_nil | apply wc_seq | apply wc_region | apply wc_skip | (apply wc_true; rfl) | (apply wc_false; rfl) | (apply a_dec_t; rfl; (· first | assumption | omega)) | (apply a_dec_f; rfl; (· first | assumption | omega)) | (apply wo_bsl; (· (repeat (first | apply Rws'.nil | (apply Rws'.one; rfl; rfl; rfl) | (apply Rws'.agg; rfl; rfl; rfl)))); rfl; rfl; rfl; rfl; intro bx) ))
          refine wo_app rfl rfl (by (repeat (first | apply sel_here | apply sel_there)); done) (by (repeat (first | apply sel_here )); done) (by unfold maxLen; omega) (by omega) rfl (fun ao2 c2 => ?_)
          (repeat (first | ((first | (apply wo_v; rfl) ); (· first | (apply pv_ev; rfl) | (apply g_bin; first | (apply a_add; rfl; rfl; infer_instance; omega) ) )) | apply wo_nil | apply wc_region ))
          exact loop_end ⟨i + 1, ao2, c2, s ++ [(x, 0)], rfl, by omega, hnx.symm, by rw [List.length_append, List.length_singleton, pO_snoc]⟩ (by omega) (wk_mk (by (repeat (first | apply wkf_nil | (apply wkf_cons; rfl))); done) (by (repeat (first | apply sub_nil )); done) (by first | exact fun _ h => h | (intro r hr; cases hr; done) | (simp; done) | exact fun _ h => List.mem_append_left _ h | (intro r hr; simp [hr]; done)))
    · have e : i = l.length := by omega
      subst e
      rw [List.take_length] at hs
      subst hs
      (repeat (first | ((first | (apply wo_v; rfl) ); (· first | (apply pv_ev; rfl) )) | apply wo_nil | apply wc_seq | apply wc_region | (apply wc_exit; rfl) | (apply wc_true; rfl) | (apply wc_false; rfl) | (apply a_dec_t; rfl; (· first | assumption | omega)) | (apply a_dec_f; rfl; (· first | assumption | omega)) ))
      exact cut_end ⟨ao, c', rfl⟩ (wk_mk (by (repeat (first | apply wkf_nil | (apply wkf_cons; rfl))); done) (by (repeat (first | apply sub_nil )); done) (by first | exact fun _ h => h | (intro r hr; cases hr; done) | (simp; done) | exact fun _ h => List.mem_append_left _ h | (intro r hr; simp [hr]; done)))
  rintro st ⟨ao, c', rfl⟩
  (repeat (first | ((first | (apply wo_v; rfl) ); (· first | (apply pv_ev; rfl) )) | apply wo_nil | apply wc_seq | apply wc_region | apply wc_ret ))
  exact ret1 rfl rfl ⟨ao, c', rfl, rfl, rfl⟩ ((by (repeat (first | apply sub_nil )); done) : List.Perm _ ([_] ++ _)) (by first | exact fun _ h => h | (intro r hr; cases hr; done) | (simp; done) | exact fun _ h => List.mem_append_left _ h | (intro r hr; simp [hr]; done))
end Go.Proofs.Ytnjicnadlhfocaa
