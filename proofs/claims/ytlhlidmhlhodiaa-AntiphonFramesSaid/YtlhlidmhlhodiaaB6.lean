/-
  Texts of this proof, laid together (part 6 of 8).
-/
import Derived.Test.YtlhlidmhlhodiaaB5
/-
  Package reorder: things with gaps: run, first, skip.
-/
namespace Go.Proofs.Ytlhlidmhlhodiaa
set_option linter.unusedSimpArgs false
set_option linter.unusedVariables false
open Go.RowKit
instance : HasBody Try.prog 159 := ⟨by kernel_rfl⟩
instance : HasBody Try.prog 160 := ⟨by kernel_rfl⟩
attribute [local irreducible] Pv WO WC Fn
set_option maxRecDepth 100000

/-- what waits: numbers with their stamps -/
structure WGk (G : Nat → Bool) (a J : Nat) (ws : List (Nat × Nat)) (ck : Nat) : Prop where
  idx : ws.map (·.1) = ng G a J
  st1 : (ws.map (·.2)).Nodup
  st2 : ∀ e ∈ ws, e.2 < ck
section
variable {G : Nat → Bool} {a J ck : Nat} {ws : List (Nat × Nat)}
theorem WGk.nil (G : Nat → Bool) (a ck : Nat) : WGk G a a [] ck := ⟨(ng_refl a).symm, List.nodup_nil, fun e h => by cases h⟩
theorem WGk.snoc (h : WGk G a J ws ck) (ha : a ≤ J) (hg : G J = false) : WGk G a (J + 1) (ws ++ [(J, ck)]) (ck + 1) := by
  refine ⟨by rw [List.map_append, h.idx, ng_snoc ha hg]; rfl, ?_, fun e he => ?_⟩
  · rw [List.map_append, List.nodup_append]
    refine ⟨h.st1, by simp, fun x hx y hy => ?_⟩
    obtain ⟨e, he, rfl⟩ := List.mem_map.1 hx
    rw [List.mem_singleton.1 hy]
    have := h.st2 e he
    show e.2 ≠ ck
    omega
  · rcases List.mem_append.1 he with he | he
    · have := h.st2 e he; omega
    · rw [List.mem_singleton.1 he]; exact Nat.lt_succ_self ck
theorem WGk.gone (h : WGk G a J ws ck) (ha : a ≤ J) (hg : G J = true) : WGk G a (J + 1) ws ck := ⟨by rw [h.idx, ng_skip ha hg], h.st1, h.st2⟩
theorem WGk.tail {e : Nat × Nat} (h : WGk G a J (e :: ws) ck) (he : e.1 = a) : WGk G (a + 1) J ws ck := by
  have h1 := h.idx
  rw [List.map_cons] at h1
  obtain ⟨h2, h3, _, _, h6⟩ := ng_hd h1.symm
  exact ⟨by rw [h6, he], (List.nodup_cons.1 h.st1).2, fun x hx => h.st2 x (.tail _ hx)⟩
theorem WGk.skip {e : Nat × Nat} (h : WGk G a J (e :: ws) ck) : WGk G e.1 J (e :: ws) ck ∧ a ≤ e.1 ∧ e.1 < J ∧ G e.1 = false ∧ ng G a e.1 = [] := by
  have h1 := h.idx
  rw [List.map_cons] at h1
  obtain ⟨h2, h3, h4, h5, h6⟩ := ng_hd h1.symm
  refine ⟨⟨?_, h.st1, h.st2⟩, h2, h3, h4, h5⟩
  rw [List.map_cons, ng_step h3, h4, h6]; rfl
theorem WGk.mem (h : WGk G a J ws ck) {e : Nat × Nat} (he : e ∈ ws) : a ≤ e.1 ∧ e.1 < J ∧ G e.1 = false := by
  have : e.1 ∈ ng G a J := by rw [← h.idx]; exact List.mem_map.2 ⟨e, he, rfl⟩
  exact ng_mem.1 this
theorem ng_nodup (G : Nat → Bool) (a b : Nat) : (ng G a b).Nodup := List.Pairwise.filter _ List.nodup_range'
theorem WGk.len (h : WGk G a J ws ck) : ws.length ≤ J := by
  have := ng_len (G := G) a J
  rw [← h.idx, List.length_map] at this; omega
/-- what goes out -/
structure RP (G : Nat → Bool) (a J : Nat) (ws : List (Nat × Nat)) (ck : Nat) (d : List (Nat × Nat)) (a' : Nat) (ws' : List (Nat × Nat)) : Prop where
  app : ws = d ++ ws'
  dx : d.map (·.1) = ng G a a'
  le : a ≤ a'
  leJ : a' ≤ J
  ok : WGk G a' J ws' ck
theorem RP.refl (h : WGk G a J ws ck) (ha : a ≤ J) : RP G a J ws ck [] a ws := ⟨rfl, (ng_refl a).symm, Nat.le_refl _, ha, h⟩
theorem RP.trans {d d2 ws2 ws3 : List (Nat × Nat)} {b c : Nat} (h : RP G a J ws ck d b ws2) (h2 : RP G b J ws2 ck d2 c ws3) : RP G a J ws ck (d ++ d2) c ws3 :=
  ⟨by rw [h.app, h2.app, List.append_assoc], by rw [List.map_append, h.dx, h2.dx, ng_app h.le h2.le], Nat.le_trans h.le h2.le, h2.leJ, h2.ok⟩
theorem RP.step {e : Nat × Nat} (h : WGk G a J (e :: ws) ck) (he : e.1 = a) : RP G a J (e :: ws) ck [e] (a + 1) ws := by
  have := h.skip
  refine ⟨rfl, ?_, Nat.le_succ a, by omega, h.tail he⟩
  rw [ng_step (Nat.lt_succ_self a), ng_refl, ← he, this.2.2.2.1]; rfl
theorem RP.from {e : Nat × Nat} {d ws' : List (Nat × Nat)} {b : Nat} (h : WGk G a J (e :: ws) ck) (h2 : RP G e.1 J (e :: ws) ck d b ws') : RP G a J (e :: ws) ck d b ws' := by
  obtain ⟨_, h3, _, _, h6⟩ := h.skip
  exact ⟨h2.app, by rw [h2.dx, ng_app h3 h2.le, h6]; rfl, Nat.le_trans h3 h2.le, h2.leJ, h2.ok⟩
end
def mB (B : Int) (ws : List (Nat × Nat)) : List Me := ws.map fun e => (B + e.1, thV (B + e.1) ByteArray.empty e.1, e.2)
def tRw (B : Int) (e : Nat × Nat) : List Value := [.int .i64 (B + e.1), .string ByteArray.empty, .int .i64 e.1]
theorem mB_no {G : Nat → Bool} {a J ck : Nat} {ws : List (Nat × Nat)} {B : Int} (h : WGk G a J ws ck) (hn : ¬ (a < J ∧ G a = false)) : ∀ e ∈ mB B ws, e.1 ≠ B + a := fun e he => by
  obtain ⟨x, hx, rfl⟩ := List.mem_map.1 he
  obtain ⟨h1, h2, h3⟩ := h.mem hx
  intro h4
  have h4 : B + (x.1 : Int) = B + (a : Int) := h4
  obtain h5 : x.1 = a := by omega
  exact hn ⟨by omega, by rw [← h5]; exact h3⟩
theorem mB_mok {G : Nat → Bool} {a J ck : Nat} {ws : List (Nat × Nat)} {B : Int} (h : WGk G a J ws ck) (hJ : J ≤ 100) (hB : 0 ≤ B ∧ B ≤ 1000000000000) : MOk (mEs (mB B ws)).toArray ck := by
  have hl := h.len
  refine ⟨mL_stamped ?_ ?_ ?_, ?_, fun x hx => ?_⟩
  · have : (mB B ws).map (·.2.2) = ws.map (·.2) := by simp [mB, Function.comp_def]
    rw [this]; exact h.st1
  · intro e he
    obtain ⟨x, hx, rfl⟩ := List.mem_map.1 he
    exact h.st2 x hx
  · have hn := ng_nodup G a J
    rw [← h.idx] at hn
    have : (mB B ws).map (·.1) = (ws.map (·.1)).map (fun n : Nat => B + (n : Int)) := by simp [mB, Function.comp_def]
    rw [this]
    clear h this
    generalize ws.map (·.1) = ks at hn
    induction ks with
    | nil => exact List.nodup_nil
    | cons x ks ih =>
      rw [List.nodup_cons] at hn
      rw [List.map_cons, List.nodup_cons]
      refine ⟨fun hm => ?_, ih hn.2⟩
      obtain ⟨y, hy, he⟩ := List.mem_map.1 hm
      obtain rfl : y = x := by omega
      exact hn.1 hy
  · simp [mEs, mB]; omega
  · simp only [mEs, mB, List.mem_map] at hx
    obtain ⟨e, ⟨y, hy, rfl⟩, rfl⟩ := hx
    have := (h.mem hy).2.1
    refine ⟨B + y.1, rfl, ?_⟩
    have h1 : IntKind.i64.min = -9223372036854775808 := rfl
    have h2 : IntKind.i64.max = 9223372036854775807 := rfl
    simp only [Lit.wf, h1, h2, Bool.and_eq_true, decide_eq_true_eq]
    omega
theorem mB_keys {B : Int} (ws : List (Nat × Nat)) : mKeys (mEs (mB B ws)).toArray = ws.map fun e => B + (e.1 : Int) := by simp [mKeys, mEs, mB, kInt, Function.comp_def]
def tblR2 (v1 : Value) (row : List Value) : Nat → List (List It) → Value → List (List It) → Prop := fun k Ls v Ms => match k, Ls with
  | 8, L => v = v1 ∧ Ms = L
  | 12, _ => ∃ b, v = .pointer (some ⟨b, 0, none⟩) ∧ Ms = [[thB b 0 ByteArray.empty 0]]
  | 13, [[.ob b _]] => v = undef ∧ Ms = [[.ob b (.cells row.toArray 218 (0, 0))]]
  | _, _ => False
def tblR5 (l : List Me) (ck : Nat) : Nat → List (List It) → Value → List (List It) → Prop := fun k Ls v Ms => match k, Ls with
  | 8, [[.ob b _]] => v = .tuple #[] ∧ Ms = [[.ob b (mL l ck)]]
  | _, _ => False
abbrev tO (ao : Option Addr) (c : Nat) (B : Int) (d : List (Nat × Nat)) : It := thO ao d.length c (d.map (tRw B))
abbrev RPost (b mp : Nat) (B lo : Int) (G : Nat → Bool) (a J : Nat) (ws : List (Nat × Nat)) (ck : Nat) : Value → List It → List Ro → Prop := fun v L' R' => ∃ d a' ws' ao c, v = .slice ao (d : List (Nat × Nat)).length c ∧ L' = [bfI b true (B + (a' : Nat)) mp lo, .ob mp (mL (mB B ws') ck), tO ao c B d] ∧ R' = [] ∧ RP G a J ws ck d a' ws' ∧ (a' < J → G a' = true)
set_option maxHeartbeats 8000000 in
theorem oRunG (b mp : Nat) (B lo : Int) (G : Nat → Bool) (a J : Nat) (ws : List (Nat × Nat)) (ck : Nat) (hB : 0 ≤ B ∧ B ≤ 1000000000000) (hJ : J ≤ 100) (ha : a ≤ J) (h : WGk G a J ws ck) :
    Fn Try.prog 136 #[.pointer (some ⟨b, 0, none⟩)] [bfI b true (B + (a : Nat)) mp lo, .ob mp (mL (mB B ws) ck)] [] (RPost b mp B lo G a J ws ck) := by
  refine fn_intro Try.func136 rfl Try.ntmps136 rfl (fun E => ?_)
  (repeat (first | ((first | (apply wo_v; rfl) ); (· first | (apply pv_ev; rfl) )) | apply wo_nil | apply wc_seq | apply wc_region ))
  refine wc_own0 218 3 ?_
  refine wc_block ?_
  refine wc_loop' (fun q st => ∃ (d : List (Nat × Nat)) (a' : Nat) (ws' : List (Nat × Nat)) (ao : Option Addr) (c : Nat), q = J - a' ∧ RP G a J ws ck d a' ws' ∧ st = ⟨[(0, .pointer (some ⟨b, 0, none⟩)), (3, .slice ao d.length c)], [bfI b true (B + (a' : Nat)) mp lo, .ob mp (mL (mB B ws') ck), tO ao c B d], []⟩) ⟨[], a, ws, none, 0, rfl, RP.refl h ha, rfl⟩ (wk_mk (by (repeat (first | apply wkf_nil | (apply wkf_cons; rfl))); done) (by (repeat (first | apply sub_nil | (apply sub_cons; (· (repeat (first | apply sel_here | apply sel_there)))))); done) (by first | exact fun _ h => h | (intro r hr; cases hr; done) | (simp; done) | exact fun _ h => List.mem_append_left _ h | (intro r hr; simp [hr]; done))) ?_
  rintro q st ⟨d, a', ws', ao, c, rfl, hR, rfl⟩
  have hle := hR.leJ
  by_cases hg : a' < J ∧ G a' = false
  · obtain ⟨e, l, rfl⟩ : ∃ e l, ws' = e :: l := by
      cases ws' with
      | nil =>
        have := hR.ok.idx
        rw [ng_step hg.1, hg.2] at this; cases this
      | cons e l => exact ⟨e, l, rfl⟩
    have he : e.1 = a' := by
      have := hR.ok.idx
      rw [ng_step hg.1, hg.2] at this
      exact (List.cons.inj this).1
    obtain ⟨x, s⟩ := e
    obtain rfl := he
    have hR2 := hR.trans (RP.step hR.ok rfl)
    have hd : d.length ≤ 100 := by
      have h7 := congrArg List.length hR.dx
      have h8 := ng_len (G := G) a x
      rw [List.length_map] at h7
      dsimp only at h7; omega
    show WC _ _ _ _ ⟨_, [bfI b true (B + (x : Nat)) mp lo, .ob mp (mL ((B + (x : Nat), thV (B + (x : Nat)) ByteArray.empty (x : Nat), s) :: mB B l) ck), tO ao c B d], []⟩ _ _ _
    (repeat (first | fail ))
    refine wc_block ?_
    (repeat (first | apply wc_seq ))
    (refine wc_regM [0, 1] (aslL [(8, [1]), (12, [0]), (13, [0])]) (tblR2 (.tuple #[thV (B + (x : Nat)) ByteArray.empty (x : Nat), .bool true]) [.int .i64 (B + (x : Nat)), .string ByteArray.empty, .int .i64 (x : Nat)]) ([bfI b true (B + (x : Nat)) mp lo, tO ao c B d]) (fm [(0, []), (1, [.ob mp (mL ((B + (x : Nat), thV (B + (x : Nat)) ByteArray.empty (x : Nat), s) :: mB B l) ck)])]) mixed (by kernel_rfl) (by kernel_rfl) (by decide) (aslL_ok (by decide)) (by (repeat (first | (apply prm_cons; (· (repeat (first | apply sel_here | apply sel_there)))) | apply List.Perm.nil )); done) ?_; (repeat (first | (apply HdM.val; rfl; rfl; (· first | apply gok_none ); (· first | (apply pv_ev; rfl) | (apply pv_fld; rfl) | (apply g_load; first | (apply pv_ld; rfl; (· (repeat (first | apply sel_here ))); rfl) ) )) )))
    (refine hm_eff (cs := [1]) rfl (by decide) rfl rfl (by first | exact gok_none | exact gok_run rfl rfl) (fun a ha => outc_mono (outc_pv (L := [.ob mp (mL ((B + (x : Nat), thV (B + (x : Nat)) ByteArray.empty (x : Nat), s) :: mB B l) ck)]) (pv_mL_hd rfl rfl (by (repeat (first | apply sel_here )); done)) a ha) (fun v M h => ⟨[M], And.intro h.1 (congrArg (fun x => [x]) h.2), rfl, by simp⟩)) (⟨_, _, And.intro rfl rfl, rfl⟩) ?_; rintro v Ms ⟨rfl, rfl⟩ _; simp only [setls, setl, reduceIte, Nat.reduceEqDiff]; (repeat (first | (apply HdM.val; rfl; rfl; (· first | apply gok_none ); (· first | (apply pv_ev; rfl) )) )))
    (refine hm_eff (cs := [0]) rfl (by decide) rfl rfl (by first | exact gok_none | exact gok_run rfl rfl) (fun a ha => outc_mono (outc_alloc a ha) (fun v M h => Exists.elim h fun b h => ⟨[M], Exists.intro b (And.intro h.1 (congrArg (fun x => [x]) h.2)), rfl, by simp⟩)) (⟨_, _, Exists.intro 0 (And.intro rfl rfl), rfl⟩) ?_; rintro v Ms ⟨b4, rfl, rfl⟩ _; simp only [setls, setl, reduceIte, Nat.reduceEqDiff]; (repeat (first | fail )))
    (refine hm_eff (cs := [0]) rfl (by decide) rfl rfl (by first | exact gok_none | exact gok_run rfl rfl) (fun a ha => outc_mono (outc_sta rfl rfl rfl rfl (by (repeat (first | apply LayAt.nil | apply LayAt.here )); done) a ha) (fun v M h => ⟨[M], And.intro h.1 (congrArg (fun x => [x]) h.2), rfl, by simp⟩)) (⟨_, _, And.intro rfl rfl, rfl⟩) ?_; rintro v Ms ⟨rfl, rfl⟩ _; simp only [setls, setl, reduceIte, Nat.reduceEqDiff]; (repeat (first | (apply HdM.val; rfl; rfl; (· first | apply gok_none ); (· first | (apply pv_ev; rfl) )) )))
    (refine HdM.nil ?_; intro H hH; simp only [Hp, fm, look, setl, List.flatMap_cons, List.flatMap_nil, reduceIte, Nat.reduceEqDiff, Option.getD_some, List.append_nil, List.cons_append, List.nil_append] at hH; subst hH)
    (repeat (first | ((first | (apply wo_v; rfl) ); (· first | (apply pv_ev; rfl) | (apply g_un; first | (apply pv_not_t; rfl) ) )) | apply wo_nil | apply wc_seq | apply wc_region | apply wc_skip | (apply wc_true; rfl) | (apply wc_false; rfl) ))
    (refine wc_regM [0] (aslL [(8, [0])]) (tblR5 (mB B l) ck) ([bfI b true (B + (x : Nat)) mp lo, tO ao c B d, thB b4 (B + (x : Nat)) ByteArray.empty (x : Nat)]) (fm [(0, [.ob mp (mL ((B + (x : Nat), thV (B + (x : Nat)) ByteArray.empty (x : Nat), s) :: mB B l) ck)])]) mixed (by kernel_rfl) (by kernel_rfl) (by decide) (aslL_ok (by decide)) (by (repeat (first | (apply prm_cons; (· (repeat (first | apply sel_here )))) | apply List.Perm.nil )); done) ?_; (repeat (first | (apply HdM.val; rfl; rfl; (· first | apply gok_none ); (· first | (apply pv_ev; rfl) | (apply pv_fld; rfl) | (apply g_load; first | (apply pv_ld; rfl; (· (repeat (first | apply sel_here ))); rfl) ) )) )))
    (refine hm_eff (cs := [0]) rfl (by decide) rfl rfl (by first | exact gok_none | exact gok_run rfl rfl) (fun a ha => outc_mono (outc_mLdel rfl rfl a ha) (fun v M h => ⟨[M], And.intro h.1 (congrArg (fun x => [x]) h.2), rfl, by simp⟩)) (⟨_, _, And.intro rfl rfl, rfl⟩) ?_; rintro v Ms ⟨rfl, rfl⟩ _; simp only [setls, setl, reduceIte, Nat.reduceEqDiff]; (repeat (first | fail )))
    (refine HdM.nil ?_; intro H hH; simp only [Hp, fm, look, setl, List.flatMap_cons, List.flatMap_nil, reduceIte, Nat.reduceEqDiff, Option.getD_some, List.append_nil, List.cons_append, List.nil_append] at hH; subst hH)
    (repeat (first | ((first | (apply wo_v; rfl) ); (· first | (apply pv_ev; rfl) | (apply g_load; first | (apply pv_lda; rfl; (· (repeat (first | apply sel_here | apply sel_there))); (· (repeat (first | apply Cut.here0 | apply Cut.here )))) ) | (apply g_bi; first | fail ) )) | apply wc_seq | apply wc_region | (apply wo_bsl; (· (repeat (first | apply Rws'.nil | (apply Rws'.one; rfl; rfl; rfl) | (apply Rws'.agg; rfl; rfl; rfl)))); rfl; rfl; rfl; rfl; intro bx) ))
    refine wo_app (ao := ao) (n := d.length) (m := 1) rfl rfl (by (repeat (first | apply sel_here | apply sel_there)); done) (by (repeat (first | apply sel_here )); done) (by unfold maxLen; omega) (by omega) rfl (fun a3 c3 => ?_)
    (repeat (first | ((first | (apply wo_v; rfl) ); (· first | (apply pv_ev; rfl) | (apply pv_fld; rfl) | (apply g_load; first | (apply pv_ld; rfl; (· (repeat (first | apply sel_here | apply sel_there))); rfl) ) | (apply g_bin; first | (apply a_add; rfl; rfl; infer_instance; omega) ) )) | apply wo_nil | apply wc_region | (apply wo_st; rfl; rfl; rfl; (· (repeat (first | apply sel_here | apply sel_there))); (· (repeat (first | apply SetAt.here | apply SetAt.there))); rfl) ))
    rw [show B + (x : Int) + 1 = B + ((x + 1 : Nat) : Int) by omega]
    have hl9 : d.length + 1 = (d ++ [(x, s)]).length := by rw [List.length_append]; rfl
    have hm9 : d.map (tRw B) ++ [[Value.int .i64 (B + (x : Nat)), .string ByteArray.empty, .int .i64 (x : Nat)]] = (d ++ [(x, s)]).map (tRw B) := by rw [List.map_append]; rfl
    rw [hl9, hm9]
    exact loop_end ⟨d ++ [(x, s)], x + 1, l, a3, c3, rfl, hR2, rfl⟩ (by omega) (wk_mk (by (repeat (first | apply wkf_nil | (apply wkf_cons; rfl))); done) (by (repeat (first | apply sub_nil | (apply sub_cons; (· (repeat (first | apply sel_here | apply sel_there)))))); done) (by first | exact fun _ h => h | (intro r hr; cases hr; done) | (simp; done) | exact fun _ h => List.mem_append_left _ h | (intro r hr; simp [hr]; done)))
  · have hno := mB_no (B := B) hR.ok hg
    (repeat (first | fail ))
    refine wc_block ?_
    (repeat (first | apply wc_seq ))
    (refine wc_regM [0, 1] (aslL [(8, [1]), (12, [0]), (13, [0])]) (tblR2 (.tuple #[.agg #[.int .i64 0, .string ByteArray.empty, .int .i64 0], .bool false]) [.int .i64 0, .string ByteArray.empty, .int .i64 0]) ([bfI b true (B + (a' : Nat)) mp lo, tO ao c B d]) (fm [(0, []), (1, [.ob mp (mL (mB B ws') ck)])]) mixed (by kernel_rfl) (by kernel_rfl) (by decide) (aslL_ok (by decide)) (by (repeat (first | (apply prm_cons; (· (repeat (first | apply sel_here | apply sel_there)))) | apply List.Perm.nil )); done) ?_; (repeat (first | (apply HdM.val; rfl; rfl; (· first | apply gok_none ); (· first | (apply pv_ev; rfl) | (apply pv_fld; rfl) | (apply g_load; first | (apply pv_ld; rfl; (· (repeat (first | apply sel_here ))); rfl) ) )) )))
    (refine hm_eff (cs := [1]) rfl (by decide) rfl rfl (by first | exact gok_none | exact gok_run rfl rfl) (fun a ha => outc_mono (outc_pv (L := [.ob mp (mL (mB B ws') ck)]) (pv_mL_no rfl rfl (by (repeat (first | apply sel_here )); done) hno) a ha) (fun v M h => ⟨[M], And.intro h.1 (congrArg (fun x => [x]) h.2), rfl, by simp⟩)) (⟨_, _, And.intro rfl rfl, rfl⟩) ?_; rintro v Ms ⟨rfl, rfl⟩ _; simp only [setls, setl, reduceIte, Nat.reduceEqDiff]; (repeat (first | (apply HdM.val; rfl; rfl; (· first | apply gok_none ); (· first | (apply pv_ev; rfl) )) )))
    (refine hm_eff (cs := [0]) rfl (by decide) rfl rfl (by first | exact gok_none | exact gok_run rfl rfl) (fun a ha => outc_mono (outc_alloc a ha) (fun v M h => Exists.elim h fun b h => ⟨[M], Exists.intro b (And.intro h.1 (congrArg (fun x => [x]) h.2)), rfl, by simp⟩)) (⟨_, _, Exists.intro 0 (And.intro rfl rfl), rfl⟩) ?_; rintro v Ms ⟨b4, rfl, rfl⟩ _; simp only [setls, setl, reduceIte, Nat.reduceEqDiff]; (repeat (first | fail )))
    (refine hm_eff (cs := [0]) rfl (by decide) rfl rfl (by first | exact gok_none | exact gok_run rfl rfl) (fun a ha => outc_mono (outc_sta rfl rfl rfl rfl (by (repeat (first | apply LayAt.nil | apply LayAt.here )); done) a ha) (fun v M h => ⟨[M], And.intro h.1 (congrArg (fun x => [x]) h.2), rfl, by simp⟩)) (⟨_, _, And.intro rfl rfl, rfl⟩) ?_; rintro v Ms ⟨rfl, rfl⟩ _; simp only [setls, setl, reduceIte, Nat.reduceEqDiff]; (repeat (first | (apply HdM.val; rfl; rfl; (· first | apply gok_none ); (· first | (apply pv_ev; rfl) )) )))
    (refine HdM.nil ?_; intro H hH; simp only [Hp, fm, look, setl, List.flatMap_cons, List.flatMap_nil, reduceIte, Nat.reduceEqDiff, Option.getD_some, List.append_nil, List.cons_append, List.nil_append] at hH; subst hH)
    (repeat (first | ((first | (apply wo_v; rfl) ); (· first | (apply pv_ev; rfl) | (apply g_un; first | (apply pv_not_t; rfl) | (apply pv_not_f; rfl) ) )) | apply wo_nil | apply wc_seq | apply wc_region | apply wc_ret | (apply wc_true; rfl) ))
    exact ret1 rfl rfl ⟨d, a', ws', ao, c, rfl, rfl, rfl, hR, fun h1 => by cases h2 : G a' with
      | true => rfl
      | false => exact absurd ⟨h1, h2⟩ hg⟩ ((by (repeat (first | apply sub_nil | (apply sub_cons; (· (repeat (first | apply sel_here | apply sel_there)))))); done) : List.Perm _ ([_, _, _] ++ _)) (by first | exact fun _ h => h | (intro r hr; cases hr; done) | (simp; done) | exact fun _ h => List.mem_append_left _ h | (intro r hr; simp [hr]; done))
/-- slices.Min -/
theorem sMin (ao : Option Addr) (c : Nat) (ss : List Int) (m : Int) (hm : m ∈ ss) (hmin : ∀ x ∈ ss, m ≤ x) (hl : ss.length ≤ 1000) :
    Fn Try.prog 159 #[.slice ao ss.length c] [.own 2 1 ao ss.length c (ss.map fun x => [.int .i64 x])] [] (fun v L' R' => v = .int .i64 m ∧ L' = [] ∧ R' = []) := by
  have hp : 0 < ss.length := List.length_pos_of_mem hm
  obtain ⟨x0, hx0⟩ : ∃ x, ss[0]? = some x := ⟨_, List.getElem?_eq_getElem hp⟩
  have hr0 : (ss.map fun x => [Value.int .i64 x])[0]? = some [.int .i64 x0] := by rw [List.getElem?_map, hx0]; rfl
  have h01 : ∀ x ∈ ss.take 1, x0 ≤ x := by
    cases ss with
    | nil => cases hm
    | cons z t =>
      have hz : z = x0 := by simpa using hx0
      intro x hx
      have : x = z := by simpa using hx
      omega
  refine fn_intro Try.func159 rfl Try.ntmps159 rfl (fun E => ?_)
  (repeat (first | ((first | (apply wo_v; rfl) ); (· first | (apply pv_ev; rfl) | (apply g_bi; first | (apply pv_len_sl; rfl) ) | (apply g_idx; first | (apply pv_idx; rfl; rfl; omega) | (apply (pv_idx_e 0); rfl; rfl; rfl; omega) | (apply pv_idx_n; rfl; rfl; omega) | (apply (pv_idx_ar_e 0); rfl; rfl; rfl; omega; omega) | (apply (pv_idx_ar_e 1); rfl; rfl; rfl; omega; omega) | (apply (pv_idx_ar_e 2); rfl; rfl; rfl; omega; omega) | (apply (pv_idx_ar_e 3); rfl; rfl; rfl; omega; omega)) )) | apply wo_nil | apply wc_seq | apply wc_region | apply wc_skip | (apply wc_true; rfl) | (apply wc_false; rfl) | (apply a_dec_t; rfl; (· first | assumption | omega)) | (apply a_dec_f; rfl; (· first | assumption | omega)) ))
  refine wo_some (ao := ao) (n := ss.length) (by (repeat (first | apply sel_here )); done) (by omega) ?_
  rintro b0 o0 rfl
  (repeat (first | ((first | (apply wo_v; rfl) ); (· first | (apply pv_ev; rfl) | (apply g_load; first | (apply pv_ld; rfl; (· (repeat (first | apply sel_there))); rfl) | (apply pv_ld_ownf; rfl; (· (repeat (first | fail ))); (· assumption); rfl) | (apply pv_ld_own1; rfl; (· (repeat (first | apply sel_here ))); (· assumption)) ) | (apply g_idx; first | (apply pv_idx; rfl; rfl; omega) ) )) | apply wo_nil | apply wc_seq | apply wc_region ))
  refine wc_block ?_
  refine wc_loop' (fun q st => ∃ (i : Nat) (y : Int), q = ss.length - i ∧ i ≤ ss.length ∧ y ∈ ss ∧ (∀ x ∈ ss.take i, y ≤ x) ∧ st = ⟨[(0, .slice (some ⟨b0, o0, none⟩) ss.length c), (3, .int .i64 y), (4, .int .i64 i)], [.own 2 1 (some ⟨b0, o0, none⟩) ss.length c (ss.map fun x => [.int .i64 x])], []⟩)
    ⟨1, x0, rfl, by omega, List.mem_of_getElem? hx0, h01, rfl⟩ (wk_mk (by (repeat (first | apply wkf_nil | (apply wkf_cons; rfl))); done) (by (repeat (first | apply sub_nil )); done) (by first | exact fun _ h => h | (intro r hr; cases hr; done) | (simp; done) | exact fun _ h => List.mem_append_left _ h | (intro r hr; simp [hr]; done))) ?_
  rintro q st ⟨i, y, rfl, hi, hy, hle, rfl⟩
  by_cases hlt : i < ss.length
  · obtain ⟨x, hx⟩ : ∃ x, ss[i]? = some x := ⟨_, List.getElem?_eq_getElem hlt⟩
    have hr : (ss.map fun x => [Value.int .i64 x])[i]? = some [.int .i64 x] := by rw [List.getElem?_map, hx]; rfl
    (repeat (first | ((first | (apply wo_v; rfl) ); (· first | (apply pv_ev; rfl) | (apply g_bi; first | (apply pv_len_sl; rfl) ) )) | apply wo_nil | apply wc_seq | apply wc_region | apply wc_skip | (apply wc_true; rfl) | (apply wc_false; rfl) | (apply a_dec_t; rfl; (· first | assumption | omega)) ))
    refine wc_block ?_
    (repeat (first | ((first | (apply wo_v; rfl) ); (· first | (apply pv_ev; rfl) | (apply g_load; first | (apply pv_ld; rfl; (· (repeat (first | apply sel_there))); rfl) | (apply pv_ld_ownf; rfl; (· (repeat (first | fail ))); (· assumption); rfl) | (apply pv_ld_own1; rfl; (· (repeat (first | apply sel_here ))); (· assumption)) ) | (apply g_bin; first | (apply a_add; rfl; rfl; infer_instance; omega) ) | (apply g_bi; first | (apply pv_min; rfl; rfl) ) | (apply g_idx; first | (apply pv_idx; rfl; rfl; omega) ) )) | apply wo_nil | apply wc_region ))
    refine loop_end ⟨i + 1, min y x, rfl, by omega, ?_, ?_, rfl⟩ (by omega) (wk_mk (by (repeat (first | apply wkf_nil | (apply wkf_cons; rfl))); done) (by (repeat (first | apply sub_nil )); done) (by first | exact fun _ h => h | (intro r hr; cases hr; done) | (simp; done) | exact fun _ h => List.mem_append_left _ h | (intro r hr; simp [hr]; done)))
    · rcases Int.le_total y x with h | h
      · rw [Int.min_eq_left h]; exact hy
      · rw [Int.min_eq_right h]; exact List.mem_of_getElem? hx
    · intro z hz
      rw [List.take_add_one, hx] at hz
      rcases List.mem_append.1 hz with hz | hz
      · have := hle z hz; omega
      · have : z = x := by simpa using hz
        omega
  · obtain rfl : i = ss.length := by omega
    rw [List.take_length] at hle
    have h1 := hle m hm
    have h2 := hmin y hy
    obtain rfl : y = m := by omega
    (repeat (first | ((first | (apply wo_v; rfl) ); (· first | (apply pv_ev; rfl) | (apply g_bi; first | (apply pv_len_sl; rfl) ) )) | apply wo_nil | apply wc_seq | apply wc_region | (apply wc_exit; rfl) | apply wc_ret | (apply wc_true; rfl) | (apply wc_false; rfl) | (apply a_dec_t; rfl; (· first | assumption | omega)) | (apply a_dec_f; rfl; (· first | assumption | omega)) ))
    exact ret1 rfl rfl ⟨rfl, rfl, rfl⟩ ((by (repeat (first | apply sub_nil )); done) : List.Perm _ ([] ++ _)) (by first | exact fun _ h => h | (intro r hr; cases hr; done) | (simp; done) | exact fun _ h => List.mem_append_left _ h | (intro r hr; simp [hr]; done))
theorem oFirst (b mp : Nat) (B nx lo : Int) (bg : Bool) (G : Nat → Bool) (a J : Nat) (e : Nat × Nat) (ws : List (Nat × Nat)) (ck : Nat) (hB : 0 ≤ B ∧ B ≤ 1000000000000) (hJ : J ≤ 100) (h : WGk G a J (e :: ws) ck) :
    Fn Try.prog 140 #[.pointer (some ⟨b, 0, none⟩)] [bfI b bg nx mp lo, .ob mp (mL (mB B (e :: ws)) ck)] [] (fun v L' R' => v = .int .i64 (B + (e.1 : Nat)) ∧ L' = [bfI b bg nx mp lo, .ob mp (mL (mB B (e :: ws)) ck)] ∧ R' = []) := by
  have hm := mB_mok (B := B) h hJ hB
  have hc := fun bx => itColD bx mp (mEs (mB B (e :: ws))).toArray ck hm
  rw [mB_keys] at hc
  have hmin : ∀ x ∈ (e :: ws).map (fun e => B + (e.1 : Int)), B + (e.1 : Int) ≤ x := fun x hx => by
    obtain ⟨y, hy, rfl⟩ := List.mem_map.1 hx
    have := (h.skip.1.mem hy).1
    omega
  have hlen := h.len
  refine fn_intro Try.func140 rfl Try.ntmps140 rfl (fun E => ?_)
  (repeat (first | ((first | (apply wo_v; rfl) ); (· first | (apply pv_ev; rfl) | (apply pv_fld; rfl) | (apply g_load; first | (apply pv_ld; rfl; (· (repeat (first | apply sel_here ))); rfl) ) )) | apply wo_nil | apply wc_seq | apply wc_region ))
  (refine wo_call (itKeysD (some mp)) rfl (by (repeat (first | apply sub_nil )); done) (by first | exact fun _ h => h | (intro r hr; cases hr; done) | (simp; done) | exact fun _ h => List.mem_append_left _ h | (intro r hr; simp [hr]; done)) rfl ?_; rintro v L' R' ⟨bk, rfl, rfl, rfl⟩ H' hH RR hR; simp only [List.cons_append, List.nil_append] at hH hR; subst hH; have hR := hR.symm; subst hR)
  (repeat (first | ((first | (apply wo_v; rfl) ); (· first | (apply pv_ev; rfl) )) ))
  (refine wo_call (hc bk) rfl (by (repeat (first | apply sub_nil | (apply sub_cons; (· (repeat (first | apply sel_here | apply sel_there)))))); done) (by first | exact fun _ h => h | (intro r hr; cases hr; done) | (simp; done) | exact fun _ h => List.mem_append_left _ h | (intro r hr; simp [hr]; done)) rfl ?_; rintro v L' R' ⟨ao, ss, c, rfl, hss, rfl, rfl⟩ H' hH RR hR; simp only [List.cons_append, List.nil_append] at hH hR; subst hH; have hR := hR.symm; subst hR)
  (repeat (first | ((first | (apply wo_v; rfl) ); (· first | (apply pv_ev; rfl) )) ))
  have hl2 := hss.length_eq
  rw [List.length_map] at hl2
  have hmn := sMin ao c ss (B + (e.1 : Int)) (hss.mem_iff.2 (by simp)) (fun x hx => hmin x (hss.mem_iff.1 hx)) (by omega)
  (refine wo_call (hmn) rfl (by (repeat (first | apply sub_nil )); done) (by first | exact fun _ h => h | (intro r hr; cases hr; done) | (simp; done) | exact fun _ h => List.mem_append_left _ h | (intro r hr; simp [hr]; done)) rfl ?_; rintro v L' R' ⟨rfl, rfl, rfl⟩ H' hH RR hR; simp only [List.cons_append, List.nil_append] at hH hR; subst hH; have hR := hR.symm; subst hR)
  (repeat (first | ((first | (apply wo_v; rfl) ); (· first | (apply pv_ev; rfl) )) | apply wo_nil | apply wc_ret ))
  exact ret1 rfl rfl ⟨rfl, rfl, rfl⟩ ((by (repeat (first | apply sub_nil | (apply sub_cons; (· (repeat (first | apply sel_here | apply sel_there)))))); done) : List.Perm _ ([_, _] ++ _)) (by first | exact fun _ h => h | (intro r hr; cases hr; done) | (simp; done) | exact fun _ h => List.mem_append_left _ h | (intro r hr; simp [hr]; done))
def tblSk (b mp : Nat) (nx lo nn : Int) : Nat → List (List It) → Value → List (List It) → Prop := fun k Ls v Ms => match k, Ls with
  | 3, L => v = .int .i64 lo ∧ Ms = L
  | 8, L => v = .int .i64 nx ∧ Ms = L
  | 13, _ => v = undef ∧ Ms = [[bfI b true nx mp nn]]
  | _, _ => False
theorem tblSk_rd {b mp : Nat} {nx lo nn : Int} : ∀ k ∈ [3, 8], Rdr (tblSk b mp nx lo nn) k := fun k hk L v Ms h => by
  simp only [List.mem_cons, List.not_mem_nil, or_false] at hk
  rcases hk with rfl | rfl
  · exact h.2
  · exact h.2
theorem oSkip (b mp : Nat) (B lo : Int) (G : Nat → Bool) (a0 J : Nat) (e : Nat × Nat) (ws : List (Nat × Nat)) (ck : Nat) (hB : 0 ≤ B ∧ B ≤ 1000000000000) (hJ : J ≤ 100) (h0 : a0 ≤ J) (hlo : 0 ≤ lo ∧ lo ≤ a0) (h : WGk G a0 J (e :: ws) ck) :
    Fn Try.prog 137 #[.pointer (some ⟨b, 0, none⟩)] [bfI b true (B + (a0 : Nat)) mp lo, .ob mp (mL (mB B (e :: ws)) ck)] [] (fun v L' R' => ∃ d a0' ws' ao c, v = .slice ao (d : List (Nat × Nat)).length c ∧ L' = [bfI b true (B + (a0' : Nat)) mp (lo + ((e.1 : Int) - (a0 : Int))), .ob mp (mL (mB B ws') ck), tO ao c B d] ∧ R' = [] ∧ RP G a0 J (e :: ws) ck d a0' ws' ∧ e.1 < a0' ∧ (a0' < J → G a0' = true)) := by
  have hf := oFirst b mp B (B + (a0 : Nat)) lo true G a0 J e ws ck hB hJ h
  obtain ⟨h1, h2, h3, h4, h5⟩ := h.skip
  have hr := oRunG b mp B (lo + ((e.1 : Int) - (a0 : Int))) G e.1 J (e :: ws) ck hB hJ (by omega) h1
  refine fn_intro Try.func137 rfl Try.ntmps137 rfl (fun E => ?_)
  (repeat (first | ((first | (apply wo_v; rfl) ); (· first | (apply pv_ev; rfl) )) | apply wo_nil | apply wc_seq | apply wc_region ))
  (refine wo_call (hf) rfl (by (repeat (first | apply sub_nil )); done) (by first | exact fun _ h => h | (intro r hr; cases hr; done) | (simp; done) | exact fun _ h => List.mem_append_left _ h | (intro r hr; simp [hr]; done)) rfl ?_; rintro v L' R' ⟨rfl, rfl, rfl⟩ H' hH RR hR; simp only [List.cons_append, List.nil_append] at hH hR; subst hH; have hR := hR.symm; subst hR)
  (repeat (first | ((first | (apply wo_v; rfl) ); (· first | (apply pv_ev; rfl) )) | apply wo_nil | apply wc_seq ))
  (refine wc_regR [3, 8] [0] (aslL [(3, [0]), (8, [0]), (13, [0])]) (tblSk b mp (B + (a0 : Nat)) lo (lo + (B + (e.1 : Int) - (B + (a0 : Nat))))) ([.ob mp (mL (mB B (e :: ws)) ck)]) (fm [(0, [bfI b true (B + (a0 : Nat)) mp lo])]) mixed (by kernel_rfl) (by kernel_rfl) (tblSk_rd) (by decide) (aslL_ok (by decide)) (by (repeat (first | (apply prm_cons; (· (repeat (first | apply sel_here | apply sel_there)))) | apply List.Perm.nil )); done) ?_; (repeat (first | (apply HdM.val; rfl; rfl; (· first | apply gok_none ); (· first | (apply pv_ev; rfl) | (apply pv_fld; rfl) )) )))
  (refine hm_eff (cs := [0]) rfl (by decide) rfl rfl (by first | exact gok_none | exact gok_run rfl rfl) (fun a ha => outc_mono (outc_pv (L := [bfI b true (B + (a0 : Nat)) mp lo]) (pv_ld rfl (by (repeat (first | apply sel_here )); done) rfl) a ha) (fun v M h => ⟨[M], And.intro h.1 (congrArg (fun x => [x]) h.2), rfl, by simp⟩)) (⟨_, _, And.intro rfl rfl, rfl⟩) ?_; rintro v Ms ⟨rfl, rfl⟩ _; simp only [setls, setl, reduceIte, Nat.reduceEqDiff]; (repeat (first | (apply HdM.val; rfl; rfl; (· first | apply gok_none ); (· first | (apply pv_ev; rfl) | (apply pv_fld; rfl) )) )))
  (refine hm_eff (cs := [0]) rfl (by decide) rfl rfl (by first | exact gok_none | exact gok_run rfl rfl) (fun a ha => outc_mono (outc_pv (L := [bfI b true (B + (a0 : Nat)) mp lo]) (pv_ld rfl (by (repeat (first | apply sel_here )); done) rfl) a ha) (fun v M h => ⟨[M], And.intro h.1 (congrArg (fun x => [x]) h.2), rfl, by simp⟩)) (⟨_, _, And.intro rfl rfl, rfl⟩) ?_; rintro v Ms ⟨rfl, rfl⟩ _; simp only [setls, setl, reduceIte, Nat.reduceEqDiff]; (repeat (first | (apply HdM.val; rfl; rfl; (· first | apply gok_none ); (· first | (apply pv_ev; rfl) | (apply pv_fld; rfl) | (apply g_bin; first | (apply a_add; rfl; rfl; infer_instance; omega) | (apply a_sub; rfl; rfl; infer_instance; omega) ) )) )))
  (refine hm_eff (cs := [0]) rfl (by decide) rfl rfl (by first | exact gok_none | exact gok_run rfl rfl) (fun a ha => outc_mono (outc_st rfl rfl rfl (by (repeat (first | apply SetAt.here | apply SetAt.there)); done) a ha) (fun v M h => ⟨[M], And.intro h.1 (congrArg (fun x => [x]) h.2), rfl, by simp⟩)) (⟨_, _, And.intro rfl rfl, rfl⟩) ?_; rintro v Ms ⟨rfl, rfl⟩ _; simp only [setls, setl, reduceIte, Nat.reduceEqDiff]; (repeat (first | fail )))
  (refine HdM.nil ?_; intro H hH; simp only [Hp, fm, look, setl, List.flatMap_cons, List.flatMap_nil, reduceIte, Nat.reduceEqDiff, Option.getD_some, List.append_nil, List.cons_append, List.nil_append] at hH; subst hH)
  rw [show lo + (B + (e.1 : Int) - (B + (a0 : Nat))) = lo + ((e.1 : Int) - (a0 : Int)) by omega]
  (repeat (first | ((first | (apply wo_v; rfl) ); (· first | (apply pv_ev; rfl) | (apply pv_fld; rfl) )) | apply wo_nil | apply wc_seq | apply wc_region | (apply wo_st; rfl; rfl; rfl; (· (repeat (first | apply sel_here | apply sel_there))); (· (repeat (first | apply SetAt.here | apply SetAt.there))); rfl) ))
  (refine wo_call (hr) rfl (by (repeat (first | apply sub_nil )); done) (by first | exact fun _ h => h | (intro r hr; cases hr; done) | (simp; done) | exact fun _ h => List.mem_append_left _ h | (intro r hr; simp [hr]; done)) rfl ?_; rintro v L' R' ⟨d, a0', ws', ao, c, rfl, rfl, rfl, hq, hst⟩ H' hH RR hR; simp only [List.cons_append, List.nil_append] at hH hR; subst hH; have hR := hR.symm; subst hR)
  have hR2 := RP.from h hq
  have hlt : e.1 < a0' := by
    have := hq.le
    rcases Nat.lt_or_ge e.1 a0' with h6 | h6
    · exact h6
    · obtain rfl : a0' = e.1 := by omega
      rw [h4] at hst
      exact absurd (hst h3) (by decide)
  (repeat (first | ((first | (apply wo_v; rfl) ); (· first | (apply pv_ev; rfl) )) | apply wo_nil | apply wc_ret ))
  exact ret1 rfl rfl ⟨d, a0', ws', ao, c, rfl, rfl, rfl, hR2, hlt, hst⟩ ((by (repeat (first | apply sub_nil )); done) : List.Perm _ ([_, _, _] ++ _)) (by first | exact fun _ h => h | (intro r hr; cases hr; done) | (simp; done) | exact fun _ h => List.mem_append_left _ h | (intro r hr; simp [hr]; done))
end Go.Proofs.Ytlhlidmhlhodiaa

/-
  What interface values of this seat's program do, as instances. (Written by wip/tools/ifaces.py.)
-/
namespace Go.Proofs.Ytlhlidmhlhodiaa
set_option linter.unusedVariables false

instance : TIfc Try.prog 75 := ⟨fun _ _ => by kernel_rfl⟩
instance : TIfc Try.prog 77 := ⟨fun _ _ => by kernel_rfl⟩
instance : TIfc Try.prog 190 := ⟨fun _ _ => by kernel_rfl⟩
instance : TIfc Try.prog 194 := ⟨fun _ _ => by kernel_rfl⟩
instance : TIfc Try.prog 197 := ⟨fun _ _ => by kernel_rfl⟩
instance : TIfc Try.prog 267 := ⟨fun _ _ => by kernel_rfl⟩
instance : TIfc Try.prog 269 := ⟨fun _ _ => by kernel_rfl⟩
instance : TIfc Try.prog 273 := ⟨fun _ _ => by kernel_rfl⟩
instance : TIfc Try.prog 312 := ⟨fun _ _ => by kernel_rfl⟩
instance : TAs Try.prog 179 75 75 (fun v => .tuple #[v, .bool true]) := ⟨fun _ _ => by kernel_rfl⟩
instance : TAs Try.prog 179 77 75 (fun _ => .tuple #[.agg #[.int .u32 0, .int .u32 0, .slice none 0 0], .bool false]) := ⟨fun _ _ => by kernel_rfl⟩
instance : TAs Try.prog 179 190 75 (fun _ => .tuple #[.agg #[.int .u32 0, .int .u32 0, .slice none 0 0], .bool false]) := ⟨fun _ _ => by kernel_rfl⟩
instance : TAs Try.prog 179 194 75 (fun _ => .tuple #[.agg #[.int .u32 0, .int .u32 0, .slice none 0 0], .bool false]) := ⟨fun _ _ => by kernel_rfl⟩
instance : TAs Try.prog 179 197 75 (fun _ => .tuple #[.agg #[.int .u32 0, .int .u32 0, .slice none 0 0], .bool false]) := ⟨fun _ _ => by kernel_rfl⟩
instance : TAs Try.prog 179 267 75 (fun _ => .tuple #[.agg #[.int .u32 0, .int .u32 0, .slice none 0 0], .bool false]) := ⟨fun _ _ => by kernel_rfl⟩
instance : TAs Try.prog 179 269 75 (fun _ => .tuple #[.agg #[.int .u32 0, .int .u32 0, .slice none 0 0], .bool false]) := ⟨fun _ _ => by kernel_rfl⟩
instance : TAs Try.prog 179 273 75 (fun _ => .tuple #[.agg #[.int .u32 0, .int .u32 0, .slice none 0 0], .bool false]) := ⟨fun _ _ => by kernel_rfl⟩
instance : TAs Try.prog 179 312 75 (fun _ => .tuple #[.agg #[.int .u32 0, .int .u32 0, .slice none 0 0], .bool false]) := ⟨fun _ _ => by kernel_rfl⟩
instance : TAs Try.prog 179 75 77 (fun _ => .tuple #[.agg #[.int .u32 0, .int .u32 0], .bool false]) := ⟨fun _ _ => by kernel_rfl⟩
instance : TAs Try.prog 179 77 77 (fun v => .tuple #[v, .bool true]) := ⟨fun _ _ => by kernel_rfl⟩
instance : TAs Try.prog 179 190 77 (fun _ => .tuple #[.agg #[.int .u32 0, .int .u32 0], .bool false]) := ⟨fun _ _ => by kernel_rfl⟩
instance : TAs Try.prog 179 194 77 (fun _ => .tuple #[.agg #[.int .u32 0, .int .u32 0], .bool false]) := ⟨fun _ _ => by kernel_rfl⟩
instance : TAs Try.prog 179 197 77 (fun _ => .tuple #[.agg #[.int .u32 0, .int .u32 0], .bool false]) := ⟨fun _ _ => by kernel_rfl⟩
instance : TAs Try.prog 179 267 77 (fun _ => .tuple #[.agg #[.int .u32 0, .int .u32 0], .bool false]) := ⟨fun _ _ => by kernel_rfl⟩
instance : TAs Try.prog 179 269 77 (fun _ => .tuple #[.agg #[.int .u32 0, .int .u32 0], .bool false]) := ⟨fun _ _ => by kernel_rfl⟩
instance : TAs Try.prog 179 273 77 (fun _ => .tuple #[.agg #[.int .u32 0, .int .u32 0], .bool false]) := ⟨fun _ _ => by kernel_rfl⟩
instance : TAs Try.prog 179 312 77 (fun _ => .tuple #[.agg #[.int .u32 0, .int .u32 0], .bool false]) := ⟨fun _ _ => by kernel_rfl⟩
instance : TAs Try.prog 179 75 190 (fun _ => .tuple #[.agg #[.int .u32 0, .slice none 0 0], .bool false]) := ⟨fun _ _ => by kernel_rfl⟩
instance : TAs Try.prog 179 77 190 (fun _ => .tuple #[.agg #[.int .u32 0, .slice none 0 0], .bool false]) := ⟨fun _ _ => by kernel_rfl⟩
instance : TAs Try.prog 179 190 190 (fun v => .tuple #[v, .bool true]) := ⟨fun _ _ => by kernel_rfl⟩
instance : TAs Try.prog 179 194 190 (fun _ => .tuple #[.agg #[.int .u32 0, .slice none 0 0], .bool false]) := ⟨fun _ _ => by kernel_rfl⟩
instance : TAs Try.prog 179 197 190 (fun _ => .tuple #[.agg #[.int .u32 0, .slice none 0 0], .bool false]) := ⟨fun _ _ => by kernel_rfl⟩
instance : TAs Try.prog 179 267 190 (fun _ => .tuple #[.agg #[.int .u32 0, .slice none 0 0], .bool false]) := ⟨fun _ _ => by kernel_rfl⟩
instance : TAs Try.prog 179 269 190 (fun _ => .tuple #[.agg #[.int .u32 0, .slice none 0 0], .bool false]) := ⟨fun _ _ => by kernel_rfl⟩
instance : TAs Try.prog 179 273 190 (fun _ => .tuple #[.agg #[.int .u32 0, .slice none 0 0], .bool false]) := ⟨fun _ _ => by kernel_rfl⟩
instance : TAs Try.prog 179 312 190 (fun _ => .tuple #[.agg #[.int .u32 0, .slice none 0 0], .bool false]) := ⟨fun _ _ => by kernel_rfl⟩
instance : TAs Try.prog 179 75 194 (fun _ => .tuple #[.agg #[.int .u32 0, .int .u64 0, .slice none 0 0], .bool false]) := ⟨fun _ _ => by kernel_rfl⟩
instance : TAs Try.prog 179 77 194 (fun _ => .tuple #[.agg #[.int .u32 0, .int .u64 0, .slice none 0 0], .bool false]) := ⟨fun _ _ => by kernel_rfl⟩
instance : TAs Try.prog 179 190 194 (fun _ => .tuple #[.agg #[.int .u32 0, .int .u64 0, .slice none 0 0], .bool false]) := ⟨fun _ _ => by kernel_rfl⟩
instance : TAs Try.prog 179 194 194 (fun v => .tuple #[v, .bool true]) := ⟨fun _ _ => by kernel_rfl⟩
instance : TAs Try.prog 179 197 194 (fun _ => .tuple #[.agg #[.int .u32 0, .int .u64 0, .slice none 0 0], .bool false]) := ⟨fun _ _ => by kernel_rfl⟩
instance : TAs Try.prog 179 267 194 (fun _ => .tuple #[.agg #[.int .u32 0, .int .u64 0, .slice none 0 0], .bool false]) := ⟨fun _ _ => by kernel_rfl⟩
instance : TAs Try.prog 179 269 194 (fun _ => .tuple #[.agg #[.int .u32 0, .int .u64 0, .slice none 0 0], .bool false]) := ⟨fun _ _ => by kernel_rfl⟩
instance : TAs Try.prog 179 273 194 (fun _ => .tuple #[.agg #[.int .u32 0, .int .u64 0, .slice none 0 0], .bool false]) := ⟨fun _ _ => by kernel_rfl⟩
instance : TAs Try.prog 179 312 194 (fun _ => .tuple #[.agg #[.int .u32 0, .int .u64 0, .slice none 0 0], .bool false]) := ⟨fun _ _ => by kernel_rfl⟩
instance : TAs Try.prog 179 75 197 (fun _ => .tuple #[.agg #[.slice none 0 0, .string ByteArray.empty], .bool false]) := ⟨fun _ _ => by kernel_rfl⟩
instance : TAs Try.prog 179 77 197 (fun _ => .tuple #[.agg #[.slice none 0 0, .string ByteArray.empty], .bool false]) := ⟨fun _ _ => by kernel_rfl⟩
instance : TAs Try.prog 179 190 197 (fun _ => .tuple #[.agg #[.slice none 0 0, .string ByteArray.empty], .bool false]) := ⟨fun _ _ => by kernel_rfl⟩
instance : TAs Try.prog 179 194 197 (fun _ => .tuple #[.agg #[.slice none 0 0, .string ByteArray.empty], .bool false]) := ⟨fun _ _ => by kernel_rfl⟩
instance : TAs Try.prog 179 197 197 (fun v => .tuple #[v, .bool true]) := ⟨fun _ _ => by kernel_rfl⟩
instance : TAs Try.prog 179 267 197 (fun _ => .tuple #[.agg #[.slice none 0 0, .string ByteArray.empty], .bool false]) := ⟨fun _ _ => by kernel_rfl⟩
instance : TAs Try.prog 179 269 197 (fun _ => .tuple #[.agg #[.slice none 0 0, .string ByteArray.empty], .bool false]) := ⟨fun _ _ => by kernel_rfl⟩
instance : TAs Try.prog 179 273 197 (fun _ => .tuple #[.agg #[.slice none 0 0, .string ByteArray.empty], .bool false]) := ⟨fun _ _ => by kernel_rfl⟩
instance : TAs Try.prog 179 312 197 (fun _ => .tuple #[.agg #[.slice none 0 0, .string ByteArray.empty], .bool false]) := ⟨fun _ _ => by kernel_rfl⟩
instance : TAs Try.prog 179 75 274 (fun v => .tuple #[.iface 75 v, .bool true]) := ⟨fun _ _ => by kernel_rfl⟩
instance : TAs Try.prog 179 77 274 (fun v => .tuple #[.iface 77 v, .bool true]) := ⟨fun _ _ => by kernel_rfl⟩
instance : TAs Try.prog 179 190 274 (fun v => .tuple #[.iface 190 v, .bool true]) := ⟨fun _ _ => by kernel_rfl⟩
instance : TAs Try.prog 179 194 274 (fun v => .tuple #[.iface 194 v, .bool true]) := ⟨fun _ _ => by kernel_rfl⟩
instance : TAs Try.prog 179 197 274 (fun v => .tuple #[.iface 197 v, .bool true]) := ⟨fun _ _ => by kernel_rfl⟩
instance : TAs Try.prog 179 267 274 (fun v => .tuple #[.iface 267 v, .bool true]) := ⟨fun _ _ => by kernel_rfl⟩
instance : TAs Try.prog 179 269 274 (fun v => .tuple #[.iface 269 v, .bool true]) := ⟨fun _ _ => by kernel_rfl⟩
instance : TAs Try.prog 179 273 274 (fun v => .tuple #[.iface 273 v, .bool true]) := ⟨fun _ _ => by kernel_rfl⟩
instance : TAs Try.prog 179 312 274 (fun v => .tuple #[.iface 312 v, .bool true]) := ⟨fun _ _ => by kernel_rfl⟩
instance : TInv Try.prog 75 "Head" 219 := ⟨fun _ _ _ => by kernel_rfl⟩
instance : TInv Try.prog 77 "Head" 221 := ⟨fun _ _ _ => by kernel_rfl⟩
instance : TInv Try.prog 190 "Head" 228 := ⟨fun _ _ _ => by kernel_rfl⟩
instance : TInv Try.prog 194 "Head" 230 := ⟨fun _ _ _ => by kernel_rfl⟩
instance : TInv Try.prog 197 "Head" 233 := ⟨fun _ _ _ => by kernel_rfl⟩
instance : TInv Try.prog 267 "Head" 237 := ⟨fun _ _ _ => by kernel_rfl⟩
instance : TInv Try.prog 269 "Head" 240 := ⟨fun _ _ _ => by kernel_rfl⟩
instance : TInv Try.prog 273 "Head" 242 := ⟨fun _ _ _ => by kernel_rfl⟩
instance : TInv Try.prog 312 "Head" 246 := ⟨fun _ _ _ => by kernel_rfl⟩
instance : TInv Try.prog 75 "antiphon/rtcp.put" 220 := ⟨fun _ _ _ => by kernel_rfl⟩
instance : TInv Try.prog 77 "antiphon/rtcp.put" 222 := ⟨fun _ _ _ => by kernel_rfl⟩
instance : TInv Try.prog 190 "antiphon/rtcp.put" 229 := ⟨fun _ _ _ => by kernel_rfl⟩
instance : TInv Try.prog 194 "antiphon/rtcp.put" 231 := ⟨fun _ _ _ => by kernel_rfl⟩
instance : TInv Try.prog 197 "antiphon/rtcp.put" 234 := ⟨fun _ _ _ => by kernel_rfl⟩
instance : TInv Try.prog 267 "antiphon/rtcp.put" 238 := ⟨fun _ _ _ => by kernel_rfl⟩
instance : TInv Try.prog 269 "antiphon/rtcp.put" 241 := ⟨fun _ _ _ => by kernel_rfl⟩
instance : TInv Try.prog 273 "antiphon/rtcp.put" 243 := ⟨fun _ _ _ => by kernel_rfl⟩
instance : TInv Try.prog 312 "antiphon/rtcp.put" 247 := ⟨fun _ _ _ => by kernel_rfl⟩
instance : FO Try.prog 218 2 2 := ⟨by kernel_rfl⟩
instance : FO Try.prog 243 0 0 := ⟨by kernel_rfl⟩
end Go.Proofs.Ytlhlidmhlhodiaa

/-
  Package reorder: Put and Tick, things with gaps.
-/
namespace Go.Proofs.Ytlhlidmhlhodiaa
set_option linter.unusedSimpArgs false
set_option linter.unusedVariables false
open Go.RowKit
attribute [local irreducible] Pv WO WC Fn
set_option maxRecDepth 100000

abbrev PPost (b mp : Nat) (B : Int) (G : Nat → Bool) (p J : Nat) (ws : List (Nat × Nat)) (ck : Nat) (v : Value) (L' : List It) (R' : List Ro) (d : List (Nat × Nat)) (p' : Nat) (ws' : List (Nat × Nat)) (lo' : Int) (ao : Option Addr) (c : Nat) : Prop :=
  L' = [bfI b true (B + (p' : Nat)) mp lo', .ob mp (mL (mB B ws') ck), tO ao c B d] ∧ R' = [] ∧ RP G p J ws ck d p' ws' ∧ (p' < J → G p' = true) ∧ (0 ≤ lo' ∧ lo' ≤ (p' : Int))
def tblMl (l : List Me) (ck : Nat) : Nat → List (List It) → Value → List (List It) → Prop := fun k Ls v Ms => match k, Ls with
  | 7, [[.ob b _]] => v = undef ∧ Ms = [[.ob b (mL l ck)]]
  | _, _ => False
def tblPu2 (at_ : Int) (mp : Nat) (lo : Int) : Nat → List (List It) → Value → List (List It) → Prop := fun k Ls v Ms => match k, Ls with
  | 6, [[.ob b _]] => v = undef ∧ Ms = [[bfI b true 0 mp lo]]
  | 9, [[.ob b _]] => v = undef ∧ Ms = [[bfI b true at_ mp lo]]
  | _, _ => False
theorem mB_snoc (B : Int) (ws : List (Nat × Nat)) (j ck : Nat) : mB B ws ++ [(B + (j : Nat), thV (B + (j : Nat)) ByteArray.empty (j : Nat), ck)] = mB B (ws ++ [(j, ck)]) := by rw [mB, mB, List.map_append]; rfl
theorem RP.dlen {G : Nat → Bool} {p J ck p' : Nat} {ws d ws' : List (Nat × Nat)} (h : RP G p J ws ck d p' ws') : d.length ≤ J := by
  have h7 := congrArg List.length h.dx
  have h8 := ng_len (G := G) p p'
  have := h.leJ
  rw [List.length_map] at h7
  omega
set_option maxHeartbeats 16000000 in
theorem oPutG (b mp : Nat) (B lo : Int) (G : Nat → Bool) (p j : Nat) (ws : List (Nat × Nat)) (ck : Nat) (hB : 0 ≤ B ∧ B ≤ 1000000000000) (hj : j ≤ 90) (hp : p ≤ j) (hg : G j = false) (hlo : 0 ≤ lo ∧ lo ≤ (p : Int)) (hw : WGk G p j ws ck) :
    Fn Try.prog 96 #[.pointer (some ⟨b, 0, none⟩), thV (B + (j : Nat)) ByteArray.empty (j : Nat)] [bfI b true (B + (p : Nat)) mp lo, .ob mp (mL (mB B ws) ck)] [] (fun v L' R' => ∃ d p' ws' lo' ao c, v = .tuple #[.slice ao (d : List (Nat × Nat)).length c, .int .i64 0] ∧ PPost b mp B G p (j + 1) (ws ++ [(j, ck)]) (ck + 1) v L' R' d p' ws' lo' ao c) := by
  have qr := oRunG b mp B lo G p (j + 1) (ws ++ [(j, ck)]) (ck + 1) hB (by omega) (by omega) (hw.snoc hp hg)
  have hno : ∀ e ∈ mB B ws, e.1 ≠ B + (j : Nat) := fun e he => by
    obtain ⟨x, hx, rfl⟩ := List.mem_map.1 he
    have := (hw.mem hx).2.1
    show B + (x.1 : Int) ≠ B + (j : Int)
    omega
  refine fn_intro Try.func96 rfl Try.ntmps96 rfl (fun E => ?_)
  (repeat (first | ((first | (apply wo_v; rfl) ); (· first | (apply pv_ev; rfl) | (apply pv_fld; rfl) | (apply g_load; first | (apply pv_ld; rfl; (· (repeat (first | apply sel_here | apply sel_there))); rfl) ) | (apply g_un; first | (apply pv_not_t; rfl) ) )) | apply wo_nil | apply wc_seq | apply wc_region | apply wc_skip | (apply wc_true; rfl) | (apply wc_false; rfl) | (apply wo_box1; rfl; rfl; rfl; intro bx) | (apply wo_boxa; rfl; rfl; intro bx) ))
  obtain ⟨b3, hb3⟩ : ∃ g, g = bx := ⟨_, rfl⟩
  subst hb3
  (refine wc_quiet mixed (by kernel_rfl) ?_; (repeat (first | ((first | (apply hd_v; rfl) ); (· first | (apply pv_ev; rfl) | (apply pv_fld; rfl) | (apply g_load; first | (apply pv_ld; rfl; (· (repeat (first | apply sel_here | apply sel_there))); rfl) ) )) | apply Hd.nil | apply wc_seq | apply wc_skip | (apply wc_true; rfl) | (apply wc_false; rfl) | (apply a_dec_t; rfl; (· first | assumption | omega)) | (apply a_dec_f; rfl; (· first | assumption | omega)) )))
  (repeat (first | fail ))
  (refine wc_regM [0, 1] (aslL [(6, [1]), (10, [0]), (11, [0])]) (tblLk (.tuple #[.agg #[.int .i64 0, .string ByteArray.empty, .int .i64 0], .bool false]) [.int .i64 0, .string ByteArray.empty, .int .i64 0]) ([bfI b true (B + (p : Nat)) mp lo, thB b3 (B + (j : Nat)) ByteArray.empty j]) (fm [(0, []), (1, [.ob mp (mL (mB B ws) ck)])]) mixed (by kernel_rfl) (by kernel_rfl) (by decide) (aslL_ok (by decide)) (by (repeat (first | (apply prm_cons; (· (repeat (first | apply sel_here | apply sel_there)))) | apply List.Perm.nil )); done) ?_; (repeat (first | (apply HdM.val; rfl; rfl; (· first | apply gok_none ); (· first | (apply pv_ev; rfl) | (apply pv_fld; rfl) | (apply g_load; first | (apply pv_ld; rfl; (· (repeat (first | apply sel_here | apply sel_there))); rfl) ) )) )))
  (refine hm_eff (cs := [1]) rfl (by decide) rfl rfl (by first | exact gok_none | exact gok_run rfl rfl) (fun a ha => outc_mono (outc_pv (L := [.ob mp (mL (mB B ws) ck)]) (pv_mL_no rfl rfl (by (repeat (first | apply sel_here )); done) hno) a ha) (fun v M h => ⟨[M], And.intro h.1 (congrArg (fun x => [x]) h.2), rfl, by simp⟩)) (⟨_, _, And.intro rfl rfl, rfl⟩) ?_; rintro v Ms ⟨rfl, rfl⟩ _; simp only [setls, setl, reduceIte, Nat.reduceEqDiff]; (repeat (first | (apply HdM.val; rfl; rfl; (· first | apply gok_none ); (· first | (apply pv_ev; rfl) )) )))
  (refine hm_eff (cs := [0]) rfl (by decide) rfl rfl (by first | exact gok_none | exact gok_run rfl rfl) (fun a ha => outc_mono (outc_alloc a ha) (fun v M h => Exists.elim h fun b h => ⟨[M], Exists.intro b (And.intro h.1 (congrArg (fun x => [x]) h.2)), rfl, by simp⟩)) (⟨_, _, Exists.intro 0 (And.intro rfl rfl), rfl⟩) ?_; rintro v Ms ⟨b6, rfl, rfl⟩ _; simp only [setls, setl, reduceIte, Nat.reduceEqDiff]; (repeat (first | fail )))
  (refine hm_eff (cs := [0]) rfl (by decide) rfl rfl (by first | exact gok_none | exact gok_run rfl rfl) (fun a ha => outc_mono (outc_sta rfl rfl rfl rfl (by (repeat (first | apply LayAt.nil | apply LayAt.here )); done) a ha) (fun v M h => ⟨[M], And.intro h.1 (congrArg (fun x => [x]) h.2), rfl, by simp⟩)) (⟨_, _, And.intro rfl rfl, rfl⟩) ?_; rintro v Ms ⟨rfl, rfl⟩ _; simp only [setls, setl, reduceIte, Nat.reduceEqDiff]; (repeat (first | (apply HdM.val; rfl; rfl; (· first | apply gok_none ); (· first | (apply pv_ev; rfl) )) )))
  (refine HdM.nil ?_; intro H hH; simp only [Hp, fm, look, setl, List.flatMap_cons, List.flatMap_nil, reduceIte, Nat.reduceEqDiff, Option.getD_some, List.append_nil, List.cons_append, List.nil_append] at hH; subst hH)
  (repeat (first | ((first | (apply wo_v; rfl) ); (· first | (apply pv_ev; rfl) )) | apply wo_nil | apply wc_seq | apply wc_region | apply wc_skip | (apply wc_true; rfl) | (apply wc_false; rfl) ))
  (refine wc_regM [0] (aslL [(7, [0])]) (tblMl (mB B ws ++ [(B + (j : Nat), thV (B + (j : Nat)) ByteArray.empty (j : Nat), ck)]) (ck + 1)) ([bfI b true (B + (p : Nat)) mp lo, thB b3 (B + (j : Nat)) ByteArray.empty j, thB b6 0 ByteArray.empty 0]) (fm [(0, [.ob mp (mL (mB B ws) ck)])]) mixed (by kernel_rfl) (by kernel_rfl) (by decide) (aslL_ok (by decide)) (by (repeat (first | (apply prm_cons; (· (repeat (first | apply sel_here )))) | apply List.Perm.nil )); done) ?_; (repeat (first | (apply HdM.val; rfl; rfl; (· first | apply gok_none ); (· first | (apply pv_ev; rfl) | (apply pv_fld; rfl) | (apply g_load; first | (apply pv_ld; rfl; (· (repeat (first | apply sel_here | apply sel_there))); rfl) | (apply pv_lda; rfl; (· (repeat (first | apply sel_here | apply sel_there))); (· (repeat (first | apply Cut.here0 | apply Cut.here )))) ) )) )))
  (refine hm_eff (cs := [0]) rfl (by decide) rfl rfl (by first | exact gok_none | exact gok_run rfl rfl) (fun a ha => outc_mono (outc_mLput rfl rfl rfl hno a ha) (fun v M h => ⟨[M], And.intro h.1 (congrArg (fun x => [x]) h.2), rfl, by simp⟩)) (⟨_, _, And.intro rfl rfl, rfl⟩) ?_; rintro v Ms ⟨rfl, rfl⟩ _; simp only [setls, setl, reduceIte, Nat.reduceEqDiff]; (repeat (first | fail )))
  (refine HdM.nil ?_; intro H hH; simp only [Hp, fm, look, setl, List.flatMap_cons, List.flatMap_nil, reduceIte, Nat.reduceEqDiff, Option.getD_some, List.append_nil, List.cons_append, List.nil_append] at hH; subst hH)
  rw [mB_snoc]
  (repeat (first | ((first | (apply wo_v; rfl) ); (· first | (apply pv_ev; rfl) )) | apply wc_seq | apply wc_region ))
  (refine wo_call (qr) rfl (by (repeat (first | apply sub_nil | (apply sub_cons; (· (repeat (first | apply sel_here | apply sel_there)))))); done) (by first | exact fun _ h => h | (intro r hr; cases hr; done) | (simp; done) | exact fun _ h => List.mem_append_left _ h | (intro r hr; simp [hr]; done)) rfl ?_; rintro v L' R' ⟨d, p', ws', ao, c, rfl, rfl, rfl, hq, hst⟩ H' hH RR hR; simp only [List.cons_append, List.nil_append] at hH hR; subst hH; have hR := hR.symm; subst hR)
  (repeat (first | ((first | (apply wo_v; rfl) ); (· first | (apply pv_ev; rfl) )) | apply wo_nil | apply wc_seq ))
  refine wc_block ?_
  refine wc_loop' (fun q st => ∃ (d : List (Nat × Nat)) (p' : Nat) (ws' : List (Nat × Nat)) (lo' : Int) (ao : Option Addr) (c : Nat), q = ws'.length ∧ RP G p (j + 1) (ws ++ [(j, ck)]) (ck + 1) d p' ws' ∧ (p' < j + 1 → G p' = true) ∧ (0 ≤ lo' ∧ lo' ≤ (p' : Int)) ∧ st = ⟨[(0, .pointer (some ⟨b, 0, none⟩)), (8, .slice ao d.length c)], [bfI b true (B + (p' : Nat)) mp lo', .ob mp (mL (mB B ws') (ck + 1)), tO ao c B d], []⟩)
    ⟨d, p', ws', lo, ao, c, rfl, hq, hst, by have := hq.le; omega, rfl⟩ (wk_mk (by (repeat (first | apply wkf_nil | (apply wkf_cons; rfl))); done) (by (repeat (first | apply sub_nil )); done) (by first | exact fun _ h => h | (intro r hr; cases hr; done) | (simp; done) | exact fun _ h => List.mem_append_left _ h | (intro r hr; simp [hr]; done))) ?_
  clear hq hst
  rintro q st ⟨d, p', ws', lo', ao, c, rfl, hq, hst, hlo', rfl⟩
  have hlen : (mB B ws').length = ws'.length := by simp [mB]
  by_cases h4 : 4 < ws'.length
  · obtain ⟨e, l, rfl⟩ : ∃ e l, ws' = e :: l := by
      cases ws' with
      | nil => simp at h4
      | cons e l => exact ⟨e, l, rfl⟩
    have hdl := hq.dlen
    have hqJ := hq.leJ
    have hsk := oSkip b mp B lo' G p' (j + 1) e l (ck + 1) hB (by omega) hqJ hlo' hq.ok
    have hsk2 := hq.ok.skip
    (repeat (first | apply wc_seq ))
    (refine wc_quiet mixed (by kernel_rfl) ?_; (repeat (first | ((first | (apply hd_v; rfl) ); (· first | (apply pv_ev; rfl) | (apply pv_fld; rfl) | (apply g_load; first | (apply pv_ld; rfl; (· (repeat (first | apply sel_here ))); rfl) ) | (apply g_bi; first | fail ) )) )))
    refine hd_v rfl (pv_mL_len rfl (by (repeat (first | apply sel_here | apply sel_there)); done)) ?_
    rw [hlen]
    (repeat (first | ((first | (apply hd_v; rfl) ); (· first | (apply pv_ev; rfl) | (apply pv_fld; rfl) | (apply g_load; first | (apply pv_ld; rfl; (· (repeat (first | apply sel_here ))); rfl) ) )) | apply Hd.nil | apply wc_skip | (apply wc_true; rfl) | (apply wc_false; rfl) | (apply a_dec_t; rfl; (· first | assumption | omega)) ))
    refine wc_block ?_
    (repeat (first | ((first | (apply wo_v; rfl) ); (· first | (apply pv_ev; rfl) )) | apply wc_region ))
    (refine wo_call (hsk) rfl (by (repeat (first | apply sub_nil )); done) (by first | exact fun _ h => h | (intro r hr; cases hr; done) | (simp; done) | exact fun _ h => List.mem_append_left _ h | (intro r hr; simp [hr]; done)) rfl ?_; rintro v L' R' ⟨d2, p2, ws2, ao2, c2, rfl, rfl, rfl, hq2, hlt2, hst2⟩ H' hH RR hR; simp only [List.cons_append, List.nil_append] at hH hR; subst hH; have hR := hR.symm; subst hR)
    have hdl2 := hq2.dlen
    have hq3 := hq.trans hq2
    have hl9 : d.length + d2.length = (d ++ d2).length := by rw [List.length_append]
    have hm9 : d.map (tRw B) ++ d2.map (tRw B) = (d ++ d2).map (tRw B) := by rw [List.map_append]
    have hwl : ws2.length < (e :: l).length := by
      have h6 := congrArg List.length hq2.app
      rw [List.length_append] at h6
      have h7 := congrArg List.length hq2.dx
      rw [List.length_map, ng_app hsk2.2.1 (Nat.le_of_lt hlt2), ng_step hlt2, hsk2.2.2.2.1, hsk2.2.2.2.2] at h7
      simp only [List.nil_append, Bool.false_eq_true, if_false, List.length_cons] at h7
      omega
    refine wo_app (ao := ao) (n := d.length) (m := d2.length) rfl rfl (by (repeat (first | apply sel_here | apply sel_there)); done) (by (repeat (first | apply sel_here | apply sel_there)); done) (by unfold maxLen; omega) (by omega) rfl (fun a3 c3 => ?_)
    rw [hl9, hm9]
    (repeat (first | ((first | (apply wo_v; rfl) ); (· first | (apply pv_ev; rfl) )) | apply wo_nil ))
    exact loop_end ⟨d ++ d2, p2, ws2, lo' + ((e.1 : Int) - (p' : Int)), a3, c3, rfl, hq3, hst2, by omega, rfl⟩ hwl (wk_mk (by (repeat (first | apply wkf_nil | (apply wkf_cons; rfl))); done) (by (repeat (first | apply sub_nil | (apply sub_cons; (· (repeat (first | apply sel_here | apply sel_there)))))); done) (by first | exact fun _ h => h | (intro r hr; cases hr; done) | (simp; done) | exact fun _ h => List.mem_append_left _ h | (intro r hr; simp [hr]; done)))
  · (repeat (first | apply wc_seq ))
    (refine wc_quiet mixed (by kernel_rfl) ?_; (repeat (first | ((first | (apply hd_v; rfl) ); (· first | (apply pv_ev; rfl) | (apply pv_fld; rfl) | (apply g_load; first | (apply pv_ld; rfl; (· (repeat (first | apply sel_here ))); rfl) ) | (apply g_bi; first | fail ) )) )))
    refine hd_v rfl (pv_mL_len rfl (by (repeat (first | apply sel_here | apply sel_there)); done)) ?_
    rw [hlen]
    (repeat (first | ((first | (apply wo_v; rfl) | (apply hd_v; rfl) ); (· first | (apply pv_ev; rfl) | (apply pv_fld; rfl) | (apply g_load; first | (apply pv_ld; rfl; (· (repeat (first | apply sel_here ))); rfl) ) )) | apply wo_nil | apply Hd.nil | apply wc_seq | apply wc_region | (apply wc_exit; rfl) | apply wc_ret | (apply wc_true; rfl) | (apply wc_false; rfl) | (apply a_dec_t; rfl; (· first | assumption | omega)) | (apply a_dec_f; rfl; (· first | assumption | omega)) ))
    exact ret2 rfl rfl rfl ⟨d, p', ws', lo', ao, c, rfl, rfl, rfl, hq, hst, hlo'⟩ ((by (repeat (first | apply sub_nil )); done) : List.Perm _ ([_, _, _] ++ _)) (by first | exact fun _ h => h | (intro r hr; cases hr; done) | (simp; done) | exact fun _ h => List.mem_append_left _ h | (intro r hr; simp [hr]; done))
set_option maxHeartbeats 16000000 in
theorem oPutB (b mp : Nat) (B : Int) (G : Nat → Bool) (hB : 0 ≤ B ∧ B ≤ 1000000000000) (hg : G 0 = false) :
    Fn Try.prog 96 #[.pointer (some ⟨b, 0, none⟩), thV (B + (0 : Nat)) ByteArray.empty (0 : Nat)] [bfI b false 0 mp 0, .ob mp (mL (mB B []) 0)] [] (fun v L' R' => ∃ d p' ws' lo' ao c, v = .tuple #[.slice ao (d : List (Nat × Nat)).length c, .int .i64 0] ∧ PPost b mp B G 0 1 [(0, 0)] 1 v L' R' d p' ws' lo' ao c) := by
  have hw := WGk.nil G 0 0
  obtain ⟨p, hp0⟩ : ∃ p : Nat, p = 0 := ⟨_, rfl⟩
  obtain ⟨j, hj0⟩ : ∃ j : Nat, j = p := ⟨_, rfl⟩
  obtain ⟨ws, hws⟩ : ∃ ws : List (Nat × Nat), ws = [] := ⟨_, rfl⟩
  obtain ⟨ck, hck⟩ : ∃ ck : Nat, ck = 0 := ⟨_, rfl⟩
  obtain ⟨lo, hlo0⟩ : ∃ lo : Int, lo = 0 := ⟨_, rfl⟩
  have e0 : Fn Try.prog 96 #[.pointer (some ⟨b, 0, none⟩), thV (B + (j : Nat)) ByteArray.empty (j : Nat)] [bfI b false 0 mp lo, .ob mp (mL (mB B ws) ck)] [] (fun v L' R' => ∃ d p' ws' lo' ao c, v = .tuple #[.slice ao (d : List (Nat × Nat)).length c, .int .i64 0] ∧ PPost b mp B G p (j + 1) (ws ++ [(j, ck)]) (ck + 1) v L' R' d p' ws' lo' ao c) := by
    have hw : WGk G p j ws ck := by rw [hj0, hp0, hws, hck]; exact hw
    have hg : G j = false := by rw [hj0, hp0]; exact hg
    have hlo : 0 ≤ lo ∧ lo ≤ (p : Int) := by omega
    have hp : p ≤ j := by omega
    have hj : j ≤ 90 := by omega
    have qr := oRunG b mp B lo G p (j + 1) (ws ++ [(j, ck)]) (ck + 1) hB (by omega) (by omega) (hw.snoc hp hg)
    have hno : ∀ e ∈ mB B ws, e.1 ≠ B + (j : Nat) := fun e he => by rw [hws] at he; cases he
    clear hws hck hlo0
    refine fn_intro Try.func96 rfl Try.ntmps96 rfl (fun E => ?_)
    (repeat (first | ((first | (apply wo_v; rfl) ); (· first | (apply pv_ev; rfl) | (apply pv_fld; rfl) | (apply g_load; first | (apply pv_ld; rfl; (· (repeat (first | apply sel_here | apply sel_there))); rfl) ) | (apply g_un; first | (apply pv_not_t; rfl) | (apply pv_not_f; rfl) ) )) | apply wo_nil | apply wc_seq | apply wc_region | (apply wc_true; rfl) | (apply wo_box1; rfl; rfl; rfl; intro bx) | (apply wo_boxa; rfl; rfl; intro bx) ))
    obtain ⟨b3, hb3⟩ : ∃ g, g = bx := ⟨_, rfl⟩
    subst hb3
    (refine wc_regM [0] (aslL [(6, [0]), (9, [0])]) (tblPu2 (B + (p : Nat)) mp lo) ([thB b3 (B + (j : Nat)) ByteArray.empty j, .ob mp (mL (mB B ws) ck)]) (fm [(0, [bfI b false 0 mp lo])]) mixed (by kernel_rfl) (by kernel_rfl) (by decide) (aslL_ok (by decide)) (by (repeat (first | (apply prm_cons; (· (repeat (first | apply sel_here | apply sel_there)))) | apply List.Perm.nil )); done) ?_; (repeat (first | (apply HdM.val; rfl; rfl; (· first | apply gok_none ); (· first | (apply pv_ev; rfl) | (apply pv_fld; rfl) | (apply g_load; first | (apply pv_ld; rfl; (· (repeat (first | apply sel_here ))); rfl) ) )) )))
    (refine hm_eff (cs := [0]) rfl (by decide) rfl rfl (by first | exact gok_none | exact gok_run rfl rfl) (fun a ha => outc_mono (outc_st rfl rfl rfl (by (repeat (first | apply SetAt.here | apply SetAt.there)); done) a ha) (fun v M h => ⟨[M], And.intro h.1 (congrArg (fun x => [x]) h.2), rfl, by simp⟩)) (⟨_, _, And.intro rfl rfl, rfl⟩) ?_; rintro v Ms ⟨rfl, rfl⟩ _; simp only [setls, setl, reduceIte, Nat.reduceEqDiff]; (repeat (first | (apply HdM.val; rfl; rfl; (· first | apply gok_none ); (· first | (apply pv_ev; rfl) | (apply pv_fld; rfl) )) )))
    rw [show (j : Int) = (p : Int) by omega]
    (refine hm_eff (cs := [0]) rfl (by decide) rfl rfl (by first | exact gok_none | exact gok_run rfl rfl) (fun a ha => outc_mono (outc_st rfl rfl rfl (by (repeat (first | apply SetAt.here | apply SetAt.there)); done) a ha) (fun v M h => ⟨[M], And.intro h.1 (congrArg (fun x => [x]) h.2), rfl, by simp⟩)) (⟨_, _, And.intro rfl rfl, rfl⟩) ?_; rintro v Ms ⟨rfl, rfl⟩ _; simp only [setls, setl, reduceIte, Nat.reduceEqDiff]; (repeat (first | fail )))
    (refine HdM.nil ?_; intro H hH; simp only [Hp, fm, look, setl, List.flatMap_cons, List.flatMap_nil, reduceIte, Nat.reduceEqDiff, Option.getD_some, List.append_nil, List.cons_append, List.nil_append] at hH; subst hH)
    rw [show (p : Int) = (j : Int) by omega]
    (repeat (first | apply wc_seq ))
    (refine wc_quiet mixed (by kernel_rfl) ?_; (repeat (first | ((first | (apply hd_v; rfl) ); (· first | (apply pv_ev; rfl) | (apply pv_fld; rfl) | (apply g_load; first | (apply pv_ld; rfl; (· (repeat (first | apply sel_here | apply sel_there))); rfl) ) )) | apply Hd.nil | apply wc_seq | apply wc_skip | (apply wc_true; rfl) | (apply wc_false; rfl) | (apply a_dec_t; rfl; (· first | assumption | omega)) | (apply a_dec_f; rfl; (· first | assumption | omega)) )))
    rw [show bfI b true (B + (j : Int)) mp lo = bfI b true (B + (p : Int)) mp lo by rw [hj0]]
    (repeat (first | fail ))
    (refine wc_regM [0, 1] (aslL [(6, [1]), (10, [0]), (11, [0])]) (tblLk (.tuple #[.agg #[.int .i64 0, .string ByteArray.empty, .int .i64 0], .bool false]) [.int .i64 0, .string ByteArray.empty, .int .i64 0]) ([bfI b true (B + (p : Nat)) mp lo, thB b3 (B + (j : Nat)) ByteArray.empty j]) (fm [(0, []), (1, [.ob mp (mL (mB B ws) ck)])]) mixed (by kernel_rfl) (by kernel_rfl) (by decide) (aslL_ok (by decide)) (by (repeat (first | (apply prm_cons; (· (repeat (first | apply sel_here | apply sel_there)))) | apply List.Perm.nil )); done) ?_; (repeat (first | (apply HdM.val; rfl; rfl; (· first | apply gok_none ); (· first | (apply pv_ev; rfl) | (apply pv_fld; rfl) | (apply g_load; first | (apply pv_ld; rfl; (· (repeat (first | apply sel_here | apply sel_there))); rfl) ) )) )))
    (refine hm_eff (cs := [1]) rfl (by decide) rfl rfl (by first | exact gok_none | exact gok_run rfl rfl) (fun a ha => outc_mono (outc_pv (L := [.ob mp (mL (mB B ws) ck)]) (pv_mL_no rfl rfl (by (repeat (first | apply sel_here )); done) hno) a ha) (fun v M h => ⟨[M], And.intro h.1 (congrArg (fun x => [x]) h.2), rfl, by simp⟩)) (⟨_, _, And.intro rfl rfl, rfl⟩) ?_; rintro v Ms ⟨rfl, rfl⟩ _; simp only [setls, setl, reduceIte, Nat.reduceEqDiff]; (repeat (first | (apply HdM.val; rfl; rfl; (· first | apply gok_none ); (· first | (apply pv_ev; rfl) )) )))
    (refine hm_eff (cs := [0]) rfl (by decide) rfl rfl (by first | exact gok_none | exact gok_run rfl rfl) (fun a ha => outc_mono (outc_alloc a ha) (fun v M h => Exists.elim h fun b h => ⟨[M], Exists.intro b (And.intro h.1 (congrArg (fun x => [x]) h.2)), rfl, by simp⟩)) (⟨_, _, Exists.intro 0 (And.intro rfl rfl), rfl⟩) ?_; rintro v Ms ⟨b6, rfl, rfl⟩ _; simp only [setls, setl, reduceIte, Nat.reduceEqDiff]; (repeat (first | fail )))
    (refine hm_eff (cs := [0]) rfl (by decide) rfl rfl (by first | exact gok_none | exact gok_run rfl rfl) (fun a ha => outc_mono (outc_sta rfl rfl rfl rfl (by (repeat (first | apply LayAt.nil | apply LayAt.here )); done) a ha) (fun v M h => ⟨[M], And.intro h.1 (congrArg (fun x => [x]) h.2), rfl, by simp⟩)) (⟨_, _, And.intro rfl rfl, rfl⟩) ?_; rintro v Ms ⟨rfl, rfl⟩ _; simp only [setls, setl, reduceIte, Nat.reduceEqDiff]; (repeat (first | (apply HdM.val; rfl; rfl; (· first | apply gok_none ); (· first | (apply pv_ev; rfl) )) )))
    (refine HdM.nil ?_; intro H hH; simp only [Hp, fm, look, setl, List.flatMap_cons, List.flatMap_nil, reduceIte, Nat.reduceEqDiff, Option.getD_some, List.append_nil, List.cons_append, List.nil_append] at hH; subst hH)
    (repeat (first | ((first | (apply wo_v; rfl) ); (· first | (apply pv_ev; rfl) )) | apply wo_nil | apply wc_seq | apply wc_region | apply wc_skip | (apply wc_true; rfl) | (apply wc_false; rfl) ))
    (refine wc_regM [0] (aslL [(7, [0])]) (tblMl (mB B ws ++ [(B + (j : Nat), thV (B + (j : Nat)) ByteArray.empty (j : Nat), ck)]) (ck + 1)) ([bfI b true (B + (p : Nat)) mp lo, thB b3 (B + (j : Nat)) ByteArray.empty j, thB b6 0 ByteArray.empty 0]) (fm [(0, [.ob mp (mL (mB B ws) ck)])]) mixed (by kernel_rfl) (by kernel_rfl) (by decide) (aslL_ok (by decide)) (by (repeat (first | (apply prm_cons; (· (repeat (first | apply sel_here )))) | apply List.Perm.nil )); done) ?_; (repeat (first | (apply HdM.val; rfl; rfl; (· first | apply gok_none ); (· first | (apply pv_ev; rfl) | (apply pv_fld; rfl) | (apply g_load; first | (apply pv_ld; rfl; (· (repeat (first | apply sel_here | apply sel_there))); rfl) | (apply pv_lda; rfl; (· (repeat (first | apply sel_here | apply sel_there))); (· (repeat (first | apply Cut.here0 | apply Cut.here )))) ) )) )))
    (refine hm_eff (cs := [0]) rfl (by decide) rfl rfl (by first | exact gok_none | exact gok_run rfl rfl) (fun a ha => outc_mono (outc_mLput rfl rfl rfl hno a ha) (fun v M h => ⟨[M], And.intro h.1 (congrArg (fun x => [x]) h.2), rfl, by simp⟩)) (⟨_, _, And.intro rfl rfl, rfl⟩) ?_; rintro v Ms ⟨rfl, rfl⟩ _; simp only [setls, setl, reduceIte, Nat.reduceEqDiff]; (repeat (first | fail )))
    (refine HdM.nil ?_; intro H hH; simp only [Hp, fm, look, setl, List.flatMap_cons, List.flatMap_nil, reduceIte, Nat.reduceEqDiff, Option.getD_some, List.append_nil, List.cons_append, List.nil_append] at hH; subst hH)
    rw [mB_snoc]
    (repeat (first | ((first | (apply wo_v; rfl) ); (· first | (apply pv_ev; rfl) )) | apply wc_seq | apply wc_region ))
    (refine wo_call (qr) rfl (by (repeat (first | apply sub_nil | (apply sub_cons; (· (repeat (first | apply sel_here | apply sel_there)))))); done) (by first | exact fun _ h => h | (intro r hr; cases hr; done) | (simp; done) | exact fun _ h => List.mem_append_left _ h | (intro r hr; simp [hr]; done)) rfl ?_; rintro v L' R' ⟨d, p', ws', ao, c, rfl, rfl, rfl, hq, hst⟩ H' hH RR hR; simp only [List.cons_append, List.nil_append] at hH hR; subst hH; have hR := hR.symm; subst hR)
    (repeat (first | ((first | (apply wo_v; rfl) ); (· first | (apply pv_ev; rfl) )) | apply wo_nil | apply wc_seq ))
    refine wc_block ?_
    refine wc_loop' (fun q st => ∃ (d : List (Nat × Nat)) (p' : Nat) (ws' : List (Nat × Nat)) (lo' : Int) (ao : Option Addr) (c : Nat), q = ws'.length ∧ RP G p (j + 1) (ws ++ [(j, ck)]) (ck + 1) d p' ws' ∧ (p' < j + 1 → G p' = true) ∧ (0 ≤ lo' ∧ lo' ≤ (p' : Int)) ∧ st = ⟨[(0, .pointer (some ⟨b, 0, none⟩)), (8, .slice ao d.length c)], [bfI b true (B + (p' : Nat)) mp lo', .ob mp (mL (mB B ws') (ck + 1)), tO ao c B d], []⟩)
      ⟨d, p', ws', lo, ao, c, rfl, hq, hst, by have := hq.le; omega, rfl⟩ (wk_mk (by (repeat (first | apply wkf_nil | (apply wkf_cons; rfl))); done) (by (repeat (first | apply sub_nil )); done) (by first | exact fun _ h => h | (intro r hr; cases hr; done) | (simp; done) | exact fun _ h => List.mem_append_left _ h | (intro r hr; simp [hr]; done))) ?_
    clear hq hst
    rintro q st ⟨d, p', ws', lo', ao, c, rfl, hq, hst, hlo', rfl⟩
    have hlen : (mB B ws').length = ws'.length := by simp [mB]
    by_cases h4 : 4 < ws'.length
    · obtain ⟨e, l, rfl⟩ : ∃ e l, ws' = e :: l := by
        cases ws' with
        | nil => simp at h4
        | cons e l => exact ⟨e, l, rfl⟩
      have hdl := hq.dlen
      have hqJ := hq.leJ
      have hsk := oSkip b mp B lo' G p' (j + 1) e l (ck + 1) hB (by omega) hqJ hlo' hq.ok
      have hsk2 := hq.ok.skip
      (repeat (first | apply wc_seq ))
      (refine wc_quiet mixed (by kernel_rfl) ?_; (repeat (first | ((first | (apply hd_v; rfl) ); (· first | (apply pv_ev; rfl) | (apply pv_fld; rfl) | (apply g_load; first | (apply pv_ld; rfl; (· (repeat (first | apply sel_here ))); rfl) ) | (apply g_bi; first | fail ) )) )))
      refine hd_v rfl (pv_mL_len rfl (by (repeat (first | apply sel_here | apply sel_there)); done)) ?_
      rw [hlen]
      (repeat (first | ((first | (apply hd_v; rfl) ); (· first | (apply pv_ev; rfl) | (apply pv_fld; rfl) | (apply g_load; first | (apply pv_ld; rfl; (· (repeat (first | apply sel_here ))); rfl) ) )) | apply Hd.nil | apply wc_skip | (apply wc_true; rfl) | (apply wc_false; rfl) | (apply a_dec_t; rfl; (· first | assumption | omega)) ))
      refine wc_block ?_
      (repeat (first | ((first | (apply wo_v; rfl) ); (· first | (apply pv_ev; rfl) )) | apply wc_region ))
      (refine wo_call (hsk) rfl (by (repeat (first | apply sub_nil )); done) (by first | exact fun _ h => h | (intro r hr; cases hr; done) | (simp; done) | exact fun _ h => List.mem_append_left _ h | (intro r hr; simp [hr]; done)) rfl ?_; rintro v L' R' ⟨d2, p2, ws2, ao2, c2, rfl, rfl, rfl, hq2, hlt2, hst2⟩ H' hH RR hR; simp only [List.cons_append, List.nil_append] at hH hR; subst hH; have hR := hR.symm; subst hR)
      have hdl2 := hq2.dlen
      have hq3 := hq.trans hq2
      have hl9 : d.length + d2.length = (d ++ d2).length := by rw [List.length_append]
      have hm9 : d.map (tRw B) ++ d2.map (tRw B) = (d ++ d2).map (tRw B) := by rw [List.map_append]
      have hwl : ws2.length < (e :: l).length := by
        have h6 := congrArg List.length hq2.app
        rw [List.length_append] at h6
        have h7 := congrArg List.length hq2.dx
        rw [List.length_map, ng_app hsk2.2.1 (Nat.le_of_lt hlt2), ng_step hlt2, hsk2.2.2.2.1, hsk2.2.2.2.2] at h7
        simp only [List.nil_append, Bool.false_eq_true, if_false, List.length_cons] at h7
        omega
      refine wo_app (ao := ao) (n := d.length) (m := d2.length) rfl rfl (by (repeat (first | apply sel_here | apply sel_there)); done) (by (repeat (first | apply sel_here | apply sel_there)); done) (by unfold maxLen; omega) (by omega) rfl (fun a3 c3 => ?_)
      rw [hl9, hm9]
      (repeat (first | ((first | (apply wo_v; rfl) ); (· first | (apply pv_ev; rfl) )) | apply wo_nil ))
      exact loop_end ⟨d ++ d2, p2, ws2, lo' + ((e.1 : Int) - (p' : Int)), a3, c3, rfl, hq3, hst2, by omega, rfl⟩ hwl (wk_mk (by (repeat (first | apply wkf_nil | (apply wkf_cons; rfl))); done) (by (repeat (first | apply sub_nil | (apply sub_cons; (· (repeat (first | apply sel_here | apply sel_there)))))); done) (by first | exact fun _ h => h | (intro r hr; cases hr; done) | (simp; done) | exact fun _ h => List.mem_append_left _ h | (intro r hr; simp [hr]; done)))
    · (repeat (first | apply wc_seq ))
      (refine wc_quiet mixed (by kernel_rfl) ?_; (repeat (first | ((first | (apply hd_v; rfl) ); (· first | (apply pv_ev; rfl) | (apply pv_fld; rfl) | (apply g_load; first | (apply pv_ld; rfl; (· (repeat (first | apply sel_here ))); rfl) ) | (apply g_bi; first | fail ) )) )))
      refine hd_v rfl (pv_mL_len rfl (by (repeat (first | apply sel_here | apply sel_there)); done)) ?_
      rw [hlen]
      (repeat (first | ((first | (apply wo_v; rfl) | (apply hd_v; rfl) ); (· first | (apply pv_ev; rfl) | (apply pv_fld; rfl) | (apply g_load; first | (apply pv_ld; rfl; (· (repeat (first | apply sel_here ))); rfl) ) )) | apply wo_nil | apply Hd.nil | apply wc_seq | apply wc_region | (apply wc_exit; rfl) | apply wc_ret | (apply wc_true; rfl) | (apply wc_false; rfl) | (apply a_dec_t; rfl; (· first | assumption | omega)) | (apply a_dec_f; rfl; (· first | assumption | omega)) ))
      exact ret2 rfl rfl rfl ⟨d, p', ws', lo', ao, c, rfl, rfl, rfl, hq, hst, hlo'⟩ ((by (repeat (first | apply sub_nil )); done) : List.Perm _ ([_, _, _] ++ _)) (by first | exact fun _ h => h | (intro r hr; cases hr; done) | (simp; done) | exact fun _ h => List.mem_append_left _ h | (intro r hr; simp [hr]; done))
  rw [hj0, hp0, hws, hck, hlo0] at e0
  exact e0
set_option maxHeartbeats 16000000 in
theorem oTickG (b mp : Nat) (B lo now : Int) (G : Nat → Bool) (p J : Nat) (ws : List (Nat × Nat)) (ck : Nat) (hB : 0 ≤ B ∧ B ≤ 1000000000000) (hJ : J ≤ 90) (hp : p ≤ J) (hlo : 0 ≤ lo ∧ lo ≤ (p : Int)) (hw : WGk G p J ws ck) (hst0 : p < J → G p = true) (hnow : 0 ≤ now ∧ now ≤ 1000) :
    Fn Try.prog 98 #[.pointer (some ⟨b, 0, none⟩), .int .i64 now] [bfI b true (B + (p : Nat)) mp lo, .ob mp (mL (mB B ws) ck)] [] (fun v L' R' => ∃ d p' ws' lo' ao c, v = .slice ao (d : List (Nat × Nat)).length c ∧ PPost b mp B G p J ws ck v L' R' d p' ws' lo' ao c ∧ ((J : Int) + 2 ≤ now → ws' = [])) := by
  refine fn_intro Try.func98 rfl Try.ntmps98 rfl (fun E => ?_)
  (repeat (first | ((first | (apply wo_v; rfl) ); (· first | (apply pv_ev; rfl) )) | apply wo_nil | apply wc_seq | apply wc_region ))
  refine wc_own0 218 3 ?_
  refine wc_block ?_
  refine wc_loop' (fun q st => ∃ (d : List (Nat × Nat)) (p' : Nat) (ws' : List (Nat × Nat)) (lo' : Int) (ao : Option Addr) (c : Nat), q = ws'.length ∧ RP G p J ws ck d p' ws' ∧ (p' < J → G p' = true) ∧ (0 ≤ lo' ∧ lo' ≤ (p' : Int)) ∧ st = ⟨[(0, .pointer (some ⟨b, 0, none⟩)), (1, .int .i64 now), (5, .slice ao d.length c)], [bfI b true (B + (p' : Nat)) mp lo', .ob mp (mL (mB B ws') ck), tO ao c B d], []⟩)
    ⟨[], p, ws, lo, none, 0, rfl, RP.refl hw hp, hst0, hlo, rfl⟩ (wk_mk (by (repeat (first | apply wkf_nil | (apply wkf_cons; rfl))); done) (by (repeat (first | apply sub_nil | (apply sub_cons; (· (repeat (first | apply sel_here | apply sel_there)))))); done) (by first | exact fun _ h => h | (intro r hr; cases hr; done) | (simp; done) | exact fun _ h => List.mem_append_left _ h | (intro r hr; simp [hr]; done))) ?_
  rintro q st ⟨d, p', ws', lo', ao, c, rfl, hq, hst, hlo', rfl⟩
  have hlen : (mB B ws').length = ws'.length := by simp [mB]
  by_cases h0 : 0 < ws'.length
  · obtain ⟨⟨x, s⟩, l, rfl⟩ : ∃ e l, ws' = e :: l := by
      cases ws' with
      | nil => simp at h0
      | cons e l => exact ⟨e, l, rfl⟩
    have hdl := hq.dlen
    have hqJ := hq.leJ
    have hf := oFirst b mp B (B + (p' : Nat)) lo' true G p' J (x, s) l ck hB (by omega) hq.ok
    have hsk := oSkip b mp B lo' G p' J (x, s) l ck hB (by omega) hqJ hlo' hq.ok
    have hsk2 := hq.ok.skip
    dsimp only at hf hsk hsk2
    (repeat (first | ((first | (apply wo_v; rfl) ); (· first | (apply pv_ev; rfl) | (apply pv_fld; rfl) | (apply g_load; first | (apply pv_ld; rfl; (· (repeat (first | apply sel_here ))); rfl) ) | (apply g_bi; first | fail ) )) | apply wc_seq | apply wc_region ))
    refine wo_v rfl (pv_mL_len rfl (by (repeat (first | apply sel_here | apply sel_there)); done)) ?_
    rw [hlen]
    (repeat (first | ((first | (apply wo_v; rfl) ); (· first | (apply pv_ev; rfl) )) | apply wo_nil | apply wc_skip | (apply wc_true; rfl) | (apply wc_false; rfl) | (apply a_dec_t; rfl; (· first | assumption | omega)) ))
    refine wc_block ?_
    (repeat (first | apply wc_seq ))
    (refine wc_quiet mixed (by kernel_rfl) ?_; (repeat (first | ((first | (apply hd_v; rfl) ); (· first | (apply pv_ev; rfl) | (apply pv_fld; rfl) | (apply g_load; first | (apply pv_ld; rfl; (· (repeat (first | apply sel_here ))); rfl) ) )) )))
    (refine Hd.call rfl inferInstance (Fn.mono (hf) (fun _ _ _ h => ⟨h.1, h.2.1⟩)) rfl (by (repeat (first | apply sub_nil )); done) (by first | exact fun _ h => h | (intro r hr; cases hr; done) | (simp; done) | exact fun _ h => List.mem_append_left _ h | (intro r hr; simp [hr]; done)) rfl ?_; (repeat (first | ((first | (apply hd_v; rfl) ); (· first | (apply pv_ev; rfl) )) )))
    refine hd_v rfl (pv_mL_hd1 (a := B + (x : Nat)) (v := thV (B + (x : Nat)) ByteArray.empty (x : Nat)) (bn := s) (l := mB B l) rfl rfl (by (repeat (first | apply sel_here | apply sel_there)); done)) ?_
    refine hd_v rfl (pv_field (l := [.int .i64 (B + (x : Nat)), .string ByteArray.empty, .int .i64 (x : Nat)]) rfl inferInstance rfl) ?_
    by_cases h3 : now - (x : Int) < 3
    · (repeat (first | ((first | (apply wo_v; rfl) | (apply hd_v; rfl) ); (· first | (apply pv_ev; rfl) | (apply pv_fld; rfl) | (apply g_load; first | (apply pv_ld; rfl; (· (repeat (first | apply sel_here ))); rfl) ) | (apply g_bin; first | (apply a_sub; rfl; rfl; infer_instance; omega) ) )) | apply wo_nil | apply Hd.nil | apply wc_seq | apply wc_region | (apply wc_exit; rfl) | apply wc_ret | (apply wc_true; rfl) | (apply wc_false; rfl) | (apply a_dec_t; rfl; (· first | assumption | omega)) ))
      exact ret1 rfl rfl ⟨d, p', (x, s) :: l, lo', ao, c, rfl, ⟨rfl, rfl, hq, hst, hlo'⟩, fun h => by have := hsk2.2.2.1; omega⟩ ((by (repeat (first | apply sub_nil )); done) : List.Perm _ ([_, _, _] ++ _)) (by first | exact fun _ h => h | (intro r hr; cases hr; done) | (simp; done) | exact fun _ h => List.mem_append_left _ h | (intro r hr; simp [hr]; done))
    · (repeat (first | ((first | (apply wo_v; rfl) | (apply hd_v; rfl) ); (· first | (apply pv_ev; rfl) | (apply pv_fld; rfl) | (apply g_load; first | (apply pv_ld; rfl; (· (repeat (first | apply sel_here ))); rfl) ) | (apply g_bin; first | (apply a_sub; rfl; rfl; infer_instance; omega) ) )) | apply Hd.nil | apply wc_region | apply wc_skip | (apply wc_true; rfl) | (apply wc_false; rfl) | (apply a_dec_t; rfl; (· first | assumption | omega)) | (apply a_dec_f; rfl; (· first | assumption | omega)) ))
      (refine wo_call (hsk) rfl (by (repeat (first | apply sub_nil )); done) (by first | exact fun _ h => h | (intro r hr; cases hr; done) | (simp; done) | exact fun _ h => List.mem_append_left _ h | (intro r hr; simp [hr]; done)) rfl ?_; rintro v L' R' ⟨d2, p2, ws2, ao2, c2, rfl, rfl, rfl, hq2, hlt2, hst2⟩ H' hH RR hR; simp only [List.cons_append, List.nil_append] at hH hR; subst hH; have hR := hR.symm; subst hR)
      have hdl2 := hq2.dlen
      have hq3 := hq.trans hq2
      have hl9 : d.length + d2.length = (d ++ d2).length := by rw [List.length_append]
      have hm9 : d.map (tRw B) ++ d2.map (tRw B) = (d ++ d2).map (tRw B) := by rw [List.map_append]
      have hwl : ws2.length < ((x, s) :: l).length := by
        have h6 := congrArg List.length hq2.app
        rw [List.length_append] at h6
        have h7 := congrArg List.length hq2.dx
        rw [List.length_map, ng_app hsk2.2.1 (Nat.le_of_lt hlt2), ng_step hlt2, hsk2.2.2.2.1, hsk2.2.2.2.2] at h7
        simp only [List.nil_append, Bool.false_eq_true, if_false, List.length_cons] at h7
        omega
      refine wo_app (ao := ao) (n := d.length) (m := d2.length) rfl rfl (by (repeat (first | apply sel_here | apply sel_there)); done) (by (repeat (first | apply sel_here | apply sel_there)); done) (by unfold maxLen; omega) (by omega) rfl (fun a3 c3 => ?_)
      rw [hl9, hm9]
      (repeat (first | ((first | (apply wo_v; rfl) ); (· first | (apply pv_ev; rfl) )) | apply wo_nil ))
      exact loop_end ⟨d ++ d2, p2, ws2, lo' + ((x : Int) - (p' : Int)), a3, c3, rfl, hq3, hst2, by have := hsk2.2.1; omega, rfl⟩ hwl (wk_mk (by (repeat (first | apply wkf_nil | (apply wkf_cons; rfl))); done) (by (repeat (first | apply sub_nil | (apply sub_cons; (· (repeat (first | apply sel_here | apply sel_there)))))); done) (by first | exact fun _ h => h | (intro r hr; cases hr; done) | (simp; done) | exact fun _ h => List.mem_append_left _ h | (intro r hr; simp [hr]; done)))
  · have h00 : ws' = [] := List.eq_nil_of_length_eq_zero (by omega)
    (repeat (first | ((first | (apply wo_v; rfl) ); (· first | (apply pv_ev; rfl) | (apply pv_fld; rfl) | (apply g_load; first | (apply pv_ld; rfl; (· (repeat (first | apply sel_here ))); rfl) ) | (apply g_bi; first | fail ) )) | apply wc_seq | apply wc_region ))
    refine wo_v rfl (pv_mL_len rfl (by (repeat (first | apply sel_here | apply sel_there)); done)) ?_
    rw [hlen]
    (repeat (first | ((first | (apply wo_v; rfl) ); (· first | (apply pv_ev; rfl) )) | apply wo_nil | apply wc_seq | apply wc_region | (apply wc_exit; rfl) | apply wc_ret | (apply wc_true; rfl) | (apply wc_false; rfl) | (apply a_dec_t; rfl; (· first | assumption | omega)) | (apply a_dec_f; rfl; (· first | assumption | omega)) ))
    exact ret1 rfl rfl ⟨d, p', ws', lo', ao, c, rfl, ⟨rfl, rfl, hq, hst, hlo'⟩, fun _ => h00⟩ ((by (repeat (first | apply sub_nil )); done) : List.Perm _ ([_, _, _] ++ _)) (by first | exact fun _ h => h | (intro r hr; cases hr; done) | (simp; done) | exact fun _ h => List.mem_append_left _ h | (intro r hr; simp [hr]; done))
end Go.Proofs.Ytlhlidmhlhodiaa

/-
  Drawn regions with classes, where some operations read what no other operation changes ('stable readers').
-/
namespace Go.Proofs.Ytlhlidmhlhodiaa
set_option linter.unusedSimpArgs false
set_option linter.unusedVariables false
open Go.RowKit
def PVF (P : Program) (E : Env) (B0 : List It) (ro : List Ro) (Fm : List It → Prop) (o : Oper) (a : Act) (v : Value) : Prop := ∀ L F w, Fm L → Sat E.B E.S E.T (B0 ++ (L ++ F)) ro w → (execOp a.eval o).run P w = .ok (.value v) w
section
variable (P : Program) (E : Env) (B0 : List It) (ro : List Ro) (ops : Array Oper) (cls : Nat → List Nat) (tbl : Nat → List (List It) → Value → List (List It) → Prop) (Fm : List It → Prop)
def safeF (i : Nat) (o : Oper) (a : Act) (m : Nat → List It) : Prop :=
  if Region.wanted o (yielded ops a.tmps) then
    if cls i = [] then ∃ v, PVF P E B0 ro Fm o a v
    else (∃ v Ms, tbl i ((cls i).map m) v Ms ∧ Ms.length = (cls i).length) ∧ Outc P E B0 ro o a ((cls i).map m).flatten (fun v M => ∃ Ms, tbl i ((cls i).map m) v Ms ∧ Ms.length = (cls i).length ∧ M = Ms.flatten)
  else True
def outF (i : Nat) (o : Oper) (a : Act) (m : Nat → List It) (v : Value) (m' : Nat → List It) : Prop :=
  if Region.wanted o (yielded ops a.tmps) then
    if cls i = [] then PVF P E B0 ro Fm o a v ∧ m' = m
    else ∃ Ms, tbl i ((cls i).map m) v Ms ∧ Ms.length = (cls i).length ∧ m' = updL m (cls i) Ms
  else v = undef ∧ m' = m
def rOpF (i : Nat) (K : Act → (Nat → List It) → Prop) (a : Act) (m : Nat → List It) : Prop :=
  ∀ o, ops[i]? = some o → safeF P E B0 ro ops cls tbl Fm i o a m ∧ ∀ v m', outF P E B0 ro ops cls tbl Fm i o a m v m' → K (a.put o.dst v) m'
end
section
variable {P : Program} {E : Env} {B0 : List It} {ro : List Ro} {ops : Array Oper} {cls : Nat → List Nat} {tbl : Nat → List (List It) → Value → List (List It) → Prop} {Fm : List It → Prop} {md : Region.Mode}
theorem safe_outF {i : Nat} {o : Oper} {a : Act} {m : Nat → List It} (h : safeF P E B0 ro ops cls tbl Fm i o a m) : ∃ v m', outF P E B0 ro ops cls tbl Fm i o a m v m' := by
  unfold safeF at h
  unfold outF
  split at h
  · rename_i hw
    simp only [hw, if_true]
    split at h
    · rename_i hc
      simp only [hc, if_true]
      obtain ⟨v, hv⟩ := h
      exact ⟨v, m, hv, rfl⟩
    · rename_i hc
      simp only [hc, if_false]
      obtain ⟨⟨v, Ms, hv, hl⟩, _⟩ := h
      exact ⟨v, _, Ms, hv, hl, rfl⟩
  · rename_i hw
    simp only [hw]
    exact ⟨undef, m, rfl, rfl⟩
theorem rOpF_mono {i : Nat} {a : Act} {m : Nat → List It} {K K' : Act → (Nat → List It) → Prop} (h : ∀ a m, K a m → K' a m) (hh : rOpF P E B0 ro ops cls tbl Fm i K a m) : rOpF P E B0 ro ops cls tbl Fm i K' a m :=
  fun o ho => ⟨(hh o ho).1, fun v m' hv => h _ _ ((hh o ho).2 v m' hv)⟩
section
variable {i j : Nat} {oi oj : Oper} {a : Act} {m m' : Nat → List It} {u v : Value} {dst : Option Tmp}
theorem safe_putF (hs : ∀ cs b, oj.op ≠ .select cs b) (h : ∀ d, dst = some d → d ∉ oj.looksAt ops) : safeF P E B0 ro ops cls tbl Fm j oj (a.put dst v) m = safeF P E B0 ro ops cls tbl Fm j oj a m := by
  unfold safeF PVF Outc
  rw [wanted_put oj a dst v h, execOp_put oj hs a dst v h]
theorem out_putF (hs : ∀ cs b, oj.op ≠ .select cs b) (h : ∀ d, dst = some d → d ∉ oj.looksAt ops) : outF P E B0 ro ops cls tbl Fm j oj (a.put dst v) m u m' = outF P E B0 ro ops cls tbl Fm j oj a m u m' := by
  unfold outF PVF
  rw [wanted_put oj a dst v h, execOp_put oj hs a dst v h]
theorem out_otherF (h : outF P E B0 ro ops cls tbl Fm i oi a m v m') {ds : List Nat} (hc : ∀ d ∈ ds, d ∉ cls i) : ds.map m' = ds.map m := by
  unfold outF at h
  split at h
  · split at h
    · rw [h.2]
    · obtain ⟨Ms, _, _, rfl⟩ := h
      exact map_updL hc
  · rw [h.2]
theorem safe_otherF (h : outF P E B0 ro ops cls tbl Fm i oi a m v m') (hc : ∀ d ∈ cls j, d ∉ cls i) : safeF P E B0 ro ops cls tbl Fm j oj a m' = safeF P E B0 ro ops cls tbl Fm j oj a m := by
  unfold safeF
  rw [out_otherF h hc]
theorem out_diamondF {m1 m2 : Nat → List It} (hc : ∀ d ∈ cls j, d ∉ cls i) (h1 : outF P E B0 ro ops cls tbl Fm j oj a m u m1) (h2 : outF P E B0 ro ops cls tbl Fm i oi a m1 v m2) :
    ∃ m3, outF P E B0 ro ops cls tbl Fm i oi a m v m3 ∧ outF P E B0 ro ops cls tbl Fm j oj a m3 u m2 := by
  have key : (cls i).map m1 = (cls i).map m := out_otherF h1 (fun d hd hd' => hc d hd' hd)
  unfold outF at h1 h2 ⊢
  by_cases wi : Region.wanted oi (yielded ops a.tmps) = true
  · simp only [wi, if_true] at h2 ⊢
    by_cases wj : Region.wanted oj (yielded ops a.tmps) = true
    · simp only [wj, if_true] at h1 ⊢
      by_cases ci : cls i = []
      · simp only [ci, if_true] at h2 ⊢
        obtain ⟨h2, rfl⟩ := h2
        exact ⟨m, ⟨h2, rfl⟩, h1⟩
      · simp only [ci, if_false] at h2 ⊢
        rw [key] at h2
        obtain ⟨Ms, h2, hl, rfl⟩ := h2
        refine ⟨updL m (cls i) Ms, ⟨Ms, h2, hl, rfl⟩, ?_⟩
        by_cases cj : cls j = []
        · simp only [cj, if_true] at h1 ⊢
          exact ⟨h1.1, by rw [h1.2]⟩
        · simp only [cj, if_false] at h1 ⊢
          obtain ⟨Ns, h1, hl', rfl⟩ := h1
          refine ⟨Ns, by rw [map_updL hc]; exact h1, hl', ?_⟩
          exact (updL_comm (cls j) Ns (cls i) Ms m hc).symm
    · simp only [wj] at h1 ⊢
      obtain ⟨rfl, rfl⟩ := h1
      exact ⟨m2, h2, rfl, rfl⟩
  · simp only [wi] at h2 ⊢
    obtain ⟨rfl, rfl⟩ := h2
    exact ⟨m, ⟨rfl, rfl⟩, h1⟩
theorem rOp_swapF {K : Act → (Nat → List It) → Prop} (hi : ops[i]? = some oi) (hj : ops[j]? = some oj) (hap : oi.apart ops oj = true) (hc : ∀ d ∈ cls j, d ∉ cls i) (hsi : ∀ cs b, oi.op ≠ .select cs b) (hsj : ∀ cs b, oj.op ≠ .select cs b)
    (H : rOpF P E B0 ro ops cls tbl Fm i (rOpF P E B0 ro ops cls tbl Fm j K) a m) : rOpF P E B0 ro ops cls tbl Fm j (rOpF P E B0 ro ops cls tbl Fm i K) a m := by
  obtain ⟨h1, h2, h3⟩ := Oper.apart_spec hap
  obtain ⟨Hs, Ho⟩ := H oi hi
  intro o ho
  obtain rfl : oj = o := by rw [hj] at ho; exact Option.some.inj ho
  refine ⟨?_, fun u m1 hu o ho => ?_⟩
  · obtain ⟨v, m1, hv⟩ := safe_outF Hs
    have := (Ho v m1 hv oj hj).1
    rw [safe_putF hsj h1, safe_otherF hv hc] at this
    exact this
  · obtain rfl : oi = o := by rw [hi] at ho; exact Option.some.inj ho
    refine ⟨?_, fun v m2 hv => ?_⟩
    · rw [safe_putF hsi h3, safe_otherF hu (fun d hd hd' => hc d hd' hd)]
      exact Hs
    · rw [out_putF hsi h3] at hv
      obtain ⟨m3, h4, h5⟩ := out_diamondF hc hu hv
      have := (Ho v m3 h4 oj hj).2 u m2 (by rw [out_putF hsj h1]; exact h5)
      rw [← Act.put_comm a v u h2]
      exact this
end
def wpAnyF (P : Program) (E : Env) (B0 : List It) (ro : List Ro) (ops : Array Oper) (cls : Nat → List Nat) (tbl : Nat → List (List It) → Value → List (List It) → Prop) (Fm : List It → Prop) (md : Region.Mode) (Q : Act → (Nat → List It) → Prop) : Nat → Array Bool → Act → (Nat → List It) → Prop
  | 0, listed, a, m => Region.ready md ops listed = [] ∧ Q a m
  | fuel + 1, listed, a, m => (Region.ready md ops listed = [] → Q a m) ∧ ∀ i ∈ Region.ready md ops listed, rOpF P E B0 ro ops cls tbl Fm i (wpAnyF P E B0 ro ops cls tbl Fm md Q fuel (listed.setIfInBounds i true)) a m
def wpF (P : Program) (E : Env) (B0 : List It) (ro : List Ro) (ops : Array Oper) (cls : Nat → List Nat) (tbl : Nat → List (List It) → Value → List (List It) → Prop) (Fm : List It → Prop) (Q : Act → (Nat → List It) → Prop) : List Oper → Nat → Act → (Nat → List It) → Prop
  | [], _, a, m => Q a m
  | o :: l, k, a, m => rOpF P E B0 ro ops cls tbl Fm k (wpF P E B0 ro ops cls tbl Fm Q l (k + 1)) a m
theorem out_rdrF {i : Nat} {oi : Oper} {a : Act} {m m' : Nat → List It} {v : Value} (hr : Rdr tbl i) (h : outF P E B0 ro ops cls tbl Fm i oi a m v m') : m' = m := by
  unfold outF at h
  split at h
  · split at h
    · exact h.2
    · obtain ⟨Ms, h1, _, rfl⟩ := h
      rw [hr _ _ _ h1]; exact updL_self _ _
  · exact h.2
theorem rOp_swapFR {i j : Nat} {oi oj : Oper} {a : Act} {m : Nat → List It} {K : Act → (Nat → List It) → Prop} (hi : ops[i]? = some oi) (hj : ops[j]? = some oj) (hap : oi.apart ops oj = true) (ri : Rdr tbl i) (rj : Rdr tbl j) (hsi : ∀ cs b, oi.op ≠ .select cs b) (hsj : ∀ cs b, oj.op ≠ .select cs b)
    (H : rOpF P E B0 ro ops cls tbl Fm i (rOpF P E B0 ro ops cls tbl Fm j K) a m) : rOpF P E B0 ro ops cls tbl Fm j (rOpF P E B0 ro ops cls tbl Fm i K) a m := by
  obtain ⟨h1, h2, h3⟩ := Oper.apart_spec hap
  obtain ⟨Hs, Ho⟩ := H oi hi
  intro o ho
  obtain rfl : oj = o := by rw [hj] at ho; exact Option.some.inj ho
  refine ⟨?_, fun u m1 hu o ho => ?_⟩
  · obtain ⟨v, m1, hv⟩ := safe_outF Hs
    have := (Ho v m1 hv oj hj).1
    rw [safe_putF hsj h1, out_rdrF ri hv] at this
    exact this
  · obtain rfl : oi = o := by rw [hi] at ho; exact Option.some.inj ho
    obtain rfl := out_rdrF rj hu
    refine ⟨?_, fun v m2 hv => ?_⟩
    · rw [safe_putF hsi h3]
      exact Hs
    · rw [out_putF hsi h3] at hv
      obtain rfl := out_rdrF ri hv
      have := (Ho v _ hv oj hj).2 u _ (by rw [out_putF hsj h1]; exact hu)
      rw [← Act.put_comm a v u h2]
      exact this
theorem wpAnyF_first {Q : Act → (Nat → List It) → Prop} {i : Nat} {oi : Oper} (hi : ops[i]? = some oi) (hsel : ∀ (j : Nat) (o : Oper) cs b, ops[j]? = some o → o.op ≠ .select cs b)
    (hcls : ∀ (j : Nat) (listed : Array Bool), j ≠ i → Closed md ops listed → (∀ k, k < i → listed.getD k true = true) → listed.getD i true = false → j ∈ Region.ready md ops listed → (∀ d ∈ cls j, d ∉ cls i) ∨ (Rdr tbl i ∧ Rdr tbl j)) :
    ∀ (fuel : Nat) (listed : Array Bool) (a : Act) (m : Nat → List It), Closed md ops listed → (∀ k, k < i → listed.getD k true = true) →
      (∀ j oj, ops[j]? = some oj → j ≠ i → listed.getD j true = false → (∀ e ∈ oj.after, Region.binds md e = true → e.on ≠ i) → oi.apart ops oj = true) →
      i ∈ Region.ready md ops listed → rOpF P E B0 ro ops cls tbl Fm i (wpAnyF P E B0 ro ops cls tbl Fm md Q fuel (listed.setIfInBounds i true)) a m → wpAnyF P E B0 ro ops cls tbl Fm md Q (fuel + 1) listed a m := by
  intro fuel
  induction fuel with
  | zero =>
    intro listed a m _ _ _ hr H
    refine ⟨fun h => (by rw [h] at hr; cases hr), fun j hj => ?_⟩
    by_cases hji : j = i
    · subst hji; exact H
    · have := ready_mono hj hji
      obtain ⟨hs, ho⟩ := H oi hi
      obtain ⟨v, m', hv⟩ := safe_outF hs
      rw [(ho v m' hv).1] at this
      cases this
  | succ fuel ih =>
    intro listed a m hcl hpre hfree hr H
    refine ⟨fun h => (by rw [h] at hr; cases hr), fun j hj => ?_⟩
    by_cases hji : j = i
    · subst hji; exact H
    · obtain ⟨hjun, oj, hoj, hall⟩ := mem_ready.1 hj
      have hnot : ∀ e ∈ oj.after, Region.binds md e = true → e.on ≠ i := fun e he hb heq => by
        have h1 := hall e he hb
        have h0 := (mem_ready.1 hr).1
        rw [heq] at h1
        rcases Nat.lt_or_ge i listed.size with h' | h'
        · simp [h'] at h0 h1; rw [h0] at h1; cases h1
        · simp [Array.getElem?_eq_none h'] at h1
      have h1 := rOpF_mono (fun a' m' h => h.2 j (ready_mono hj hji)) H
      have f1 := hfree j oj hoj hji hjun hnot
      have f2 := hcls j listed hji hcl hpre (mem_ready.1 hr).1 hj
      have h2 := f2.elim (fun f2 => rOp_swapF hi hoj f1 f2 (fun cs b => hsel i oi cs b hi) (fun cs b => hsel j oj cs b hoj) h1) (fun f2 => rOp_swapFR hi hoj f1 f2.1 f2.2 (fun cs b => hsel i oi cs b hi) (fun cs b => hsel j oj cs b hoj) h1)
      refine rOpF_mono (fun a' m' h3 => ih (listed.setIfInBounds j true) a' m' (hcl.set hj) (fun k hk => ?_) (fun k ok hk hki hun hno => ?_) (ready_mono hr (Ne.symm hji)) ?_) h2
      · by_cases hjk : j = k
        · subst hjk
          rcases Nat.lt_or_ge j listed.size with h2 | h2
          · simp [h2]
          · simp [h2]
        · rw [getD_set_ne true hjk]; exact hpre k hk
      · refine hfree k ok hk hki ?_ hno
        by_cases hjk : j = k
        · subst hjk; exact hjun
        · rw [getD_set_ne true hjk] at hun; exact hun
      · rw [Array.setIfInBounds_comm _ _ hji]
        exact h3
theorem wpAnyF_lex {Q : Act → (Nat → List It) → Prop} {rd : List Nat} (hs : Region.noSelect ops = true) (hcl : clsR md ops cls rd = true) (hrd : ∀ k ∈ rd, Rdr tbl k) : ∀ (l : List Oper) (k : Nat) (listed : Array Bool) (a : Act) (m : Nat → List It), Closed md ops listed → ops.size = listed.size → (∀ j, l[j]? = ops[k + j]?) → (∀ j, j < k → listed.getD j true = true) →
    Region.lexFrom md ops l.length k listed = true → wpF P E B0 ro ops cls tbl Fm Q l k a m → wpAnyF P E B0 ro ops cls tbl Fm md Q l.length listed a m
  | [], _, _, _, _, _, _, _, _, hB, h => ⟨by simpa [Region.lexFrom] using hB, h⟩
  | o :: l, k, listed, a, m, hC, hz, hl, hk, hB, h => by
    have h0 : ops[k]? = some o := by simpa using (hl 0).symm
    simp only [List.length_cons, Region.lexFrom, Bool.and_eq_true] at hB
    obtain ⟨⟨hr, hf⟩, hB'⟩ := hB
    have hr' : k ∈ Region.ready md ops listed := by simpa using hr
    refine wpAnyF_first h0 (Region.noSelect_spec hs) (fun j ld hjk hCl hpre hun hj => ?_) l.length listed a m hC hk (fun j oj hj hjk hun hno => Region.free_spec h0 hf j oj hj hjk hun hno) hr' ?_
    · obtain ⟨hjun, oj, hoj, hall⟩ := mem_ready.1 hj
      have hle := lex_lt hpre hjun
      have hks : k < ld.size := by
        rcases Nat.lt_or_ge k ld.size with h' | h'
        · exact h'
        · simp [Array.getD, Nat.not_lt.2 h'] at hun
      rcases clsR_spec hcl hoj (show k < j by omega) with h1 | ⟨h1, h2⟩ | h1
      · exact .inl h1
      · exact .inr ⟨hrd _ h1, hrd _ h2⟩
      · exfalso
        obtain ⟨o2, h2, e, he, hb, hne⟩ := reach_not hCl hun hks _ _ h1
        rw [hoj] at h2
        obtain rfl := Option.some.inj h2
        rw [hall e he hb] at hne; cases hne
    · refine rOpF_mono (fun a' m' h' => wpAnyF_lex hs hcl hrd l (k + 1) _ a' m' (hC.set hr') (by simpa using hz) (fun j => by have := hl (j + 1); simpa [Nat.add_assoc, Nat.add_comm 1 j] using this) (fun j hj => ?_) hB' h') h
      rcases Nat.lt_or_ge j k with h1 | h1
      · rw [getD_set_ne true (show k ≠ j by omega)]; exact hk j h1
      · obtain rfl : j = k := by omega
        rcases Nat.lt_or_ge j listed.size with h2 | h2
        · simp [h2]
        · simp [h2]
theorem wpAny_of_F {all : List Nat} (hn : all.Nodup) {c0 : Nat} (hc0 : c0 ∈ all) (hFam : ∀ i (m : Nat → List It) v Ms, Fm (m c0) → tbl i ((cls i).map m) v Ms → Ms.length = (cls i).length → Fm (updL m (cls i) Ms c0)) (hcs : ∀ i, (cls i).Nodup ∧ ∀ c ∈ cls i, c ∈ all) {Q : Act → (Nat → List It) → Prop} {Q' : Exit → Act → World → Prop} (hQ : ∀ a m w, Sat E.B E.S E.T (Hp B0 all m) ro w → Q a m → Q' .normal a w) :
    ∀ (fuel : Nat) (listed : Array Bool) (a : Act) (m : Nat → List It) (w : World), Fm (m c0) → Sat E.B E.S E.T (Hp B0 all m) ro w → wpAnyF P E B0 ro ops cls tbl Fm md Q fuel listed a m → wpAny P md ops Q' fuel listed a w
  | 0, _, _, _, _, _, hw, h => ⟨h.1, hQ _ _ _ hw h.2⟩
  | fuel + 1, listed, a, m, w, hF, hw, h => ⟨fun h0 => hQ _ _ _ hw (h.1 h0), fun i hi => by
    obtain ⟨_, o, ho, _⟩ := mem_ready.1 hi
    obtain ⟨hs, hk⟩ := h.2 i hi o ho
    have ih := wpAny_of_F hn hc0 hFam hcs hQ fuel (listed.setIfInBounds i true)
    unfold wpOp
    simp only [ho]
    unfold safeF at hs
    unfold outF at hk
    split
    · rename_i hwt
      simp only [hwt, if_true] at hs hk
      refine .inl ?_
      by_cases hc : cls i = []
      · simp only [hc, if_true] at hs hk
        obtain ⟨v, hv⟩ := hs
        unfold Oper.wp
        have hpF : (Hp B0 all m).Perm (B0 ++ (m c0 ++ (all.filter fun c => ![c0].contains c).flatMap m)) := by
          unfold Hp
          have := flat_split hn (cs := [c0]) (by simp) (fun c hc => by rcases List.mem_singleton.1 hc with rfl; exact hc0) m
          simp only [List.map_cons, List.map_nil, List.flatten_cons, List.flatten_nil, List.append_nil] at this
          exact this.append_left B0
        rw [hv _ _ w hF (hw.perm hpF)]
        exact ih _ _ _ hF hw (hk v m ⟨hv, rfl⟩)
      · simp only [hc, if_false] at hs hk
        have hp1 : (Hp B0 all m).Perm (((cls i).map m).flatten ++ (B0 ++ (all.filter fun c => !(cls i).contains c).flatMap m)) := by
          unfold Hp
          exact ((flat_split hn (hcs i).1 (hcs i).2 m).append_left B0).trans (by rw [← List.append_assoc, ← List.append_assoc]; exact List.perm_append_comm.append_right _)
        have hp2 : ∀ Ms : List (List It), Ms.length = (cls i).length → (Ms.flatten ++ (B0 ++ (all.filter fun c => !(cls i).contains c).flatMap m)).Perm (Hp B0 all (updL m (cls i) Ms)) := fun Ms hl => by
          unfold Hp
          refine List.Perm.trans ?_ ((flat_split hn (hcs i).1 (hcs i).2 (updL m (cls i) Ms)).append_left B0).symm
          rw [flat_updL (hcs i).1 hl, rest_same, ← List.append_assoc, ← List.append_assoc]
          exact List.perm_append_comm.append_right _
        have h1 := hs.2 _ w (hw.perm hp1)
        unfold Oper.wp
        generalize (execOp a.eval o).run P w = r at h1
        cases r with
        | ok n w' =>
          cases n <;> simp only [outcU] at h1 <;> simp only [Oper.upon] <;> first | exact h1.elim | skip
          case value u => obtain ⟨M, ⟨Ms, h2, hl, rfl⟩, h3⟩ := h1; exact ih _ _ _ (hFam i m _ Ms hF h2 hl) (h3.perm (hp2 Ms hl)) (hk _ _ ⟨Ms, h2, hl, rfl⟩)
          case skip => obtain ⟨M, ⟨Ms, h2, hl, rfl⟩, h3⟩ := h1; exact ih _ _ _ (hFam i m _ Ms hF h2 hl) (h3.perm (hp2 Ms hl)) (hk _ _ ⟨Ms, h2, hl, rfl⟩)
          case enter f args =>
            obtain ⟨rfl, h2⟩ := h1
            refine h2.mono fun e w'' ⟨v, M, he, ⟨Ms, h3, hl, hM⟩, h4⟩ => ?_
            subst he; subst hM
            exact ih _ _ _ (hFam i m _ Ms hF h3 hl) (h4.perm (hp2 Ms hl)) (hk _ _ ⟨Ms, h3, hl, rfl⟩)
        | halt x w' => simp only [outcU] at h1
    · rename_i hwt
      simp only [hwt] at hk
      exact ih _ _ _ hF hw (hk undef m ⟨rfl, rfl⟩)⟩
theorem HdM.soundF {N : Nat} {K : List (Nat × Value) → (Nat → List It) → Prop} {k : Nat} {l : List Oper} {fr : List (Nat × Value)} {m : Nat → List It} (h : HdM P N E B0 ro ops cls tbl K k l fr m) (hw0 : ∃ L F w, Fm L ∧ Sat E.B E.S E.T (B0 ++ (L ++ F)) ro w) {Q : Act → (Nat → List It) → Prop}
    (hQ : ∀ fr a m, K fr m → Holds N fr a → Q a m) : (∀ j, j < l.length → l[j]? = ops[k + j]?) → ∀ a, Holds N fr a → wpF P E B0 ro ops cls tbl Fm Q l k a m := by
  have shift : ∀ {o : Oper} {l : List Oper} {k : Nat}, (∀ j, j < (o :: l).length → (o :: l)[j]? = ops[k + j]?) → ops[k]? = some o ∧ ∀ j, j < l.length → l[j]? = ops[k + 1 + j]? := fun h =>
    ⟨by simpa using (h 0 (by simp)).symm, fun j hj => by have := h (j + 1) (by simp; omega); simpa [Nat.add_assoc, Nat.add_comm 1 j] using this⟩
  induction h with
  | nil h => exact fun _ a ha => hQ _ a _ h ha
  | @val k fr m op ty pos af rest d v g hd hc hg hv _ ih =>
    intro hl a ha o ho
    obtain ⟨h0, hl'⟩ := shift hl
    rw [h0] at ho
    obtain rfl := Option.some.inj ho
    have hpv : PVF P E B0 ro Fm ⟨some d, op, ty, pos, af, g⟩ a v := fun L F w _ hw => hv N E a w _ _ _ _ _ ⟨ha, hw.left⟩
    unfold safeF outF
    simp only [hg.wanted ha, if_true, hc]
    refine ⟨⟨v, hpv⟩, fun v' m' ⟨hv', hm'⟩ => ?_⟩
    subst hm'
    obtain ⟨L, F, w, hL, hw⟩ := hw0
    have e : v' = v := by
      have h1 := hpv L F w hL hw
      have h2 := hv' L F w hL hw
      rw [h1] at h2
      injection h2 with h2 _
      injection h2 with h2
      exact h2.symm
    subst e
    exact ih hl' _ (ha.put (Nat.le_of_ble_eq_true hd) _)
  | @eff k fr m dst op ty pos af rest cs Ls g hc hne hm hd hg ho hin _ ih =>
    intro hl a ha o ho'
    obtain ⟨h0, hl'⟩ := shift hl
    rw [h0] at ho'
    obtain rfl := Option.some.inj ho'
    unfold safeF outF
    simp only [hg.wanted ha, if_true, hc, hne, if_false, hm]
    refine ⟨⟨hin, ho a ha⟩, fun v' m' ⟨Ms, hv', hlen, hm'⟩ => ?_⟩
    subst hm'
    exact ih v' Ms hv' hlen hl' _ (ha.putF hd _)
  | @skip k fr m d op ty pos af rest j s b c hg hs hb hd _ ih =>
    intro hl a ha o ho
    obtain ⟨h0, hl'⟩ := shift hl
    rw [h0] at ho
    obtain rfl := Option.some.inj ho
    have hwt : ¬ Region.wanted (⟨some d, op, ty, pos, af, some (j, c)⟩ : Oper) (yielded ops a.tmps) = true := by simp [Region.wanted, yielded_of ha hg hs]; simpa using hb
    unfold safeF outF
    simp only [hwt]
    refine ⟨trivial, fun v' m' ⟨hv', hm'⟩ => ?_⟩
    subst hv'; subst hm'
    exact ih hl' _ (ha.put (Nat.le_of_ble_eq_true hd) _)
  | @skipu k fr m d op ty pos af rest j s c hg hs hd _ ih =>
    intro hl a ha o ho
    obtain ⟨h0, hl'⟩ := shift hl
    rw [h0] at ho
    obtain rfl := Option.some.inj ho
    have hwt : ¬ Region.wanted (⟨some d, op, ty, pos, af, some (j, c)⟩ : Oper) (yielded ops a.tmps) = true := by simp [Region.wanted, yielded_undef ha hg hs]
    unfold safeF outF
    simp only [hwt]
    refine ⟨trivial, fun v' m' ⟨hv', hm'⟩ => ?_⟩
    subst hv'; subst hm'
    exact ih hl' _ (ha.put (Nat.le_of_ble_eq_true hd) _)
  | @dec k fr m rest s p _ hs _ _ iht ihf =>
    intro hl a ha
    by_cases hp : p
    · exact iht hp hl a (ha.same hs (by simp [hp]))
    · exact ihf hp hl a (ha.same hs (by simp [hp]))
inductive HdF (P : Program) (N : Nat) (E : Env) (B0 : List It) (ro : List Ro) (ops : Array Oper) (cls : Nat → List Nat) (tbl : Nat → List (List It) → Value → List (List It) → Prop) (Fm : List It → Prop) (K : List (Nat × Value) → (Nat → List It) → Prop) : Nat → List Oper → List (Nat × Value) → (Nat → List It) → Prop
  | done {k rest fr m} (h : HdM P N E B0 ro ops cls tbl K k rest fr m) : HdF P N E B0 ro ops cls tbl Fm K k rest fr m
  | val {k fr m op ty pos af rest d v} (hd : Nat.ble (d + 1) N = true) (hc : cls k = []) (hv : Pv P ⟨fr, B0, ro⟩ op v) (h : HdF P N E B0 ro ops cls tbl Fm K (k + 1) rest ((d, v) :: fr) m) :
      HdF P N E B0 ro ops cls tbl Fm K k (⟨some d, op, ty, pos, af, none⟩ :: rest) fr m
  | vst {k fr m op ty pos af rest d v} (hd : Nat.ble (d + 1) N = true) (hc : cls k = []) (hv : ∀ L, Fm L → Pv P ⟨fr, L ++ B0, ro⟩ op v) (h : HdF P N E B0 ro ops cls tbl Fm K (k + 1) rest ((d, v) :: fr) m) :
      HdF P N E B0 ro ops cls tbl Fm K k (⟨some d, op, ty, pos, af, none⟩ :: rest) fr m
  | eff {k fr m dst op ty pos af rest cs Ls g} (hc : cls k = cs) (hne : cs ≠ []) (hm : cs.map m = Ls) (hd : dstOk dst N = true) (hg : GOk ops fr g) (ho : ∀ a, Holds N fr a → Outc P E B0 ro ⟨dst, op, ty, pos, af, g⟩ a Ls.flatten (fun v M => ∃ Ms, tbl k Ls v Ms ∧ Ms.length = cs.length ∧ M = Ms.flatten))
      (hin : ∃ v Ms, tbl k Ls v Ms ∧ Ms.length = cs.length) (h : ∀ v Ms, tbl k Ls v Ms → Ms.length = cs.length → HdF P N E B0 ro ops cls tbl Fm K (k + 1) rest (putF dst v fr) (updL m cs Ms)) : HdF P N E B0 ro ops cls tbl Fm K k (⟨dst, op, ty, pos, af, g⟩ :: rest) fr m
theorem HdF.sound {N : Nat} {K : List (Nat × Value) → (Nat → List It) → Prop} {k : Nat} {l : List Oper} {fr : List (Nat × Value)} {m : Nat → List It} (h : HdF P N E B0 ro ops cls tbl Fm K k l fr m) (hw0 : ∃ L F w, Fm L ∧ Sat E.B E.S E.T (B0 ++ (L ++ F)) ro w) {Q : Act → (Nat → List It) → Prop}
    (hQ : ∀ fr a m, K fr m → Holds N fr a → Q a m) : (∀ j, j < l.length → l[j]? = ops[k + j]?) → ∀ a, Holds N fr a → wpF P E B0 ro ops cls tbl Fm Q l k a m := by
  have shift : ∀ {o : Oper} {l : List Oper} {k : Nat}, (∀ j, j < (o :: l).length → (o :: l)[j]? = ops[k + j]?) → ops[k]? = some o ∧ ∀ j, j < l.length → l[j]? = ops[k + 1 + j]? := fun h =>
    ⟨by simpa using (h 0 (by simp)).symm, fun j hj => by have := h (j + 1) (by simp; omega); simpa [Nat.add_assoc, Nat.add_comm 1 j] using this⟩
  have hgn : ∀ {fr : List (Nat × Value)}, GOk ops fr none := fun {fr} => gok_none
  have core : ∀ {k : Nat} {fr : List (Nat × Value)} {m : Nat → List It} {op : Op} {ty : TypeId} {pos : String} {af : Array Edge} {rest : List Oper} {d : Tmp} {v : Value}, Nat.ble (d + 1) N = true → cls k = [] → (∀ a, Holds N fr a → PVF P E B0 ro Fm ⟨some d, op, ty, pos, af, none⟩ a v) →
      ((∀ j, j < rest.length → rest[j]? = ops[k + 1 + j]?) → ∀ a, Holds N ((d, v) :: fr) a → wpF P E B0 ro ops cls tbl Fm Q rest (k + 1) a m) →
      (∀ j, j < ((⟨some d, op, ty, pos, af, none⟩ : Oper) :: rest).length → ((⟨some d, op, ty, pos, af, none⟩ : Oper) :: rest)[j]? = ops[k + j]?) → ∀ a, Holds N fr a → wpF P E B0 ro ops cls tbl Fm Q (⟨some d, op, ty, pos, af, none⟩ :: rest) k a m := by
    intro k fr m op ty pos af rest d v hd hc hpv' ih hl a ha o ho
    obtain ⟨h0, hl'⟩ := shift hl
    rw [h0] at ho
    obtain rfl := Option.some.inj ho
    have hpv := hpv' a ha
    unfold safeF outF
    simp only [hgn.wanted ha, if_true, hc]
    refine ⟨⟨v, hpv⟩, fun v' m' ⟨hv', hm'⟩ => ?_⟩
    subst hm'
    obtain ⟨L, F, w, hL, hw⟩ := hw0
    have e : v' = v := by
      have h1 := hpv L F w hL hw
      have h2 := hv' L F w hL hw
      rw [h1] at h2
      injection h2 with h2 _
      injection h2 with h2
      exact h2.symm
    subst e
    exact ih hl' _ (ha.put (Nat.le_of_ble_eq_true hd) _)
  induction h with
  | done h => exact h.soundF hw0 hQ
  | @val k fr m op ty pos af rest d v hd hc hv _ ih =>
    exact core hd hc (fun a ha L F w _ hw => hv N E a w _ _ _ _ _ ⟨ha, hw.left⟩) ih
  | @vst k fr m op ty pos af rest d v hd hc hv _ ih =>
    exact core hd hc (fun a ha L F w hL hw => hv L hL N E a w _ _ _ _ _ ⟨ha, (hw.perm (List.append_assoc B0 L F ▸ (List.perm_append_comm (l₁ := B0) (l₂ := L)).append_right F)).left⟩) ih
  | @eff k fr m dst op ty pos af rest cs Ls g hc hne hm hd hg ho hin _ ih =>
    intro hl a ha o ho'
    obtain ⟨h0, hl'⟩ := shift hl
    rw [h0] at ho'
    obtain rfl := Option.some.inj ho'
    unfold safeF outF
    simp only [hg.wanted ha, if_true, hc, hne, if_false, hm]
    refine ⟨⟨hin, ho a ha⟩, fun v' m' ⟨Ms, hv', hlen, hm'⟩ => ?_⟩
    subst hm'
    exact ih v' Ms hv' hlen hl' _ (ha.putF hd _)
theorem wc_regF (Fm : List It → Prop) (c0 : Nat) {N : Nat} {fr : List (Nat × Value)} {hp : List It} {Kn Kr : St → Prop} {Kx : List (Nat × (St → Prop))} {id : Nat} {l : List Oper} (rd all : List Nat) (cls : Nat → List Nat) (tbl : Nat → List (List It) → Value → List (List It) → Prop) (B0 : List It) (m0 : Nat → List It)
    (hm : P.follows .mixedOrders = true) (hB : Region.lexB .any l.toArray = true) (hcl : clsR .any l.toArray cls rd = true) (hrd : ∀ k ∈ rd, Rdr tbl k) (hn : all.Nodup) (hc0 : c0 ∈ all) (hFam : ∀ i (m : Nat → List It) v Ms, Fm (m c0) → tbl i ((cls i).map m) v Ms → Ms.length = (cls i).length → Fm (updL m (cls i) Ms c0)) (hF0 : Fm (m0 c0)) (hcs : ∀ i, (cls i).Nodup ∧ ∀ c ∈ cls i, c ∈ all) (hperm : hp.Perm (Hp B0 all m0))
    (h : HdF P N E B0 ro l.toArray cls tbl Fm (fun fr m => ∀ H, H = Hp B0 all m → Kn ⟨fr, H, ro⟩) 0 l fr m0) : WC P N E (.region id l.toArray true) ⟨fr, hp, ro⟩ Kn Kx Kr := fun a w ok => by
  simp only [Region.lexB, Bool.and_eq_true] at hB
  have hw : Sat E.B E.S E.T (Hp B0 all m0) ro _ := (ok.s.drawn (w.drawn + 1)).perm hperm
  refine wp_region_any hm (wpAny_of_F (ro := ro) (tbl := tbl) (Q := fun a m => ∃ fr', Kn ⟨fr', Hp B0 all m, ro⟩ ∧ Holds N fr' a) hn hc0 hFam hcs (fun a m w' hs ⟨fr', hk, ha⟩ => ⟨_, hk, ha, hs⟩) _ _ a m0 _ hF0 hw ?_)
  have hpF : (Hp B0 all m0).Perm (B0 ++ (m0 c0 ++ (all.filter fun c => ![c0].contains c).flatMap m0)) := by
    unfold Hp
    have := flat_split hn (cs := [c0]) (by simp) (fun c hc => by rcases List.mem_singleton.1 hc with rfl; exact hc0) m0
    simp only [List.map_cons, List.map_nil, List.flatten_cons, List.flatten_nil, List.append_nil] at this
    exact this.append_left B0
  have := wpAnyF_lex (P := P) (E := E) (B0 := B0) (ro := ro) (tbl := tbl) (md := .any) hB.1 hcl hrd l 0 (Array.replicate l.toArray.size false) a m0 closed0 (by simp) (by simp) (fun j hj => by omega) (by simpa using hB.2)
    (h.sound (Q := fun a m => ∃ fr', Kn ⟨fr', Hp B0 all m, ro⟩ ∧ Holds N fr' a) ⟨_, _, _, hF0, hw.perm hpF⟩ (fun fr a m hk ha => ⟨fr, hk _ rfl, ha⟩) (fun j _ => by simp) a ok.h)
  simpa using this
end
theorem Fn.wide {P : Program} {f : FuncId} {args : Array Value} {L : List It} {R : List Ro} {Post : Value → List It → List Ro → Prop} (h : Fn P f args L R Post) (X : List It) : Fn P f args (L ++ X) R Post := fun w hw => by
  have hs : ∀ b ∈ feet L, b ∈ feet (L ++ X) := fun b hb => by
    obtain ⟨x, h1, h2⟩ := mem_feet.1 hb
    exact mem_feet.2 ⟨x, List.mem_append_left _ h1, h2⟩
  have hl := hw.left
  refine (h w ⟨Frm.refl _ _, hl.sat, fun x hx b hb => .inl (mem_feet.2 ⟨x, hx, hb⟩), hl.dis, hl.rds, hl.rod, fun r hr => .inr (.inl (List.mem_map.2 ⟨r, hr, rfl⟩))⟩).mono fun e w' ⟨v, L', R', he, hP, hS⟩ => ⟨v, L', R', he, hP, ⟨hS.frm.os, hS.frm.tape, hS.frm.output, hS.frm.size, fun k hk hn => hS.frm.block k hk (fun hm => hn (hs k hm))⟩, hS.sat, fun x hx b hb => (hS.own x hx b hb).imp (hs b) id, hS.dis, hS.rds, hS.rod, fun r hr => (hS.rok r hr).imp (hs _) id⟩
end Go.Proofs.Ytlhlidmhlhodiaa

/-
  Package ingress: frames, of one thing.
-/
namespace Go.Proofs.Ytlhlidmhlhodiaa
set_option linter.unusedSimpArgs false
set_option linter.unusedVariables false
open Go.RowKit
attribute [local irreducible] Pv WO WC Fn
set_option maxRecDepth 100000
attribute [local irreducible] ByteArray.extract

theorem fKey (A : Option Addr) (n c : Nat) (U : List Un) (u0 : Un) (h0 : U[0]? = some u0) (hn : U.length = n) : Fn Try.prog 46 #[.agg #[.slice A n c]] [u7 A n c U] [] (fun v L' R' => v = .bool u0.ky ∧ L' = [u7 A n c U] ∧ R' = []) := by
  have hr := urs_at h0
  obtain ⟨x1, x2, x3, x4, x5, x6, x7⟩ := u0
  dsimp only at hr
  have hp : 0 < n := by rcases U with _ | ⟨a, U⟩; (· cases h0); (· simp at hn; omega)
  refine fn_intro Try.func46 rfl Try.ntmps46 rfl (fun E => ?_)
  (repeat (first | ((first | (apply wo_v; rfl) ); (· first | (apply pv_ev; rfl) | (apply pv_fld; rfl) | (apply g_load; first | (apply pv_ld; rfl; (· (repeat (first | apply sel_here ))); rfl) ) | (apply g_bi; first | (apply pv_len_sl; rfl) ) | (apply g_idx; first | (apply pv_idx; rfl; rfl; omega) | (apply (pv_idx_e 0); rfl; rfl; rfl; omega) | (apply pv_idx_n; rfl; rfl; omega) | (apply (pv_idx_ar_e 0); rfl; rfl; rfl; omega; omega) | (apply (pv_idx_ar_e 1); rfl; rfl; rfl; omega; omega) | (apply (pv_idx_ar_e 2); rfl; rfl; rfl; omega; omega) | (apply (pv_idx_ar_e 3); rfl; rfl; rfl; omega; omega)) )) | apply wo_nil | apply wc_seq | apply wc_region | (apply wo_run; rfl; rfl) | (apply wo_skip; rfl; rfl; rfl; rfl) | (apply wo_skip_u; rfl; rfl; rfl) | (apply a_gt; rfl; rfl; (· first | assumption | omega)) | (apply wo_box1; rfl; rfl; rfl; intro bx) | (apply wo_boxa; rfl; rfl; intro bx) ))
  refine wo_some (ao := A) (by (repeat (first | apply sel_here | apply sel_there)); done) (by omega) ?_
  rintro bs os rfl
  (repeat (first | ((first | (apply wo_v; rfl) ); (· first | (apply pv_ev; rfl) | (apply pv_fld; rfl) | (apply g_load; first | (apply pv_ld; rfl; (· (repeat (first | apply sel_there))); rfl) | (apply pv_ld_ownf; rfl; (· (repeat (first | apply sel_here | apply sel_there))); (· assumption); rfl) ) | (apply g_pick; first | (apply pv_pick_t; rfl; rfl) ) | (apply g_idx; first | (apply pv_idx; rfl; rfl; omega) ) )) | apply wo_nil | apply wc_ret | (apply wo_run; rfl; rfl) ))
  exact ret1 rfl rfl ⟨rfl, rfl, rfl⟩ ((by (repeat (first | apply sub_nil | (apply sub_cons; (· (repeat (first | apply sel_here | apply sel_there)))))); done) : List.Perm _ ([_] ++ _)) (by first | exact fun _ h => h | (intro r hr; cases hr; done) | (simp; done) | exact fun _ h => List.mem_append_left _ h | (intro r hr; simp [hr]; done))
abbrev frO (ao : Option Addr) (n c : Nat) (xs : List (List Value)) : It := .own 104 1 ao n c xs
abbrev frV (ao : Option Addr) (n c : Nat) : Value := .agg #[.slice ao n c]
abbrev frB' (b : Nat) (v : Value) : It := .ob b (.cells #[v] 104 (0, 0))
def FmS (g bB bM : Nat) (sm : Int) (mp : Nat) (ks : Int) (L : List It) : Prop := ∃ cb cl, L = [srI g bB bM true sm cb cl mp ks]
end Go.Proofs.Ytlhlidmhlhodiaa

/-
  Package ingress: frames, of any things that go out.
-/
namespace Go.Proofs.Ytlhlidmhlhodiaa
set_option linter.unusedSimpArgs false
set_option linter.unusedVariables false
open Go.RowKit
theorem wc_somep {P : Program} {N : Nat} {E : Env} {fr : List (Nat × Value)} {hp F : List It} {ro : List Ro} {Kn Kr : St → Prop} {Kx : List (Nat × (St → Prop))} {c : Code} {t sz n k : Nat} {ao : Option Addr} {xs : List (List Value)} (hs : hp.Perm (.own t sz ao n k xs :: F))
    (h : (n = 0 ∨ ∃ b o, ao = some ⟨b, o, none⟩) → WC P N E c ⟨fr, hp, ro⟩ Kn Kx Kr) : WC P N E c ⟨fr, hp, ro⟩ Kn Kx Kr := by
  rcases Nat.eq_zero_or_pos n with h0 | h0
  · exact h (.inl h0)
  · exact wc_some hs h0 fun b o e => h (.inr ⟨b, o, e⟩)
attribute [local irreducible] Pv WO WC Fn
set_option maxRecDepth 100000
attribute [local irreducible] ByteArray.extract

def tblFg (g bB bM : Nat) (sm cl' : Int) (mp : Nat) (ks : Int) (ml : List Me) (ck : Nat) (us : Value) (wh lo B : Int) (L : List Sg) (p : Nat) (mk : Bool) (X : List Nat) : Nat → List (List It) → Value → List (List It) → Prop := fun k Ls v Ms => match k, Ls with
  | 6, _ => v = .agg (urow (gUn B L p)).toArray ∧ Ms = [[srI g bB bM true sm true cl' mp ks], [.ob mp (mL ml ck)], [mkI bM us wh lo]]
  | 7, _ => ∃ a2 c2 wh' lo', (wh ≤ wh' ∧ wh' ≤ wh + 1 ∧ lo ≤ lo' ∧ lo' ≤ lo + 9) ∧ v = .tuple #[bif mk then frV a2 X.length c2 else frV none 0 0, .bool mk] ∧ Ms = [[mkI bM (bif mk then .slice none 0 0 else .slice a2 X.length c2) wh' lo'], [u7 a2 X.length c2 (gUs B L X)]]
  | 11, _ => ∃ b, v = .pointer (some ⟨b, 0, none⟩) ∧ Ms = [[frB' b (.slice none 0 0)]]
  | 12, [[.own T sz a2 n2 c2 xs], [.ob b _]] => v = undef ∧ Ms = [[.own T sz a2 n2 c2 xs], [frB' b (bif mk then .slice a2 n2 c2 else .slice none 0 0)]]
  | _, _ => False
theorem famFg (g bB bM : Nat) (sm cl' : Int) (mp : Nat) (ks : Int) (ml : List Me) (ck : Nat) (us : Value) (wh lo B : Int) (L : List Sg) (p : Nat) (mk : Bool) (X : List Nat) (i : Nat) (m : Nat → List It) (v : Value) (Ms : List (List It)) (hF : FmS g bB bM sm mp ks (m 0))
    (ht : tblFg g bB bM sm cl' mp ks ml ck us wh lo B L p mk X i ((aslL [(6, [0, 1, 2]), (7, [2, 3]), (11, [4]), (12, [3, 4])] i).map m) v Ms) (hl : Ms.length = (aslL [(6, [0, 1, 2]), (7, [2, 3]), (11, [4]), (12, [3, 4])] i).length) :
    FmS g bB bM sm mp ks (updL m (aslL [(6, [0, 1, 2]), (7, [2, 3]), (11, [4]), (12, [3, 4])] i) Ms 0) := by
  by_cases h6 : i = 6
  · subst h6
    obtain ⟨_, rfl⟩ := ht
    exact ⟨true, cl', rfl⟩
  · have h0 : (0 : Nat) ∉ aslL [(6, [0, 1, 2]), (7, [2, 3]), (11, [4]), (12, [3, 4])] i := by
      simp only [aslL]
      have h6' : Nat.beq 6 i = false := by
        cases h : Nat.beq 6 i
        · rfl
        · exact absurd (Nat.eq_of_beq_eq_true h).symm h6
      rw [h6']
      cases Nat.beq 7 i <;> cases Nat.beq 11 i <;> cases Nat.beq 12 i <;> decide
    rw [updL_ne _ _ _ h0]
    exact hF
theorem fdX_pos (op : List Nat) (p : Nat) (y : Sg) (h : (fdX op p y).1 = true) : 0 < (fdX op p y).2.length := by
  unfold fdX at h ⊢
  split
  · simp
  · rename_i h1
    rw [if_neg h1] at h
    split
    · simp
    · rename_i h2
      rw [if_neg h2] at h; cases h
/-- a frame that came out: its numbers, where its units lie -/
abbrev Fr3 := List Nat × Option Addr × Nat
def frow (x : Fr3) : List Value := [.slice x.2.1 x.1.length x.2.2]
def FrsOk (R : List Ro) (B : Int) (L : List Sg) (F : List Fr3) : Prop := ∀ x ∈ F, SR R 7 x.2.1 x.1.length x.2.2 (urs (gUs B L x.1))
theorem FrsOk.mono {R R' : List Ro} {B : Int} {L : List Sg} {F : List Fr3} (h : FrsOk R B L F) (hR : ∀ r ∈ R, r ∈ R') : FrsOk R' B L F := fun x hx => (h x hx).mono hR
theorem FrsOk.app {R : List Ro} {B : Int} {L : List Sg} {F F2 : List Fr3} (h : FrsOk R B L F) (h2 : FrsOk R B L F2) : FrsOk R B L (F ++ F2) := fun x hx => by
  rcases List.mem_append.1 hx with h3 | h3
  · exact h x h3
  · exact h2 x h3
structure Bd (n : Nat) (wh lo ks : Int) : Prop where
  wh : 0 ≤ wh ∧ wh ≤ (n : Int)
  lo : 0 ≤ lo ∧ lo ≤ 10 * (n : Int)
  ks : 0 ≤ ks ∧ ks ≤ (n : Int)
abbrev fO (oo : Option Addr) (oc : Nat) (F : List Fr3) : It := frO oo F.length oc (F.map frow)
abbrev igI (g bB bM : Nat) (sb : Bool) (sm : Int) (mp : Nat) (f B : Int) (L : List Sg) (ck : Nat) (cb : Bool) (cl ks : Int) (ws : List (Nat × Nat)) (ao : Option Addr) (c : Nat) (op : List Nat) (wh lo : Int) (X : List It) : List It := srI g bB bM sb sm cb cl mp ks :: .ob mp (mL (mP f B L ws) ck) :: mkI bM (.slice ao op.length c) wh lo :: u7 ao op.length c (gUs B L op) :: X
abbrev FPost (g bB bM : Nat) (sb : Bool) (sm : Int) (mp : Nat) (f B : Int) (L : List Sg) (G : Nat → Bool) (ck : Nat) (ws : List (Nat × Nat)) (p' n : Nat) (fs : List (List Nat)) (L' : List It) (R' : List Ro) (new : List Fr3) (op : List Nat) (cb : Bool) (cl ks wh lo : Int) (ao : Option Addr) (c : Nat) (oo : Option Addr) (oc : Nat) : Prop :=
  L' = igI g bB bM sb sm mp f B L ck cb cl ks ws ao c op wh lo [fO oo oc new] ∧ FrsOk R' B L new ∧ FX L G p' (fs ++ new.map (·.1)) op ∧ CKp L cb cl p' ∧ Bd n wh lo ks
set_option maxHeartbeats 32000000 in
theorem iFramesG {L : List Sg} {G : Nat → Bool} (hw : WFS L) (hL : L.length ≤ 59) (f B : Int) (hf : 0 ≤ f ∧ f ≤ 65535) (hB : 0 ≤ B ∧ B ≤ 1000000000000) (g bB bM : Nat) (sb : Bool) (sm : Int) (mp : Nat) (ck : Nat) (ws : List (Nat × Nat))
    (cb : Bool) (cl ks wh lo : Int) (ao : Option Addr) (c : Nat) (op : List Nat) (fs : List (List Nat)) (p p' n : Nat) (hn : n ≤ 200) (d : List (Nat × Nat)) (at_ : Option Addr) (ct : Nat)
    (hd : d.map (·.1) = ng G p p') (hpp : p ≤ p' ∧ p' ≤ L.length) (hF : FX L G p fs op) (hC : CKp L cb cl p) (hb : Bd n wh lo ks) (hsb : sb = true ∨ d = []) :
    Fn Try.prog 97 #[.pointer (some ⟨g, 0, none⟩), .slice at_ d.length ct] (igI g bB bM sb sm mp f B L ck cb cl ks (d ++ ws) ao c op wh lo [tO at_ ct B d]) []
      (fun v L' R' => ∃ new op cb cl ks wh lo ao c oo oc, v = .slice oo (new : List Fr3).length oc ∧ FPost g bB bM sb sm mp f B L G ck ws p' (n + d.length) fs L' R' new op cb cl ks wh lo ao c oo oc) := by
  have hdl : d.length ≤ 59 := by
    have h7 := congrArg List.length hd
    have h8 := ng_len (G := G) p p'
    rw [List.length_map] at h7
    omega
  refine fn_intro Try.func97 rfl Try.ntmps97 rfl (fun E => ?_)
  (repeat (first | ((first | (apply wo_v; rfl) ); (· first | (apply pv_ev; rfl) | (apply g_bi; first | (apply pv_len_sl; rfl) ) )) | apply wo_nil | apply wc_seq | apply wc_region ))
  refine wc_own0 104 1 ?_
  refine wc_block ?_
  refine wc_loop' (fun w st => ∃ (t : Nat) (RR : List Ro) (new : List Fr3) (op : List Nat) (q0 : Nat) (cb : Bool) (cl ks wh lo : Int) (ao : Option Addr) (c : Nat) (oo : Option Addr) (oc : Nat), w = d.length - t ∧ t ≤ d.length ∧ new.length ≤ t ∧ (d.drop t).map (·.1) = ng G q0 p' ∧ (p ≤ q0 ∧ q0 ≤ p') ∧
      FrsOk RR B L new ∧ FX L G q0 (fs ++ new.map (·.1)) op ∧ CKp L cb cl q0 ∧ Bd (n + t) wh lo ks ∧
      st = ⟨[(0, .pointer (some ⟨g, 0, none⟩)), (5, .slice oo new.length oc), (10, .slice at_ d.length ct), (11, .int .i64 d.length), (12, .int .i64 t)], igI g bB bM sb sm mp f B L ck cb cl ks (d.drop t ++ ws) ao c op wh lo [tO at_ ct B d, fO oo oc new], RR⟩)
    ⟨0, [], [], op, p, cb, cl, ks, wh, lo, ao, c, none, 0, rfl, Nat.zero_le _, Nat.le_refl _, by rw [List.drop_zero]; exact hd, ⟨Nat.le_refl _, hpp.1⟩, (fun x hx => by cases hx), by rw [List.map_nil, List.append_nil]; exact hF, hC, hb, rfl⟩ (wk_mk (by (repeat (first | apply wkf_nil | (apply wkf_cons; rfl))); done) (by (repeat (first | apply sub_nil | (apply sub_cons; (· (repeat (first | apply sel_here | apply sel_there)))))); done) (by first | exact fun _ h => h | (intro r hr; cases hr; done) | (simp; done) | exact fun _ h => List.mem_append_left _ h | (intro r hr; simp [hr]; done))) ?_
  clear hF hC hb hd
  rintro w st ⟨t, RR, new, op, q0, cb, cl, ks, wh, lo, ao, c, oo, oc, rfl, ht, hnl, hd, hq0, hFr, hF, hC, hb, rfl⟩
  obtain ⟨hb1, hb2, hb3⟩ := hb
  by_cases hlt : t < d.length
  · obtain rfl : sb = true := hsb.resolve_right (by rintro rfl; simp at hlt)
    obtain ⟨⟨i, s⟩, he⟩ : ∃ e, d[t]? = some e := ⟨_, List.getElem?_eq_getElem hlt⟩
    have hdr : d.drop t = (i, s) :: d.drop (t + 1) := by
      obtain ⟨h1, h2⟩ := List.getElem?_eq_some_iff.1 he
      rw [List.drop_eq_getElem_cons h1, h2]
    rw [hdr] at hd ⊢
    obtain ⟨h1, h2, h3, h4, h5⟩ := ng_hd hd.symm
    dsimp only at h1 h2 h3 h4 h5
    obtain ⟨y, hy⟩ : ∃ y, L[i]? = some y := ⟨_, List.getElem?_eq_getElem (by omega)⟩
    have hFd := (hF.to hw h1 (by omega) h4).at_ h3
    have hFn := hFd.feed hw hy h3
    have hCn := CKp.next hw hy
    have hrow : (d.map (tRw B))[t]? = some [.int .i64 (B + (i : Nat)), .string ByteArray.empty, .int .i64 (i : Nat)] := by rw [List.getElem?_map, he]; rfl
    have qu := iUnitL hw f B hf hB g bB bM sm cb cl mp ks i s ck (d.drop (t + 1) ++ ws) (.slice ao op.length c) wh lo y hy (hC.mono h1)
    rw [List.cons_append]
    refine wc_somep (ao := ao) (n := op.length) (by (repeat (first | apply sel_here | apply sel_there)); done) (fun ha => ?_)
    have qm := fPutM hw hFd y hy (by omega) B hB bM ao c wh lo ha (by omega) (by omega)
    rw [feed_fdX] at hFn
    have hXp : (fdX op i y).1 = true → 0 < (fdX op i y).2.length := fdX_pos op i y
    generalize fdX op i y = fx at qm hFn hXp
    obtain ⟨mk, X⟩ := fx
    dsimp only at qm hFn hXp
    clear hFd hF hC ha hd
    refine wc_some (ao := at_) (n := d.length) (by (repeat (first | apply sel_here | apply sel_there)); done) (by omega) ?_
    rintro b1 ob1 rfl
    (repeat (first | ((first | (apply wo_v; rfl) ); (· first | (apply pv_ev; rfl) )) | apply wo_nil | apply wc_seq | apply wc_region | apply wc_skip | (apply wc_true; rfl) | (apply wc_false; rfl) | (apply a_dec_t; rfl; (· first | assumption | omega)) ))
    refine wc_block ?_
    (repeat (first | ((first | (apply wo_v; rfl) ); (· first | (apply pv_ev; rfl) | (apply g_load; first | (apply pv_lda; rfl; (· (repeat (first | apply sel_there))); (· (repeat (first | fail )))) | (apply pv_ld_owna; rfl; (· (repeat (first | apply sel_here | apply sel_there))); (· assumption)) ) | (apply g_idx; first | (apply pv_idx; rfl; rfl; omega) ) )) | apply wo_nil | apply wc_seq | apply wc_region | (apply wo_alloc; rfl; intro bx) | (apply wo_sta; rfl; rfl; rfl; rfl; (· (repeat (first | apply sel_here ))); (· (repeat (first | apply LayAt.nil | apply LayAt.here ))); rfl) ))
    obtain ⟨b7, hb7⟩ : ∃ g, g = bx := ⟨_, rfl⟩
    subst hb7
    cases mk with
    | true =>
      refine wc_regF (FmS g bB bM sm mp ks) 0 [] [0, 1, 2, 3, 4] (aslL [(6, [0, 1, 2]), (7, [2, 3]), (11, [4]), (12, [3, 4])]) (tblFg g bB bM sm (68719476736 + 3000 * (y.i : Int)) mp ks (mP f B L (d.drop (t + 1) ++ ws)) ck (.slice ao op.length c) wh lo B L i true X) ([thB b7 (B + (i : Nat)) ByteArray.empty (i : Nat), tO (some ⟨b1, ob1, none⟩) ct B d, fO oo oc new]) (fm [(0, [srI g bB bM true sm cb cl mp ks]), (1, [.ob mp (mL (mP f B L ((i, s) :: (d.drop (t + 1) ++ ws))) ck)]), (2, [mkI bM (.slice ao op.length c) wh lo]), (3, [u7 ao op.length c (gUs B L op)]), (4, [])]) mixed (by kernel_rfl) (by kernel_rfl) (fun _ h => by cases h) (by decide) (by decide) (famFg g bB bM sm (68719476736 + 3000 * (y.i : Int)) mp ks (mP f B L (d.drop (t + 1) ++ ws)) ck (.slice ao op.length c) wh lo B L i true X) ⟨cb, cl, rfl⟩ (aslL_ok (by decide)) (by (repeat (first | (apply prm_cons; (· (repeat (first | apply sel_here | apply sel_there)))) | apply List.Perm.nil )); done) ?_
      refine .val rfl rfl (pv_move rfl) (.val rfl rfl (pv_nil rfl) (.val rfl rfl (pv_fld rfl) (.vst (v := .pointer (some ⟨bM, 0, none⟩)) rfl rfl ?_ ?_)))
      · rintro L2 ⟨cb', cl2, rfl⟩
        exact pv_ld rfl (by (repeat (first | apply sel_here )); done) rfl
      refine .done ?_
      (repeat (first | (apply HdM.val; rfl; rfl; (· first | apply gok_none ); (· first | (apply pv_ev; rfl) | (apply g_load; first | (apply pv_lda; rfl; (· (repeat (first | apply sel_here ))); (· (repeat (first | apply Cut.here0 | apply Cut.here )))) ) )) ))
      (refine hm_eff (cs := [0, 1, 2]) rfl (by decide) rfl rfl (by first | exact gok_none | exact gok_run rfl rfl) (fun a ha => outc_mono (outc_call (F1 := _) (T := fun v M => v = .agg (urow (gUn B L i)).toArray ∧ M = [srI g bB bM true sm true (68719476736 + 3000 * (y.i : Int)) mp ks, .ob mp (mL (mP f B L (d.drop (t + 1) ++ ws)) ck), mkI bM (.slice ao op.length c) wh lo]) qu rfl (by (repeat (first | apply sub_nil )); done) (by first | exact fun _ h => h | (intro r hr; cases hr; done) | (simp; done) | exact fun _ h => List.mem_append_left _ h | (intro r hr; simp [hr]; done)) (by rintro v L' R' ⟨rfl, rfl, _⟩; exact ⟨_, ⟨rfl, rfl⟩, (by (repeat (first | (apply prm_cons; (· (repeat (first | apply sel_here )))) | apply List.Perm.nil )); done)⟩) a ha) (fun v M h => ⟨[[_], [_], [_]], ⟨h.1, rfl⟩, rfl, h.2⟩)) (⟨_, _, ⟨rfl, rfl⟩, rfl⟩) ?_; rintro v Ms ⟨rfl, rfl⟩ _; simp only [setls, setl, reduceIte, Nat.reduceEqDiff]; (repeat (first | (apply HdM.val; rfl; rfl; (· first | fail ); (· first | fail )) )))
      (refine hm_eff (cs := [2, 3]) rfl (by decide) rfl rfl (by first | exact gok_none | exact gok_run rfl rfl) (fun a ha => outc_mono (outc_call (F1 := _) (T := fun v M => ∃ a2 c2 wh' lo', (wh ≤ wh' ∧ wh' ≤ wh + 1 ∧ lo ≤ lo' ∧ lo' ≤ lo + 9) ∧ v = .tuple #[bif true then frV a2 X.length c2 else frV none 0 0, .bool true] ∧ M = [mkI bM (bif true then .slice none 0 0 else .slice a2 X.length c2) wh' lo', u7 a2 X.length c2 (gUs B L X)]) qm rfl (by (repeat (first | apply sub_nil )); done) (by first | exact fun _ h => h | (intro r hr; cases hr; done) | (simp; done) | exact fun _ h => List.mem_append_left _ h | (intro r hr; simp [hr]; done)) (by rintro v L' R' ⟨rfl, a2, c2, wh', lo', h, rfl, rfl⟩; exact ⟨_, ⟨a2, c2, wh', lo', h, rfl, rfl⟩, (by (repeat (first | (apply prm_cons; (· (repeat (first | apply sel_here )))) | apply List.Perm.nil )); done)⟩) a ha) (fun v M h => by obtain ⟨a2, c2, wh', lo', h0, h1, h2⟩ := h; exact ⟨[[_], [_]], ⟨a2, c2, wh', lo', h0, h1, rfl⟩, rfl, h2⟩)) (⟨_, _, ⟨none, 0, wh, lo, ⟨Int.le_refl _, by omega, Int.le_refl _, by omega⟩, rfl, rfl⟩, rfl⟩) ?_; rintro v Ms ⟨a2, c2, wh2, lo2, hwl, rfl, rfl⟩ _; simp only [setls, setl, reduceIte, Nat.reduceEqDiff]; (repeat (first | (apply HdM.val; rfl; rfl; (· first | apply gok_none ); (· first | (apply pv_ev; rfl) )) )))
      (refine hm_eff (cs := [4]) rfl (by decide) rfl rfl (by first | exact gok_none | exact gok_run rfl rfl) (fun a ha => outc_mono (outc_alloc a ha) (fun v M h => Exists.elim h fun b h => ⟨[M], Exists.intro b (And.intro h.1 (congrArg (fun x => [x]) h.2)), rfl, by simp⟩)) (⟨_, _, Exists.intro 0 (And.intro rfl rfl), rfl⟩) ?_; rintro v Ms ⟨b8, rfl, rfl⟩ _; simp only [setls, setl, reduceIte, Nat.reduceEqDiff]; (repeat (first | fail )))
      (refine hm_eff (cs := [3, 4]) rfl (by decide) rfl rfl (by first | exact gok_none | exact gok_run rfl rfl) (fun a ha => outc_mono (outc_frA (X := [u7 a2 X.length c2 (gUs B L X)]) (L := [frB' b8 (.slice none 0 0)]) (outc_sta rfl rfl rfl rfl (by (repeat (first | apply LayAt.nil | apply LayAt.here )); done)) a ha) (fun v M h => by obtain ⟨M0, ⟨h1, h2⟩, h3⟩ := h; exact ⟨[[_], [_]], ⟨h1, rfl⟩, rfl, by rw [h3, h2]; rfl⟩)) (⟨_, _, ⟨rfl, rfl⟩, rfl⟩) ?_; rintro v Ms ⟨rfl, rfl⟩ _; simp only [setls, setl, reduceIte, Nat.reduceEqDiff]; (repeat (first | (apply HdM.val; rfl; rfl; (· first | apply gok_none ); (· first | (apply pv_ev; rfl) )) )))
      (refine HdM.nil ?_; intro H hH; simp only [Hp, fm, look, setl, List.flatMap_cons, List.flatMap_nil, reduceIte, Nat.reduceEqDiff, Option.getD_some, List.append_nil, List.cons_append, List.nil_append] at hH; subst hH)
      simp only [cond_true]
      have hXl : 0 < (gUs B L X).length := by rw [List.length_map]; exact hXp rfl
      obtain ⟨u0, hu0⟩ : ∃ u0, (gUs B L X)[0]? = some u0 := ⟨_, List.getElem?_eq_getElem hXl⟩
      have qk := fKey a2 X.length c2 (gUs B L X) u0 hu0 (by simp)
      (repeat (first | ((first | (apply wo_v; rfl) ); (· first | (apply pv_ev; rfl) | (apply g_load; first | (apply pv_lda; rfl; (· (repeat (first | apply sel_here | apply sel_there))); (· (repeat (first | apply Cut.here0 | apply Cut.here )))) ) | (apply g_un; first | (apply pv_not_t; rfl) ) )) | apply wo_nil | apply wc_seq | apply wc_region | apply wc_skip | (apply wc_true; rfl) | (apply wc_false; rfl) ))
      (refine wo_call (qk) rfl (by (repeat (first | apply sub_nil | (apply sub_cons; (· (repeat (first | apply sel_here | apply sel_there)))))); done) (by first | exact fun _ h => h | (intro r hr; cases hr; done) | (simp; done) | exact fun _ h => List.mem_append_left _ h | (intro r hr; simp [hr]; done)) rfl ?_; rintro v L' R' ⟨rfl, rfl, rfl⟩ H' hH RR hR; simp only [List.cons_append, List.nil_append] at hH hR; subst hH; have hR := hR.symm; subst hR)
      refine wo_still (ao := a2) (n := X.length) (c := c2) (by (repeat (first | apply sel_here )); done) (fun R7 hS7 => ?_)
      refine wo_own0 106 7 ?_
      have hFr2 : FrsOk (R7 ++ RR) B L (new ++ [(X, a2, c2)]) := (hFr.mono fun r hr => List.mem_append_right _ hr).app fun x hx => by
        rw [List.mem_singleton.1 hx]; exact hS7
      have hFn2 : FX L G (i + 1) (fs ++ (new ++ [((X, a2, c2) : Fr3)]).map (·.1)) [] := by
        rw [List.map_append, ← List.append_assoc]; exact hFn.fx
      have hl9 : new.length + 1 = (new ++ [((X, a2, c2) : Fr3)]).length := by rw [List.length_append]; rfl
      have hm9 : new.map frow ++ [[Value.slice a2 X.length c2]] = (new ++ [((X, a2, c2) : Fr3)]).map frow := by rw [List.map_append]; rfl
      (repeat (first | apply wo_nil | (apply wc_true; rfl) | (apply wc_false; rfl) | (apply a_dec_t; rfl; (· first | assumption | omega)) | (apply a_dec_f; rfl; (· first | assumption | omega)) | (apply a_dec_t; rfl; (· first | (simp; done) | (simp; omega))) | (apply a_dec_f; rfl; (· first | (simp; done) | (simp; omega))) ))
      cases hky : u0.ky with
      | true =>
        (repeat (first | ((first | (apply wo_v; rfl) ); (· first | (apply pv_ev; rfl) | (apply pv_fld; rfl) | (apply g_load; first | (apply pv_ld; rfl; (· (repeat (first | apply sel_here | apply sel_there))); rfl) | (apply pv_lda; rfl; (· (repeat (first | apply sel_here | apply sel_there))); (· (repeat (first | apply Cut.here0 | apply Cut.here )))) ) | (apply g_bin; first | (apply a_add; rfl; rfl; infer_instance; omega) ) | (apply g_bi; first | fail ) )) | apply wo_nil | apply wc_region | (apply wc_true; rfl) | (apply wo_st; rfl; rfl; rfl; (· (repeat (first | apply sel_here | apply sel_there))); (· (repeat (first | apply SetAt.here | apply SetAt.there))); rfl) | (apply wo_bsl; (· (repeat (first | apply Rws'.nil | (apply Rws'.one; rfl; rfl; rfl) | (apply Rws'.agg; rfl; rfl; rfl)))); rfl; rfl; rfl; rfl; intro bx) ))
        refine wo_app (ao := oo) (n := new.length) (m := 1) rfl rfl (by (repeat (first | apply sel_here | apply sel_there)); done) (by (repeat (first | apply sel_here )); done) (by unfold maxLen; omega) (by omega) rfl (fun o1 k1 => ?_)
        rw [hl9, hm9]
        (repeat (first | ((first | (apply wo_v; rfl) ); (· first | (apply pv_ev; rfl) | (apply g_bin; first | (apply a_add; rfl; rfl; infer_instance; omega) ) )) | apply wo_nil | apply wc_region ))
        exact loop_end ⟨t + 1, R7 ++ RR, new ++ [(X, a2, c2)], [], i + 1, true, 68719476736 + 3000 * (y.i : Int), ks + 1, wh2, lo2, none, 0, o1, k1, rfl, by omega, by omega, h5, by omega, hFr2, hFn2, hCn, ⟨by omega, by omega, by omega⟩, rfl⟩ (by omega) (wk_mk (by (repeat (first | apply wkf_nil | (apply wkf_cons; rfl))); done) (by (repeat (first | apply sub_nil | (apply sub_cons; (· (repeat (first | apply sel_here | apply sel_there)))))); done) (by first | exact fun _ h => h | (intro r hr; cases hr; done) | (simp; done) | exact fun _ h => List.mem_append_left _ h | (intro r hr; simp [hr]; done)))
      | false =>
        (repeat (first | ((first | (apply wo_v; rfl) ); (· first | (apply pv_ev; rfl) | (apply g_load; first | (apply pv_lda; rfl; (· (repeat (first | apply sel_here | apply sel_there))); (· (repeat (first | apply Cut.here0 | apply Cut.here )))) ) | (apply g_bi; first | fail ) )) | apply wc_region | apply wc_skip | (apply wc_true; rfl) | (apply wc_false; rfl) | (apply wo_bsl; (· (repeat (first | apply Rws'.nil | (apply Rws'.one; rfl; rfl; rfl) | (apply Rws'.agg; rfl; rfl; rfl)))); rfl; rfl; rfl; rfl; intro bx) ))
        refine wo_app (ao := oo) (n := new.length) (m := 1) rfl rfl (by (repeat (first | apply sel_here | apply sel_there)); done) (by (repeat (first | apply sel_here )); done) (by unfold maxLen; omega) (by omega) rfl (fun o1 k1 => ?_)
        rw [hl9, hm9]
        (repeat (first | ((first | (apply wo_v; rfl) ); (· first | (apply pv_ev; rfl) | (apply g_bin; first | (apply a_add; rfl; rfl; infer_instance; omega) ) )) | apply wo_nil | apply wc_region ))
        exact loop_end ⟨t + 1, R7 ++ RR, new ++ [(X, a2, c2)], [], i + 1, true, 68719476736 + 3000 * (y.i : Int), ks, wh2, lo2, none, 0, o1, k1, rfl, by omega, by omega, h5, by omega, hFr2, hFn2, hCn, ⟨by omega, by omega, by omega⟩, rfl⟩ (by omega) (wk_mk (by (repeat (first | apply wkf_nil | (apply wkf_cons; rfl))); done) (by (repeat (first | apply sub_nil | (apply sub_cons; (· (repeat (first | apply sel_here | apply sel_there)))))); done) (by first | exact fun _ h => h | (intro r hr; cases hr; done) | (simp; done) | exact fun _ h => List.mem_append_left _ h | (intro r hr; simp [hr]; done)))
    | false =>
      refine wc_regF (FmS g bB bM sm mp ks) 0 [] [0, 1, 2, 3, 4] (aslL [(6, [0, 1, 2]), (7, [2, 3]), (11, [4]), (12, [3, 4])]) (tblFg g bB bM sm (68719476736 + 3000 * (y.i : Int)) mp ks (mP f B L (d.drop (t + 1) ++ ws)) ck (.slice ao op.length c) wh lo B L i false X) ([thB b7 (B + (i : Nat)) ByteArray.empty (i : Nat), tO (some ⟨b1, ob1, none⟩) ct B d, fO oo oc new]) (fm [(0, [srI g bB bM true sm cb cl mp ks]), (1, [.ob mp (mL (mP f B L ((i, s) :: (d.drop (t + 1) ++ ws))) ck)]), (2, [mkI bM (.slice ao op.length c) wh lo]), (3, [u7 ao op.length c (gUs B L op)]), (4, [])]) mixed (by kernel_rfl) (by kernel_rfl) (fun _ h => by cases h) (by decide) (by decide) (famFg g bB bM sm (68719476736 + 3000 * (y.i : Int)) mp ks (mP f B L (d.drop (t + 1) ++ ws)) ck (.slice ao op.length c) wh lo B L i false X) ⟨cb, cl, rfl⟩ (aslL_ok (by decide)) (by (repeat (first | (apply prm_cons; (· (repeat (first | apply sel_here | apply sel_there)))) | apply List.Perm.nil )); done) ?_
      refine .val rfl rfl (pv_move rfl) (.val rfl rfl (pv_nil rfl) (.val rfl rfl (pv_fld rfl) (.vst (v := .pointer (some ⟨bM, 0, none⟩)) rfl rfl ?_ ?_)))
      · rintro L2 ⟨cb', cl2, rfl⟩
        exact pv_ld rfl (by (repeat (first | apply sel_here )); done) rfl
      refine .done ?_
      (repeat (first | (apply HdM.val; rfl; rfl; (· first | apply gok_none ); (· first | (apply pv_ev; rfl) | (apply g_load; first | (apply pv_lda; rfl; (· (repeat (first | apply sel_here ))); (· (repeat (first | apply Cut.here0 | apply Cut.here )))) ) )) ))
      (refine hm_eff (cs := [0, 1, 2]) rfl (by decide) rfl rfl (by first | exact gok_none | exact gok_run rfl rfl) (fun a ha => outc_mono (outc_call (F1 := _) (T := fun v M => v = .agg (urow (gUn B L i)).toArray ∧ M = [srI g bB bM true sm true (68719476736 + 3000 * (y.i : Int)) mp ks, .ob mp (mL (mP f B L (d.drop (t + 1) ++ ws)) ck), mkI bM (.slice ao op.length c) wh lo]) qu rfl (by (repeat (first | apply sub_nil )); done) (by first | exact fun _ h => h | (intro r hr; cases hr; done) | (simp; done) | exact fun _ h => List.mem_append_left _ h | (intro r hr; simp [hr]; done)) (by rintro v L' R' ⟨rfl, rfl, _⟩; exact ⟨_, ⟨rfl, rfl⟩, (by (repeat (first | (apply prm_cons; (· (repeat (first | apply sel_here )))) | apply List.Perm.nil )); done)⟩) a ha) (fun v M h => ⟨[[_], [_], [_]], ⟨h.1, rfl⟩, rfl, h.2⟩)) (⟨_, _, ⟨rfl, rfl⟩, rfl⟩) ?_; rintro v Ms ⟨rfl, rfl⟩ _; simp only [setls, setl, reduceIte, Nat.reduceEqDiff]; (repeat (first | (apply HdM.val; rfl; rfl; (· first | fail ); (· first | fail )) )))
      (refine hm_eff (cs := [2, 3]) rfl (by decide) rfl rfl (by first | exact gok_none | exact gok_run rfl rfl) (fun a ha => outc_mono (outc_call (F1 := _) (T := fun v M => ∃ a2 c2 wh' lo', (wh ≤ wh' ∧ wh' ≤ wh + 1 ∧ lo ≤ lo' ∧ lo' ≤ lo + 9) ∧ v = .tuple #[bif false then frV a2 X.length c2 else frV none 0 0, .bool false] ∧ M = [mkI bM (bif false then .slice none 0 0 else .slice a2 X.length c2) wh' lo', u7 a2 X.length c2 (gUs B L X)]) qm rfl (by (repeat (first | apply sub_nil )); done) (by first | exact fun _ h => h | (intro r hr; cases hr; done) | (simp; done) | exact fun _ h => List.mem_append_left _ h | (intro r hr; simp [hr]; done)) (by rintro v L' R' ⟨rfl, a2, c2, wh', lo', h, rfl, rfl⟩; exact ⟨_, ⟨a2, c2, wh', lo', h, rfl, rfl⟩, (by (repeat (first | (apply prm_cons; (· (repeat (first | apply sel_here )))) | apply List.Perm.nil )); done)⟩) a ha) (fun v M h => by obtain ⟨a2, c2, wh', lo', h0, h1, h2⟩ := h; exact ⟨[[_], [_]], ⟨a2, c2, wh', lo', h0, h1, rfl⟩, rfl, h2⟩)) (⟨_, _, ⟨none, 0, wh, lo, ⟨Int.le_refl _, by omega, Int.le_refl _, by omega⟩, rfl, rfl⟩, rfl⟩) ?_; rintro v Ms ⟨a2, c2, wh2, lo2, hwl, rfl, rfl⟩ _; simp only [setls, setl, reduceIte, Nat.reduceEqDiff]; (repeat (first | (apply HdM.val; rfl; rfl; (· first | apply gok_none ); (· first | (apply pv_ev; rfl) )) )))
      (refine hm_eff (cs := [4]) rfl (by decide) rfl rfl (by first | exact gok_none | exact gok_run rfl rfl) (fun a ha => outc_mono (outc_alloc a ha) (fun v M h => Exists.elim h fun b h => ⟨[M], Exists.intro b (And.intro h.1 (congrArg (fun x => [x]) h.2)), rfl, by simp⟩)) (⟨_, _, Exists.intro 0 (And.intro rfl rfl), rfl⟩) ?_; rintro v Ms ⟨b8, rfl, rfl⟩ _; simp only [setls, setl, reduceIte, Nat.reduceEqDiff]; (repeat (first | fail )))
      (refine hm_eff (cs := [3, 4]) rfl (by decide) rfl rfl (by first | exact gok_none | exact gok_run rfl rfl) (fun a ha => outc_mono (outc_frA (X := [u7 a2 X.length c2 (gUs B L X)]) (L := [frB' b8 (.slice none 0 0)]) (outc_sta rfl rfl rfl rfl (by (repeat (first | apply LayAt.nil | apply LayAt.here )); done)) a ha) (fun v M h => by obtain ⟨M0, ⟨h1, h2⟩, h3⟩ := h; exact ⟨[[_], [_]], ⟨h1, rfl⟩, rfl, by rw [h3, h2]; rfl⟩)) (⟨_, _, ⟨rfl, rfl⟩, rfl⟩) ?_; rintro v Ms ⟨rfl, rfl⟩ _; simp only [setls, setl, reduceIte, Nat.reduceEqDiff]; (repeat (first | (apply HdM.val; rfl; rfl; (· first | apply gok_none ); (· first | (apply pv_ev; rfl) )) )))
      (refine HdM.nil ?_; intro H hH; simp only [Hp, fm, look, setl, List.flatMap_cons, List.flatMap_nil, reduceIte, Nat.reduceEqDiff, Option.getD_some, List.append_nil, List.cons_append, List.nil_append] at hH; subst hH)
      simp only [cond_false]
      (repeat (first | ((first | (apply wo_v; rfl) ); (· first | (apply pv_ev; rfl) | (apply g_bin; first | (apply a_add; rfl; rfl; infer_instance; omega) ) | (apply g_un; first | (apply pv_not_t; rfl) | (apply pv_not_f; rfl) ) )) | apply wo_nil | apply wc_seq | apply wc_region | (apply wc_exit; rfl) | (apply wc_true; rfl) ))
      exact loop_end ⟨t + 1, RR, new, X, i + 1, true, 68719476736 + 3000 * (y.i : Int), ks, wh2, lo2, a2, c2, oo, oc, rfl, by omega, by omega, h5, by omega, hFr, (by simpa using hFn.fx), hCn, ⟨by omega, by omega, by omega⟩, rfl⟩ (by omega) (wk_mk (by (repeat (first | apply wkf_nil | (apply wkf_cons; rfl))); done) (by (repeat (first | apply sub_nil | (apply sub_cons; (· (repeat (first | apply sel_here | apply sel_there)))))); done) (by first | exact fun _ h => h | (intro r hr; cases hr; done) | (simp; done) | exact fun _ h => List.mem_append_left _ h | (intro r hr; simp [hr]; done)))
  · obtain rfl : t = d.length := by omega
    rw [List.drop_length] at hd ⊢
    have hFe := hF.to hw hq0.2 (by omega) hd.symm
    have hCe := hC.mono hq0.2
    (repeat (first | ((first | (apply wo_v; rfl) ); (· first | (apply pv_ev; rfl) )) | apply wo_nil | apply wc_seq | apply wc_region | (apply wc_exit; rfl) | apply wc_ret | (apply wc_true; rfl) | (apply wc_false; rfl) | (apply a_dec_t; rfl; (· first | assumption | omega)) | (apply a_dec_f; rfl; (· first | assumption | omega)) ))
    exact ret1 rfl rfl ⟨new, op, cb, cl, ks, wh, lo, ao, c, oo, oc, rfl, rfl, hFr, hFe, hCe, ⟨hb1, hb2, hb3⟩⟩ ((by (repeat (first | apply sub_nil | (apply sub_cons; (· (repeat (first | apply sel_here | apply sel_there)))))); done) : List.Perm _ ([_, _, _, _, _] ++ _)) (by first | exact fun _ h => h | (intro r hr; cases hr; done) | (simp; done) | exact fun _ h => List.mem_append_left _ h | (intro r hr; simp [hr]; done))
end Go.Proofs.Ytlhlidmhlhodiaa

/-
  Package ingress: Put, of packets in their order.
-/
namespace Go.Proofs.Ytlhlidmhlhodiaa
set_option linter.unusedSimpArgs false
set_option linter.unusedVariables false
open Go.RowKit
instance : TZV Try.prog 33 (.agg (pkR false 0 0 0 0 ByteArray.empty).toArray) := ⟨by kernel_rfl⟩
attribute [local irreducible] Pv WO WC Fn
set_option maxRecDepth 100000
attribute [local irreducible] ByteArray.extract

def tblP1 (g bB bM : Nat) (at_ : Int) (cb : Bool) (cl : Int) (mp : Nat) (ks : Int) : Nat → List (List It) → Value → List (List It) → Prop := fun k Ls v Ms => match k, Ls with
  | 5, _ => v = .tuple #[.int .i64 at_, .bool true] ∧ Ms = [[srI g bB bM true at_ cb cl mp ks]]
  | _, _ => False
end Go.Proofs.Ytlhlidmhlhodiaa

/-
  Package ingress: Put and Tick, of any packets in their order.
-/
namespace Go.Proofs.Ytlhlidmhlhodiaa
set_option linter.unusedSimpArgs false
set_option linter.unusedVariables false
open Go.RowKit
theorem wo_somep {P : Program} {N : Nat} {E : Env} {ops : Array Oper} {rest : List Oper} {fr : List (Nat × Value)} {hp F : List It} {ro : List Ro} {Kn : St → Prop} {t sz n k : Nat} {ao : Option Addr} {xs : List (List Value)} (hs : hp.Perm (.own t sz ao n k xs :: F))
    (h : (n = 0 ∨ ∃ b o, ao = some ⟨b, o, none⟩) → WO P N E ops rest ⟨fr, hp, ro⟩ Kn) : WO P N E ops rest ⟨fr, hp, ro⟩ Kn := by
  rcases Nat.eq_zero_or_pos n with h0 | h0
  · exact h (.inl h0)
  · exact wo_some hs h0 fun b o e => h (.inr ⟨b, o, e⟩)
attribute [local irreducible] Pv WO WC Fn
set_option maxRecDepth 100000
attribute [local irreducible] ByteArray.extract

theorem sxPutD (g bB bM : Nat) (m : Int) (cb : Bool) (cl : Int) (mp : Nat) (ks n d : Int) (hm : 0 ≤ m ∧ m ≤ 1125899906842624) (hn : 0 ≤ n ∧ n ≤ 65535) (h : nearD m n 65536 = d) (hd : 0 ≤ d ∧ d ≤ 3000) : Fn Try.prog 95 #[.pointer (some ⟨g, 2, none⟩), .int .u16 n] [srI g bB bM true m cb cl mp ks] []
    (fun v L' R' => v = .tuple #[.int .i64 (m + d), .bool true] ∧ L' = [srI g bB bM true (m + d) cb cl mp ks] ∧ R' = []) := by
  have q := near16s m n (by omega)
  rw [h] at q
  have e : max m (m + d) = m + d := by omega
  refine fn_intro Try.func95 rfl Try.ntmps95 rfl (fun E => ?_)
  (repeat (first | ((first | (apply wo_v; rfl) ); (· first | (apply pv_ev; rfl) | (apply pv_fld; rfl) | (apply g_load; first | (apply pv_ld; rfl; (· (repeat (first | apply sel_here ))); rfl) ) | (apply g_un; first | (apply pv_not_t; rfl) ) )) | apply wo_nil | apply wc_seq | apply wc_region | apply wc_skip | (apply wc_true; rfl) | (apply wc_false; rfl) ))
  (refine wo_call (q) rfl (by (repeat (first | apply sub_nil )); done) (by first | exact fun _ h => h | (intro r hr; cases hr; done) | (simp; done) | exact fun _ h => List.mem_append_left _ h | (intro r hr; simp [hr]; done)) rfl ?_; rintro v L' R' ⟨rfl, rfl, rfl⟩ H' hH RR hR; simp only [List.cons_append, List.nil_append] at hH hR; subst hH; have hR := hR.symm; subst hR)
  (repeat (first | ((first | (apply wo_v; rfl) ); (· first | (apply pv_ev; rfl) | (apply pv_fld; rfl) | (apply g_load; first | (apply pv_ld; rfl; (· (repeat (first | apply sel_here ))); rfl) ) | (apply g_pick; first | (apply pv_pick_t; rfl; rfl) ) | (apply g_bin; first | (apply a_sub; rfl; rfl; infer_instance; omega) ) | (apply g_bi; first | (apply pv_max; rfl; rfl)) )) | apply wo_nil | apply wc_seq | apply wc_region | apply wc_ret | (apply wc_true; rfl) | (apply wc_false; rfl) | (apply a_dec_t; rfl; (· first | assumption | omega)) | (apply wo_run; rfl; rfl) | (apply wo_skip; rfl; rfl; rfl; rfl) | (apply wo_skip_u; rfl; rfl; rfl) | (apply a_gt; rfl; rfl; (· first | assumption | omega)) | (apply wo_st; rfl; rfl; rfl; (· (repeat (first | apply sel_here ))); (· (repeat (first | apply SetAt.here | apply SetAt.there))); rfl) ))
  rw [e]
  exact retv rfl (by (repeat (first | apply RV.nil | (apply RV.tmp; rfl) )); done) (⟨rfl, rfl, rfl⟩) (by (repeat (first | apply sub_nil )); done) (by first | exact fun _ h => h | (intro r hr; cases hr; done) | (simp; done) | exact fun _ h => List.mem_append_left _ h | (intro r hr; simp [hr]; done))
/-- what a source knows before packet j -/
structure Ig3 where
  sb : Bool
  sm : Int
  bg : Bool
  lo : Int
  cb : Bool
  cl : Int
  ks : Int
  wh : Int
  ml : Int
  ws : List (Nat × Nat)
  ck : Nat
  ao : Option Addr
  c : Nat
  op : List Nat
  p : Nat
def nxv (bg : Bool) (B : Int) (p : Nat) : Int := bif bg then B + (p : Int) else 0
abbrev igG (g bB bM mp mq : Nat) (f B : Int) (L : List Sg) (s : Ig3) : List It := [srI g bB bM s.sb s.sm s.cb s.cl mp s.ks, .ob mp (mL (mP f B L s.ws) s.ck), mkI bM (.slice s.ao s.op.length s.c) s.wh s.ml, u7 s.ao s.op.length s.c (gUs B L s.op), bfI bB s.bg (nxv s.bg B s.p) mq s.lo, .ob mq (mL (mB B s.ws) s.ck)]
structure IgOk (L : List Sg) (G : Nat → Bool) (B : Int) (j t : Nat) (fs : List (List Nat)) (s : Ig3) : Prop where
  st : (j = 0 ∧ s.sb = false ∧ s.sm = 0 ∧ s.bg = false ∧ s.lo = 0 ∧ s.ws = [] ∧ s.ck = 0 ∧ s.p = 0) ∨ (0 < j ∧ s.sb = true ∧ (∃ m : Nat, m < j ∧ s.sm = B + (m : Int)) ∧ s.bg = true)
  lo : 0 ≤ s.lo ∧ s.lo ≤ (s.p : Int)
  wk : WGk G s.p j s.ws s.ck
  pj : s.p ≤ j
  stp : s.p < j → G s.p = true
  fx : FX L G s.p fs s.op
  ck : CKp L s.cb s.cl s.p
  bd : Bd (s.p + t) s.wh s.ml s.ks
theorem IgOk.gone {L : List Sg} {G : Nat → Bool} {B : Int} {j t : Nat} {fs : List (List Nat)} {s : Ig3} (h : IgOk L G B j t fs s) (h0 : 0 < j) (hg : G j = true) : IgOk L G B (j + 1) t fs s := by
  obtain ⟨h1, h2, h3, h4, h5, h6, h7, h8⟩ := h
  refine ⟨?_, h2, h3.gone h4 hg, by omega, fun hlt => ?_, h6, h7, h8⟩
  · rcases h1 with h1 | ⟨_, h9, ⟨m, h10, h11⟩, h12⟩
    · omega
    · exact .inr ⟨by omega, h9, ⟨m, by omega, h11⟩, h12⟩
  · by_cases he : s.p = j
    · rw [he]; exact hg
    · exact h5 (by omega)
theorem Bd.mono {n m : Nat} {wh lo ks : Int} (h : Bd n wh lo ks) (hm : n ≤ m) : Bd m wh lo ks := by
  obtain ⟨h1, h2, h3⟩ := h
  exact ⟨by omega, by omega, by omega⟩
def tblMv2 (l : List Me) (ck : Nat) : Nat → List (List It) → Value → List (List It) → Prop := fun k Ls v Ms => match k, Ls with
  | 6, [[.ob b _]] => v = undef ∧ Ms = [[.ob b (mL l ck)]]
  | _, _ => False
theorem mP_snoc (f B : Int) (L : List Sg) (ws : List (Nat × Nat)) (j ck : Nat) : mP f B L ws ++ [(B + (j : Nat), pkI f L j, ck)] = mP f B L (ws ++ [(j, ck)]) := by rw [mP, mP, List.map_append]; rfl
abbrev GPost (g bB bM mp mq : Nat) (f B : Int) (L : List Sg) (G : Nat → Bool) (j t : Nat) (fs : List (List Nat)) (L' : List It) (R' : List Ro) (new : List Fr3) (s : Ig3) (oo : Option Addr) (oc : Nat) : Prop :=
  L' = fO oo oc new :: igG g bB bM mp mq f B L s ∧ FrsOk R' B L new ∧ IgOk L G B j t (fs ++ new.map (·.1)) s
set_option maxHeartbeats 32000000 in
theorem iPutG {L : List Sg} {G : Nat → Bool} (hw : WFS L) (hL : L.length ≤ 59) (f B : Int) (hf : 0 ≤ f ∧ f ≤ 65535) (hB : B = 1048576 + f) (g bB bM mp mq : Nat) (j t : Nat) (y : Sg) (hy : L[j]? = some y) (hg : G j = false) (ht : t ≤ 20) (fs : List (List Nat)) (s : Ig3) (h : IgOk L G B j t fs s) :
    Fn Try.prog 42 #[.pointer (some ⟨g, 0, none⟩), .agg (prow (sgP f j y)).toArray, .int .i64 (j : Nat)] (igG g bB bM mp mq f B L s) []
      (fun v L' R' => ∃ new s' oo oc, v = .tuple #[.slice oo (new : List Fr3).length oc, .int .i64 0] ∧ GPost g bB bM mp mq f B L G (j + 1) t fs L' R' new s' oo oc) := by
  obtain ⟨sb, sm, bg, lo, cb, cl, ks, wh, ml, ws, ck, ao, c, op, p⟩ := s
  obtain ⟨hst, hlo, hwk, hpj, hstp, hfx, hck, hbd⟩ := h
  dsimp only at hst hlo hwk hpj hstp hfx hck hbd
  have hjL := (List.getElem?_eq_some_iff.1 hy).1
  have hBb : 0 ≤ B ∧ B ≤ 1000000000000 := by omega
  have hS : Fn Try.prog 95 #[.pointer (some ⟨g, 2, none⟩), .int .u16 ((f + (j : Nat)) % 65536)] [srI g bB bM sb sm cb cl mp ks] [] (fun v L' R' => v = .tuple #[.int .i64 (B + (j : Nat)), .bool true] ∧ L' = [srI g bB bM true (B + (j : Nat)) cb cl mp ks] ∧ R' = []) := by
    rcases hst with ⟨rfl, rfl, rfl, _⟩ | ⟨_, rfl, ⟨m, hm, rfl⟩, _⟩
    · have := sxPut0 g bB bM cb cl mp ks ((f + ((0 : Nat) : Int)) % 65536) (by omega)
      rw [show 1048576 + ((f + ((0 : Nat) : Int)) % 65536) = B + ((0 : Nat) : Int) by omega] at this
      exact this
    · have := sxPutD g bB bM (B + (m : Int)) cb cl mp ks ((f + (j : Nat)) % 65536) ((j : Int) - (m : Int)) (by omega) (by omega) (by unfold nearD; split <;> omega) (by omega)
      rw [show B + (m : Int) + ((j : Int) - (m : Int)) = B + (j : Nat) by omega] at this
      exact this
  have hB2 : Fn Try.prog 96 #[.pointer (some ⟨bB, 0, none⟩), thV (B + (j : Nat)) ByteArray.empty (j : Nat)] [bfI bB bg (nxv bg B p) mq lo, .ob mq (mL (mB B ws) ck)] [] (fun v L' R' => ∃ d p' ws' lo' ao c, v = .tuple #[.slice ao (d : List (Nat × Nat)).length c, .int .i64 0] ∧ PPost bB mq B G p (j + 1) (ws ++ [(j, ck)]) (ck + 1) v L' R' d p' ws' lo' ao c) := by
    rcases hst with ⟨rfl, _, _, rfl, rfl, rfl, rfl, rfl⟩ | ⟨_, _, _, rfl⟩
    · exact oPutB bB mq B G hBb hg
    · exact oPutG bB mq B lo G p j ws ck hBb (by omega) hpj hg hlo hwk
  have hno : ∀ e ∈ mP f B L ws, e.1 ≠ B + (j : Nat) := fun e he => by
    obtain ⟨x, hx, rfl⟩ := List.mem_map.1 he
    have := (hwk.mem hx).2.1
    show B + (x.1 : Int) ≠ B + (j : Int)
    omega
  have hpk := pkI_at (f := f) hy
  have hpz := (spl_size y.i y.k).1
  have hne : ¬ spl y.i y.k = (⟨#[]⟩ : ByteArray) := fun h => by rw [h] at hpz; exact absurd hpz (by decide)
  show Fn Try.prog _ #[_, pkV y.l 96 ((f + (j : Nat)) % 65536) (3000 * (y.i : Int)) 7 (spl y.i y.k), _] [srI g bB bM sb sm cb cl mp ks, .ob mp (mL (mP f B L ws) ck), mkI bM (.slice ao op.length c) wh ml, u7 ao op.length c (gUs B L op), bfI bB bg (nxv bg B p) mq lo, .ob mq (mL (mB B ws) ck)] _ _
  have hpk : pkI f L j = pkV y.l 96 ((f + (j : Nat)) % 65536) (3000 * (y.i : Int)) 7 (spl y.i y.k) := hpk
  generalize spl y.i y.k = pl at hpk hne hpz ⊢
  generalize hsq : (f + (j : Nat)) % 65536 = sq at hS hpk ⊢
  generalize hnx : nxv bg B p = nx at hB2 ⊢
  clear hst
  refine fn_intro Try.func42 rfl Try.ntmps42 rfl (fun E => ?_)
  (repeat (first | ((first | (apply wo_v; rfl) ); (· first | (apply pv_ev; rfl) )) | apply wo_nil | apply wc_seq | apply wc_region | (apply wo_box1; rfl; rfl; rfl; intro bx) | (apply wo_boxa; rfl; rfl; intro bx) ))
  obtain ⟨b4, hb4⟩ : ∃ g, g = bx := ⟨_, rfl⟩
  subst hb4
  (refine wc_regM [0] (aslL [(5, [0])]) (tblP1 g bB bM (B + (j : Nat)) cb cl mp ks) ([pkB b4 y.l 96 sq (3000 * (y.i : Int)) 7 pl, .ob mp (mL (mP f B L ws) ck), mkI bM (.slice ao op.length c) wh ml, u7 ao op.length c (gUs B L op), bfI bB bg nx mq lo, .ob mq (mL (mB B ws) ck)]) (fm [(0, [srI g bB bM sb sm cb cl mp ks])]) mixed (by kernel_rfl) (by kernel_rfl) (by decide) (aslL_ok (by decide)) (by (repeat (first | (apply prm_cons; (· (repeat (first | apply sel_here | apply sel_there)))) | apply List.Perm.nil )); done) ?_; (repeat (first | (apply HdM.val; rfl; rfl; (· first | apply gok_none ); (· first | (apply pv_ev; rfl) | (apply pv_fld; rfl) | (apply g_load; first | (apply pv_ld; rfl; (· (repeat (first | apply sel_here ))); rfl) ) )) )))
  (refine hm_eff (cs := [0]) rfl (by decide) rfl rfl (by first | exact gok_none | exact gok_run rfl rfl) (fun a ha => outc_mono (outc_call (F1 := _) (T := fun v M => v = .tuple #[.int .i64 (B + (j : Nat)), .bool true] ∧ M = [srI g bB bM true (B + (j : Nat)) cb cl mp ks]) hS rfl (by (repeat (first | apply sub_nil )); done) (by first | exact fun _ h => h | (intro r hr; cases hr; done) | (simp; done) | exact fun _ h => List.mem_append_left _ h | (intro r hr; simp [hr]; done)) (by rintro v L' R' ⟨rfl, rfl, _⟩; exact ⟨_, ⟨rfl, rfl⟩, (by (repeat (first | (apply prm_cons; (· (repeat (first | apply sel_here )))) | apply List.Perm.nil )); done)⟩) a ha) (fun v M h => ⟨[M], And.intro h.1 (congrArg (fun x => [x]) h.2), rfl, by simp⟩)) (⟨_, _, And.intro rfl rfl, rfl⟩) ?_; rintro v Ms ⟨rfl, rfl⟩ _; simp only [setls, setl, reduceIte, Nat.reduceEqDiff]; (repeat (first | (apply HdM.val; rfl; rfl; (· first | apply gok_none ); (· first | (apply pv_ev; rfl) )) )))
  (refine HdM.nil ?_; intro H hH; simp only [Hp, fm, look, setl, List.flatMap_cons, List.flatMap_nil, reduceIte, Nat.reduceEqDiff, Option.getD_some, List.append_nil, List.cons_append, List.nil_append] at hH; subst hH)
  (repeat (first | ((first | (apply wo_v; rfl) ); (· first | (apply pv_ev; rfl) | (apply pv_fld; rfl) | (apply g_load; first | (apply pv_ld; rfl; (· (repeat (first | apply sel_here | apply sel_there))); rfl) ) | (apply g_bin; first | (apply pv_eql_s; rfl; rfl) ) | (apply g_un; first | (apply pv_not_t; rfl) ) )) | apply wo_nil | apply wc_seq | apply wc_region | apply wc_skip | (apply wc_true; rfl) | (apply wc_false; rfl) | (apply a_dec_t; rfl; (· first | assumption | omega)) | (apply a_dec_f; rfl; (· first | assumption | omega)) ))
  refine wo_v rfl (pv_mL_no rfl rfl (by (repeat (first | apply sel_here | apply sel_there)); done) hno) ?_
  (repeat (first | ((first | (apply wo_v; rfl) ); (· first | (apply pv_ev; rfl) | (apply g_un; first | (apply pv_not_t; rfl) | (apply pv_not_f; rfl) ) )) | apply wo_nil | apply wc_seq | apply wc_region | (apply wc_true; rfl) | (apply wo_alloc; rfl; intro bx) | (apply wo_sta; rfl; rfl; rfl; rfl; (· (repeat (first | apply sel_here ))); (· (repeat (first | apply LayAt.nil | apply LayAt.here ))); rfl) ))
  obtain ⟨b10, hb10⟩ : ∃ g, g = bx := ⟨_, rfl⟩
  subst hb10
  (refine wc_regM [0] (aslL [(6, [0])]) (tblMv2 (mP f B L ws ++ [(B + (j : Nat), pkV y.l 96 sq (3000 * (y.i : Int)) 7 pl, ck)]) (ck + 1)) ([pkB b10 false 0 0 0 0 ByteArray.empty, pkB b4 y.l 96 sq (3000 * (y.i : Int)) 7 pl, bfI bB bg nx mq lo, .ob mq (mL (mB B ws) ck), mkI bM (.slice ao op.length c) wh ml, u7 ao op.length c (gUs B L op), srI g bB bM true (B + (j : Nat)) cb cl mp ks]) (fm [(0, [.ob mp (mL (mP f B L ws) ck)])]) mixed (by kernel_rfl) (by kernel_rfl) (by decide) (aslL_ok (by decide)) (by (repeat (first | (apply prm_cons; (· (repeat (first | apply sel_here | apply sel_there)))) | apply List.Perm.nil )); done) ?_; (repeat (first | (apply HdM.val; rfl; rfl; (· first | apply gok_none ); (· first | (apply pv_ev; rfl) | (apply pv_fld; rfl) | (apply g_load; first | (apply pv_ld; rfl; (· (repeat (first | apply sel_here | apply sel_there))); rfl) | (apply pv_lda; rfl; (· (repeat (first | apply sel_here | apply sel_there))); (· (repeat (first | apply Cut.here0 | apply Cut.here )))) ) )) )))
  (refine hm_eff (cs := [0]) rfl (by decide) rfl rfl (by first | exact gok_none | exact gok_run rfl rfl) (fun a ha => outc_mono (outc_mLput rfl rfl rfl hno a ha) (fun v M h => ⟨[M], And.intro h.1 (congrArg (fun x => [x]) h.2), rfl, by simp⟩)) (⟨_, _, And.intro rfl rfl, rfl⟩) ?_; rintro v Ms ⟨rfl, rfl⟩ _; simp only [setls, setl, reduceIte, Nat.reduceEqDiff]; (repeat (first | fail )))
  (refine HdM.nil ?_; intro H hH; simp only [Hp, fm, look, setl, List.flatMap_cons, List.flatMap_nil, reduceIte, Nat.reduceEqDiff, Option.getD_some, List.append_nil, List.cons_append, List.nil_append] at hH; subst hH)
  rw [← hpk, mP_snoc]
  (repeat (first | ((first | (apply wo_v; rfl) ); (· first | (apply pv_ev; rfl) | (apply pv_fld; rfl) | (apply g_load; first | (apply pv_ld; rfl; (· (repeat (first | apply sel_here | apply sel_there))); rfl) ) | (apply g_build; apply pv_build; (· (repeat (first | apply Bld.nil | (apply Bld.one; rfl; rfl; (· (repeat (first | apply SetAt.here | apply SetAt.there)))) )))) )) | apply wc_seq | apply wc_region ))
  (refine wo_call (hB2) rfl (by (repeat (first | apply sub_nil | (apply sub_cons; (· (repeat (first | apply sel_here | apply sel_there)))))); done) (by first | exact fun _ h => h | (intro r hr; cases hr; done) | (simp; done) | exact fun _ h => List.mem_append_left _ h | (intro r hr; simp [hr]; done)) rfl ?_; rintro v L' R' ⟨d, p', ws', lo', a7, c7, rfl, rfl, rfl, hq, hst, hlo2⟩ H' hH RR hR; simp only [List.cons_append, List.nil_append] at hH hR; subst hH; have hR := hR.symm; subst hR)
  rw [hq.app]
  have hqJ := hq.leJ
  have hdn : d.length ≤ p' - p := by
    have h7 := congrArg List.length hq.dx
    have h8 := ng_len (G := G) p p'
    rw [List.length_map] at h7
    omega
  have hqp := hq.le
  have hFr := iFramesG hw hL f B hf hBb g bB bM true (B + (j : Nat)) mp (ck + 1) ws' cb cl ks wh ml ao c op fs p p' (p + t) (by omega) d a7 c7 hq.dx ⟨hq.le, by omega⟩ hfx hck hbd (.inl rfl)
  (repeat (first | ((first | (apply wo_v; rfl) ); (· first | (apply pv_ev; rfl) )) | apply wo_nil | apply wc_seq | apply wc_region | apply wc_skip | (apply wc_true; rfl) | (apply wc_false; rfl) ))
  (refine wo_call (hFr) rfl (by (repeat (first | apply sub_nil | (apply sub_cons; (· (repeat (first | apply sel_here | apply sel_there)))))); done) (by first | exact fun _ h => h | (intro r hr; cases hr; done) | (simp; done) | exact fun _ h => List.mem_append_left _ h | (intro r hr; simp [hr]; done)) rfl ?_; rintro v L' R' ⟨new, op2, cb2, cl2, ks2, wh2, ml2, ao2, c2, oo, oc, rfl, rfl, hF1, hF2, hF3, hF4⟩ H' hH RR hR; simp only [List.cons_append, List.nil_append] at hH hR; subst hH; have hR := hR.symm; subst hR)
  (repeat (first | ((first | (apply wo_v; rfl) ); (· first | (apply pv_ev; rfl) )) | apply wo_nil | apply wc_ret ))
  refine ret2 rfl rfl rfl ⟨new, ⟨true, B + (j : Nat), true, lo', cb2, cl2, ks2, wh2, ml2, ws', ck + 1, ao2, c2, op2, p'⟩, oo, oc, rfl, rfl, hF1.mono (fun r hr => hr), ⟨.inr ⟨by omega, rfl, ⟨j, by omega, rfl⟩, rfl⟩, hlo2, hq.ok, hqJ, hst, hF2, hF3, hF4.mono (by dsimp only; omega)⟩⟩ ((by (repeat (first | apply sub_nil | (apply sub_cons; (· (repeat (first | apply sel_here | apply sel_there)))))); done) : List.Perm _ ([_, _, _, _, _, _, _] ++ _)) (by first | exact fun _ h => h | (intro r hr; cases hr; done) | (simp; done) | exact fun _ h => List.mem_append_left _ h | (intro r hr; simp [hr]; done))
/-- Tick of a buffer -/
theorem oTickA (b mp : Nat) (B lo now : Int) (G : Nat → Bool) (bg : Bool) (p J : Nat) (ws : List (Nat × Nat)) (ck : Nat) (hB : 0 ≤ B ∧ B ≤ 1000000000000) (hJ : J ≤ 90) (hp : p ≤ J) (hlo : 0 ≤ lo ∧ lo ≤ (p : Int)) (hw : WGk G p J ws ck) (hst0 : p < J → G p = true) (hnow : 0 ≤ now ∧ now ≤ 1000) (hbg : bg = true ∨ ws = []) :
    Fn Try.prog 98 #[.pointer (some ⟨b, 0, none⟩), .int .i64 now] [bfI b bg (nxv bg B p) mp lo, .ob mp (mL (mB B ws) ck)] [] (fun v L' R' => ∃ d p' ws' lo' ao c, v = .slice ao (d : List (Nat × Nat)).length c ∧ (L' = [bfI b bg (nxv bg B p') mp lo', .ob mp (mL (mB B ws') ck), tO ao c B d] ∧ R' = [] ∧ RP G p J ws ck d p' ws' ∧ (p' < J → G p' = true) ∧ (0 ≤ lo' ∧ lo' ≤ (p' : Int))) ∧ ((J : Int) + 2 ≤ now → ws' = []) ∧ (bg = false → p' = p ∧ lo' = lo ∧ ws' = ws)) := by
  cases bg with
  | true => exact (oTickG b mp B lo now G p J ws ck hB hJ hp hlo hw hst0 hnow).mono fun v L' R' ⟨d, p', ws', lo', ao, c, h1, h2, h3⟩ => ⟨d, p', ws', lo', ao, c, h1, h2, h3, fun h => by cases h⟩
  | false =>
    obtain rfl : ws = [] := hbg.resolve_left (by decide)
    refine fn_intro Try.func98 rfl Try.ntmps98 rfl (fun E => ?_)
    (repeat (first | ((first | (apply wo_v; rfl) ); (· first | (apply pv_ev; rfl) )) | apply wo_nil | apply wc_seq | apply wc_region ))
    refine wc_own0 218 3 ?_
    refine wc_block ?_
    refine wc_loop' (fun q st => q = 0 ∧ st = ⟨[(0, .pointer (some ⟨b, 0, none⟩)), (1, .int .i64 now), (5, .slice none 0 0)], [bfI b false (nxv false B p) mp lo, .ob mp (mL (mB B []) ck), tO none 0 B []], []⟩) ⟨rfl, rfl⟩ (wk_mk (by (repeat (first | apply wkf_nil | (apply wkf_cons; rfl))); done) (by (repeat (first | apply sub_nil | (apply sub_cons; (· (repeat (first | apply sel_here | apply sel_there)))))); done) (by first | exact fun _ h => h | (intro r hr; cases hr; done) | (simp; done) | exact fun _ h => List.mem_append_left _ h | (intro r hr; simp [hr]; done))) ?_
    rintro q st ⟨rfl, rfl⟩
    (repeat (first | ((first | (apply wo_v; rfl) ); (· first | (apply pv_ev; rfl) | (apply pv_fld; rfl) | (apply g_load; first | (apply pv_ld; rfl; (· (repeat (first | apply sel_here ))); rfl) ) | (apply g_bi; first | fail ) )) | apply wc_seq | apply wc_region ))
    refine wo_v rfl (pv_mL_len rfl (by (repeat (first | apply sel_here | apply sel_there)); done)) ?_
    rw [show (mB B ([] : List (Nat × Nat))).length = 0 from rfl]
    (repeat (first | ((first | (apply wo_v; rfl) ); (· first | (apply pv_ev; rfl) )) | apply wo_nil | apply wc_seq | apply wc_region | (apply wc_exit; rfl) | apply wc_ret | (apply wc_true; rfl) | (apply wc_false; rfl) ))
    exact ret1 rfl rfl ⟨[], p, [], lo, none, 0, rfl, ⟨rfl, rfl, RP.refl hw hp, hst0, hlo⟩, fun _ => rfl, fun _ => ⟨rfl, rfl, rfl⟩⟩ ((by (repeat (first | apply sub_nil )); done) : List.Perm _ ([_, _, _] ++ _)) (by first | exact fun _ h => h | (intro r hr; cases hr; done) | (simp; done) | exact fun _ h => List.mem_append_left _ h | (intro r hr; simp [hr]; done))
set_option maxHeartbeats 32000000 in
theorem iTickG {L : List Sg} {G : Nat → Bool} (hw : WFS L) (hL : L.length ≤ 59) (hlast : ∀ x, L[L.length - 1]? = some x → x.l = true) (f B : Int) (hf : 0 ≤ f ∧ f ≤ 65535) (hB : B = 1048576 + f) (g bB bM mp mq : Nat) (t : Nat) (ht : t ≤ 20) (now : Int) (hnow : 0 ≤ now ∧ now ≤ 1000) (fs : List (List Nat)) (s : Ig3) (h : IgOk L G B L.length t fs s) :
    Fn Try.prog 43 #[.pointer (some ⟨g, 0, none⟩), .int .i64 now] (igG g bB bM mp mq f B L s) []
      (fun v L' R' => ∃ new s' oo oc, v = .slice oo (new : List Fr3).length oc ∧ GPost g bB bM mp mq f B L G L.length (t + 1) fs L' R' new s' oo oc ∧ ((L.length : Int) + 2 ≤ now → s'.ws = [])) := by
  obtain ⟨sb, sm, bg, lo, cb, cl, ks, wh, ml, ws, ck, ao, c, op, p⟩ := s
  obtain ⟨hst, hlo, hwk, hpj, hstp, hfx, hck, hbd⟩ := h
  dsimp only at hst hlo hwk hpj hstp hfx hck hbd
  have hBb : 0 ≤ B ∧ B ≤ 1000000000000 := by omega
  have hbg : bg = true ∨ ws = [] := by
    rcases hst with ⟨_, _, _, _, _, h, _⟩ | ⟨_, _, _, h⟩
    · exact .inr h
    · exact .inl h
  have hB2 := oTickA bB mq B lo now G bg p L.length ws ck hBb (by omega) hpj hlo hwk hstp hnow hbg
  show Fn Try.prog _ _ [srI g bB bM sb sm cb cl mp ks, .ob mp (mL (mP f B L ws) ck), mkI bM (.slice ao op.length c) wh ml, u7 ao op.length c (gUs B L op), bfI bB bg (nxv bg B p) mq lo, .ob mq (mL (mB B ws) ck)] _ _
  generalize hnx : nxv bg B p = nx at hB2 ⊢
  refine fn_intro Try.func43 rfl Try.ntmps43 rfl (fun E => ?_)
  (repeat (first | ((first | (apply wo_v; rfl) ); (· first | (apply pv_ev; rfl) | (apply pv_fld; rfl) | (apply g_load; first | (apply pv_ld; rfl; (· (repeat (first | apply sel_here ))); rfl) ) )) | apply wo_nil | apply wc_seq | apply wc_region ))
  (refine wo_call (hB2) rfl (by (repeat (first | apply sub_nil | (apply sub_cons; (· (repeat (first | apply sel_here | apply sel_there)))))); done) (by first | exact fun _ h => h | (intro r hr; cases hr; done) | (simp; done) | exact fun _ h => List.mem_append_left _ h | (intro r hr; simp [hr]; done)) rfl ?_; rintro v L' R' ⟨d, p', ws', lo', a7, c7, rfl, ⟨rfl, rfl, hq, hst2, hlo2⟩, hnw, hbf⟩ H' hH RR hR; simp only [List.cons_append, List.nil_append] at hH hR; subst hH; have hR := hR.symm; subst hR)
  rw [hq.app]
  have hqJ := hq.leJ
  have hdn : d.length ≤ p' - p := by
    have h7 := congrArg List.length hq.dx
    have h8 := ng_len (G := G) p p'
    rw [List.length_map] at h7
    omega
  have hqp := hq.le
  have hsb : sb = true ∨ d = [] := by
    rcases hst with ⟨_, _, _, _, _, h, _⟩ | ⟨_, h, _⟩
    · have := hq.app
      rw [h] at this
      exact .inr (List.append_eq_nil_iff.1 this.symm).1
    · exact .inl h
  have hFr := iFramesG hw hL f B hf hBb g bB bM sb sm mp ck ws' cb cl ks wh ml ao c op fs p p' (p + t) (by omega) d a7 c7 hq.dx ⟨hq.le, by omega⟩ hfx hck hbd hsb
  (repeat (first | ((first | (apply wo_v; rfl) ); (· first | (apply pv_ev; rfl) )) ))
  (refine wo_call (hFr) rfl (by (repeat (first | apply sub_nil | (apply sub_cons; (· (repeat (first | apply sel_here | apply sel_there)))))); done) (by first | exact fun _ h => h | (intro r hr; cases hr; done) | (simp; done) | exact fun _ h => List.mem_append_left _ h | (intro r hr; simp [hr]; done)) rfl ?_; rintro v L' R' ⟨new, op2, cb2, cl2, ks2, wh2, ml2, ao2, c2, oo, oc, rfl, rfl, hF1, hF2, hF3, hF4⟩ H' hH RR hR; simp only [List.cons_append, List.nil_append] at hH hR; subst hH; have hR := hR.symm; subst hR)
  (repeat (first | ((first | (apply wo_v; rfl) ); (· first | (apply pv_ev; rfl) | (apply pv_fld; rfl) | (apply g_load; first | (apply pv_ld; rfl; (· (repeat (first | apply sel_here ))); rfl) ) )) | apply wo_nil | apply wc_seq | apply wc_region ))
  refine wo_somep (ao := ao2) (n := op2.length) (by (repeat (first | apply sel_here | apply sel_there)); done) (fun ha2 => ?_)
  have hF4 := hF4.mono (m := p' + t) (by omega)
  have hb4 := hF4.lo
  have hl4 := hF2.len
  have hTk := fTick bM ao2 op2.length c2 (gUs B L op2) wh2 ml2 now ⟨by simp, ha2⟩ (by omega) (by omega) hnow (fun u hu => by
    obtain ⟨i, hi, rfl⟩ := List.mem_map.1 hu
    have hi2 := hF2.lt i hi
    unfold gUn
    split
    · dsimp only; omega
    · exact ⟨by decide, by decide⟩)
  have hst3 : ∀ (ml3 : Int) (ao3 : Option Addr) (c3 : Nat) (op3 : List Nat), FX L G p' (fs ++ new.map (·.1)) op3 → (0 ≤ ml3 ∧ ml3 ≤ ml2 + 4) → IgOk L G B L.length (t + 1) (fs ++ new.map (·.1)) ⟨sb, sm, bg, lo', cb2, cl2, ks2, wh2, ml3, ws', ck, ao3, c3, op3, p'⟩ := fun ml3 ao3 c3 op3 h1 h2 => by
    obtain ⟨hb5, hb6, hb7⟩ := hF4
    refine ⟨?_, hlo2, hq.ok, hqJ, hst2, h1, hF3, ⟨by dsimp only; omega, by dsimp only; omega, by dsimp only; omega⟩⟩
    rcases hst with ⟨g1, g2, g3, g4, g5, g6, g7, g8⟩ | h
    · obtain ⟨r1, r2, r3⟩ := hbf g4
      exact .inl ⟨g1, g2, g3, g4, r2.trans g5, r3.trans g6, g7, r1.trans g8⟩
    · exact .inr h
  have hdrop : FX L G p' (fs ++ new.map (·.1)) [] := hF2.drop hw hlast (by
    by_cases he : p' = L.length
    · exact .inl he
    · exact .inr ⟨by omega, hst2 (by omega)⟩)
  (refine wo_call (hTk) rfl (by (repeat (first | apply sub_nil | (apply sub_cons; (· (repeat (first | apply sel_here | apply sel_there)))))); done) (by first | exact fun _ h => h | (intro r hr; cases hr; done) | (simp; done) | exact fun _ h => List.mem_append_left _ h | (intro r hr; simp [hr]; done)) rfl ?_; rintro v L' R' ⟨rfl, x, rfl, rfl | rfl⟩ H' hH RR hR; simp only [List.cons_append, List.nil_append] at hH hR; subst hH; have hR := hR.symm; subst hR)
  · (repeat (first | ((first | (apply wo_v; rfl) ); (· first | (apply pv_ev; rfl) )) | apply wo_nil | apply wc_seq | apply wc_region | apply wc_ret ))
    exact ret1 rfl rfl ⟨new, ⟨sb, sm, bg, lo', cb2, cl2, ks2, wh2, ml2, ws', ck, ao2, c2, op2, p'⟩, oo, oc, rfl, ⟨rfl, hF1, hst3 ml2 ao2 c2 op2 hF2 (by omega)⟩, hnw⟩ ((by (repeat (first | apply sub_nil | (apply sub_cons; (· (repeat (first | apply sel_here | apply sel_there)))))); done) : List.Perm _ ([_, _, _, _, _, _, _] ++ _)) (by first | exact fun _ h => h | (intro r hr; cases hr; done) | (simp; done) | exact fun _ h => List.mem_append_left _ h | (intro r hr; simp [hr]; done))
  · simp only [List.cons_append, List.nil_append] at hH hR
    subst hH
    have hR := hR.symm
    subst hR
    refine wo_own0 106 7 ?_
    (repeat (first | ((first | (apply wo_v; rfl) ); (· first | (apply pv_ev; rfl) )) | apply wo_nil | apply wc_seq | apply wc_region | apply wc_ret ))
    exact ret1 rfl rfl ⟨new, ⟨sb, sm, bg, lo', cb2, cl2, ks2, wh2, ml2 + op2.length, ws', ck, none, 0, [], p'⟩, oo, oc, rfl, ⟨rfl, hF1, hst3 (ml2 + op2.length) none 0 [] hdrop (by omega)⟩, hnw⟩ ((by (repeat (first | apply sub_nil | (apply sub_cons; (· (repeat (first | apply sel_here | apply sel_there)))))); done) : List.Perm _ ([_, _, _, _, _, _, _] ++ _)) (by first | exact fun _ h => h | (intro r hr; cases hr; done) | (simp; done) | exact fun _ h => List.mem_append_left _ h | (intro r hr; simp [hr]; done))
end Go.Proofs.Ytlhlidmhlhodiaa
