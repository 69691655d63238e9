/-
  Texts of this proof, laid together (part 4 of 7).
-/
import Derived.Test.YteaccbbmphcmnaaB3
/-
  Package rtcp: what packets write: blocks, Receiver, Sender, Bye.
-/
namespace Go.Proofs.Yteaccbbmphcmnaa
set_option linter.unusedSimpArgs false
set_option linter.unusedVariables false
open Go.RowKit
attribute [local irreducible] Pv WO WC Fn
set_option maxRecDepth 100000
attribute [local irreducible] ByteArray.extract

def bkT (b : Bk) : ByteArray := numsS 4 [b.ss] ++ (numsS 1 [b.lo] ++ (numsS 3 [b.tt] ++ numsS 4 [b.la, b.ji, b.ls, b.dl]))
def bksT : List Bk → ByteArray
  | [] => E0
  | x :: l => bkT x ++ bksT l
theorem bksT_app : ∀ a b, bksT (a ++ b) = bksT a ++ bksT b
  | [], b => (E0_append _).symm
  | x :: a, b => by
    show bkT x ++ bksT (a ++ b) = (bkT x ++ bksT a) ++ bksT b
    rw [bksT_app a b, ByteArray.append_assoc]
theorem bksT_take {l : List Bk} {j : Nat} {x : Bk} (h : l[j]? = some x) : bksT (l.take (j + 1)) = bksT (l.take j) ++ bkT x := by
  rw [List.take_add_one, h, bksT_app]
  show bksT (l.take j) ++ (bkT x ++ E0) = _
  rw [append_E0]
theorem bkT_size (x : Bk) : (bkT x).size = 24 := by unfold bkT; simp only [ByteArray.size_append, numsS_size]; rfl
theorem bksT_size : ∀ l : List Bk, (bksT l).size = 24 * l.length
  | [] => rfl
  | x :: l => by
    show (bkT x ++ bksT l).size = _
    rw [ByteArray.size_append, bkT_size, bksT_size l, List.length_cons]; omega
abbrev bkB (b : Nat) (x1 x2 x3 x4 x5 x6 x7 : Int) : It := .ob b (.cells #[.int .u32 x1, .int .u8 x2, .int .u32 x3, .int .u32 x4, .int .u32 x5, .int .u32 x6, .int .u32 x7] 160 (0, 0))
def tblBk (g : Nat) (x1 x2 x3 x4 x5 x6 x7 : Int) (T1 T2 T3 T4 : ByteArray) : Nat → List (List It) → Value → List (List It) → Prop := fun k Ls v Ms => match k with
  | 3 => newP 37 [[.int .u32 x1]] v Ms
  | 4 => wrP0 g T1 v Ms
  | 7 => newP 5 [[.int .u8 x2]] v Ms
  | 8 => wrP0 g T2 v Ms
  | 12 => newP 52 [[.int .u64 x3]] v Ms
  | 13 => wrP0 g T3 v Ms
  | 22 => newP 37 [[.int .u32 x4], [.int .u32 x5], [.int .u32 x6], [.int .u32 x7]] v Ms
  | _ => wrP0 g T4 v Ms
set_option maxHeartbeats 16000000 in
theorem pBlocks (R : List Ro) (g : Nat) (p0 ao0 : Option Addr) (c0 : Nat) (s : ByteArray) (l : List Bk) (A : Option Addr) (n c : Nat) (hS : SQ R 7 A n c (blkV l)) (hl : l.length ≤ 10000) (hb : ∀ b ∈ l, b.ok) (hw0 : WOk g p0 ao0 c0 s) (hs0 : s.size ≤ 1000000) :
    Fn Try.prog 114 #[.pointer (some ⟨g, 0, none⟩), .slice A n c] (wrH g p0 ao0 c0 s) R (fun v L' R' => ∃ p ao c', v = .tuple #[] ∧ L' = wrH g p ao c' (s ++ bksT l) ∧ R' = [] ∧ WOk g p ao c' (s ++ bksT l)) := by
  have hn : n = l.length := by rw [← hS.len, blkV_len]
  subst hn
  refine fn_intro Try.func114 rfl Try.ntmps114 rfl (fun E => ?_)
  (repeat (first | ((first | (apply wo_v; rfl) ); (· first | (apply pv_ev; rfl) | (apply g_bi; first | (apply pv_len_sl; rfl) ) )) | apply wo_nil | apply wc_seq | apply wc_region ))
  refine wc_block ?_
  refine wc_loop' (fun q st => ∃ (i : Nat) (p ao : Option Addr) (c' : Nat) (u : ByteArray), q = l.length - i ∧ i ≤ l.length ∧ u = s ++ bksT (l.take i) ∧ WOk g p ao c' u ∧ st = ⟨[(0, .pointer (some ⟨g, 0, none⟩)), (6, .slice A l.length c), (7, .int .i64 l.length), (8, .int .i64 i)], wrH g p ao c' u, R⟩) ⟨0, p0, ao0, c0, s, rfl, Nat.zero_le _, (append_E0 _).symm, hw0, rfl⟩ (wk_mk (by (repeat (first | apply wkf_nil | (apply wkf_cons; rfl))); done) (by (repeat (first | apply sub_nil )); done) (by first | exact fun _ h => h | (intro r hr; cases hr; done) | (simp; done) | exact fun _ h => List.mem_append_left _ h | (intro r hr; simp [hr]; done))) ?_
  clear hw0
  rintro q st ⟨i, p, ao, c', u, rfl, hi, hs, hw, rfl⟩
  by_cases hlt : i < l.length
  · obtain ⟨x, hx⟩ : ∃ x, l[i]? = some x := ⟨_, List.getElem?_eq_getElem hlt⟩
    have hr := blkV_at hx
    have hok := hb _ (List.mem_of_getElem? hx)
    have hnx := bksT_take hx
    have hsz := bksT_size (l.take i)
    obtain ⟨x1, x2, x3, x4, x5, x6, x7⟩ := x
    unfold Bk.ok at hok
    unfold bkT at hnx
    dsimp only at hr hok hnx
    obtain ⟨k1, k2, k3, k4, k5, k6, k7⟩ := hok
    have hsz2 : u.size ≤ 1000000 + 24 * i := by rw [hs, ByteArray.size_append, hsz, List.length_take]; omega
    obtain ⟨T1, hT1⟩ : ∃ T1, u ++ numsS 4 [x1] = T1 := ⟨_, rfl⟩
    obtain ⟨T2, hT2⟩ : ∃ T2, T1 ++ numsS 1 [x2] = T2 := ⟨_, rfl⟩
    obtain ⟨T3, hT3⟩ : ∃ T3, T2 ++ numsS 3 [x3] = T3 := ⟨_, rfl⟩
    obtain ⟨T4, hT4⟩ : ∃ T4, T3 ++ numsS 4 [x4, x5, x6, x7] = T4 := ⟨_, rfl⟩
    have z1 : T1.size = u.size + 4 := by rw [← hT1, ByteArray.size_append, numsS_size]; rfl
    have z2 : T2.size = u.size + 5 := by rw [← hT2, ByteArray.size_append, numsS_size, z1]; rfl
    have z3 : T3.size = u.size + 8 := by rw [← hT3, ByteArray.size_append, numsS_size, z2]; rfl
    have hnx2 : T4 = s ++ bksT (l.take (i + 1)) := by rw [hnx, ← hT4, ← hT3, ← hT2, ← hT1, hs]; simp only [ByteArray.append_assoc]
    obtain ⟨a0, o0, rfl, hmem⟩ := hS.pos (by omega)
    have hW1 := fun c p ao hw bl => wU32 g c bl 1 p ao u [x1] (all1 (P := in32) k1) (by simp) hw (by omega)
    rw [hT1] at hW1
    have hW2 := fun c p ao hw bl => wU8L g c bl p ao T1 [x2] (all1 (P := in8) k2) (by simp) (by simp) hw (by omega)
    rw [hT2] at hW2
    have hW3 := fun c p ao hw bl => wNum g c bl 1 p ao T2 3 3 [x3] rfl (all1 (P := fun x => 0 ≤ x ∧ x ≤ 18446744073709551615) (by omega)) (by simp) hw (by omega)
    rw [hT3] at hW3
    have hW4 := fun c p ao hw bl => wU32 g c bl 4 p ao T3 [x4, x5, x6, x7] (all4' (P := in32) k4 k5 k6 k7) (by simp) hw (by omega)
    rw [hT4] at hW4
    (repeat (first | ((first | (apply wo_v; rfl) ); (· first | (apply pv_ev; rfl) )) | apply wo_nil | apply wc_seq | apply wc_region | apply wc_skip | (apply wc_true; rfl) | (apply wc_false; rfl) | (apply a_dec_t; rfl; (· first | assumption | omega)) ))
    refine wc_block ?_
    (repeat (first | ((first | (apply wo_v; rfl) ); (· first | (apply pv_ev; rfl) | (apply g_load; first | (apply pv_lda; rfl; (· (repeat (first | apply sel_there))); (· (repeat (first | fail )))) | (apply pv_ld_owna; rfl; (· (repeat (first | apply sel_there))); (· assumption)) | (apply pv_ld_roa; rfl; (· (first | assumption )); (· assumption))) | (apply g_idx; first | (apply pv_idx; rfl; rfl; omega) ) )) | apply wo_nil | apply wc_seq | apply wc_region | (apply wo_alloc; rfl; intro bx) | (apply wo_sta; rfl; rfl; rfl; rfl; (· (repeat (first | apply sel_here ))); (· (repeat (first | apply LayAt.nil | apply LayAt.here ))); rfl) ))
    obtain ⟨bo, hbo⟩ : ∃ g, g = bx := ⟨_, rfl⟩
    subst hbo
    (refine wc_regM [0, 1, 2, 3, 4] (aslL [(3, [1]), (4, [0, 1]), (7, [2]), (8, [0, 2]), (12, [3]), (13, [0, 3]), (22, [4]), (23, [0, 4])]) (tblBk g x1 x2 x3 x4 x5 x6 x7 T1 T2 T3 T4) ([bkB bo x1 x2 x3 x4 x5 x6 x7]) (fm [(0, wrH g p ao c' u), (1, []), (2, []), (3, []), (4, [])]) mixed (by kernel_rfl) (by kernel_rfl) (by decide) (aslL_ok (by decide)) (by (repeat (first | (apply prm_cons; (· (repeat (first | apply sel_here )))) | apply List.Perm.nil )); done) ?_; (repeat (first | (apply HdM.val; rfl; rfl; (· first | apply gok_none ); (· first | (apply pv_ev; rfl) | (apply pv_fld; rfl) | (apply g_load; first | (apply pv_ld; rfl; (· (repeat (first | apply sel_here ))); rfl) ) )) )))
    (refine hm_eff (cs := [1]) rfl (by decide) rfl rfl (by first | exact gok_none | exact gok_run rfl rfl) (fun a ha => outc_mono (outc_bsl (by (repeat (first | apply Rws'.nil | (apply Rws'.one; rfl; rfl; rfl) )); done) rfl rfl rfl a ha) (fun v M h => by obtain ⟨b, h1, h2⟩ := h; exact ⟨[M], ⟨b, h1, congrArg (fun x => [x]) h2⟩, rfl, by simp⟩)) (⟨_, _, Exists.intro 0 (And.intro rfl rfl), rfl⟩) ?_; rintro v Ms ⟨bw1, rfl, rfl⟩ _; simp only [setls, setl, reduceIte, Nat.reduceEqDiff]; (repeat (first | (apply HdM.val; rfl; rfl; (· first | fail ); (· first | fail )) )))
    (refine hm_eff (cs := [0, 1]) rfl (by decide) rfl rfl (by first | exact gok_none | exact gok_run rfl rfl) (fun a ha => outc_mono (outc_call (F1 := _) (T := fun v M => ∃ (p ao : Option Addr) (c : Nat), v = .pointer (some ⟨g, 0, none⟩) ∧ M = wrH g p ao c T1 ∧ WOk g p ao c T1) (hW1 c' p ao hw bw1) rfl (by (repeat (first | apply sub_nil )); done) (by first | exact fun _ h => h | (intro r hr; cases hr; done) | (simp; done) | exact fun _ h => List.mem_append_left _ h | (intro r hr; simp [hr]; done)) (by rintro v L' R' ⟨p', ao', c', rfl, rfl, _, hw'⟩; exact ⟨_, ⟨p', ao', c', rfl, rfl, hw'⟩, (by (repeat (first | (apply prm_cons; (· (repeat (first | apply sel_here )))) | apply List.Perm.nil )); done)⟩) a ha) (fun v M h => Exists.elim h fun p h => Exists.elim h fun ao h => Exists.elim h fun c h => ⟨[M, []], Exists.intro p (Exists.intro ao (Exists.intro c (And.intro h.1 (And.intro (congrArg (fun x => [x, []]) h.2.1) h.2.2)))), rfl, by simp⟩)) ((by obtain ⟨p, ao, c, h⟩ := WOk.ex g T1; exact ⟨_, _, Exists.intro p (Exists.intro ao (Exists.intro c (And.intro rfl (And.intro rfl h)))), rfl⟩)) ?_; rintro v Ms ⟨pc1, aoc1, cc1, rfl, rfl, hwc1⟩ _; simp only [setls, setl, reduceIte, Nat.reduceEqDiff]; (repeat (first | (apply HdM.val; rfl; rfl; (· first | apply gok_none ); (· first | (apply pv_ev; rfl) | (apply pv_fld; rfl) | (apply g_load; first | (apply pv_ld; rfl; (· (repeat (first | apply sel_here ))); rfl) ) )) )))
    (refine hm_eff (cs := [2]) rfl (by decide) rfl rfl (by first | exact gok_none | exact gok_run rfl rfl) (fun a ha => outc_mono (outc_bsl (by (repeat (first | apply Rws'.nil | (apply Rws'.one; rfl; rfl; rfl) )); done) rfl rfl rfl a ha) (fun v M h => by obtain ⟨b, h1, h2⟩ := h; exact ⟨[M], ⟨b, h1, congrArg (fun x => [x]) h2⟩, rfl, by simp⟩)) (⟨_, _, Exists.intro 0 (And.intro rfl rfl), rfl⟩) ?_; rintro v Ms ⟨bw2, rfl, rfl⟩ _; simp only [setls, setl, reduceIte, Nat.reduceEqDiff]; (repeat (first | (apply HdM.val; rfl; rfl; (· first | fail ); (· first | fail )) )))
    (refine hm_eff (cs := [0, 2]) rfl (by decide) rfl rfl (by first | exact gok_none | exact gok_run rfl rfl) (fun a ha => outc_mono (outc_call (F1 := _) (T := fun v M => ∃ (p ao : Option Addr) (c : Nat), v = .pointer (some ⟨g, 0, none⟩) ∧ M = wrH g p ao c T2 ∧ WOk g p ao c T2) (hW2 cc1 pc1 aoc1 hwc1 bw2) rfl (by (repeat (first | apply sub_nil )); done) (by first | exact fun _ h => h | (intro r hr; cases hr; done) | (simp; done) | exact fun _ h => List.mem_append_left _ h | (intro r hr; simp [hr]; done)) (by rintro v L' R' ⟨p', ao', c', rfl, rfl, _, hw'⟩; exact ⟨_, ⟨p', ao', c', rfl, rfl, hw'⟩, (by (repeat (first | (apply prm_cons; (· (repeat (first | apply sel_here )))) | apply List.Perm.nil )); done)⟩) a ha) (fun v M h => Exists.elim h fun p h => Exists.elim h fun ao h => Exists.elim h fun c h => ⟨[M, []], Exists.intro p (Exists.intro ao (Exists.intro c (And.intro h.1 (And.intro (congrArg (fun x => [x, []]) h.2.1) h.2.2)))), rfl, by simp⟩)) ((by obtain ⟨p, ao, c, h⟩ := WOk.ex g T2; exact ⟨_, _, Exists.intro p (Exists.intro ao (Exists.intro c (And.intro rfl (And.intro rfl h)))), rfl⟩)) ?_; rintro v Ms ⟨pc2, aoc2, cc2, rfl, rfl, hwc2⟩ _; simp only [setls, setl, reduceIte, Nat.reduceEqDiff]; (repeat (first | (apply HdM.val; rfl; rfl; (· first | apply gok_none ); (· first | (apply pv_ev; rfl) | (apply pv_fld; rfl) | (apply g_load; first | (apply pv_ld; rfl; (· (repeat (first | apply sel_here ))); rfl) ) | (apply g_conv; first | (apply a_conv; rfl; infer_instance; infer_instance; infer_instance; omega) ) )) )))
    (refine hm_eff (cs := [3]) rfl (by decide) rfl rfl (by first | exact gok_none | exact gok_run rfl rfl) (fun a ha => outc_mono (outc_bsl (by (repeat (first | apply Rws'.nil | (apply Rws'.one; rfl; rfl; rfl) )); done) rfl rfl rfl a ha) (fun v M h => by obtain ⟨b, h1, h2⟩ := h; exact ⟨[M], ⟨b, h1, congrArg (fun x => [x]) h2⟩, rfl, by simp⟩)) (⟨_, _, Exists.intro 0 (And.intro rfl rfl), rfl⟩) ?_; rintro v Ms ⟨bw3, rfl, rfl⟩ _; simp only [setls, setl, reduceIte, Nat.reduceEqDiff]; (repeat (first | (apply HdM.val; rfl; rfl; (· first | fail ); (· first | fail )) )))
    (refine hm_eff (cs := [0, 3]) rfl (by decide) rfl rfl (by first | exact gok_none | exact gok_run rfl rfl) (fun a ha => outc_mono (outc_call (F1 := _) (T := fun v M => ∃ (p ao : Option Addr) (c : Nat), v = .pointer (some ⟨g, 0, none⟩) ∧ M = wrH g p ao c T3 ∧ WOk g p ao c T3) (hW3 cc2 pc2 aoc2 hwc2 bw3) rfl (by (repeat (first | apply sub_nil )); done) (by first | exact fun _ h => h | (intro r hr; cases hr; done) | (simp; done) | exact fun _ h => List.mem_append_left _ h | (intro r hr; simp [hr]; done)) (by rintro v L' R' ⟨p', ao', c', rfl, rfl, _, hw'⟩; exact ⟨_, ⟨p', ao', c', rfl, rfl, hw'⟩, (by (repeat (first | (apply prm_cons; (· (repeat (first | apply sel_here )))) | apply List.Perm.nil )); done)⟩) a ha) (fun v M h => Exists.elim h fun p h => Exists.elim h fun ao h => Exists.elim h fun c h => ⟨[M, []], Exists.intro p (Exists.intro ao (Exists.intro c (And.intro h.1 (And.intro (congrArg (fun x => [x, []]) h.2.1) h.2.2)))), rfl, by simp⟩)) ((by obtain ⟨p, ao, c, h⟩ := WOk.ex g T3; exact ⟨_, _, Exists.intro p (Exists.intro ao (Exists.intro c (And.intro rfl (And.intro rfl h)))), rfl⟩)) ?_; rintro v Ms ⟨pc3, aoc3, cc3, rfl, rfl, hwc3⟩ _; simp only [setls, setl, reduceIte, Nat.reduceEqDiff]; (repeat (first | (apply HdM.val; rfl; rfl; (· first | apply gok_none ); (· first | (apply pv_ev; rfl) | (apply pv_fld; rfl) | (apply g_load; first | (apply pv_ld; rfl; (· (repeat (first | apply sel_here ))); rfl) ) )) )))
    (refine hm_eff (cs := [4]) rfl (by decide) rfl rfl (by first | exact gok_none | exact gok_run rfl rfl) (fun a ha => outc_mono (outc_bsl (by (repeat (first | apply Rws'.nil | (apply Rws'.one; rfl; rfl; rfl) )); done) rfl rfl rfl a ha) (fun v M h => by obtain ⟨b, h1, h2⟩ := h; exact ⟨[M], ⟨b, h1, congrArg (fun x => [x]) h2⟩, rfl, by simp⟩)) (⟨_, _, Exists.intro 0 (And.intro rfl rfl), rfl⟩) ?_; rintro v Ms ⟨bw4, rfl, rfl⟩ _; simp only [setls, setl, reduceIte, Nat.reduceEqDiff]; (repeat (first | (apply HdM.val; rfl; rfl; (· first | fail ); (· first | fail )) )))
    (refine hm_eff (cs := [0, 4]) rfl (by decide) rfl rfl (by first | exact gok_none | exact gok_run rfl rfl) (fun a ha => outc_mono (outc_call (F1 := _) (T := fun v M => ∃ (p ao : Option Addr) (c : Nat), v = .pointer (some ⟨g, 0, none⟩) ∧ M = wrH g p ao c T4 ∧ WOk g p ao c T4) (hW4 cc3 pc3 aoc3 hwc3 bw4) rfl (by (repeat (first | apply sub_nil )); done) (by first | exact fun _ h => h | (intro r hr; cases hr; done) | (simp; done) | exact fun _ h => List.mem_append_left _ h | (intro r hr; simp [hr]; done)) (by rintro v L' R' ⟨p', ao', c', rfl, rfl, _, hw'⟩; exact ⟨_, ⟨p', ao', c', rfl, rfl, hw'⟩, (by (repeat (first | (apply prm_cons; (· (repeat (first | apply sel_here )))) | apply List.Perm.nil )); done)⟩) a ha) (fun v M h => Exists.elim h fun p h => Exists.elim h fun ao h => Exists.elim h fun c h => ⟨[M, []], Exists.intro p (Exists.intro ao (Exists.intro c (And.intro h.1 (And.intro (congrArg (fun x => [x, []]) h.2.1) h.2.2)))), rfl, by simp⟩)) ((by obtain ⟨p, ao, c, h⟩ := WOk.ex g T4; exact ⟨_, _, Exists.intro p (Exists.intro ao (Exists.intro c (And.intro rfl (And.intro rfl h)))), rfl⟩)) ?_; rintro v Ms ⟨pc4, aoc4, cc4, rfl, rfl, hwc4⟩ _; simp only [setls, setl, reduceIte, Nat.reduceEqDiff]; (repeat (first | fail )))
    (refine HdM.nil ?_; intro H hH; simp only [Hp, fm, look, setl, List.flatMap_cons, List.flatMap_nil, reduceIte, Nat.reduceEqDiff, Option.getD_some, List.append_nil, List.cons_append, List.nil_append] at hH; subst hH)
    (repeat (first | ((first | (apply wo_v; rfl) ); (· first | (apply pv_ev; rfl) | (apply g_bin; first | (apply a_add; rfl; rfl; infer_instance; omega) ) )) | apply wo_nil | apply wc_region ))
    exact loop_end ⟨i + 1, pc4, aoc4, cc4, T4, rfl, by omega, hnx2, hwc4, rfl⟩ (by omega) (wk_mk (by (repeat (first | apply wkf_nil | (apply wkf_cons; rfl))); done) (by (repeat (first | apply sub_nil | (apply sub_cons; (· (repeat (first | apply sel_here | apply sel_there)))))); done) (by first | exact fun _ h => h | (intro r hr; cases hr; done) | (simp; done) | exact fun _ h => List.mem_append_left _ h | (intro r hr; simp [hr]; done)))
  · have e : i = l.length := by omega
    subst e
    rw [List.take_length] at hs
    subst hs
    (repeat (first | ((first | (apply wo_v; rfl) ); (· first | (apply pv_ev; rfl) )) | apply wo_nil | apply wc_seq | apply wc_region | (apply wc_exit; rfl) | (apply wc_true; rfl) | (apply wc_false; rfl) | (apply a_dec_t; rfl; (· first | assumption | omega)) | (apply a_dec_f; rfl; (· first | assumption | omega)) ))
    exact ret0 rfl ⟨p, ao, c', rfl, rfl, rfl, hw⟩ (by (repeat (first | apply sub_nil )); done) (by first | exact fun _ h => h | (intro r hr; cases hr; done) | (simp; done) | exact fun _ h => List.mem_append_left _ h | (intro r hr; simp [hr]; done))
set_option maxHeartbeats 4000000 in
theorem pReceiver (R : List Ro) (g : Nat) (ss : Int) (l : List Bk) (A : Option Addr) (n c : Nat) (hS : SQ R 7 A n c (blkV l)) (hl : l.length ≤ 10000) (hb : ∀ b ∈ l, b.ok) (h1 : in32 ss) :
    PtF 116 R g (.agg #[.int .u32 ss, .slice A n c]) (numsS 4 [ss] ++ bksT l) := by
  have hW := fun bl => wU32 g 0 bl 1 none none E0 [ss] (all1 (P := in32) h1) (by simp) (w0 g) (by decide)
  rw [E0_append] at hW
  have zh : (numsS 4 [ss]).size = 4 := by rw [numsS_size]; rfl
  generalize numsS 4 [ss] = th at hW zh ⊢
  refine fn_intro Try.func116 rfl Try.ntmps116 rfl (fun E => ?_)
  (repeat (first | ((first | (apply wo_v; rfl) ); (· first | (apply pv_ev; rfl) | (apply pv_fld; rfl) | (apply g_load; first | (apply pv_ld; rfl; (· (repeat (first | apply sel_here ))); rfl) ) )) | apply wo_nil | apply wc_seq | apply wc_region | (apply wo_box1; rfl; rfl; rfl; intro bx) | (apply wo_boxa; rfl; rfl; intro bx) | (apply wo_bsl; (· (repeat (first | apply Rws'.nil | (apply Rws'.one; rfl; rfl; rfl) ))); rfl; rfl; rfl; rfl; intro bx) ))
  rename_i bw
  obtain ⟨bp, hbp⟩ : ∃ g, g = bw := ⟨_, rfl⟩
  subst hbp
  (refine wo_call (hW _) rfl (by (repeat (first | apply sub_nil | (apply sub_cons; (· (repeat (first | apply sel_here | apply sel_there)))))); done) (by first | exact fun _ h => h | (intro r hr; cases hr; done) | (simp; done) | exact fun _ h => List.mem_append_left _ h | (intro r hr; simp [hr]; done)) rfl ?_; rintro v L' R' ⟨p5, ao5, c5, rfl, rfl, rfl, hw5⟩ H' hH RR hR; simp only [List.cons_append, List.nil_append] at hH hR; subst hH; have hR := hR.symm; subst hR)
  (repeat (first | ((first | (apply wo_v; rfl) ); (· first | (apply pv_ev; rfl) | (apply pv_fld; rfl) | (apply g_load; first | (apply pv_ld; rfl; (· (repeat (first | apply sel_here | apply sel_there))); rfl) ) )) | apply wo_nil | apply wc_region ))
  (refine wo_call (pBlocks R g p5 ao5 c5 th l A n c hS hl hb hw5 (by omega)) rfl (by (repeat (first | apply sub_nil )); done) (by first | exact fun _ h => h | (intro r hr; cases hr; done) | (simp; done) | exact fun _ h => List.mem_append_left _ h | (intro r hr; simp [hr]; done)) rfl ?_; rintro v L' R' ⟨p6, ao6, c6, rfl, rfl, rfl, hw6⟩ H' hH RR hR; simp only [List.cons_append, List.nil_append] at hH hR; subst hH; have hR := hR.symm; subst hR)
  (repeat (first | apply wo_nil ))
  exact ret0 rfl ⟨p6, ao6, c6, rfl, rfl, rfl, hw6⟩ (by (repeat (first | apply sub_nil )); done) (by first | exact fun _ h => h | (intro r hr; cases hr; done) | (simp; done) | exact fun _ h => List.mem_append_left _ h | (intro r hr; simp [hr]; done))
abbrev snB (b : Nat) (ss ntp t pk oc : Int) (v : Value) : It := .ob b (.cells #[.int .u32 ss, .int .u64 ntp, .int .u32 t, .int .u32 pk, .int .u32 oc, v] 130 (0, 0))
def tblSn (g : Nat) (ss ntp t pk oc : Int) (T1 T2 T3 : ByteArray) : Nat → List (List It) → Value → List (List It) → Prop := fun k Ls v Ms => match k with
  | 3 => newP 37 [[.int .u32 ss]] v Ms
  | 4 => wrP0 g T1 v Ms
  | 7 => newP 52 [[.int .u64 ntp]] v Ms
  | 8 => wrP0 g T2 v Ms
  | 15 => newP 37 [[.int .u32 t], [.int .u32 pk], [.int .u32 oc]] v Ms
  | _ => wrP0 g T3 v Ms
set_option maxHeartbeats 8000000 in
theorem pSender (R : List Ro) (g : Nat) (ss ntp t pk oc : Int) (l : List Bk) (A : Option Addr) (n c : Nat) (hS : SQ R 7 A n c (blkV l)) (hl : l.length ≤ 10000) (hb : ∀ b ∈ l, b.ok) (h1 : in32 ss) (h2 : in64 ntp) (h3 : in32 t) (h4 : in32 pk) (h5 : in32 oc) :
    PtF 113 R g (.agg #[.int .u32 ss, .int .u64 ntp, .int .u32 t, .int .u32 pk, .int .u32 oc, .slice A n c]) (numsS 4 [ss] ++ numsS 8 [ntp] ++ numsS 4 [t, pk, oc] ++ bksT l) := by
  obtain ⟨T1, hT1⟩ : ∃ T1, numsS 4 [ss] = T1 := ⟨_, rfl⟩
  rw [hT1]
  obtain ⟨T2, hT2⟩ : ∃ T2, T1 ++ numsS 8 [ntp] = T2 := ⟨_, rfl⟩
  rw [hT2]
  obtain ⟨T3, hT3⟩ : ∃ T3, T2 ++ numsS 4 [t, pk, oc] = T3 := ⟨_, rfl⟩
  rw [hT3]
  have z1 : T1.size = 4 := by rw [← hT1, numsS_size]; rfl
  have z2 : T2.size = 12 := by rw [← hT2, ByteArray.size_append, numsS_size, z1]; rfl
  have z3 : T3.size = 24 := by rw [← hT3, ByteArray.size_append, numsS_size, z2]; rfl
  have hW1 := fun c p ao hw bl => wU32 g c bl 1 p ao E0 [ss] (all1 (P := in32) h1) (by simp) hw (by decide)
  rw [E0_append, hT1] at hW1
  have hW2 := fun c p ao hw bl => wNum g c bl 1 p ao T1 8 8 [ntp] rfl (all1 (P := in64) h2) (by simp) hw (by omega)
  rw [hT2] at hW2
  have hW3 := fun c p ao hw bl => wU32 g c bl 3 p ao T2 [t, pk, oc] (all3 (P := in32) h3 h4 h5) (by simp) hw (by omega)
  rw [hT3] at hW3
  refine fn_intro Try.func113 rfl Try.ntmps113 rfl (fun E => ?_)
  (repeat (first | ((first | (apply wo_v; rfl) ); (· first | (apply pv_ev; rfl) )) | apply wo_nil | apply wc_seq | apply wc_region | (apply wo_box1; rfl; rfl; rfl; intro bx) | (apply wo_boxa; rfl; rfl; intro bx) ))
  obtain ⟨bp, hbp⟩ : ∃ g, g = bx := ⟨_, rfl⟩
  subst hbp
  (refine wc_regM [0, 1, 2, 3] (aslL [(3, [1]), (4, [0, 1]), (7, [2]), (8, [0, 2]), (15, [3]), (16, [0, 3])]) (tblSn g ss ntp t pk oc T1 T2 T3) ([snB bp ss ntp t pk oc (.slice A n c)]) (fm [(0, wrH g none none 0 E0), (1, []), (2, []), (3, [])]) mixed (by kernel_rfl) (by kernel_rfl) (by decide) (aslL_ok (by decide)) (by (repeat (first | (apply prm_cons; (· (repeat (first | apply sel_here )))) | apply List.Perm.nil )); done) ?_; (repeat (first | (apply HdM.val; rfl; rfl; (· first | apply gok_none ); (· first | (apply pv_ev; rfl) | (apply pv_fld; rfl) | (apply g_load; first | (apply pv_ld; rfl; (· (repeat (first | apply sel_here ))); rfl) ) )) )))
  (refine hm_eff (cs := [1]) rfl (by decide) rfl rfl (by first | exact gok_none | exact gok_run rfl rfl) (fun a ha => outc_mono (outc_bsl (by (repeat (first | apply Rws'.nil | (apply Rws'.one; rfl; rfl; rfl) )); done) rfl rfl rfl a ha) (fun v M h => by obtain ⟨b, h1, h2⟩ := h; exact ⟨[M], ⟨b, h1, congrArg (fun x => [x]) h2⟩, rfl, by simp⟩)) (⟨_, _, Exists.intro 0 (And.intro rfl rfl), rfl⟩) ?_; rintro v Ms ⟨bw1, rfl, rfl⟩ _; simp only [setls, setl, reduceIte, Nat.reduceEqDiff]; (repeat (first | (apply HdM.val; rfl; rfl; (· first | fail ); (· first | fail )) )))
  (refine hm_eff (cs := [0, 1]) rfl (by decide) rfl rfl (by first | exact gok_none | exact gok_run rfl rfl) (fun a ha => outc_mono (outc_call (F1 := _) (T := fun v M => ∃ (p ao : Option Addr) (c : Nat), v = .pointer (some ⟨g, 0, none⟩) ∧ M = wrH g p ao c T1 ∧ WOk g p ao c T1) (hW1 0 none none (w0 g) bw1) rfl (by (repeat (first | apply sub_nil )); done) (by first | exact fun _ h => h | (intro r hr; cases hr; done) | (simp; done) | exact fun _ h => List.mem_append_left _ h | (intro r hr; simp [hr]; done)) (by rintro v L' R' ⟨p', ao', c', rfl, rfl, _, hw'⟩; exact ⟨_, ⟨p', ao', c', rfl, rfl, hw'⟩, (by (repeat (first | (apply prm_cons; (· (repeat (first | apply sel_here )))) | apply List.Perm.nil )); done)⟩) a ha) (fun v M h => Exists.elim h fun p h => Exists.elim h fun ao h => Exists.elim h fun c h => ⟨[M, []], Exists.intro p (Exists.intro ao (Exists.intro c (And.intro h.1 (And.intro (congrArg (fun x => [x, []]) h.2.1) h.2.2)))), rfl, by simp⟩)) ((by obtain ⟨p, ao, c, h⟩ := WOk.ex g T1; exact ⟨_, _, Exists.intro p (Exists.intro ao (Exists.intro c (And.intro rfl (And.intro rfl h)))), rfl⟩)) ?_; rintro v Ms ⟨pc1, aoc1, cc1, rfl, rfl, hwc1⟩ _; simp only [setls, setl, reduceIte, Nat.reduceEqDiff]; (repeat (first | (apply HdM.val; rfl; rfl; (· first | apply gok_none ); (· first | (apply pv_ev; rfl) | (apply pv_fld; rfl) | (apply g_load; first | (apply pv_ld; rfl; (· (repeat (first | apply sel_here ))); rfl) ) )) )))
  (refine hm_eff (cs := [2]) rfl (by decide) rfl rfl (by first | exact gok_none | exact gok_run rfl rfl) (fun a ha => outc_mono (outc_bsl (by (repeat (first | apply Rws'.nil | (apply Rws'.one; rfl; rfl; rfl) )); done) rfl rfl rfl a ha) (fun v M h => by obtain ⟨b, h1, h2⟩ := h; exact ⟨[M], ⟨b, h1, congrArg (fun x => [x]) h2⟩, rfl, by simp⟩)) (⟨_, _, Exists.intro 0 (And.intro rfl rfl), rfl⟩) ?_; rintro v Ms ⟨bw2, rfl, rfl⟩ _; simp only [setls, setl, reduceIte, Nat.reduceEqDiff]; (repeat (first | (apply HdM.val; rfl; rfl; (· first | fail ); (· first | fail )) )))
  (refine hm_eff (cs := [0, 2]) rfl (by decide) rfl rfl (by first | exact gok_none | exact gok_run rfl rfl) (fun a ha => outc_mono (outc_call (F1 := _) (T := fun v M => ∃ (p ao : Option Addr) (c : Nat), v = .pointer (some ⟨g, 0, none⟩) ∧ M = wrH g p ao c T2 ∧ WOk g p ao c T2) (hW2 cc1 pc1 aoc1 hwc1 bw2) rfl (by (repeat (first | apply sub_nil )); done) (by first | exact fun _ h => h | (intro r hr; cases hr; done) | (simp; done) | exact fun _ h => List.mem_append_left _ h | (intro r hr; simp [hr]; done)) (by rintro v L' R' ⟨p', ao', c', rfl, rfl, _, hw'⟩; exact ⟨_, ⟨p', ao', c', rfl, rfl, hw'⟩, (by (repeat (first | (apply prm_cons; (· (repeat (first | apply sel_here )))) | apply List.Perm.nil )); done)⟩) a ha) (fun v M h => Exists.elim h fun p h => Exists.elim h fun ao h => Exists.elim h fun c h => ⟨[M, []], Exists.intro p (Exists.intro ao (Exists.intro c (And.intro h.1 (And.intro (congrArg (fun x => [x, []]) h.2.1) h.2.2)))), rfl, by simp⟩)) ((by obtain ⟨p, ao, c, h⟩ := WOk.ex g T2; exact ⟨_, _, Exists.intro p (Exists.intro ao (Exists.intro c (And.intro rfl (And.intro rfl h)))), rfl⟩)) ?_; rintro v Ms ⟨pc2, aoc2, cc2, rfl, rfl, hwc2⟩ _; simp only [setls, setl, reduceIte, Nat.reduceEqDiff]; (repeat (first | (apply HdM.val; rfl; rfl; (· first | apply gok_none ); (· first | (apply pv_ev; rfl) | (apply pv_fld; rfl) | (apply g_load; first | (apply pv_ld; rfl; (· (repeat (first | apply sel_here ))); rfl) ) )) )))
  (refine hm_eff (cs := [3]) rfl (by decide) rfl rfl (by first | exact gok_none | exact gok_run rfl rfl) (fun a ha => outc_mono (outc_bsl (by (repeat (first | apply Rws'.nil | (apply Rws'.one; rfl; rfl; rfl) )); done) rfl rfl rfl a ha) (fun v M h => by obtain ⟨b, h1, h2⟩ := h; exact ⟨[M], ⟨b, h1, congrArg (fun x => [x]) h2⟩, rfl, by simp⟩)) (⟨_, _, Exists.intro 0 (And.intro rfl rfl), rfl⟩) ?_; rintro v Ms ⟨bw3, rfl, rfl⟩ _; simp only [setls, setl, reduceIte, Nat.reduceEqDiff]; (repeat (first | (apply HdM.val; rfl; rfl; (· first | fail ); (· first | fail )) )))
  (refine hm_eff (cs := [0, 3]) rfl (by decide) rfl rfl (by first | exact gok_none | exact gok_run rfl rfl) (fun a ha => outc_mono (outc_call (F1 := _) (T := fun v M => ∃ (p ao : Option Addr) (c : Nat), v = .pointer (some ⟨g, 0, none⟩) ∧ M = wrH g p ao c T3 ∧ WOk g p ao c T3) (hW3 cc2 pc2 aoc2 hwc2 bw3) rfl (by (repeat (first | apply sub_nil )); done) (by first | exact fun _ h => h | (intro r hr; cases hr; done) | (simp; done) | exact fun _ h => List.mem_append_left _ h | (intro r hr; simp [hr]; done)) (by rintro v L' R' ⟨p', ao', c', rfl, rfl, _, hw'⟩; exact ⟨_, ⟨p', ao', c', rfl, rfl, hw'⟩, (by (repeat (first | (apply prm_cons; (· (repeat (first | apply sel_here )))) | apply List.Perm.nil )); done)⟩) a ha) (fun v M h => Exists.elim h fun p h => Exists.elim h fun ao h => Exists.elim h fun c h => ⟨[M, []], Exists.intro p (Exists.intro ao (Exists.intro c (And.intro h.1 (And.intro (congrArg (fun x => [x, []]) h.2.1) h.2.2)))), rfl, by simp⟩)) ((by obtain ⟨p, ao, c, h⟩ := WOk.ex g T3; exact ⟨_, _, Exists.intro p (Exists.intro ao (Exists.intro c (And.intro rfl (And.intro rfl h)))), rfl⟩)) ?_; rintro v Ms ⟨pc3, aoc3, cc3, rfl, rfl, hwc3⟩ _; simp only [setls, setl, reduceIte, Nat.reduceEqDiff]; (repeat (first | fail )))
  (refine HdM.nil ?_; intro H hH; simp only [Hp, fm, look, setl, List.flatMap_cons, List.flatMap_nil, reduceIte, Nat.reduceEqDiff, Option.getD_some, List.append_nil, List.cons_append, List.nil_append] at hH; subst hH)
  (repeat (first | ((first | (apply wo_v; rfl) ); (· first | (apply pv_ev; rfl) | (apply pv_fld; rfl) | (apply g_load; first | (apply pv_ld; rfl; (· (repeat (first | apply sel_here ))); rfl) ) )) | apply wc_region ))
  (refine wo_call (pBlocks R g pc3 aoc3 cc3 T3 l A n c hS hl hb hwc3 (by omega)) rfl (by (repeat (first | apply sub_nil | (apply sub_cons; (· (repeat (first | apply sel_here | apply sel_there)))))); done) (by first | exact fun _ h => h | (intro r hr; cases hr; done) | (simp; done) | exact fun _ h => List.mem_append_left _ h | (intro r hr; simp [hr]; done)) rfl ?_; rintro v L' R' ⟨p6, ao6, c6, rfl, rfl, rfl, hw6⟩ H' hH RR hR; simp only [List.cons_append, List.nil_append] at hH hR; subst hH; have hR := hR.symm; subst hR)
  (repeat (first | apply wo_nil ))
  exact ret0 rfl ⟨p6, ao6, c6, rfl, rfl, rfl, hw6⟩ (by (repeat (first | apply sub_nil )); done) (by first | exact fun _ h => h | (intro r hr; cases hr; done) | (simp; done) | exact fun _ h => List.mem_append_left _ h | (intro r hr; simp [hr]; done))
/-! ## Bye -/
def byT (ss : List Int) (rs : ByteArray) : ByteArray := if rs = E0 then numsS 4 ss else pad4 (numsS 4 ss ++ numsS 1 [(rs.size : Int)] ++ rs)
abbrev byB (b : Nat) (v : Value) (s : ByteArray) : It := .ob b (.cells #[v, .string s] 136 (0, 0))
def tblBy (g : Nat) (x : Int) (rs : ByteArray) (T1 T2 T3 : ByteArray) : Nat → List (List It) → Value → List (List It) → Prop := fun k Ls v Ms => match k with
  | 5 => newP 5 [[.int .u8 x]] v Ms
  | 6 => wrP0 g T1 v Ms
  | 9 => newP 9 [[.string rs]] v Ms
  | 10 => wrP0 g T2 v Ms
  | _ => wrP1 g T3 v Ms
set_option maxHeartbeats 8000000 in
theorem pBye (R : List Ro) (g : Nat) (ss : List Int) (rs : ByteArray) (A : Option Addr) (n c : Nat) (hS : SQ R 1 A n c (c32 ss)) (hl : ss.length ≤ 10000) (hb : ∀ x ∈ ss, in32 x) (hrs : rs.size ≤ 255) :
    PtF 118 R g (.agg #[.slice A n c, .string rs]) (byT ss rs) := by
  have hn : n = ss.length := by rw [← hS.len, c32_len]
  subst hn
  have hW := wR32 g 0 none none E0 ss A ss.length c R hS hb (by omega) (w0 g) (by decide)
  rw [E0_append] at hW
  unfold byT
  have zh : (numsS 4 ss).size = 4 * ss.length := numsS_size _ _
  generalize numsS 4 ss = th at hW zh ⊢
  by_cases h0 : rs = E0
  · rw [if_pos h0]
    subst h0
    refine fn_intro Try.func118 rfl Try.ntmps118 rfl (fun E => ?_)
    (repeat (first | ((first | (apply wo_v; rfl) ); (· first | (apply pv_ev; rfl) | (apply pv_fld; rfl) | (apply g_load; first | (apply pv_ld; rfl; (· (repeat (first | apply sel_here ))); rfl) ) )) | apply wo_nil | apply wc_seq | apply wc_region | (apply wo_box1; rfl; rfl; rfl; intro bx) | (apply wo_boxa; rfl; rfl; intro bx) ))
    (refine wo_call (hW) rfl (by (repeat (first | apply sub_nil | (apply sub_cons; (· (repeat (first | apply sel_here | apply sel_there)))))); done) (by first | exact fun _ h => h | (intro r hr; cases hr; done) | (simp; done) | exact fun _ h => List.mem_append_left _ h | (intro r hr; simp [hr]; done)) rfl ?_; rintro v L' R' ⟨p5, ao5, c5, rfl, rfl, rfl, hw5⟩ H' hH RR hR; simp only [List.cons_append, List.nil_append] at hH hR; subst hH; have hR := hR.symm; subst hR)
    (repeat (first | ((first | (apply wo_v; rfl) ); (· first | (apply pv_ev; rfl) | (apply pv_fld; rfl) | (apply g_load; first | (apply pv_ld; rfl; (· (repeat (first | apply sel_here | apply sel_there))); rfl) ) | (apply g_bin; first | (apply pv_neq_s; rfl; rfl) ) )) | apply wo_nil | apply wc_seq | apply wc_region | apply wc_skip | (apply wc_true; rfl) | (apply wc_false; rfl) ))
    exact ret0 rfl ⟨p5, ao5, c5, rfl, rfl, rfl, hw5⟩ (by (repeat (first | apply sub_nil )); done) (by first | exact fun _ h => h | (intro r hr; cases hr; done) | (simp; done) | exact fun _ h => List.mem_append_left _ h | (intro r hr; simp [hr]; done))
  · rw [if_neg h0]
    have h02 : rs ≠ ⟨#[]⟩ := h0
    have hzr : 0 ≤ (rs.size : Int) ∧ (rs.size : Int) ≤ 255 := by omega
    obtain ⟨T1, hT1⟩ : ∃ T1, th ++ numsS 1 [(rs.size : Int)] = T1 := ⟨_, rfl⟩
    rw [hT1]
    obtain ⟨T2, hT2⟩ : ∃ T2, T1 ++ rs = T2 := ⟨_, rfl⟩
    rw [hT2]
    obtain ⟨T3, hT3⟩ : ∃ T3, pad4 T2 = T3 := ⟨_, rfl⟩
    rw [hT3]
    have z1 : T1.size = th.size + 1 := by rw [← hT1, ByteArray.size_append, numsS_size]; rfl
    have z2 : T2.size = T1.size + rs.size := by rw [← hT2, ByteArray.size_append]
    have hW1 := fun c p ao hw bl => wU8L g c bl p ao th [(rs.size : Int)] (all1 (P := in8) hzr) (by simp) (by simp) hw (by omega)
    rw [hT1] at hW1
    have hW2 := fun c p ao hw bl => wPut g c bl 1 p ao T1 [rs] (all1B (by omega)) (by simp) hw (by omega)
    rw [show catS [rs] = rs from append_E0 rs, hT2] at hW2
    have hW3 := fun c p ao hw => wPad g c p ao T2 4 4 rfl (by omega) hw (by omega)
    rw [show T2 ++ zb (padJ T2.size 4) = pad4 T2 from rfl, hT3] at hW3
    refine fn_intro Try.func118 rfl Try.ntmps118 rfl (fun E => ?_)
    (repeat (first | ((first | (apply wo_v; rfl) ); (· first | (apply pv_ev; rfl) | (apply pv_fld; rfl) | (apply g_load; first | (apply pv_ld; rfl; (· (repeat (first | apply sel_here ))); rfl) ) )) | apply wo_nil | apply wc_seq | apply wc_region | (apply wo_box1; rfl; rfl; rfl; intro bx) | (apply wo_boxa; rfl; rfl; intro bx) ))
    obtain ⟨bp, hbp⟩ : ∃ g, g = bx := ⟨_, rfl⟩
    subst hbp
    (refine wo_call (hW) rfl (by (repeat (first | apply sub_nil | (apply sub_cons; (· (repeat (first | apply sel_here | apply sel_there)))))); done) (by first | exact fun _ h => h | (intro r hr; cases hr; done) | (simp; done) | exact fun _ h => List.mem_append_left _ h | (intro r hr; simp [hr]; done)) rfl ?_; rintro v L' R' ⟨p5, ao5, c5, rfl, rfl, rfl, hw5⟩ H' hH RR hR; simp only [List.cons_append, List.nil_append] at hH hR; subst hH; have hR := hR.symm; subst hR)
    (repeat (first | ((first | (apply wo_v; rfl) ); (· first | (apply pv_ev; rfl) | (apply pv_fld; rfl) | (apply g_load; first | (apply pv_ld; rfl; (· (repeat (first | apply sel_here | apply sel_there))); rfl) ) | (apply g_bin; first | (apply pv_neq_s; rfl; rfl) ) )) | apply wo_nil | apply wc_seq | apply wc_region | (apply wc_true; rfl) | (apply wc_false; rfl) | (apply a_dec_t; rfl; (· first | assumption | omega)) ))
    (refine wc_regM [0, 1, 2] (aslL [(5, [1]), (6, [0, 1]), (9, [2]), (10, [0, 2]), (11, [0])]) (tblBy g rs.size rs T1 T2 T3) ([byB bp (.slice A ss.length c) rs]) (fm [(0, wrH g p5 ao5 c5 th), (1, []), (2, [])]) mixed (by kernel_rfl) (by kernel_rfl) (by decide) (aslL_ok (by decide)) (by (repeat (first | (apply prm_cons; (· (repeat (first | apply sel_here | apply sel_there)))) | apply List.Perm.nil )); done) ?_; (repeat (first | (apply HdM.val; rfl; rfl; (· first | apply gok_none ); (· first | (apply pv_ev; rfl) | (apply pv_fld; rfl) | (apply g_load; first | (apply pv_ld; rfl; (· (repeat (first | apply sel_here ))); rfl) ) | (apply g_bi; first | (apply pv_len_str; rfl) ) | (apply g_conv; first | (apply a_conv; rfl; infer_instance; infer_instance; infer_instance; omega) ) )) )))
    (refine hm_eff (cs := [1]) rfl (by decide) rfl rfl (by first | exact gok_none | exact gok_run rfl rfl) (fun a ha => outc_mono (outc_bsl (by (repeat (first | apply Rws'.nil | (apply Rws'.one; rfl; rfl; rfl) )); done) rfl rfl rfl a ha) (fun v M h => by obtain ⟨b, h1, h2⟩ := h; exact ⟨[M], ⟨b, h1, congrArg (fun x => [x]) h2⟩, rfl, by simp⟩)) (⟨_, _, Exists.intro 0 (And.intro rfl rfl), rfl⟩) ?_; rintro v Ms ⟨bw1, rfl, rfl⟩ _; simp only [setls, setl, reduceIte, Nat.reduceEqDiff]; (repeat (first | (apply HdM.val; rfl; rfl; (· first | fail ); (· first | fail )) )))
    (refine hm_eff (cs := [0, 1]) rfl (by decide) rfl rfl (by first | exact gok_none | exact gok_run rfl rfl) (fun a ha => outc_mono (outc_call (F1 := _) (T := fun v M => ∃ (p ao : Option Addr) (c : Nat), v = .pointer (some ⟨g, 0, none⟩) ∧ M = wrH g p ao c T1 ∧ WOk g p ao c T1) (hW1 c5 p5 ao5 hw5 bw1) rfl (by (repeat (first | apply sub_nil )); done) (by first | exact fun _ h => h | (intro r hr; cases hr; done) | (simp; done) | exact fun _ h => List.mem_append_left _ h | (intro r hr; simp [hr]; done)) (by rintro v L' R' ⟨p', ao', c', rfl, rfl, _, hw'⟩; exact ⟨_, ⟨p', ao', c', rfl, rfl, hw'⟩, (by (repeat (first | (apply prm_cons; (· (repeat (first | apply sel_here )))) | apply List.Perm.nil )); done)⟩) a ha) (fun v M h => Exists.elim h fun p h => Exists.elim h fun ao h => Exists.elim h fun c h => ⟨[M, []], Exists.intro p (Exists.intro ao (Exists.intro c (And.intro h.1 (And.intro (congrArg (fun x => [x, []]) h.2.1) h.2.2)))), rfl, by simp⟩)) ((by obtain ⟨p, ao, c, h⟩ := WOk.ex g T1; exact ⟨_, _, Exists.intro p (Exists.intro ao (Exists.intro c (And.intro rfl (And.intro rfl h)))), rfl⟩)) ?_; rintro v Ms ⟨pc1, aoc1, cc1, rfl, rfl, hwc1⟩ _; simp only [setls, setl, reduceIte, Nat.reduceEqDiff]; (repeat (first | (apply HdM.val; rfl; rfl; (· first | apply gok_none ); (· first | (apply pv_ev; rfl) | (apply pv_fld; rfl) | (apply g_load; first | (apply pv_ld; rfl; (· (repeat (first | apply sel_here ))); rfl) ) )) )))
    (refine hm_eff (cs := [2]) rfl (by decide) rfl rfl (by first | exact gok_none | exact gok_run rfl rfl) (fun a ha => outc_mono (outc_bsl (by (repeat (first | apply Rws'.nil | (apply Rws'.one; rfl; rfl; rfl) )); done) rfl rfl rfl a ha) (fun v M h => by obtain ⟨b, h1, h2⟩ := h; exact ⟨[M], ⟨b, h1, congrArg (fun x => [x]) h2⟩, rfl, by simp⟩)) (⟨_, _, Exists.intro 0 (And.intro rfl rfl), rfl⟩) ?_; rintro v Ms ⟨bw2, rfl, rfl⟩ _; simp only [setls, setl, reduceIte, Nat.reduceEqDiff]; (repeat (first | (apply HdM.val; rfl; rfl; (· first | fail ); (· first | fail )) )))
    (refine hm_eff (cs := [0, 2]) rfl (by decide) rfl rfl (by first | exact gok_none | exact gok_run rfl rfl) (fun a ha => outc_mono (outc_call (F1 := _) (T := fun v M => ∃ (p ao : Option Addr) (c : Nat), v = .pointer (some ⟨g, 0, none⟩) ∧ M = wrH g p ao c T2 ∧ WOk g p ao c T2) (hW2 cc1 pc1 aoc1 hwc1 bw2) rfl (by (repeat (first | apply sub_nil )); done) (by first | exact fun _ h => h | (intro r hr; cases hr; done) | (simp; done) | exact fun _ h => List.mem_append_left _ h | (intro r hr; simp [hr]; done)) (by rintro v L' R' ⟨p', ao', c', rfl, rfl, _, hw'⟩; exact ⟨_, ⟨p', ao', c', rfl, rfl, hw'⟩, (by (repeat (first | (apply prm_cons; (· (repeat (first | apply sel_here )))) | apply List.Perm.nil )); done)⟩) a ha) (fun v M h => Exists.elim h fun p h => Exists.elim h fun ao h => Exists.elim h fun c h => ⟨[M, []], Exists.intro p (Exists.intro ao (Exists.intro c (And.intro h.1 (And.intro (congrArg (fun x => [x, []]) h.2.1) h.2.2)))), rfl, by simp⟩)) ((by obtain ⟨p, ao, c, h⟩ := WOk.ex g T2; exact ⟨_, _, Exists.intro p (Exists.intro ao (Exists.intro c (And.intro rfl (And.intro rfl h)))), rfl⟩)) ?_; rintro v Ms ⟨pc2, aoc2, cc2, rfl, rfl, hwc2⟩ _; simp only [setls, setl, reduceIte, Nat.reduceEqDiff]; (repeat (first | (apply HdM.val; rfl; rfl; (· first | fail ); (· first | fail )) )))
    (refine hm_eff (cs := [0]) rfl (by decide) rfl rfl (by first | exact gok_none | exact gok_run rfl rfl) (fun a ha => outc_mono (outc_call (F1 := _) (T := fun v M => ∃ (p ao : Option Addr) (c : Nat), v = .pointer (some ⟨g, 0, none⟩) ∧ M = wrH g p ao c T3 ∧ WOk g p ao c T3) (hW3 cc2 pc2 aoc2 hwc2) rfl (by (repeat (first | apply sub_nil )); done) (by first | exact fun _ h => h | (intro r hr; cases hr; done) | (simp; done) | exact fun _ h => List.mem_append_left _ h | (intro r hr; simp [hr]; done)) (by rintro v L' R' ⟨p', ao', c', rfl, rfl, _, hw'⟩; exact ⟨_, ⟨p', ao', c', rfl, rfl, hw'⟩, (by (repeat (first | (apply prm_cons; (· (repeat (first | apply sel_here )))) | apply List.Perm.nil )); done)⟩) a ha) (fun v M h => by obtain ⟨p, ao, c, h1, h2, h3⟩ := h; exact ⟨[M], ⟨p, ao, c, h1, congrArg (fun x => [x]) h2, h3⟩, rfl, by simp⟩)) ((by obtain ⟨p, ao, c, h⟩ := WOk.ex g T3; exact ⟨_, _, Exists.intro p (Exists.intro ao (Exists.intro c (And.intro rfl (And.intro rfl h)))), rfl⟩)) ?_; rintro v Ms ⟨pc3, aoc3, cc3, rfl, rfl, hwc3⟩ _; simp only [setls, setl, reduceIte, Nat.reduceEqDiff]; (repeat (first | fail )))
    (refine HdM.nil ?_; intro H hH; simp only [Hp, fm, look, setl, List.flatMap_cons, List.flatMap_nil, reduceIte, Nat.reduceEqDiff, Option.getD_some, List.append_nil, List.cons_append, List.nil_append] at hH; subst hH)
    (repeat (first | fail ))
    exact ret0 rfl ⟨pc3, aoc3, cc3, rfl, rfl, rfl, hwc3⟩ (by (repeat (first | apply sub_nil | (apply sub_cons; (· (repeat (first | apply sel_here | apply sel_there)))))); done) (by first | exact fun _ h => h | (intro r hr; cases hr; done) | (simp; done) | exact fun _ h => List.mem_append_left _ h | (intro r hr; simp [hr]; done))
end Go.Proofs.Yteaccbbmphcmnaa

/-
  Package rtcp: what packets write: Sdes.
-/
namespace Go.Proofs.Yteaccbbmphcmnaa
set_option linter.unusedSimpArgs false
set_option linter.unusedVariables false
open Go.RowKit
attribute [local irreducible] Pv WO WC Fn
set_option maxRecDepth 100000
attribute [local irreducible] ByteArray.extract

def itT (x : Int × ByteArray) : ByteArray := numsS 1 [x.1, (x.2.size : Int)] ++ x.2
def itsT : List (Int × ByteArray) → ByteArray
  | [] => E0
  | x :: l => itT x ++ itsT l
theorem itsT_app : ∀ a b, itsT (a ++ b) = itsT a ++ itsT b
  | [], b => (E0_append _).symm
  | x :: a, b => by
    show itT x ++ itsT (a ++ b) = (itT x ++ itsT a) ++ itsT b
    rw [itsT_app a b, ByteArray.append_assoc]
theorem itsT_take {l : List (Int × ByteArray)} {j : Nat} {x : Int × ByteArray} (h : l[j]? = some x) : itsT (l.take (j + 1)) = itsT (l.take j) ++ itT x := by
  rw [List.take_add_one, h, itsT_app]
  show itsT (l.take j) ++ (itT x ++ E0) = _
  rw [append_E0]
theorem itsT_size : ∀ {l : List (Int × ByteArray)}, (∀ x ∈ l, x.2.size ≤ 255) → (itsT l).size ≤ 257 * l.length
  | [], _ => Nat.le_refl _
  | x :: l, h => by
    have h1 := h x (.head _)
    have h2 := itsT_size (fun y hy => h y (.tail _ hy))
    show (itT x ++ itsT l).size ≤ _
    unfold itT
    simp only [ByteArray.size_append, numsS_size, List.length_cons, List.length_nil, Nat.mul_add]; omega
def chT (c : Int × List (Int × ByteArray)) : ByteArray := pad4 (numsS 4 [c.1] ++ itsT c.2 ++ numsS 1 [0])
def chsT : List (Int × List (Int × ByteArray)) → ByteArray
  | [] => E0
  | x :: l => chT x ++ chsT l
theorem chsT_app : ∀ a b, chsT (a ++ b) = chsT a ++ chsT b
  | [], b => (E0_append _).symm
  | x :: a, b => by
    show chT x ++ chsT (a ++ b) = (chT x ++ chsT a) ++ chsT b
    rw [chsT_app a b, ByteArray.append_assoc]
theorem chsT_take {l : List (Int × List (Int × ByteArray))} {j : Nat} {x : Int × List (Int × ByteArray)} (h : l[j]? = some x) : chsT (l.take (j + 1)) = chsT (l.take j) ++ chT x := by
  rw [List.take_add_one, h, chsT_app]
  show chsT (l.take j) ++ (chT x ++ E0) = _
  rw [append_E0]
theorem chsT_mod : ∀ l, (chsT l).size % 4 = 0
  | [] => rfl
  | x :: l => by
    have h1 := chsT_mod l
    have h2 := pad4_mod (numsS 4 [x.1] ++ itsT x.2 ++ numsS 1 [0])
    show (chT x ++ chsT l).size % 4 = 0
    rw [ByteArray.size_append]; unfold chT; omega
theorem pad4_behind {s : ByteArray} (h : s.size % 4 = 0) (z : ByteArray) : pad4 (s ++ z) = s ++ pad4 z := by
  unfold pad4
  have : padJ (s ++ z).size 4 = padJ z.size 4 := by unfold padJ; rw [ByteArray.size_append]; omega
  rw [this, ByteArray.append_assoc]
theorem chT_size {c : Int × List (Int × ByteArray)} (h : ∀ x ∈ c.2, x.2.size ≤ 255) : (chT c).size ≤ 8 + 257 * c.2.length := by
  have h1 := itsT_size h
  have h2 := pad4_size (numsS 4 [c.1] ++ itsT c.2 ++ numsS 1 [0])
  unfold chT
  simp only [ByteArray.size_append, numsS_size, List.length_cons, List.length_nil] at h2
  omega
theorem chsT_size {m : Nat} : ∀ {l : List (Int × List (Int × ByteArray))}, (∀ c ∈ l, c.2.length ≤ m ∧ ∀ x ∈ c.2, x.2.size ≤ 255) → (chsT l).size ≤ (8 + 257 * m) * l.length
  | [], _ => Nat.le_refl _
  | c :: l, h => by
    have h0 := h c (.head _)
    have h1 := chT_size h0.2
    have h2 := chsT_size (fun y hy => h y (.tail _ hy))
    have h3 : 257 * c.2.length ≤ 257 * m := Nat.mul_le_mul_left _ h0.1
    show (chT c ++ chsT l).size ≤ _
    rw [ByteArray.size_append, List.length_cons, Nat.mul_add]; omega
abbrev itB (b : Nat) (k : Int) (s : ByteArray) : It := .ob b (.cells #[.int .u8 k, .string s] 158 (0, 0))
abbrev chB (b : Nat) (ss : Int) (v : Value) : It := .ob b (.cells #[.int .u32 ss, v] 152 (0, 0))
abbrev sdB (b : Nat) (v : Value) : It := .ob b (.cells #[v] 157 (0, 0))
def tblIt (g : Nat) (kk x : Int) (tx : ByteArray) (T1 T2 : ByteArray) : Nat → List (List It) → Value → List (List It) → Prop := fun k Ls v Ms => match k with
  | 7 => newP 5 [[.int .u8 kk], [.int .u8 x]] v Ms
  | 8 => wrP0 g T1 v Ms
  | 11 => newP 9 [[.string tx]] v Ms
  | _ => wrP0 g T2 v Ms
set_option maxHeartbeats 16000000 in
theorem pSdes (R : List Ro) (g : Nat) (l : List (Int × List (Int × ByteArray))) (rows : List (List Value)) (A : Option Addr) (n c m : Nat) (hS : SQ R 2 A n c rows) (hV : ChsV R l rows) (hl : l.length ≤ 100) (hm : m ≤ 1000) (hb : ∀ c ∈ l, in32 c.1 ∧ c.2.length ≤ m ∧ ∀ x ∈ c.2, in8 x.1 ∧ x.2.size ≤ 255) :
    PtF 120 R g (.agg #[.slice A n c]) (chsT l) := by
  have hn : n = l.length := by rw [← hS.len, hV.1]
  refine fn_intro Try.func120 rfl Try.ntmps120 rfl (fun E => ?_)
  (repeat (first | ((first | (apply wo_v; rfl) ); (· first | (apply pv_ev; rfl) | (apply pv_fld; rfl) | (apply g_load; first | (apply pv_ld; rfl; (· (repeat (first | apply sel_here ))); rfl) ) | (apply g_bi; first | (apply pv_len_sl; rfl) ) )) | apply wo_nil | apply wc_seq | apply wc_region | (apply wo_box1; rfl; rfl; rfl; intro bx) | (apply wo_boxa; rfl; rfl; intro bx) ))
  obtain ⟨bp, hbp⟩ : ∃ g, g = bx := ⟨_, rfl⟩
  subst hbp
  refine wc_own0 5 1 ?_
  refine wc_block ?_
  refine wc_loop' (fun q st => ∃ (i : Nat) (p ao : Option Addr) (c' : Nat) (s : ByteArray), q = l.length - i ∧ i ≤ l.length ∧ s = chsT (l.take i) ∧ WOk g p ao c' s ∧ st = ⟨[(1, .pointer (some ⟨g, 0, none⟩)), (9, .slice A n c), (10, .int .i64 n), (11, .int .i64 i)], wrH g p ao c' s ++ [sdB bp (.slice A n c)], R⟩) ⟨0, none, none, 0, E0, rfl, Nat.zero_le _, rfl, w0 g, rfl⟩ (wk_mk (by (repeat (first | apply wkf_nil | (apply wkf_cons; rfl))); done) (by (repeat (first | apply sub_nil | (apply sub_cons; (· (repeat (first | apply sel_here | apply sel_there)))))); done) (by first | exact fun _ h => h | (intro r hr; cases hr; done) | (simp; done) | exact fun _ h => List.mem_append_left _ h | (intro r hr; simp [hr]; done))) ?_
  rintro q st ⟨i, p, ao, c', s, rfl, hi, hs, hw, rfl⟩
  by_cases hlt : i < l.length
  · obtain ⟨x, hx⟩ : ∃ x, l[i]? = some x := ⟨_, List.getElem?_eq_getElem hlt⟩
    obtain ⟨row, hrow, Ai, ni, ci, rfl, hSi⟩ := hV.2 i x hx
    obtain ⟨k1, k2, k3⟩ := hb _ (List.mem_of_getElem? hx)
    have hnx := chsT_take hx
    have hsm := chsT_mod (l.take i)
    have hsz : s.size ≤ 257008 * i := by
      have h1 := chsT_size (l := l.take i) (m := m) (fun c hc => ⟨(hb c (List.mem_of_mem_take hc)).2.1, fun x hx => ((hb c (List.mem_of_mem_take hc)).2.2 x hx).2⟩)
      rw [← hs, List.length_take] at h1
      have h2 : (8 + 257 * m) * min i l.length ≤ 257008 * i := Nat.mul_le_mul (by omega) (by omega)
      omega
    rw [← hs] at hsm
    have hci := chT_size (c := x) (fun y hy => (k3 y hy).2)
    have hpb := pad4_behind hsm (numsS 4 [x.1] ++ itsT x.2 ++ numsS 1 [0])
    rw [show pad4 (numsS 4 [x.1] ++ itsT x.2 ++ numsS 1 [0]) = chT x from rfl] at hpb
    obtain ⟨ss, its⟩ := x
    dsimp only at hrow hSi k1 k2 k3 hnx hpb hci
    have hni : ni = its.length := by rw [← hSi.len, itmV_len]
    subst hni
    obtain ⟨a0, o0, rfl, hmem⟩ := hS.pos (by omega)
    obtain ⟨T0, hT0⟩ : ∃ T0, s ++ numsS 4 [ss] = T0 := ⟨_, rfl⟩
    have z0 : T0.size = s.size + 4 := by rw [← hT0, ByteArray.size_append, numsS_size]; rfl
    have hW0 := fun bl => wU32 g c' bl 1 p ao s [ss] (all1 (P := in32) k1) (by simp) hw (by omega)
    rw [hT0] at hW0
    (repeat (first | ((first | (apply wo_v; rfl) ); (· first | (apply pv_ev; rfl) )) | apply wo_nil | apply wc_seq | apply wc_region | apply wc_skip | (apply wc_true; rfl) | (apply wc_false; rfl) | (apply a_dec_t; rfl; (· first | assumption | omega)) ))
    refine wc_block ?_
    (repeat (first | ((first | (apply wo_v; rfl) ); (· first | (apply pv_ev; rfl) | (apply pv_fld; rfl) | (apply g_load; first | (apply pv_ld; rfl; (· (repeat (first | apply sel_here ))); rfl) | (apply pv_lda; rfl; (· (repeat (first | apply sel_there))); (· (repeat (first | fail )))) | (apply pv_ld_owna; rfl; (· (repeat (first | apply sel_there))); (· assumption)) | (apply pv_ld_roa; rfl; (· (first | assumption )); (· assumption))) | (apply g_idx; first | (apply pv_idx; rfl; rfl; omega) ) )) | apply wo_nil | apply wc_seq | apply wc_region | (apply wo_alloc; rfl; intro bx) | (apply wo_bsl; (· (repeat (first | apply Rws'.nil | (apply Rws'.one; rfl; rfl; rfl) ))); rfl; rfl; rfl; rfl; intro bx) | (apply wo_sta; rfl; rfl; rfl; rfl; (· (repeat (first | apply sel_here ))); (· (repeat (first | apply LayAt.nil | apply LayAt.here ))); rfl) ))
    rename_i bw
    obtain ⟨bc, hbc⟩ : ∃ g, g = bw := ⟨_, rfl⟩
    subst hbc
    (refine wo_call (hW0 _) rfl (by (repeat (first | apply sub_nil | (apply sub_cons; (· (repeat (first | apply sel_here | apply sel_there)))))); done) (by first | exact fun _ h => h | (intro r hr; cases hr; done) | (simp; done) | exact fun _ h => List.mem_append_left _ h | (intro r hr; simp [hr]; done)) rfl ?_; rintro v L' R' ⟨p5, ao5, c5, rfl, rfl, rfl, hw5⟩ H' hH RR hR; simp only [List.cons_append, List.nil_append] at hH hR; subst hH; have hR := hR.symm; subst hR)
    (repeat (first | ((first | (apply wo_v; rfl) ); (· first | (apply pv_ev; rfl) | (apply pv_fld; rfl) | (apply g_load; first | (apply pv_ld; rfl; (· (repeat (first | apply sel_here | apply sel_there))); rfl) ) | (apply g_bi; first | (apply pv_len_sl; rfl) ) )) | apply wo_nil | apply wc_seq | apply wc_region ))
    refine wc_join0 (fun st => ∃ p ao c', st = ⟨[(1, .pointer (some ⟨g, 0, none⟩)), (9, .slice (some ⟨a0, o0, none⟩) n c), (10, .int .i64 n), (11, .int .i64 i)], wrH g p ao c' (T0 ++ itsT its) ++ [sdB bp (.slice (some ⟨a0, o0, none⟩) n c)], R⟩ ∧ WOk g p ao c' (T0 ++ itsT its)) ?_ ?_
    · refine wc_block ?_
      refine wc_loop' (fun q st => ∃ (j : Nat) (p ao : Option Addr) (c' : Nat) (u : ByteArray), q = its.length - j ∧ j ≤ its.length ∧ u = T0 ++ itsT (its.take j) ∧ WOk g p ao c' u ∧ st = ⟨[(1, .pointer (some ⟨g, 0, none⟩)), (9, .slice (some ⟨a0, o0, none⟩) n c), (10, .int .i64 n), (11, .int .i64 i), (21, .slice Ai its.length ci), (22, .int .i64 its.length), (23, .int .i64 j)], wrH g p ao c' u ++ [chB bc ss (.slice Ai its.length ci), sdB bp (.slice (some ⟨a0, o0, none⟩) n c)], R⟩) ⟨0, p5, ao5, c5, T0, rfl, Nat.zero_le _, (append_E0 _).symm, hw5, rfl⟩ (wk_mk (by (repeat (first | apply wkf_nil | (apply wkf_cons; rfl))); done) (by (repeat (first | apply sub_nil )); done) (by first | exact fun _ h => h | (intro r hr; cases hr; done) | (simp; done) | exact fun _ h => List.mem_append_left _ h | (intro r hr; simp [hr]; done))) ?_
      clear hw5 hw hW0 p5 ao5 c5 p ao c' hrow
      rintro q st ⟨j, p, ao, c', u, rfl, hj, hu, hw, rfl⟩
      by_cases hlj : j < its.length
      · obtain ⟨y, hy⟩ : ∃ y, its[j]? = some y := ⟨_, List.getElem?_eq_getElem hlj⟩
        have hr := itmV_at hy
        obtain ⟨y1, y2⟩ := k3 _ (List.mem_of_getElem? hy)
        have hny := itsT_take hy
        have huz : u.size ≤ T0.size + 257 * its.length := by
          have h1 := itsT_size (l := its.take j) (fun y hy => (k3 y (List.mem_of_mem_take hy)).2)
          have h2 : 257 * (its.take j).length ≤ 257 * its.length := Nat.mul_le_mul_left _ (by rw [List.length_take]; omega)
          rw [hu, ByteArray.size_append]; omega
        obtain ⟨k, tx⟩ := y
        unfold itT at hny
        dsimp only at hr y1 y2 hny
        have y3 : 0 ≤ (tx.size : Int) ∧ (tx.size : Int) ≤ 255 := by omega
        obtain ⟨T1, hT1⟩ : ∃ T1, u ++ numsS 1 [k, (tx.size : Int)] = T1 := ⟨_, rfl⟩
        obtain ⟨T2, hT2⟩ : ∃ T2, T1 ++ tx = T2 := ⟨_, rfl⟩
        have z1 : T1.size = u.size + 2 := by rw [← hT1, ByteArray.size_append, numsS_size]; rfl
        have hnx2 : T2 = T0 ++ itsT (its.take (j + 1)) := by rw [hny, ← hT2, ← hT1, hu]; simp only [ByteArray.append_assoc]
        obtain ⟨ba, oa, rfl, hmi⟩ := hSi.pos (by omega)
        have hW1 := fun c p ao hw bl => wU8L g c bl p ao u [k, (tx.size : Int)] (all2 (P := in8) y1 y3) (by simp) (by simp) hw (by omega)
        rw [hT1] at hW1
        have hW2 := fun c p ao hw bl => wPut g c bl 1 p ao T1 [tx] (all1B (by omega)) (by simp) hw (by omega)
        rw [show catS [tx] = tx from append_E0 tx, hT2] at hW2
        (repeat (first | ((first | (apply wo_v; rfl) ); (· first | (apply pv_ev; rfl) )) | apply wo_nil | apply wc_seq | apply wc_region | apply wc_skip | (apply wc_true; rfl) | (apply wc_false; rfl) | (apply a_dec_t; rfl; (· first | assumption | omega)) ))
        refine wc_block ?_
        (repeat (first | ((first | (apply wo_v; rfl) ); (· first | (apply pv_ev; rfl) | (apply g_load; first | (apply pv_lda; rfl; (· (repeat (first | apply sel_there))); (· (repeat (first | fail )))) | (apply pv_ld_owna; rfl; (· (repeat (first | apply sel_there))); (· assumption)) | (apply pv_ld_roa; rfl; (· (first | assumption )); (· assumption))) | (apply g_idx; first | (apply pv_idx; rfl; rfl; omega) ) )) | apply wo_nil | apply wc_seq | apply wc_region | (apply wo_alloc; rfl; intro bx) | (apply wo_sta; rfl; rfl; rfl; rfl; (· (repeat (first | apply sel_here ))); (· (repeat (first | apply LayAt.nil | apply LayAt.here ))); rfl) ))
        obtain ⟨bi, hbi⟩ : ∃ g, g = bx := ⟨_, rfl⟩
        subst hbi
        (refine wc_regM [0, 1, 2] (aslL [(7, [1]), (8, [0, 1]), (11, [2]), (12, [0, 2])]) (tblIt g k tx.size tx T1 T2) ([itB bi k tx, chB bc ss (.slice (some ⟨ba, oa, none⟩) its.length ci), sdB bp (.slice (some ⟨a0, o0, none⟩) n c)]) (fm [(0, wrH g p ao c' u), (1, []), (2, [])]) mixed (by kernel_rfl) (by kernel_rfl) (by decide) (aslL_ok (by decide)) (by (repeat (first | (apply prm_cons; (· (repeat (first | apply sel_here | apply sel_there)))) | apply List.Perm.nil )); done) ?_; (repeat (first | (apply HdM.val; rfl; rfl; (· first | apply gok_none ); (· first | (apply pv_ev; rfl) | (apply pv_fld; rfl) | (apply g_load; first | (apply pv_ld; rfl; (· (repeat (first | apply sel_here ))); rfl) ) | (apply g_bi; first | (apply pv_len_str; rfl) ) | (apply g_conv; first | (apply a_conv; rfl; infer_instance; infer_instance; infer_instance; omega) ) )) )))
        (refine hm_eff (cs := [1]) rfl (by decide) rfl rfl (by first | exact gok_none | exact gok_run rfl rfl) (fun a ha => outc_mono (outc_bsl (by (repeat (first | apply Rws'.nil | (apply Rws'.one; rfl; rfl; rfl) )); done) rfl rfl rfl a ha) (fun v M h => by obtain ⟨b, h1, h2⟩ := h; exact ⟨[M], ⟨b, h1, congrArg (fun x => [x]) h2⟩, rfl, by simp⟩)) (⟨_, _, Exists.intro 0 (And.intro rfl rfl), rfl⟩) ?_; rintro v Ms ⟨bw1, rfl, rfl⟩ _; simp only [setls, setl, reduceIte, Nat.reduceEqDiff]; (repeat (first | (apply HdM.val; rfl; rfl; (· first | fail ); (· first | fail )) )))
        (refine hm_eff (cs := [0, 1]) rfl (by decide) rfl rfl (by first | exact gok_none | exact gok_run rfl rfl) (fun a ha => outc_mono (outc_call (F1 := _) (T := fun v M => ∃ (p ao : Option Addr) (c : Nat), v = .pointer (some ⟨g, 0, none⟩) ∧ M = wrH g p ao c T1 ∧ WOk g p ao c T1) (hW1 c' p ao hw bw1) rfl (by (repeat (first | apply sub_nil )); done) (by first | exact fun _ h => h | (intro r hr; cases hr; done) | (simp; done) | exact fun _ h => List.mem_append_left _ h | (intro r hr; simp [hr]; done)) (by rintro v L' R' ⟨p', ao', c', rfl, rfl, _, hw'⟩; exact ⟨_, ⟨p', ao', c', rfl, rfl, hw'⟩, (by (repeat (first | (apply prm_cons; (· (repeat (first | apply sel_here )))) | apply List.Perm.nil )); done)⟩) a ha) (fun v M h => Exists.elim h fun p h => Exists.elim h fun ao h => Exists.elim h fun c h => ⟨[M, []], Exists.intro p (Exists.intro ao (Exists.intro c (And.intro h.1 (And.intro (congrArg (fun x => [x, []]) h.2.1) h.2.2)))), rfl, by simp⟩)) ((by obtain ⟨p, ao, c, h⟩ := WOk.ex g T1; exact ⟨_, _, Exists.intro p (Exists.intro ao (Exists.intro c (And.intro rfl (And.intro rfl h)))), rfl⟩)) ?_; rintro v Ms ⟨pc1, aoc1, cc1, rfl, rfl, hwc1⟩ _; simp only [setls, setl, reduceIte, Nat.reduceEqDiff]; (repeat (first | (apply HdM.val; rfl; rfl; (· first | apply gok_none ); (· first | (apply pv_ev; rfl) | (apply pv_fld; rfl) | (apply g_load; first | (apply pv_ld; rfl; (· (repeat (first | apply sel_here ))); rfl) ) )) )))
        (refine hm_eff (cs := [2]) rfl (by decide) rfl rfl (by first | exact gok_none | exact gok_run rfl rfl) (fun a ha => outc_mono (outc_bsl (by (repeat (first | apply Rws'.nil | (apply Rws'.one; rfl; rfl; rfl) )); done) rfl rfl rfl a ha) (fun v M h => by obtain ⟨b, h1, h2⟩ := h; exact ⟨[M], ⟨b, h1, congrArg (fun x => [x]) h2⟩, rfl, by simp⟩)) (⟨_, _, Exists.intro 0 (And.intro rfl rfl), rfl⟩) ?_; rintro v Ms ⟨bw2, rfl, rfl⟩ _; simp only [setls, setl, reduceIte, Nat.reduceEqDiff]; (repeat (first | (apply HdM.val; rfl; rfl; (· first | fail ); (· first | fail )) )))
        (refine hm_eff (cs := [0, 2]) rfl (by decide) rfl rfl (by first | exact gok_none | exact gok_run rfl rfl) (fun a ha => outc_mono (outc_call (F1 := _) (T := fun v M => ∃ (p ao : Option Addr) (c : Nat), v = .pointer (some ⟨g, 0, none⟩) ∧ M = wrH g p ao c T2 ∧ WOk g p ao c T2) (hW2 cc1 pc1 aoc1 hwc1 bw2) rfl (by (repeat (first | apply sub_nil )); done) (by first | exact fun _ h => h | (intro r hr; cases hr; done) | (simp; done) | exact fun _ h => List.mem_append_left _ h | (intro r hr; simp [hr]; done)) (by rintro v L' R' ⟨p', ao', c', rfl, rfl, _, hw'⟩; exact ⟨_, ⟨p', ao', c', rfl, rfl, hw'⟩, (by (repeat (first | (apply prm_cons; (· (repeat (first | apply sel_here )))) | apply List.Perm.nil )); done)⟩) a ha) (fun v M h => Exists.elim h fun p h => Exists.elim h fun ao h => Exists.elim h fun c h => ⟨[M, []], Exists.intro p (Exists.intro ao (Exists.intro c (And.intro h.1 (And.intro (congrArg (fun x => [x, []]) h.2.1) h.2.2)))), rfl, by simp⟩)) ((by obtain ⟨p, ao, c, h⟩ := WOk.ex g T2; exact ⟨_, _, Exists.intro p (Exists.intro ao (Exists.intro c (And.intro rfl (And.intro rfl h)))), rfl⟩)) ?_; rintro v Ms ⟨pc2, aoc2, cc2, rfl, rfl, hwc2⟩ _; simp only [setls, setl, reduceIte, Nat.reduceEqDiff]; (repeat (first | fail )))
        (refine HdM.nil ?_; intro H hH; simp only [Hp, fm, look, setl, List.flatMap_cons, List.flatMap_nil, reduceIte, Nat.reduceEqDiff, Option.getD_some, List.append_nil, List.cons_append, List.nil_append] at hH; subst hH)
        (repeat (first | ((first | (apply wo_v; rfl) ); (· first | (apply pv_ev; rfl) | (apply g_bin; first | (apply a_add; rfl; rfl; infer_instance; omega) ) )) | apply wo_nil | apply wc_region ))
        exact loop_end ⟨j + 1, pc2, aoc2, cc2, T2, rfl, by omega, hnx2, hwc2, rfl⟩ (by omega) (wk_mk (by (repeat (first | apply wkf_nil | (apply wkf_cons; rfl))); done) (by (repeat (first | apply sub_nil | (apply sub_cons; (· (repeat (first | apply sel_here | apply sel_there)))))); done) (by first | exact fun _ h => h | (intro r hr; cases hr; done) | (simp; done) | exact fun _ h => List.mem_append_left _ h | (intro r hr; simp [hr]; done)))
      · have e : j = its.length := by omega
        subst e
        rw [List.take_length] at hu
        subst hu
        (repeat (first | ((first | (apply wo_v; rfl) ); (· first | (apply pv_ev; rfl) )) | apply wo_nil | apply wc_seq | apply wc_region | (apply wc_exit; rfl) | (apply wc_true; rfl) | (apply wc_false; rfl) | (apply a_dec_t; rfl; (· first | assumption | omega)) | (apply a_dec_f; rfl; (· first | assumption | omega)) ))
        exact cut_end ⟨p, ao, c', rfl, hw⟩ (wk_mk (by (repeat (first | apply wkf_nil | (apply wkf_cons; rfl))); done) (by (repeat (first | apply sub_nil | (apply sub_cons; (· (repeat (first | apply sel_here | apply sel_there)))))); done) (by first | exact fun _ h => h | (intro r hr; cases hr; done) | (simp; done) | exact fun _ h => List.mem_append_left _ h | (intro r hr; simp [hr]; done)))
    rintro st ⟨p6, ao6, c6, rfl, hw6⟩
    have z6 : (T0 ++ itsT its).size ≤ T0.size + 257 * its.length := by
      have h1 := itsT_size (l := its) (fun y hy => (k3 y hy).2)
      rw [ByteArray.size_append]; omega
    have hfin : pad4 ((T0 ++ itsT its) ++ numsS 1 [0]) = chsT (l.take (i + 1)) := by
      rw [hnx, ← hs, ← hpb, ← hT0]; simp only [ByteArray.append_assoc]
    generalize T0 ++ itsT its = T3 at *
    obtain ⟨T4, hT4⟩ : ∃ T4, T3 ++ numsS 1 [0] = T4 := ⟨_, rfl⟩
    have z4 : T4.size = T3.size + 1 := by rw [← hT4, ByteArray.size_append, numsS_size]; rfl
    have hW3 := fun bl => wU8L g c6 bl p6 ao6 T3 [0] (all1 (P := in8) in8_0) (by simp) (by simp) hw6 (by omega)
    rw [hT4] at hW3 hfin
    have hW4 := fun c p ao hw => wPad g c p ao T4 4 4 rfl (by omega) hw (by omega)
    rw [show T4 ++ zb (padJ T4.size 4) = pad4 T4 from rfl, hfin] at hW4
    (repeat (first | ((first | (apply wo_v; rfl) ); (· first | (apply pv_ev; rfl) )) | apply wc_region | (apply wo_bsl; (· (repeat (first | apply Rws'.nil | (apply Rws'.one; rfl; rfl; rfl) ))); rfl; rfl; rfl; rfl; intro bx) ))
    (refine wo_call (hW3 _) rfl (by (repeat (first | apply sub_nil | (apply sub_cons; (· (repeat (first | apply sel_here | apply sel_there)))))); done) (by first | exact fun _ h => h | (intro r hr; cases hr; done) | (simp; done) | exact fun _ h => List.mem_append_left _ h | (intro r hr; simp [hr]; done)) rfl ?_; rintro v L' R' ⟨p7, ao7, c7, rfl, rfl, rfl, hw7⟩ H' hH RR hR; simp only [List.cons_append, List.nil_append] at hH hR; subst hH; have hR := hR.symm; subst hR)
    (repeat (first | ((first | (apply wo_v; rfl) ); (· first | (apply pv_ev; rfl) )) ))
    (refine wo_call (hW4 c7 p7 ao7 hw7) rfl (by (repeat (first | apply sub_nil )); done) (by first | exact fun _ h => h | (intro r hr; cases hr; done) | (simp; done) | exact fun _ h => List.mem_append_left _ h | (intro r hr; simp [hr]; done)) rfl ?_; rintro v L' R' ⟨p8, ao8, c8, rfl, rfl, rfl, hw8⟩ H' hH RR hR; simp only [List.cons_append, List.nil_append] at hH hR; subst hH; have hR := hR.symm; subst hR)
    (repeat (first | ((first | (apply wo_v; rfl) ); (· first | (apply pv_ev; rfl) | (apply g_bin; first | (apply a_add; rfl; rfl; infer_instance; omega) ) )) | apply wo_nil | apply wc_region ))
    exact loop_end ⟨i + 1, p8, ao8, c8, _, rfl, by omega, rfl, hw8, rfl⟩ (by omega) (wk_mk (by (repeat (first | apply wkf_nil | (apply wkf_cons; rfl))); done) (by (repeat (first | apply sub_nil )); done) (by first | exact fun _ h => h | (intro r hr; cases hr; done) | (simp; done) | exact fun _ h => List.mem_append_left _ h | (intro r hr; simp [hr]; done)))
  · have e : i = l.length := by omega
    subst e
    rw [List.take_length] at hs
    subst hs
    (repeat (first | ((first | (apply wo_v; rfl) ); (· first | (apply pv_ev; rfl) )) | apply wo_nil | apply wc_seq | apply wc_region | (apply wc_exit; rfl) | (apply wc_true; rfl) | (apply wc_false; rfl) | (apply a_dec_t; rfl; (· first | assumption | omega)) | (apply a_dec_f; rfl; (· first | assumption | omega)) ))
    exact ret0 rfl ⟨p, ao, c', rfl, rfl, rfl, hw⟩ (by (repeat (first | apply sub_nil )); done) (by first | exact fun _ h => h | (intro r hr; cases hr; done) | (simp; done) | exact fun _ h => List.mem_append_left _ h | (intro r hr; simp [hr]; done))
end Go.Proofs.Yteaccbbmphcmnaa

/-
  Package rtcp: what packets write: Remb.
-/
namespace Go.Proofs.Yteaccbbmphcmnaa
set_option linter.unusedSimpArgs false
set_option linter.unusedVariables false
open Go.RowKit
attribute [local irreducible] Pv WO WC Fn
set_option maxRecDepth 100000
attribute [local irreducible] ByteArray.extract

def lenT : ByteArray := ⟨(([0, 1, 2, 2, 3, 3, 3, 3, 4, 4, 4, 4, 4, 4, 4, 4, 5, 5, 5, 5, 5, 5, 5, 5, 5, 5, 5, 5, 5, 5, 5, 5, 6, 6, 6, 6, 6, 6, 6, 6, 6, 6, 6, 6, 6, 6, 6, 6, 6, 6, 6, 6, 6, 6, 6, 6, 6, 6, 6, 6, 6, 6, 6, 6].append [7, 7, 7, 7, 7, 7, 7, 7, 7, 7, 7, 7, 7, 7, 7, 7, 7, 7, 7, 7, 7, 7, 7, 7, 7, 7, 7, 7, 7, 7, 7, 7, 7, 7, 7, 7, 7, 7, 7, 7, 7, 7, 7, 7, 7, 7, 7, 7, 7, 7, 7, 7, 7, 7, 7, 7, 7, 7, 7, 7, 7, 7, 7, 7]).append ([8, 8, 8, 8, 8, 8, 8, 8, 8, 8, 8, 8, 8, 8, 8, 8, 8, 8, 8, 8, 8, 8, 8, 8, 8, 8, 8, 8, 8, 8, 8, 8, 8, 8, 8, 8, 8, 8, 8, 8, 8, 8, 8, 8, 8, 8, 8, 8, 8, 8, 8, 8, 8, 8, 8, 8, 8, 8, 8, 8, 8, 8, 8, 8].append [8, 8, 8, 8, 8, 8, 8, 8, 8, 8, 8, 8, 8, 8, 8, 8, 8, 8, 8, 8, 8, 8, 8, 8, 8, 8, 8, 8, 8, 8, 8, 8, 8, 8, 8, 8, 8, 8, 8, 8, 8, 8, 8, 8, 8, 8, 8, 8, 8, 8, 8, 8, 8, 8, 8, 8, 8, 8, 8, 8, 8, 8, 8, 8])).toArray⟩
theorem lenT_size : lenT.size = 256 := by decide +kernel
theorem lenT_all : ∀ k : Fin 256, 0 ≤ sb lenT k.val ∧ sb lenT k.val ≤ 8 ∧ (k.val : Int) < 2 ^ (sb lenT k.val).toNat ∧ (0 < k.val → (2 : Int) ^ (sb lenT k.val).toNat ≤ 2 * (k.val : Int)) ∧ (k.val = 0 → sb lenT k.val = 0) := by decide +kernel
theorem lenT_at {y : Int} (h : 0 ≤ y ∧ y ≤ 255) : ∃ b : Nat, sb lenT y.toNat = (b : Int) ∧ b ≤ 8 ∧ y < 2 ^ b ∧ (0 < y → (2 : Int) ^ b ≤ 2 * y) ∧ (y = 0 → b = 0) := by
  obtain ⟨h1, h2, h3, h4, h5⟩ := lenT_all ⟨y.toNat, by omega⟩
  dsimp only at h1 h2 h3 h4 h5
  refine ⟨(sb lenT y.toNat).toNat, by omega, by omega, by omega, fun h0 => by have := h4 (by omega); omega, fun h0 => by have := h5 (by omega); omega⟩
/-- a number behind n bits -/
def Sh (x y : Int) (n : Nat) : Prop := 0 ≤ y ∧ y = x / 2 ^ n ∧ (0 < n → 1 ≤ y)
theorem Sh.step {x y : Int} {n : Nat} (h : Sh x y n) (k : Nat) (hk : (2 : Int) ^ k ≤ y) : Sh x (y / 2 ^ k) (n + k) := by
  obtain ⟨h1, h2, _⟩ := h
  have hp : (0 : Int) < 2 ^ k := Int.pow_pos (by omega)
  have hn : (0 : Int) < 2 ^ n := Int.pow_pos (by omega)
  refine ⟨Int.ediv_nonneg h1 (by omega), by rw [h2, Int.ediv_ediv_of_nonneg (by omega), Int.pow_add], fun _ => ?_⟩
  exact (Int.le_ediv_iff_mul_le hp).2 (by omega)
theorem Sh.fin {x y : Int} {n b : Nat} (h : Sh x y n) (h1 : y < 2 ^ b) (h2 : 0 < y → (2 : Int) ^ b ≤ 2 * y) (h3 : y = 0 → b = 0) (hx : 0 ≤ x) : x < 2 ^ (n + b) ∧ (0 < x → (2 : Int) ^ (n + b) ≤ 2 * x) ∧ (x = 0 → n + b = 0) := by
  obtain ⟨g1, g2, g3⟩ := h
  have hn : (0 : Int) < 2 ^ n := Int.pow_pos (by omega)
  have e := Int.mul_ediv_add_emod x (2 ^ n)
  have m1 := Int.emod_nonneg x (show (2 : Int) ^ n ≠ 0 by omega)
  have m2 := Int.emod_lt_of_pos x hn
  rw [← g2] at e
  refine ⟨?_, ?_, fun hx0 => ?_⟩
  · rw [Int.pow_add]
    have : (2 : Int) ^ n * (y + 1) ≤ 2 ^ n * 2 ^ b := Int.mul_le_mul_of_nonneg_left (by omega) (by omega)
    rw [Int.mul_add] at this
    omega
  · intro h0
    rw [Int.pow_add]
    by_cases hy : 0 < y
    · have h4 := h2 hy
      have : (2 : Int) ^ n * 2 ^ b ≤ 2 ^ n * (2 * y) := Int.mul_le_mul_of_nonneg_left h4 (by omega)
      rw [← Int.mul_assoc, Int.mul_comm (2 ^ n) 2, Int.mul_assoc] at this
      omega
    · have hy0 : y = 0 := by omega
      have hb := h3 hy0
      subst hb
      have hn0 : n = 0 := by
        rcases Nat.eq_zero_or_pos n with h | h
        · exact h
        · have := g3 h; omega
      subst hn0
      simp at e ⊢
      omega
  · subst hx0
    have hy0 : y = 0 := by rw [g2]; exact Int.zero_ediv _
    have hb := h3 hy0
    have hn0 : n = 0 := by
      rcases Nat.eq_zero_or_pos n with h | h
      · exact h
      · have := g3 h; omega
    omega
set_option maxHeartbeats 4000000 in
theorem qLen64 (x : Int) (hx : in64 x) : Fn Try.prog 82 #[.int .u64 x] [] [] (fun v L' R' => ∃ L : Nat, v = .int .i64 L ∧ L' = [] ∧ R' = [] ∧ L ≤ 64 ∧ x < 2 ^ L ∧ (0 < x → (2 : Int) ^ L ≤ 2 * x) ∧ (x = 0 → L = 0)) := by
  obtain ⟨x0, x1⟩ : 0 ≤ x ∧ x ≤ 18446744073709551615 := hx
  have hf : ∀ (z : Int) (k : Nat), 0 ≤ z → z.fdiv (2 ^ k) = z / 2 ^ k := fun z k hz => Int.fdiv_eq_ediv_of_nonneg _ (Int.le_of_lt (Int.pow_pos (by omega)))
  refine fn_intro Try.func82 rfl Try.ntmps82 rfl (fun E => ?_)
  (repeat (first | ((first | (apply wo_v; rfl) ); (· first | (apply pv_ev; rfl) )) | apply wo_nil | apply wc_seq | apply wc_region | (apply wc_true; rfl) | (apply wc_false; rfl) | (apply a_dec_t; rfl; (· first | assumption | omega)) | (apply a_dec_f; rfl; (· first | assumption | omega)) | (apply a_dec_t; rfl; (· first | (simp; done) | (simp; omega))) | (apply a_dec_f; rfl; (· first | (simp; done) | (simp; omega))) ))
  refine wc_join0 (fun st => ∃ (y : Int) (n : Nat), st = ⟨[(0, .int .u64 y), (2, .int .i64 n)], [], []⟩ ∧ Sh x y n ∧ y ≤ 4294967295 ∧ n ≤ 32) ?_ ?_
  · by_cases h : 4294967296 ≤ x
    · have h1 := (show Sh x x 0 from ⟨x0, by simp, fun h => absurd h (by omega)⟩).step 32 (by omega)
      have e := hf x 32 x0
      (repeat (first | ((first | (apply wo_v; rfl) ); (· first | (apply pv_ev; rfl) | (apply g_bin; first | (apply a_shr; rfl; rfl; rfl; omega; rfl) ) )) | apply wo_nil | apply wc_seq | apply wc_region | (apply wc_true; rfl) | (apply wc_false; rfl) | (apply a_dec_t; rfl; (· first | assumption | omega)) ))
      exact cut_end ⟨x / 2 ^ 32, 32, rfl, by simpa using h1, by omega, by omega⟩ (wk_mk (by (repeat (first | apply wkf_nil | (apply wkf_cons; rfl))); done) (by (repeat (first | apply sub_nil )); done) (by first | exact fun _ h => h | (intro r hr; cases hr; done) | (simp; done) | exact fun _ h => List.mem_append_left _ h | (intro r hr; simp [hr]; done)))
    · (repeat (first | apply wc_skip | (apply wc_true; rfl) | (apply wc_false; rfl) | (apply a_dec_t; rfl; (· first | assumption | omega)) | (apply a_dec_f; rfl; (· first | assumption | omega)) ))
      exact cut_end ⟨x, 0, rfl, ⟨x0, by simp, fun h => absurd h (by omega)⟩, by omega, by omega⟩ (wk_mk (by (repeat (first | apply wkf_nil | (apply wkf_cons; rfl))); done) (by (repeat (first | apply sub_nil )); done) (by first | exact fun _ h => h | (intro r hr; cases hr; done) | (simp; done) | exact fun _ h => List.mem_append_left _ h | (intro r hr; simp [hr]; done)))
  rintro st ⟨y, n, rfl, hS, hy, hn⟩
  have y0 := hS.1
  (repeat (first | ((first | (apply wo_v; rfl) ); (· first | (apply pv_ev; rfl) )) | apply wo_nil | apply wc_seq | apply wc_region | (apply wc_true; rfl) | (apply wc_false; rfl) | (apply a_dec_t; rfl; (· first | assumption | omega)) | (apply a_dec_f; rfl; (· first | assumption | omega)) | (apply a_dec_t; rfl; (· first | (simp; done) | (simp; omega))) | (apply a_dec_f; rfl; (· first | (simp; done) | (simp; omega))) ))
  refine wc_join0 (fun st => ∃ (y : Int) (n : Nat), st = ⟨[(0, .int .u64 y), (2, .int .i64 n)], [], []⟩ ∧ Sh x y n ∧ y ≤ 65535 ∧ n ≤ 48) ?_ ?_
  · by_cases h : 65536 ≤ y
    · have h1 := hS.step 16 (by omega)
      have e := hf y 16 y0
      (repeat (first | ((first | (apply wo_v; rfl) ); (· first | (apply pv_ev; rfl) | (apply g_bin; first | (apply a_add; rfl; rfl; infer_instance; omega) | (apply a_shr; rfl; rfl; rfl; omega; rfl) ) )) | apply wo_nil | apply wc_seq | apply wc_region | (apply wc_true; rfl) | (apply wc_false; rfl) | (apply a_dec_t; rfl; (· first | assumption | omega)) ))
      exact cut_end ⟨y / 2 ^ 16, n + 16, rfl, h1, by omega, by omega⟩ (wk_mk (by (repeat (first | apply wkf_nil | (apply wkf_cons; rfl))); done) (by (repeat (first | apply sub_nil )); done) (by first | exact fun _ h => h | (intro r hr; cases hr; done) | (simp; done) | exact fun _ h => List.mem_append_left _ h | (intro r hr; simp [hr]; done)))
    · (repeat (first | apply wc_skip | (apply wc_true; rfl) | (apply wc_false; rfl) | (apply a_dec_t; rfl; (· first | assumption | omega)) | (apply a_dec_f; rfl; (· first | assumption | omega)) ))
      exact cut_end ⟨y, n, rfl, hS, by omega, by omega⟩ (wk_mk (by (repeat (first | apply wkf_nil | (apply wkf_cons; rfl))); done) (by (repeat (first | apply sub_nil )); done) (by first | exact fun _ h => h | (intro r hr; cases hr; done) | (simp; done) | exact fun _ h => List.mem_append_left _ h | (intro r hr; simp [hr]; done)))
  clear hS y0 hy hn y n
  rintro st ⟨y, n, rfl, hS, hy, hn⟩
  have y0 := hS.1
  (repeat (first | ((first | (apply wo_v; rfl) ); (· first | (apply pv_ev; rfl) )) | apply wo_nil | apply wc_seq | apply wc_region | (apply wc_true; rfl) | (apply wc_false; rfl) | (apply a_dec_t; rfl; (· first | assumption | omega)) | (apply a_dec_f; rfl; (· first | assumption | omega)) | (apply a_dec_t; rfl; (· first | (simp; done) | (simp; omega))) | (apply a_dec_f; rfl; (· first | (simp; done) | (simp; omega))) ))
  refine wc_join0 (fun st => ∃ (y : Int) (n : Nat), st = ⟨[(0, .int .u64 y), (2, .int .i64 n)], [], []⟩ ∧ Sh x y n ∧ y ≤ 255 ∧ n ≤ 56) ?_ ?_
  · by_cases h : 256 ≤ y
    · have h1 := hS.step 8 (by omega)
      have e := hf y 8 y0
      (repeat (first | ((first | (apply wo_v; rfl) ); (· first | (apply pv_ev; rfl) | (apply g_bin; first | (apply a_add; rfl; rfl; infer_instance; omega) | (apply a_shr; rfl; rfl; rfl; omega; rfl) ) )) | apply wo_nil | apply wc_seq | apply wc_region | (apply wc_true; rfl) | (apply wc_false; rfl) | (apply a_dec_t; rfl; (· first | assumption | omega)) ))
      exact cut_end ⟨y / 2 ^ 8, n + 8, rfl, h1, by omega, by omega⟩ (wk_mk (by (repeat (first | apply wkf_nil | (apply wkf_cons; rfl))); done) (by (repeat (first | apply sub_nil )); done) (by first | exact fun _ h => h | (intro r hr; cases hr; done) | (simp; done) | exact fun _ h => List.mem_append_left _ h | (intro r hr; simp [hr]; done)))
    · (repeat (first | apply wc_skip | (apply wc_true; rfl) | (apply wc_false; rfl) | (apply a_dec_t; rfl; (· first | assumption | omega)) | (apply a_dec_f; rfl; (· first | assumption | omega)) ))
      exact cut_end ⟨y, n, rfl, hS, by omega, by omega⟩ (wk_mk (by (repeat (first | apply wkf_nil | (apply wkf_cons; rfl))); done) (by (repeat (first | apply sub_nil )); done) (by first | exact fun _ h => h | (intro r hr; cases hr; done) | (simp; done) | exact fun _ h => List.mem_append_left _ h | (intro r hr; simp [hr]; done)))
  clear hS y0 hy hn y n
  rintro st ⟨y, n, rfl, hS, hy, hn⟩
  have y0 := hS.1
  obtain ⟨b, hb, b1, b2, b3, b4⟩ := lenT_at ⟨y0, hy⟩
  have hsz := lenT_size
  obtain ⟨f1, f2, f3⟩ := hS.fin b2 b3 b4 x0
  (repeat (first | ((first | (apply wo_v; rfl) ); (· first | (apply pv_ev; rfl) | (apply g_conv; first | (apply a_conv; rfl; infer_instance; infer_instance; infer_instance; omega) ) | (apply pv_index_sn; rfl; rfl; omega) | (apply pv_index_s; rfl; rfl; omega) )) | apply wc_seq | apply wc_region ))
  apply wo_v
  · rfl
  · exact pv_index_s (s := lenT) rfl rfl ⟨y0, by omega⟩
  rw [hb]
  (repeat (first | ((first | (apply wo_v; rfl) ); (· first | (apply pv_ev; rfl) | (apply g_bin; first | (apply a_add; rfl; rfl; infer_instance; omega) ) | (apply g_conv; first | (apply a_conv; rfl; infer_instance; infer_instance; infer_instance; omega) ) )) | apply wo_nil | apply wc_ret ))
  exact ret1 rfl rfl ⟨n + b, by congr 1, rfl, rfl, by omega, f1, f2, f3⟩ ((by (repeat (first | apply sub_nil )); done) : List.Perm _ ([] ++ _)) (by first | exact fun _ h => h | (intro r hr; cases hr; done) | (simp; done) | exact fun _ h => List.mem_append_left _ h | (intro r hr; simp [hr]; done))

theorem two_le {a b : Nat} (h : a ≤ b) : (2 : Int) ^ a ≤ 2 ^ b := by
  have := Nat.pow_le_pow_right (show 0 < 2 by omega) h
  rw [show (2 : Int) = ((2 : Nat) : Int) from rfl, ← Int.natCast_pow, ← Int.natCast_pow]
  exact Int.ofNat_le.2 this
instance : HasBody Try.prog 82 := ⟨by kernel_rfl⟩
def exF : Nat → Int → Nat
  | 0, _ => 0
  | k + 1, x => if x < 262144 then 0 else exF k (x / 2) + 1
/-- how far a rate is shifted -/
def exM (x : Int) : Nat := exF 64 x
def ExpOf (x : Int) (e : Nat) : Prop := x < 2 ^ (e + 18) ∧ (e = 0 ∨ (2 : Int) ^ (e + 17) ≤ x)
theorem exF_of (k : Nat) : ∀ (x : Int), 0 ≤ x → x < 2 ^ (k + 18) → ExpOf x (exF k x) := by
  induction k with
  | zero =>
    intro x h0 h
    have e : exF 0 x = 0 := rfl
    rw [e]
    exact ⟨h, .inl rfl⟩
  | succ k ih =>
    intro x h0 h
    have e0 : exF (k + 1) x = if x < 262144 then 0 else exF k (x / 2) + 1 := rfl
    have e18 : (2 : Int) ^ 18 = 262144 := by decide
    rw [e0]
    by_cases h1 : x < 262144
    · rw [if_pos h1]
      exact ⟨by rw [Nat.zero_add, e18]; exact h1, .inl rfl⟩
    · rw [if_neg h1]
      have e1 : (2 : Int) ^ (k + 1 + 18) = 2 * 2 ^ (k + 18) := by rw [show k + 1 + 18 = (k + 18) + 1 by omega, Int.pow_succ, Int.mul_comm]
      obtain ⟨g1, g2⟩ := ih (x / 2) (by omega) (by omega)
      generalize exF k (x / 2) = f at *
      have e2 : (2 : Int) ^ (f + 1 + 18) = 2 * 2 ^ (f + 18) := by rw [show f + 1 + 18 = (f + 18) + 1 by omega, Int.pow_succ, Int.mul_comm]
      have e3 : (2 : Int) ^ (f + 1 + 17) = 2 * 2 ^ (f + 17) := by rw [show f + 1 + 17 = (f + 17) + 1 by omega, Int.pow_succ, Int.mul_comm]
      refine ⟨by omega, .inr ?_⟩
      rcases g2 with g2 | g2
      · subst g2
        rw [show 0 + 1 + 17 = 18 from rfl, e18]; omega
      · omega
theorem exM_of {x : Int} (h : in64 x) : ExpOf x (exM x) := exF_of 64 x h.1 (Int.lt_of_le_of_lt h.2 (by decide +kernel))
theorem ExpOf.uniq {x : Int} {e f : Nat} (h1 : ExpOf x e) (h2 : ExpOf x f) : e = f := by
  have key : ∀ {e f : Nat}, ExpOf x e → ExpOf x f → e ≤ f := fun {e f} h1 h2 => by
    rcases h1.2 with h | h
    · omega
    · rcases Nat.lt_or_ge f e with hlt | hge
      · have : (2 : Int) ^ (f + 18) ≤ 2 ^ (e + 17) := two_le (by omega)
        have := h2.1
        omega
      · exact hge
  exact Nat.le_antisymm (key h1 h2) (key h2 h1)
theorem qExp (x : Int) (hx : in64 x) : Fn Try.prog 69 #[.int .u64 x] [] [] (fun v L' R' => v = .int .i64 (exM x) ∧ L' = [] ∧ R' = []) := by
  refine fn_intro Try.func69 rfl Try.ntmps69 rfl (fun E => ?_)
  (repeat (first | ((first | (apply wo_v; rfl) ); (· first | (apply pv_ev; rfl) )) | apply wo_nil | apply wc_seq | apply wc_region ))
  (refine wo_call (qLen64 x hx) rfl (by (repeat (first | apply sub_nil )); done) (by first | exact fun _ h => h | (intro r hr; cases hr; done) | (simp; done) | exact fun _ h => List.mem_append_left _ h | (intro r hr; simp [hr]; done)) rfl ?_; rintro v L' R' ⟨L, rfl, rfl, rfl, h1, h2, h3, h4⟩ H' hH RR hR; simp only [List.cons_append, List.nil_append] at hH hR; subst hH; have hR := hR.symm; subst hR)
  (repeat (first | ((first | (apply wo_v; rfl) ); (· first | (apply pv_ev; rfl) | (apply g_bin; first | (apply a_sub; rfl; rfl; infer_instance; omega) ) | (apply g_bi; first | (apply pv_max; rfl; rfl)) )) | apply wo_nil | apply wc_ret ))
  have he : ExpOf x (L - 18) := by
    by_cases hL : L ≤ 18
    · refine ⟨?_, .inl (by omega)⟩
      have : (2 : Int) ^ L ≤ 2 ^ (L - 18 + 18) := two_le (by omega)
      omega
    · refine ⟨by rw [show L - 18 + 18 = L by omega]; exact h2, .inr ?_⟩
      have hp : (0 : Int) < 2 ^ (L - 1) := Int.pow_pos (by omega)
      have e1 : (2 : Int) ^ L = 2 * 2 ^ (L - 1) := by rw [show L = (L - 1) + 1 by omega, Int.pow_succ, Int.mul_comm]; simp
      rw [show L - 18 + 17 = L - 1 by omega]
      by_cases h0 : 0 < x
      · have := h3 h0; omega
      · exfalso
        have hx0 := h4 (by have := hx.1; omega)
        omega
  have e2 := he.uniq (exM_of hx)
  exact ret1 rfl rfl ⟨by rw [← e2]; congr 1; omega, rfl, rfl⟩ ((by (repeat (first | apply sub_nil )); done) : List.Perm _ ([] ++ _)) (by first | exact fun _ h => h | (intro r hr; cases hr; done) | (simp; done) | exact fun _ h => List.mem_append_left _ h | (intro r hr; simp [hr]; done))

end Go.Proofs.Yteaccbbmphcmnaa

/-
  Package rtcp: what packets write: Remb.
-/
namespace Go.Proofs.Yteaccbbmphcmnaa
set_option linter.unusedSimpArgs false
set_option linter.unusedVariables false
open Go.RowKit
attribute [local irreducible] Pv WO WC Fn
set_option maxRecDepth 100000
attribute [local irreducible] ByteArray.extract

theorem or_sum {e q : Int} (he : 0 ≤ e ∧ e ≤ 63) (hq : 0 ≤ q ∧ q < 262144) : bits .or .u64 (e * 262144) q = e * 262144 + q := by
  obtain ⟨u, rfl⟩ := Int.eq_ofNat_of_zero_le he.1
  obtain ⟨z, rfl⟩ := Int.eq_ofNat_of_zero_le hq.1
  have e0 : (u : Int) * 262144 = ((u * 262144 : Nat) : Int) := by omega
  rw [e0]
  show IntKind.u64.wrap ((BitVec.ofInt 64 ((u * 262144 : Nat) : Int) ||| BitVec.ofInt 64 (z : Int)).toNat : Int) = _
  have hz : ∀ c : Nat, c < 2 ^ 64 → (BitVec.ofInt 64 (c : Int)).toNat = c := fun c hc => by
    rw [BitVec.ofInt_natCast, BitVec.toNat_ofNat]; exact Nat.mod_eq_of_lt hc
  rw [BitVec.toNat_or, hz _ (by omega), hz z (by omega), IntKind.wrap_u64]
  have : 2 ^ 18 * u + z = 2 ^ 18 * u ||| z := Nat.two_pow_add_eq_or_of_lt (by omega) u
  rw [show u * 262144 = 2 ^ 18 * u by omega, ← this]
  omega
def remV (rt : Int) : Int := exM rt * 262144 + rt / 2 ^ exM rt
def remT (fm rt : Int) (ss : List Int) : ByteArray := numsS 4 [fm, 0] ++ rembS ++ numsS 1 [(ss.length : Int)] ++ numsS 3 [remV rt] ++ numsS 4 ss
theorem exM_le {rt : Int} (h : in64 rt) : exM rt ≤ 46 := by
  have h1 := exM_of h
  rcases h1.2 with h2 | h2
  · omega
  · rcases Nat.lt_or_ge 46 (exM rt) with h3 | h3
    · exfalso
      have : (2 : Int) ^ 64 ≤ 2 ^ (exM rt + 17) := two_le (by omega)
      have h4 := h.2
      have e : (2 : Int) ^ 64 = 18446744073709551616 := by decide +kernel
      omega
    · exact h3
theorem exM_q {rt : Int} (h : in64 rt) : 0 ≤ rt / 2 ^ exM rt ∧ rt / 2 ^ exM rt < 262144 := by
  have hp : (0 : Int) < 2 ^ exM rt := Int.pow_pos (by omega)
  refine ⟨Int.ediv_nonneg h.1 (by omega), ?_⟩
  have h1 := (exM_of h).1
  rw [Int.pow_add, Int.mul_comm] at h1
  exact Int.ediv_lt_of_lt_mul hp h1
theorem remV_b {rt : Int} (h : in64 rt) : 0 ≤ remV rt ∧ remV rt ≤ 16777215 := by
  have h1 := exM_le h
  have h2 := exM_q h
  unfold remV
  omega
abbrev rmB (b : Nat) (fm rt : Int) (v : Value) : It := .ob b (.cells #[.int .u32 fm, .int .u64 rt, v] 111 (0, 0))
def tblRm (g : Nat) (f0 n V : Int) (T1 T2 T3 T4 T5 : ByteArray) : Nat → List (List It) → Value → List (List It) → Prop := fun k Ls v Ms => match k with
  | 3 => newP 37 [[.int .u32 f0], [.int .u32 0]] v Ms
  | 4 => wrP0 g T1 v Ms
  | 5 => newP 9 [[.string rembS]] v Ms
  | 6 => wrP0 g T2 v Ms
  | 11 => newP 5 [[.int .u8 n]] v Ms
  | 12 => wrP0 g T3 v Ms
  | 21 => newP 52 [[.int .u64 V]] v Ms
  | 22 => wrP0 g T4 v Ms
  | _ => wrP1 g T5 v Ms
set_option maxHeartbeats 16000000 in
theorem pRemb (R : List Ro) (g : Nat) (f0 rt : Int) (ss : List Int) (A : Option Addr) (n c : Nat) (hS : SQ R 1 A n c (c32 ss)) (hl : ss.length ≤ 255) (hb : ∀ x ∈ ss, in32 x) (h1 : in32 f0) (h2 : in64 rt) :
    PtF 109 R g (.agg #[.int .u32 f0, .int .u64 rt, .slice A n c]) (remT f0 rt ss) := by
  have hn : n = ss.length := by rw [← hS.len, c32_len]
  subst hn
  have hx := exM_le h2
  have hq := exM_q h2
  have qe := qExp rt h2
  have hvb := remV_b h2
  have hrt : 0 ≤ rt ∧ rt ≤ 18446744073709551615 := h2
  have hln : 0 ≤ (ss.length : Int) ∧ (ss.length : Int) ≤ 255 := by omega
  unfold remT
  obtain ⟨V0, hV0⟩ : ∃ V0, remV rt = V0 := ⟨_, rfl⟩
  rw [hV0] at hvb ⊢
  unfold remV at hV0
  obtain ⟨e, he⟩ : ∃ e, exM rt = e := ⟨_, rfl⟩
  rw [he] at hx hq qe hV0
  have hor := or_sum (e := e) (q := rt / 2 ^ e) (by omega) hq
  rw [hV0] at hor
  have hfd : rt.fdiv (2 ^ (min (e : Int).toNat IntKind.u64.bits)) = rt / 2 ^ e := by
    rw [show min (e : Int).toNat IntKind.u64.bits = e by show min e 64 = e; omega]
    exact Int.fdiv_eq_ediv_of_nonneg _ (Int.le_of_lt (Int.pow_pos (by omega)))
  obtain ⟨T1, hT1⟩ : ∃ T1, numsS 4 [f0, 0] = T1 := ⟨_, rfl⟩
  rw [hT1]
  obtain ⟨T2, hT2⟩ : ∃ T2, T1 ++ rembS = T2 := ⟨_, rfl⟩
  rw [hT2]
  obtain ⟨T3, hT3⟩ : ∃ T3, T2 ++ numsS 1 [(ss.length : Int)] = T3 := ⟨_, rfl⟩
  rw [hT3]
  obtain ⟨T4, hT4⟩ : ∃ T4, T3 ++ numsS 3 [V0] = T4 := ⟨_, rfl⟩
  rw [hT4]
  obtain ⟨T5, hT5⟩ : ∃ T5, T4 ++ numsS 4 ss = T5 := ⟨_, rfl⟩
  rw [hT5]
  have z1 : T1.size = 8 := by rw [← hT1, numsS_size]; rfl
  have z2 : T2.size = 12 := by rw [← hT2, ByteArray.size_append, z1]; rfl
  have z3 : T3.size = 13 := by rw [← hT3, ByteArray.size_append, numsS_size, z2]; rfl
  have z4 : T4.size = 16 := by rw [← hT4, ByteArray.size_append, numsS_size, z3]; rfl
  have hW1 := fun c p ao hw bl => wU32 g c bl 2 p ao E0 [f0, 0] (all2 (P := in32) h1 in32_0) (by simp) hw (by decide)
  rw [E0_append, hT1] at hW1
  have hW2 := fun c p ao hw bl => wPut g c bl 1 p ao T1 [rembS] (all1B (by decide)) (by simp) hw (by omega)
  rw [show catS [rembS] = rembS from append_E0 rembS, hT2] at hW2
  have hW3 := fun c p ao hw bl => wU8L g c bl p ao T2 [(ss.length : Int)] (all1 (P := in8) hln) (by simp) (by simp) hw (by omega)
  rw [hT3] at hW3
  have hW4 := fun c p ao hw bl => wNum g c bl 1 p ao T3 3 3 [V0] rfl (all1 (P := fun x => 0 ≤ x ∧ x ≤ 18446744073709551615) (by omega)) (by simp) hw (by omega)
  rw [hT4] at hW4
  have hW5 := fun c2 p ao hw => wR32 g c2 p ao T4 ss A ss.length c R hS hb (by omega) hw (by omega)
  rw [hT5] at hW5
  refine fn_intro Try.func109 rfl Try.ntmps109 rfl (fun E => ?_)
  (repeat (first | ((first | (apply wo_v; rfl) ); (· first | (apply pv_ev; rfl) | (apply pv_fld; rfl) | (apply g_load; first | (apply pv_ld; rfl; (· (repeat (first | apply sel_here ))); rfl) ) )) | apply wo_nil | apply wc_seq | apply wc_region | (apply wo_box1; rfl; rfl; rfl; intro bx) | (apply wo_boxa; rfl; rfl; intro bx) ))
  obtain ⟨bp, hbp⟩ : ∃ g, g = bx := ⟨_, rfl⟩
  subst hbp
  (refine wo_call (qe) rfl (by (repeat (first | apply sub_nil )); done) (by first | exact fun _ h => h | (intro r hr; cases hr; done) | (simp; done) | exact fun _ h => List.mem_append_left _ h | (intro r hr; simp [hr]; done)) rfl ?_; rintro v L' R' ⟨rfl, rfl, rfl⟩ H' hH RR hR; simp only [List.cons_append, List.nil_append] at hH hR; subst hH; have hR := hR.symm; subst hR)
  (repeat (first | ((first | (apply wo_v; rfl) ); (· first | (apply pv_ev; rfl) )) | apply wo_nil ))
  have hV : bits .or .u64 ((e : Int) * 262144) (rt.fdiv (2 ^ (min (e : Int).toNat IntKind.u64.bits))) = V0 := by rw [hfd]; exact hor
  (refine wc_regM [0, 1, 2, 3, 4] (aslL [(3, [1]), (4, [0, 1]), (5, [2]), (6, [0, 2]), (11, [3]), (12, [0, 3]), (21, [4]), (22, [0, 4]), (25, [0])]) (tblRm g f0 ss.length V0 T1 T2 T3 T4 T5) ([rmB bp f0 rt (.slice A ss.length c)]) (fm [(0, wrH g none none 0 E0), (1, []), (2, []), (3, []), (4, [])]) mixed (by kernel_rfl) (by kernel_rfl) (by decide) (aslL_ok (by decide)) (by (repeat (first | (apply prm_cons; (· (repeat (first | apply sel_here )))) | apply List.Perm.nil )); done) ?_; (repeat (first | (apply HdM.val; rfl; rfl; (· first | apply gok_none ); (· first | (apply pv_ev; rfl) | (apply pv_fld; rfl) | (apply g_load; first | (apply pv_ld; rfl; (· (repeat (first | apply sel_here ))); rfl) ) )) )))
  (refine hm_eff (cs := [1]) rfl (by decide) rfl rfl (by first | exact gok_none | exact gok_run rfl rfl) (fun a ha => outc_mono (outc_bsl (by (repeat (first | apply Rws'.nil | (apply Rws'.one; rfl; rfl; rfl) )); done) rfl rfl rfl a ha) (fun v M h => by obtain ⟨b, h1, h2⟩ := h; exact ⟨[M], ⟨b, h1, congrArg (fun x => [x]) h2⟩, rfl, by simp⟩)) (⟨_, _, Exists.intro 0 (And.intro rfl rfl), rfl⟩) ?_; rintro v Ms ⟨bw1, rfl, rfl⟩ _; simp only [setls, setl, reduceIte, Nat.reduceEqDiff]; (repeat (first | (apply HdM.val; rfl; rfl; (· first | fail ); (· first | fail )) )))
  (refine hm_eff (cs := [0, 1]) rfl (by decide) rfl rfl (by first | exact gok_none | exact gok_run rfl rfl) (fun a ha => outc_mono (outc_call (F1 := _) (T := fun v M => ∃ (p ao : Option Addr) (c : Nat), v = .pointer (some ⟨g, 0, none⟩) ∧ M = wrH g p ao c T1 ∧ WOk g p ao c T1) (hW1 0 none none (w0 g) bw1) rfl (by (repeat (first | apply sub_nil )); done) (by first | exact fun _ h => h | (intro r hr; cases hr; done) | (simp; done) | exact fun _ h => List.mem_append_left _ h | (intro r hr; simp [hr]; done)) (by rintro v L' R' ⟨p', ao', c', rfl, rfl, _, hw'⟩; exact ⟨_, ⟨p', ao', c', rfl, rfl, hw'⟩, (by (repeat (first | (apply prm_cons; (· (repeat (first | apply sel_here )))) | apply List.Perm.nil )); done)⟩) a ha) (fun v M h => Exists.elim h fun p h => Exists.elim h fun ao h => Exists.elim h fun c h => ⟨[M, []], Exists.intro p (Exists.intro ao (Exists.intro c (And.intro h.1 (And.intro (congrArg (fun x => [x, []]) h.2.1) h.2.2)))), rfl, by simp⟩)) ((by obtain ⟨p, ao, c, h⟩ := WOk.ex g T1; exact ⟨_, _, Exists.intro p (Exists.intro ao (Exists.intro c (And.intro rfl (And.intro rfl h)))), rfl⟩)) ?_; rintro v Ms ⟨pc1, aoc1, cc1, rfl, rfl, hwc1⟩ _; simp only [setls, setl, reduceIte, Nat.reduceEqDiff]; (repeat (first | (apply HdM.val; rfl; rfl; (· first | fail ); (· first | fail )) )))
  (refine hm_eff (cs := [2]) rfl (by decide) rfl rfl (by first | exact gok_none | exact gok_run rfl rfl) (fun a ha => outc_mono (outc_bsl (by (repeat (first | apply Rws'.nil | (apply Rws'.one; rfl; rfl; rfl) )); done) rfl rfl rfl a ha) (fun v M h => by obtain ⟨b, h1, h2⟩ := h; exact ⟨[M], ⟨b, h1, congrArg (fun x => [x]) h2⟩, rfl, by simp⟩)) (⟨_, _, Exists.intro 0 (And.intro rfl rfl), rfl⟩) ?_; rintro v Ms ⟨bw2, rfl, rfl⟩ _; simp only [setls, setl, reduceIte, Nat.reduceEqDiff]; (repeat (first | (apply HdM.val; rfl; rfl; (· first | fail ); (· first | fail )) )))
  (refine hm_eff (cs := [0, 2]) rfl (by decide) rfl rfl (by first | exact gok_none | exact gok_run rfl rfl) (fun a ha => outc_mono (outc_call (F1 := _) (T := fun v M => ∃ (p ao : Option Addr) (c : Nat), v = .pointer (some ⟨g, 0, none⟩) ∧ M = wrH g p ao c T2 ∧ WOk g p ao c T2) (hW2 cc1 pc1 aoc1 hwc1 bw2) rfl (by (repeat (first | apply sub_nil )); done) (by first | exact fun _ h => h | (intro r hr; cases hr; done) | (simp; done) | exact fun _ h => List.mem_append_left _ h | (intro r hr; simp [hr]; done)) (by rintro v L' R' ⟨p', ao', c', rfl, rfl, _, hw'⟩; exact ⟨_, ⟨p', ao', c', rfl, rfl, hw'⟩, (by (repeat (first | (apply prm_cons; (· (repeat (first | apply sel_here )))) | apply List.Perm.nil )); done)⟩) a ha) (fun v M h => Exists.elim h fun p h => Exists.elim h fun ao h => Exists.elim h fun c h => ⟨[M, []], Exists.intro p (Exists.intro ao (Exists.intro c (And.intro h.1 (And.intro (congrArg (fun x => [x, []]) h.2.1) h.2.2)))), rfl, by simp⟩)) ((by obtain ⟨p, ao, c, h⟩ := WOk.ex g T2; exact ⟨_, _, Exists.intro p (Exists.intro ao (Exists.intro c (And.intro rfl (And.intro rfl h)))), rfl⟩)) ?_; rintro v Ms ⟨pc2, aoc2, cc2, rfl, rfl, hwc2⟩ _; simp only [setls, setl, reduceIte, Nat.reduceEqDiff]; (repeat (first | (apply HdM.val; rfl; rfl; (· first | apply gok_none ); (· first | (apply pv_ev; rfl) | (apply pv_fld; rfl) | (apply g_load; first | (apply pv_ld; rfl; (· (repeat (first | apply sel_here ))); rfl) ) | (apply g_bi; first | (apply pv_len_sl; rfl) ) | (apply g_conv; first | (apply a_conv; rfl; infer_instance; infer_instance; infer_instance; omega) ) )) )))
  (refine hm_eff (cs := [3]) rfl (by decide) rfl rfl (by first | exact gok_none | exact gok_run rfl rfl) (fun a ha => outc_mono (outc_bsl (by (repeat (first | apply Rws'.nil | (apply Rws'.one; rfl; rfl; rfl) )); done) rfl rfl rfl a ha) (fun v M h => by obtain ⟨b, h1, h2⟩ := h; exact ⟨[M], ⟨b, h1, congrArg (fun x => [x]) h2⟩, rfl, by simp⟩)) (⟨_, _, Exists.intro 0 (And.intro rfl rfl), rfl⟩) ?_; rintro v Ms ⟨bw3, rfl, rfl⟩ _; simp only [setls, setl, reduceIte, Nat.reduceEqDiff]; (repeat (first | (apply HdM.val; rfl; rfl; (· first | fail ); (· first | fail )) )))
  (refine hm_eff (cs := [0, 3]) rfl (by decide) rfl rfl (by first | exact gok_none | exact gok_run rfl rfl) (fun a ha => outc_mono (outc_call (F1 := _) (T := fun v M => ∃ (p ao : Option Addr) (c : Nat), v = .pointer (some ⟨g, 0, none⟩) ∧ M = wrH g p ao c T3 ∧ WOk g p ao c T3) (hW3 cc2 pc2 aoc2 hwc2 bw3) rfl (by (repeat (first | apply sub_nil )); done) (by first | exact fun _ h => h | (intro r hr; cases hr; done) | (simp; done) | exact fun _ h => List.mem_append_left _ h | (intro r hr; simp [hr]; done)) (by rintro v L' R' ⟨p', ao', c', rfl, rfl, _, hw'⟩; exact ⟨_, ⟨p', ao', c', rfl, rfl, hw'⟩, (by (repeat (first | (apply prm_cons; (· (repeat (first | apply sel_here )))) | apply List.Perm.nil )); done)⟩) a ha) (fun v M h => Exists.elim h fun p h => Exists.elim h fun ao h => Exists.elim h fun c h => ⟨[M, []], Exists.intro p (Exists.intro ao (Exists.intro c (And.intro h.1 (And.intro (congrArg (fun x => [x, []]) h.2.1) h.2.2)))), rfl, by simp⟩)) ((by obtain ⟨p, ao, c, h⟩ := WOk.ex g T3; exact ⟨_, _, Exists.intro p (Exists.intro ao (Exists.intro c (And.intro rfl (And.intro rfl h)))), rfl⟩)) ?_; rintro v Ms ⟨pc3, aoc3, cc3, rfl, rfl, hwc3⟩ _; simp only [setls, setl, reduceIte, Nat.reduceEqDiff]; (repeat (first | (apply HdM.val; rfl; rfl; (· first | apply gok_none ); (· first | (apply pv_ev; rfl) | (apply pv_fld; rfl) | (apply g_load; first | (apply pv_ld; rfl; (· (repeat (first | apply sel_here ))); rfl) ) | (apply g_bin; first | (apply (a_or 4); rfl; rfl; infer_instance; rfl; omega) | (apply (a_or 5); rfl; rfl; infer_instance; rfl; omega) | (apply (a_or 6); rfl; rfl; infer_instance; rfl; omega) | (apply (a_or 7); rfl; rfl; infer_instance; rfl; omega) | (apply (a_or 8); rfl; rfl; infer_instance; rfl; omega) | (apply (a_or 16); rfl; rfl; infer_instance; rfl; omega) | (apply (a_or 24); rfl; rfl; infer_instance; rfl; omega) | (apply (a_or 32); rfl; rfl; infer_instance; rfl; omega) | (apply pv_or; rfl; rfl) | (apply a_shr; rfl; rfl; rfl; omega; rfl) | (apply a_shl; rfl; rfl; rfl; omega; rfl; infer_instance; omega) | (apply pv_shr; rfl; rfl; omega) ) | (apply g_conv; first | (apply a_conv; rfl; infer_instance; infer_instance; infer_instance; omega) ) )) )))
  (refine hm_eff (cs := [4]) rfl (by decide) rfl rfl (by first | exact gok_none | exact gok_run rfl rfl) (fun a ha => outc_mono (outc_bsl (by (repeat (first | apply Rws'.nil | (apply Rws'.one; rfl; rfl; rfl) )); done) rfl rfl rfl a ha) (fun v M h => by obtain ⟨b, h1, h2⟩ := h; rw [hV] at h2; exact ⟨[M], ⟨b, h1, congrArg (fun x => [x]) h2⟩, rfl, by simp⟩)) (⟨_, _, Exists.intro 0 (And.intro rfl rfl), rfl⟩) ?_; rintro v Ms ⟨bw4, rfl, rfl⟩ _; simp only [setls, setl, reduceIte, Nat.reduceEqDiff]; (repeat (first | (apply HdM.val; rfl; rfl; (· first | fail ); (· first | fail )) )))
  (refine hm_eff (cs := [0, 4]) rfl (by decide) rfl rfl (by first | exact gok_none | exact gok_run rfl rfl) (fun a ha => outc_mono (outc_call (F1 := _) (T := fun v M => ∃ (p ao : Option Addr) (c : Nat), v = .pointer (some ⟨g, 0, none⟩) ∧ M = wrH g p ao c T4 ∧ WOk g p ao c T4) (hW4 cc3 pc3 aoc3 hwc3 bw4) rfl (by (repeat (first | apply sub_nil )); done) (by first | exact fun _ h => h | (intro r hr; cases hr; done) | (simp; done) | exact fun _ h => List.mem_append_left _ h | (intro r hr; simp [hr]; done)) (by rintro v L' R' ⟨p', ao', c', rfl, rfl, _, hw'⟩; exact ⟨_, ⟨p', ao', c', rfl, rfl, hw'⟩, (by (repeat (first | (apply prm_cons; (· (repeat (first | apply sel_here )))) | apply List.Perm.nil )); done)⟩) a ha) (fun v M h => Exists.elim h fun p h => Exists.elim h fun ao h => Exists.elim h fun c h => ⟨[M, []], Exists.intro p (Exists.intro ao (Exists.intro c (And.intro h.1 (And.intro (congrArg (fun x => [x, []]) h.2.1) h.2.2)))), rfl, by simp⟩)) ((by obtain ⟨p, ao, c, h⟩ := WOk.ex g T4; exact ⟨_, _, Exists.intro p (Exists.intro ao (Exists.intro c (And.intro rfl (And.intro rfl h)))), rfl⟩)) ?_; rintro v Ms ⟨pc4, aoc4, cc4, rfl, rfl, hwc4⟩ _; simp only [setls, setl, reduceIte, Nat.reduceEqDiff]; (repeat (first | (apply HdM.val; rfl; rfl; (· first | apply gok_none ); (· first | (apply pv_ev; rfl) | (apply pv_fld; rfl) | (apply g_load; first | (apply pv_ld; rfl; (· (repeat (first | apply sel_here ))); rfl) ) )) )))
  (refine hm_eff (cs := [0]) rfl (by decide) rfl rfl (by first | exact gok_none | exact gok_run rfl rfl) (fun a ha => outc_mono (outc_call (F1 := _) (T := fun v M => ∃ (p ao : Option Addr) (c : Nat), v = .pointer (some ⟨g, 0, none⟩) ∧ M = wrH g p ao c T5 ∧ WOk g p ao c T5) (hW5 cc4 pc4 aoc4 hwc4) rfl (by (repeat (first | apply sub_nil )); done) (by first | exact fun _ h => h | (intro r hr; cases hr; done) | (simp; done) | exact fun _ h => List.mem_append_left _ h | (intro r hr; simp [hr]; done)) (by rintro v L' R' ⟨p', ao', c', rfl, rfl, _, hw'⟩; exact ⟨_, ⟨p', ao', c', rfl, rfl, hw'⟩, (by (repeat (first | (apply prm_cons; (· (repeat (first | apply sel_here )))) | apply List.Perm.nil )); done)⟩) a ha) (fun v M h => by obtain ⟨p, ao, c, h1, h2, h3⟩ := h; exact ⟨[M], ⟨p, ao, c, h1, congrArg (fun x => [x]) h2, h3⟩, rfl, by simp⟩)) ((by obtain ⟨p, ao, c, h⟩ := WOk.ex g T5; exact ⟨_, _, Exists.intro p (Exists.intro ao (Exists.intro c (And.intro rfl (And.intro rfl h)))), rfl⟩)) ?_; rintro v Ms ⟨pc5, aoc5, cc5, rfl, rfl, hwc5⟩ _; simp only [setls, setl, reduceIte, Nat.reduceEqDiff]; (repeat (first | fail )))
  (refine HdM.nil ?_; intro H hH; simp only [Hp, fm, look, setl, List.flatMap_cons, List.flatMap_nil, reduceIte, Nat.reduceEqDiff, Option.getD_some, List.append_nil, List.cons_append, List.nil_append] at hH; subst hH)
  (repeat (first | fail ))
  exact ret0 rfl ⟨pc5, aoc5, cc5, rfl, rfl, rfl, hwc5⟩ (by (repeat (first | apply sub_nil | (apply sub_cons; (· (repeat (first | apply sel_here | apply sel_there)))))); done) (by first | exact fun _ h => h | (intro r hr; cases hr; done) | (simp; done) | exact fun _ h => List.mem_append_left _ h | (intro r hr; simp [hr]; done))
end Go.Proofs.Yteaccbbmphcmnaa

/-
  Package rtcp: packets, written through the interface.
-/
namespace Go.Proofs.Yteaccbbmphcmnaa
set_option linter.unusedSimpArgs false
set_option linter.unusedVariables false
open Go.RowKit
attribute [local irreducible] Pv WO WC Fn
set_option maxRecDepth 100000
attribute [local irreducible] ByteArray.extract

def hdK : Pkt → Int × Int
  | .sender _ _ _ _ _ bl => (200, bl.length)
  | .receiver _ bl => (201, bl.length)
  | .sdes ch => (202, ch.length)
  | .bye ss _ => (203, ss.length)
  | .nack .. => (205, 1)
  | .pli .. => (206, 1)
  | .fir .. => (206, 4)
  | .remb .. => (206, 15)
  | .other kd ct _ => (kd, ct)
def txK : Pkt → ByteArray
  | .sender ss ntp t pk oc bl => numsS 4 [ss] ++ numsS 8 [ntp] ++ numsS 4 [t, pk, oc] ++ bksT bl
  | .receiver ss bl => numsS 4 [ss] ++ bksT bl
  | .sdes ch => chsT ch
  | .bye ss rs => byT ss rs
  | .nack fm to ps => numsS 4 [fm, to] ++ prsT ps
  | .pli fm to => numsS 4 [fm, to]
  | .fir fm os => numsS 4 [fm, 0] ++ orsT os
  | .remb fm rt ss => remT fm rt ss
  | .other _ _ bd => bd
def knK (kd ct : Int) : Prop := (200 ≤ kd ∧ kd ≤ 203) ∨ (kd = 205 ∧ ct = 1) ∨ (kd = 206 ∧ (ct = 1 ∨ ct = 4 ∨ ct = 15))
/-- packets that may be, but for their size -/
def okK : Pkt → Prop
  | .sender ss ntp t pk oc bl => in32 ss ∧ in64 ntp ∧ in32 t ∧ in32 pk ∧ in32 oc ∧ bl.length ≤ 31 ∧ ∀ b ∈ bl, b.ok ∧ b.tt ≤ 16777215
  | .receiver ss bl => in32 ss ∧ bl.length ≤ 31 ∧ ∀ b ∈ bl, b.ok ∧ b.tt ≤ 16777215
  | .sdes ch => ch.length ≤ 31 ∧ ∀ c ∈ ch, in32 c.1 ∧ c.2.length ≤ 1000 ∧ ∀ x ∈ c.2, in8 x.1 ∧ x.1 ≠ 0 ∧ x.2.size ≤ 255
  | .bye ss rs => ss.length ≤ 31 ∧ (∀ x ∈ ss, in32 x) ∧ rs.size ≤ 255
  | .nack fm to ps => in32 fm ∧ in32 to ∧ ps.length ≤ 10000 ∧ ∀ x ∈ ps, in16 x.1 ∧ in16 x.2
  | .pli fm to => in32 fm ∧ in32 to
  | .fir fm os => in32 fm ∧ os.length ≤ 10000 ∧ ∀ x ∈ os, in32 x.1 ∧ in8 x.2
  | .remb fm rt ss => in32 fm ∧ in64 rt ∧ rt / 2 ^ exM rt * 2 ^ exM rt = rt ∧ ss.length ≤ 255 ∧ ∀ x ∈ ss, in32 x
  | .other kd ct bd => 192 ≤ kd ∧ kd ≤ 223 ∧ 0 ≤ ct ∧ ct ≤ 31 ∧ bd.size % 4 = 0 ∧ bd.size ≤ 100000 ∧ ¬ knK kd ct
theorem hSender (ss ntp t pk oc : Int) (A : Option Addr) (n c : Nat) (hn : n ≤ 31) : Fn Try.prog 112 #[.agg #[.int .u32 ss, .int .u64 ntp, .int .u32 t, .int .u32 pk, .int .u32 oc, .slice A n c]] [] [] (fun u L' R' => u = .tuple #[.int .u8 200, .int .u8 n] ∧ L' = [] ∧ R' = []) := by
  refine fn_intro Try.func112 rfl Try.ntmps112 rfl (fun E => ?_)
  (repeat (first | ((first | (apply wo_v; rfl) ); (· first | (apply pv_ev; rfl) )) | apply wo_nil | apply wc_seq | apply wc_region | (apply wo_box1; rfl; rfl; rfl; intro bx) | (apply wo_boxa; rfl; rfl; intro bx) ))
  (refine wc_quiet mixed (by kernel_rfl) ?_; (repeat (first | ((first | (apply hd_v; rfl) ); (· first | (apply pv_ev; rfl) | (apply pv_fld; rfl) | (apply g_load; first | (apply pv_ld; rfl; (· (repeat (first | apply sel_here ))); rfl) ) | (apply g_bi; first | (apply pv_len_sl; rfl) ) | (apply g_conv; first | (apply a_conv; rfl; infer_instance; infer_instance; infer_instance; omega) ) )) | apply Hd.nil | apply wc_ret )))
  exact retv rfl (by (repeat (first | apply RV.nil | (apply RV.tmp; rfl) )); done) (⟨rfl, rfl, rfl⟩) (by (repeat (first | apply sub_nil )); done) (by first | exact fun _ h => h | (intro r hr; cases hr; done) | (simp; done) | exact fun _ h => List.mem_append_left _ h | (intro r hr; simp [hr]; done))
theorem hReceiver (ss : Int) (A : Option Addr) (n c : Nat) (hn : n ≤ 31) : Fn Try.prog 115 #[.agg #[.int .u32 ss, .slice A n c]] [] [] (fun u L' R' => u = .tuple #[.int .u8 201, .int .u8 n] ∧ L' = [] ∧ R' = []) := by
  refine fn_intro Try.func115 rfl Try.ntmps115 rfl (fun E => ?_)
  (repeat (first | ((first | (apply wo_v; rfl) ); (· first | (apply pv_ev; rfl) )) | apply wo_nil | apply wc_seq | apply wc_region | (apply wo_box1; rfl; rfl; rfl; intro bx) | (apply wo_boxa; rfl; rfl; intro bx) ))
  (refine wc_quiet mixed (by kernel_rfl) ?_; (repeat (first | ((first | (apply hd_v; rfl) ); (· first | (apply pv_ev; rfl) | (apply pv_fld; rfl) | (apply g_load; first | (apply pv_ld; rfl; (· (repeat (first | apply sel_here ))); rfl) ) | (apply g_bi; first | (apply pv_len_sl; rfl) ) | (apply g_conv; first | (apply a_conv; rfl; infer_instance; infer_instance; infer_instance; omega) ) )) | apply Hd.nil | apply wc_ret )))
  exact retv rfl (by (repeat (first | apply RV.nil | (apply RV.tmp; rfl) )); done) (⟨rfl, rfl, rfl⟩) (by (repeat (first | apply sub_nil )); done) (by first | exact fun _ h => h | (intro r hr; cases hr; done) | (simp; done) | exact fun _ h => List.mem_append_left _ h | (intro r hr; simp [hr]; done))
theorem hSdes (A : Option Addr) (n c : Nat) (hn : n ≤ 31) : Fn Try.prog 119 #[.agg #[.slice A n c]] [] [] (fun u L' R' => u = .tuple #[.int .u8 202, .int .u8 n] ∧ L' = [] ∧ R' = []) := by
  refine fn_intro Try.func119 rfl Try.ntmps119 rfl (fun E => ?_)
  (repeat (first | ((first | (apply wo_v; rfl) ); (· first | (apply pv_ev; rfl) )) | apply wo_nil | apply wc_seq | apply wc_region | (apply wo_box1; rfl; rfl; rfl; intro bx) | (apply wo_boxa; rfl; rfl; intro bx) ))
  (refine wc_quiet mixed (by kernel_rfl) ?_; (repeat (first | ((first | (apply hd_v; rfl) ); (· first | (apply pv_ev; rfl) | (apply pv_fld; rfl) | (apply g_load; first | (apply pv_ld; rfl; (· (repeat (first | apply sel_here ))); rfl) ) | (apply g_bi; first | (apply pv_len_sl; rfl) ) | (apply g_conv; first | (apply a_conv; rfl; infer_instance; infer_instance; infer_instance; omega) ) )) | apply Hd.nil | apply wc_ret )))
  exact retv rfl (by (repeat (first | apply RV.nil | (apply RV.tmp; rfl) )); done) (⟨rfl, rfl, rfl⟩) (by (repeat (first | apply sub_nil )); done) (by first | exact fun _ h => h | (intro r hr; cases hr; done) | (simp; done) | exact fun _ h => List.mem_append_left _ h | (intro r hr; simp [hr]; done))
theorem hBye (rs : ByteArray) (A : Option Addr) (n c : Nat) (hn : n ≤ 31) : Fn Try.prog 117 #[.agg #[.slice A n c, .string rs]] [] [] (fun u L' R' => u = .tuple #[.int .u8 203, .int .u8 n] ∧ L' = [] ∧ R' = []) := by
  refine fn_intro Try.func117 rfl Try.ntmps117 rfl (fun E => ?_)
  (repeat (first | ((first | (apply wo_v; rfl) ); (· first | (apply pv_ev; rfl) )) | apply wo_nil | apply wc_seq | apply wc_region | (apply wo_box1; rfl; rfl; rfl; intro bx) | (apply wo_boxa; rfl; rfl; intro bx) ))
  (refine wc_quiet mixed (by kernel_rfl) ?_; (repeat (first | ((first | (apply hd_v; rfl) ); (· first | (apply pv_ev; rfl) | (apply pv_fld; rfl) | (apply g_load; first | (apply pv_ld; rfl; (· (repeat (first | apply sel_here ))); rfl) ) | (apply g_bi; first | (apply pv_len_sl; rfl) ) | (apply g_conv; first | (apply a_conv; rfl; infer_instance; infer_instance; infer_instance; omega) ) )) | apply Hd.nil | apply wc_ret )))
  exact retv rfl (by (repeat (first | apply RV.nil | (apply RV.tmp; rfl) )); done) (⟨rfl, rfl, rfl⟩) (by (repeat (first | apply sub_nil )); done) (by first | exact fun _ h => h | (intro r hr; cases hr; done) | (simp; done) | exact fun _ h => List.mem_append_left _ h | (intro r hr; simp [hr]; done))
theorem hFir (f0 : Int) (A : Option Addr) (n c : Nat) : Fn Try.prog 106 #[.agg #[.int .u32 f0, .slice A n c]] [] [] (fun u L' R' => u = .tuple #[.int .u8 206, .int .u8 4] ∧ L' = [] ∧ R' = []) := by
  refine fn_intro Try.func106 rfl Try.ntmps106 rfl (fun E => ?_)
  (repeat (first | ((first | (apply wo_v; rfl) ); (· first | (apply pv_ev; rfl) )) | apply wo_nil | apply wc_seq | apply wc_region | apply wc_ret | (apply wo_box1; rfl; rfl; rfl; intro bx) | (apply wo_boxa; rfl; rfl; intro bx) ))
  exact retv rfl (by (repeat (first | apply RV.nil | (apply RV.tmp; rfl) )); done) (⟨rfl, rfl, rfl⟩) (by (repeat (first | apply sub_nil )); done) (by first | exact fun _ h => h | (intro r hr; cases hr; done) | (simp; done) | exact fun _ h => List.mem_append_left _ h | (intro r hr; simp [hr]; done))
theorem hRemb (f0 rt : Int) (A : Option Addr) (n c : Nat) : Fn Try.prog 108 #[.agg #[.int .u32 f0, .int .u64 rt, .slice A n c]] [] [] (fun u L' R' => u = .tuple #[.int .u8 206, .int .u8 15] ∧ L' = [] ∧ R' = []) := by
  refine fn_intro Try.func108 rfl Try.ntmps108 rfl (fun E => ?_)
  (repeat (first | ((first | (apply wo_v; rfl) ); (· first | (apply pv_ev; rfl) )) | apply wo_nil | apply wc_seq | apply wc_region | apply wc_ret | (apply wo_box1; rfl; rfl; rfl; intro bx) | (apply wo_boxa; rfl; rfl; intro bx) ))
  exact retv rfl (by (repeat (first | apply RV.nil | (apply RV.tmp; rfl) )); done) (⟨rfl, rfl, rfl⟩) (by (repeat (first | apply sub_nil )); done) (by first | exact fun _ h => h | (intro r hr; cases hr; done) | (simp; done) | exact fun _ h => List.mem_append_left _ h | (intro r hr; simp [hr]; done))
theorem hOther (kd ct : Int) (bd : ByteArray) : Fn Try.prog 110 #[.agg #[.int .u8 kd, .int .u8 ct, .string bd]] [] [] (fun u L' R' => u = .tuple #[.int .u8 kd, .int .u8 ct] ∧ L' = [] ∧ R' = []) := by
  refine fn_intro Try.func110 rfl Try.ntmps110 rfl (fun E => ?_)
  (repeat (first | ((first | (apply wo_v; rfl) ); (· first | (apply pv_ev; rfl) )) | apply wo_nil | apply wc_seq | apply wc_region | (apply wo_box1; rfl; rfl; rfl; intro bx) | (apply wo_boxa; rfl; rfl; intro bx) ))
  (refine wc_quiet mixed (by kernel_rfl) ?_; (repeat (first | ((first | (apply hd_v; rfl) ); (· first | (apply pv_ev; rfl) | (apply pv_fld; rfl) | (apply g_load; first | (apply pv_ld; rfl; (· (repeat (first | apply sel_here ))); rfl) ) )) | apply Hd.nil | apply wc_ret )))
  exact retv rfl (by (repeat (first | apply RV.nil | (apply RV.tmp; rfl) )); done) (⟨rfl, rfl, rfl⟩) (by (repeat (first | apply sub_nil )); done) (by first | exact fun _ h => h | (intro r hr; cases hr; done) | (simp; done) | exact fun _ h => List.mem_append_left _ h | (intro r hr; simp [hr]; done))
theorem tSender (R : List Ro) (ss ntp t pk oc : Int) (l : List Bk) (A : Option Addr) (n c : Nat) (hS : SQ R 7 A n c (blkV l)) (hl : l.length ≤ 10000) (hb : ∀ b ∈ l, b.ok) (h1 : in32 ss) (h2 : in64 ntp) (h3 : in32 t) (h4 : in32 pk) (h5 : in32 oc) : PtC R (.iface 130 (.agg #[.int .u32 ss, .int .u64 ntp, .int .u32 t, .int .u32 pk, .int .u32 oc, .slice A n c])) (txK (.sender ss ntp t pk oc l)) := fun g => by
  refine fn_intro Try.func29 rfl Try.ntmps29 rfl (fun E => ?_)
  (repeat (first | ((first | (apply wo_v; rfl) ); (· first | (apply pv_ev; rfl) | (apply pv_tas; rfl; infer_instance) )) | apply wo_nil | apply wc_seq | apply wc_region | (apply wc_true; rfl) ))
  (refine wo_inv rfl inferInstance (pSender R g ss ntp t pk oc l A n c hS hl hb h1 h2 h3 h4 h5) rfl (by (repeat (first | apply sub_nil )); done) (by first | exact fun _ h => h | (intro r hr; cases hr; done) | (simp; done) | exact fun _ h => List.mem_append_left _ h | (intro r hr; simp [hr]; done)) rfl ?_; rintro v L' R' ⟨p5, ao5, c5, rfl, rfl, rfl, hw5⟩ H' hH RR hR; simp only [List.cons_append, List.nil_append] at hH hR; subst hH; have hR := hR.symm; subst hR)
  (repeat (first | apply wo_nil ))
  exact ret0 rfl ⟨p5, ao5, c5, rfl, rfl, rfl, hw5⟩ (by (repeat (first | apply sub_nil )); done) (by first | exact fun _ h => h | (intro r hr; cases hr; done) | (simp; done) | exact fun _ h => List.mem_append_left _ h | (intro r hr; simp [hr]; done))
theorem tReceiver (R : List Ro) (ss : Int) (l : List Bk) (A : Option Addr) (n c : Nat) (hS : SQ R 7 A n c (blkV l)) (hl : l.length ≤ 10000) (hb : ∀ b ∈ l, b.ok) (h1 : in32 ss) : PtC R (.iface 132 (.agg #[.int .u32 ss, .slice A n c])) (txK (.receiver ss l)) := fun g => by
  refine fn_intro Try.func29 rfl Try.ntmps29 rfl (fun E => ?_)
  (repeat (first | ((first | (apply wo_v; rfl) ); (· first | (apply pv_ev; rfl) | (apply pv_tas; rfl; infer_instance) )) | apply wo_nil | apply wc_seq | apply wc_region | (apply wc_true; rfl) ))
  (refine wo_inv rfl inferInstance (pReceiver R g ss l A n c hS hl hb h1) rfl (by (repeat (first | apply sub_nil )); done) (by first | exact fun _ h => h | (intro r hr; cases hr; done) | (simp; done) | exact fun _ h => List.mem_append_left _ h | (intro r hr; simp [hr]; done)) rfl ?_; rintro v L' R' ⟨p5, ao5, c5, rfl, rfl, rfl, hw5⟩ H' hH RR hR; simp only [List.cons_append, List.nil_append] at hH hR; subst hH; have hR := hR.symm; subst hR)
  (repeat (first | apply wo_nil ))
  exact ret0 rfl ⟨p5, ao5, c5, rfl, rfl, rfl, hw5⟩ (by (repeat (first | apply sub_nil )); done) (by first | exact fun _ h => h | (intro r hr; cases hr; done) | (simp; done) | exact fun _ h => List.mem_append_left _ h | (intro r hr; simp [hr]; done))
theorem tSdes (R : List Ro) (l : List (Int × List (Int × ByteArray))) (rows : List (List Value)) (A : Option Addr) (n c m : Nat) (hS : SQ R 2 A n c rows) (hV : ChsV R l rows) (hl : l.length ≤ 100) (hm : m ≤ 1000) (hb : ∀ c ∈ l, in32 c.1 ∧ c.2.length ≤ m ∧ ∀ x ∈ c.2, in8 x.1 ∧ x.2.size ≤ 255) : PtC R (.iface 157 (.agg #[.slice A n c])) (txK (.sdes l)) := fun g => by
  refine fn_intro Try.func29 rfl Try.ntmps29 rfl (fun E => ?_)
  (repeat (first | ((first | (apply wo_v; rfl) ); (· first | (apply pv_ev; rfl) | (apply pv_tas; rfl; infer_instance) )) | apply wo_nil | apply wc_seq | apply wc_region | (apply wc_true; rfl) ))
  (refine wo_inv rfl inferInstance (pSdes R g l rows A n c m hS hV hl hm hb) rfl (by (repeat (first | apply sub_nil )); done) (by first | exact fun _ h => h | (intro r hr; cases hr; done) | (simp; done) | exact fun _ h => List.mem_append_left _ h | (intro r hr; simp [hr]; done)) rfl ?_; rintro v L' R' ⟨p5, ao5, c5, rfl, rfl, rfl, hw5⟩ H' hH RR hR; simp only [List.cons_append, List.nil_append] at hH hR; subst hH; have hR := hR.symm; subst hR)
  (repeat (first | apply wo_nil ))
  exact ret0 rfl ⟨p5, ao5, c5, rfl, rfl, rfl, hw5⟩ (by (repeat (first | apply sub_nil )); done) (by first | exact fun _ h => h | (intro r hr; cases hr; done) | (simp; done) | exact fun _ h => List.mem_append_left _ h | (intro r hr; simp [hr]; done))
theorem tBye (R : List Ro) (ss : List Int) (rs : ByteArray) (A : Option Addr) (n c : Nat) (hS : SQ R 1 A n c (c32 ss)) (hl : ss.length ≤ 10000) (hb : ∀ x ∈ ss, in32 x) (hrs : rs.size ≤ 255) : PtC R (.iface 136 (.agg #[.slice A n c, .string rs])) (txK (.bye ss rs)) := fun g => by
  refine fn_intro Try.func29 rfl Try.ntmps29 rfl (fun E => ?_)
  (repeat (first | ((first | (apply wo_v; rfl) ); (· first | (apply pv_ev; rfl) | (apply pv_tas; rfl; infer_instance) )) | apply wo_nil | apply wc_seq | apply wc_region | (apply wc_true; rfl) ))
  (refine wo_inv rfl inferInstance (pBye R g ss rs A n c hS hl hb hrs) rfl (by (repeat (first | apply sub_nil )); done) (by first | exact fun _ h => h | (intro r hr; cases hr; done) | (simp; done) | exact fun _ h => List.mem_append_left _ h | (intro r hr; simp [hr]; done)) rfl ?_; rintro v L' R' ⟨p5, ao5, c5, rfl, rfl, rfl, hw5⟩ H' hH RR hR; simp only [List.cons_append, List.nil_append] at hH hR; subst hH; have hR := hR.symm; subst hR)
  (repeat (first | apply wo_nil ))
  exact ret0 rfl ⟨p5, ao5, c5, rfl, rfl, rfl, hw5⟩ (by (repeat (first | apply sub_nil )); done) (by first | exact fun _ h => h | (intro r hr; cases hr; done) | (simp; done) | exact fun _ h => List.mem_append_left _ h | (intro r hr; simp [hr]; done))
theorem tFir (R : List Ro) (f0 : Int) (l : List (Int × Int)) (A : Option Addr) (n c : Nat) (hS : SQ R 2 A n c (ordV l)) (hl : l.length ≤ 10000) (h1 : in32 f0) (hb : ∀ x ∈ l, in32 x.1 ∧ in8 x.2) : PtC R (.iface 106 (.agg #[.int .u32 f0, .slice A n c])) (txK (.fir f0 l)) := fun g => by
  refine fn_intro Try.func29 rfl Try.ntmps29 rfl (fun E => ?_)
  (repeat (first | ((first | (apply wo_v; rfl) ); (· first | (apply pv_ev; rfl) | (apply pv_tas; rfl; infer_instance) )) | apply wo_nil | apply wc_seq | apply wc_region | (apply wc_true; rfl) ))
  (refine wo_inv rfl inferInstance (pFir R g f0 l A n c hS hl h1 hb) rfl (by (repeat (first | apply sub_nil )); done) (by first | exact fun _ h => h | (intro r hr; cases hr; done) | (simp; done) | exact fun _ h => List.mem_append_left _ h | (intro r hr; simp [hr]; done)) rfl ?_; rintro v L' R' ⟨p5, ao5, c5, rfl, rfl, rfl, hw5⟩ H' hH RR hR; simp only [List.cons_append, List.nil_append] at hH hR; subst hH; have hR := hR.symm; subst hR)
  (repeat (first | apply wo_nil ))
  exact ret0 rfl ⟨p5, ao5, c5, rfl, rfl, rfl, hw5⟩ (by (repeat (first | apply sub_nil )); done) (by first | exact fun _ h => h | (intro r hr; cases hr; done) | (simp; done) | exact fun _ h => List.mem_append_left _ h | (intro r hr; simp [hr]; done))
theorem tRemb (R : List Ro) (f0 rt : Int) (ss : List Int) (A : Option Addr) (n c : Nat) (hS : SQ R 1 A n c (c32 ss)) (hl : ss.length ≤ 255) (hb : ∀ x ∈ ss, in32 x) (h1 : in32 f0) (h2 : in64 rt) : PtC R (.iface 111 (.agg #[.int .u32 f0, .int .u64 rt, .slice A n c])) (txK (.remb f0 rt ss)) := fun g => by
  refine fn_intro Try.func29 rfl Try.ntmps29 rfl (fun E => ?_)
  (repeat (first | ((first | (apply wo_v; rfl) ); (· first | (apply pv_ev; rfl) | (apply pv_tas; rfl; infer_instance) )) | apply wo_nil | apply wc_seq | apply wc_region | (apply wc_true; rfl) ))
  (refine wo_inv rfl inferInstance (pRemb R g f0 rt ss A n c hS hl hb h1 h2) rfl (by (repeat (first | apply sub_nil )); done) (by first | exact fun _ h => h | (intro r hr; cases hr; done) | (simp; done) | exact fun _ h => List.mem_append_left _ h | (intro r hr; simp [hr]; done)) rfl ?_; rintro v L' R' ⟨p5, ao5, c5, rfl, rfl, rfl, hw5⟩ H' hH RR hR; simp only [List.cons_append, List.nil_append] at hH hR; subst hH; have hR := hR.symm; subst hR)
  (repeat (first | apply wo_nil ))
  exact ret0 rfl ⟨p5, ao5, c5, rfl, rfl, rfl, hw5⟩ (by (repeat (first | apply sub_nil )); done) (by first | exact fun _ h => h | (intro r hr; cases hr; done) | (simp; done) | exact fun _ h => List.mem_append_left _ h | (intro r hr; simp [hr]; done))
theorem tOther (R : List Ro) (kd ct : Int) (bd : ByteArray) (hb : bd.size ≤ 100000) : PtC R (.iface 114 (.agg #[.int .u8 kd, .int .u8 ct, .string bd])) (txK (.other kd ct bd)) := fun g => by
  refine fn_intro Try.func29 rfl Try.ntmps29 rfl (fun E => ?_)
  (repeat (first | ((first | (apply wo_v; rfl) ); (· first | (apply pv_ev; rfl) | (apply pv_tas; rfl; infer_instance) )) | apply wo_nil | apply wc_seq | apply wc_region | (apply wc_true; rfl) ))
  (refine wo_inv rfl inferInstance (pOther R g kd ct bd hb) rfl (by (repeat (first | apply sub_nil )); done) (by first | exact fun _ h => h | (intro r hr; cases hr; done) | (simp; done) | exact fun _ h => List.mem_append_left _ h | (intro r hr; simp [hr]; done)) rfl ?_; rintro v L' R' ⟨p5, ao5, c5, rfl, rfl, rfl, hw5⟩ H' hH RR hR; simp only [List.cons_append, List.nil_append] at hH hR; subst hH; have hR := hR.symm; subst hR)
  (repeat (first | apply wo_nil ))
  exact ret0 rfl ⟨p5, ao5, c5, rfl, rfl, rfl, hw5⟩ (by (repeat (first | apply sub_nil )); done) (by first | exact fun _ h => h | (intro r hr; cases hr; done) | (simp; done) | exact fun _ h => List.mem_append_left _ h | (intro r hr; simp [hr]; done))
/-- a packet that may be is written -/
theorem wrK {R : List Ro} : ∀ {p : Pkt} {v : Value}, okK p → PkV R p v → HdC v (hdK p).1 (hdK p).2 ∧ PtC R v (txK p)
  | .sender ss ntp t pk oc bl, v, h, hv => by
    obtain ⟨A, n, c, rfl, hS⟩ := hv
    obtain ⟨h1, h2, h3, h4, h5, h6, h7⟩ := h
    have hn : n = bl.length := by rw [← hS.len, blkV_len]
    subst hn
    exact ⟨⟨_, _, _, rfl, inferInstance, inferInstance, hSender ss ntp t pk oc A _ c h6⟩, tSender R ss ntp t pk oc bl A _ c hS (by omega) (fun b hb => (h7 b hb).1) h1 h2 h3 h4 h5⟩
  | .receiver ss bl, v, h, hv => by
    obtain ⟨A, n, c, rfl, hS⟩ := hv
    obtain ⟨h1, h6, h7⟩ := h
    have hn : n = bl.length := by rw [← hS.len, blkV_len]
    subst hn
    exact ⟨⟨_, _, _, rfl, inferInstance, inferInstance, hReceiver ss A _ c h6⟩, tReceiver R ss bl A _ c hS (by omega) (fun b hb => (h7 b hb).1) h1⟩
  | .sdes ch, v, h, hv => by
    obtain ⟨A, n, c, rows, rfl, hS, hV⟩ := hv
    obtain ⟨h1, h2⟩ := h
    have hn : n = ch.length := by rw [← hS.len, hV.1]
    subst hn
    exact ⟨⟨_, _, _, rfl, inferInstance, inferInstance, hSdes A _ c h1⟩, tSdes R ch rows A _ c 1000 hS hV (by omega) (by omega) (fun c hc => ⟨(h2 c hc).1, (h2 c hc).2.1, fun x hx => ⟨((h2 c hc).2.2 x hx).1, ((h2 c hc).2.2 x hx).2.2⟩⟩)⟩
  | .bye ss rs, v, h, hv => by
    obtain ⟨A, n, c, rfl, hS⟩ := hv
    obtain ⟨h1, h2, h3⟩ := h
    have hn : n = ss.length := by rw [← hS.len, c32_len]
    subst hn
    exact ⟨⟨_, _, _, rfl, inferInstance, inferInstance, hBye rs A _ c h1⟩, tBye R ss rs A _ c hS (by omega) h2 h3⟩
  | .nack fm to ps, v, h, hv => by
    obtain ⟨A, n, c, rfl, hS⟩ := hv
    obtain ⟨h1, h2, h3, h4⟩ := h
    exact ⟨dNack fm to A n c, tNack R fm to ps A n c hS h3 h1 h2 h4⟩
  | .pli fm to, v, h, hv => by
    obtain rfl := hv
    exact ⟨dPli fm to, tPli R fm to h.1 h.2⟩
  | .fir fm os, v, h, hv => by
    obtain ⟨A, n, c, rfl, hS⟩ := hv
    obtain ⟨h1, h2, h3⟩ := h
    exact ⟨⟨_, _, _, rfl, inferInstance, inferInstance, hFir fm A n c⟩, tFir R fm os A n c hS h2 h1 h3⟩
  | .remb fm rt ss, v, h, hv => by
    obtain ⟨A, n, c, rfl, hS⟩ := hv
    obtain ⟨h1, h2, _, h3, h4⟩ := h
    exact ⟨⟨_, _, _, rfl, inferInstance, inferInstance, hRemb fm rt A n c⟩, tRemb R fm rt ss A n c hS h3 h4 h1 h2⟩
  | .other kd ct bd, v, h, hv => by
    obtain rfl := hv
    obtain ⟨_, _, _, _, _, h6, _⟩ := h
    exact ⟨⟨_, _, _, rfl, inferInstance, inferInstance, hOther kd ct bd⟩, tOther R kd ct bd h6⟩
theorem hdK_in {p : Pkt} (h : okK p) : in8 (hdK p).1 ∧ 0 ≤ (hdK p).2 ∧ (hdK p).2 ≤ 31 ∧ 192 ≤ (hdK p).1 ∧ (hdK p).1 ≤ 223 := by
  unfold in8
  cases p with
  | sender ss ntp t pk oc bl => obtain ⟨h1, h2, h3, h4, h5, h6, h7⟩ := h; simp only [hdK]; omega
  | receiver ss bl => obtain ⟨h1, h6, h7⟩ := h; simp only [hdK]; omega
  | sdes ch => obtain ⟨h1, h2⟩ := h; simp only [hdK]; omega
  | bye ss rs => obtain ⟨h1, h2⟩ := h; simp only [hdK]; omega
  | nack fm to ps => simp only [hdK]; omega
  | pli fm to => simp only [hdK]; omega
  | fir fm os => simp only [hdK]; omega
  | remb fm rt ss => simp only [hdK]; omega
  | other kd ct bd => obtain ⟨h1, h2, h3, h4, _⟩ := h; simp only [hdK]; omega
theorem txK_size {p : Pkt} (h : okK p) : (txK p).size ≤ 8000000 := by
  cases p with
  | sender ss ntp t pk oc bl =>
    obtain ⟨h1, h2, h3, h4, h5, h6, h7⟩ := h
    simp only [txK, ByteArray.size_append, numsS_size, bksT_size, List.length_cons, List.length_nil]; omega
  | receiver ss bl =>
    obtain ⟨h1, h6, h7⟩ := h
    simp only [txK, ByteArray.size_append, numsS_size, bksT_size, List.length_cons, List.length_nil]; omega
  | sdes ch =>
    obtain ⟨h1, h2⟩ := h
    have := chsT_size (l := ch) (m := 1000) (fun c hc => ⟨(h2 c hc).2.1, fun x hx => ((h2 c hc).2.2 x hx).2.2⟩)
    have h3 : (8 + 257 * 1000) * ch.length ≤ 257008 * 31 := Nat.mul_le_mul (by omega) h1
    simp only [txK]; omega
  | bye ss rs =>
    obtain ⟨h1, h2, h3⟩ := h
    have h4 := pad4_size (numsS 4 ss ++ numsS 1 [(rs.size : Int)] ++ rs)
    simp only [ByteArray.size_append, numsS_size, List.length_cons, List.length_nil] at h4
    simp only [txK, byT]
    split
    · rw [numsS_size]; omega
    · omega
  | nack fm to ps => obtain ⟨h1, h2, h3, h4⟩ := h; simp only [txK, ByteArray.size_append, numsS_size, prsT_size, List.length_cons, List.length_nil]; omega
  | pli fm to => simp only [txK, numsS_size, List.length_cons, List.length_nil]; omega
  | fir fm os => obtain ⟨h1, h2, h3⟩ := h; simp only [txK, ByteArray.size_append, numsS_size, orsT_size, List.length_cons, List.length_nil]; omega
  | remb fm rt ss =>
    obtain ⟨h1, h2, _, h3, h4⟩ := h
    have : rembS.size = 4 := rfl
    simp only [txK, remT, ByteArray.size_append, numsS_size, List.length_cons, List.length_nil]; omega
  | other kd ct bd => obtain ⟨h1, h2, h3, h4, h5, h6, h7⟩ := h; simp only [txK]; omega
def txs (l : List Pkt) : ByteArray := all4 (l.map fun p => ((hdK p).1, (hdK p).2, txK p))
end Go.Proofs.Yteaccbbmphcmnaa

/-
  Layer 5, plain: packets that may be, written, are read back.
-/
namespace Go.Proofs.Yteaccbbmphcmnaa
set_option linter.unusedSimpArgs false
set_option linter.unusedVariables false
open Go.RowKit
set_option maxRecDepth 100000
attribute [local irreducible] ByteArray.extract

theorem rdB_all (s : ByteArray) : rdB s 0 s.size = (s, E0, 0) := by
  have := rdB_front s E0 s.size rfl
  rwa [append_E0] at this
theorem nums1 (k : Nat) (x : Int) : numsS k [x] = numS k x := numsS_one k x
theorem b1_nums {x : Int} (h : in8 x) : numsS 1 [x] = b1 x := by
  rw [nums1]
  show E0 ++ b1 (x % 256) = b1 x
  rw [E0_append, Int.emod_eq_of_lt h.1 (by have := h.2; omega)]
theorem nums_cons (k : Nat) (x : Int) (l : List Int) (z : ByteArray) : numsS k (x :: l) ++ z = numS k x ++ (numsS k l ++ z) := by
  show (numS k x ++ numsS k l) ++ z = _
  rw [ByteArray.append_assoc]
theorem nums_nil (k : Nat) (z : ByteArray) : numsS k [] ++ z = z := E0_append z
theorem tBk_f {b : Bk} (h : b.ok ∧ b.tt ≤ 16777215) (z : ByteArray) : tBk (bkT b ++ z, 0) = (b, z, 0) := by
  obtain ⟨x1, x2, x3, x4, x5, x6, x7⟩ := b
  obtain ⟨⟨k1, k2, k3, k4, k5, k6, k7⟩, k8⟩ := h
  dsimp only at k1 k2 k3 k4 k5 k6 k7 k8
  unfold tBk bkT
  simp only [ByteArray.append_assoc]
  rw [nums1, uK4_f k1]
  dsimp only
  rw [b1_nums k2, uK1_f k2]
  dsimp only
  rw [nums1, uK3_f ⟨k3.1, k8⟩]
  dsimp only
  rw [nums_cons, uK4_f k4]
  dsimp only
  rw [nums_cons, uK4_f k5]
  dsimp only
  rw [nums_cons, uK4_f k6]
  dsimp only
  rw [nums_cons, nums_nil, uK4_f k7]
theorem bksT_cat : ∀ l, bksT l = catT bkT l
  | [] => rfl
  | x :: l => by
    show bkT x ++ bksT l = bkT x ++ catT bkT l
    rw [bksT_cat l]
theorem repBk {l : List Bk} (h : ∀ b ∈ l, b.ok ∧ b.tt ≤ 16777215) : repM tBk l.length (bksT l, 0) = (l, E0, 0) := by
  have := repM_front (f := tBk) (T := bkT) (l := l) (fun x hx z => tBk_f (h x hx) z) E0
  rwa [append_E0, ← bksT_cat] at this
theorem tSn_f {ss ntp t pk oc : Int} {l : List Bk} (h1 : in32 ss) (h2 : in64 ntp) (h3 : in32 t) (h4 : in32 pk) (h5 : in32 oc) (h : ∀ b ∈ l, b.ok ∧ b.tt ≤ 16777215) : tSn l.length (txK (.sender ss ntp t pk oc l), 0) = (.sender ss ntp t pk oc l, E0, 0) := by
  unfold tSn txK
  simp only [ByteArray.append_assoc]
  rw [nums1, uK4_f h1]
  dsimp only
  rw [nums1, uK8_f h2]
  dsimp only
  rw [nums_cons, uK4_f h3]
  dsimp only
  rw [nums_cons, uK4_f h4]
  dsimp only
  rw [nums_cons, nums_nil, uK4_f h5]
  dsimp only
  rw [show ((l.length : Int)).toNat = l.length from rfl, repBk h]
theorem tRv_f {ss : Int} {l : List Bk} (h1 : in32 ss) (h : ∀ b ∈ l, b.ok ∧ b.tt ≤ 16777215) : tRv l.length (txK (.receiver ss l), 0) = (.receiver ss l, E0, 0) := by
  show tRv l.length (numsS 4 [ss] ++ bksT l, 0) = _
  unfold tRv
  rw [nums1, uK4_f h1]
  dsimp only
  rw [show ((l.length : Int)).toNat = l.length from rfl, repBk h]
theorem nums_cat (k : Nat) : ∀ l, numsS k l = catT (numS k) l
  | [] => rfl
  | x :: l => by
    show numS k x ++ numsS k l = numS k x ++ catT (numS k) l
    rw [nums_cat k l]
theorem rep4 {l : List Int} (h : ∀ x ∈ l, in32 x) (z : ByteArray) : repM (uK 4) l.length (numsS 4 l ++ z, 0) = (l, z, 0) := by
  rw [nums_cat]
  exact repM_front (f := uK 4) (T := numS 4) (fun x hx z => uK4_f (h x hx) z) z
theorem til4 {l : List Int} (h : ∀ x ∈ l, in32 x) (n : Nat) (hn : (numsS 4 l).size ≤ n) : tilM (uK 4) n (numsS 4 l, 0) = (l, E0, 0) := by
  rw [nums_cat] at *
  exact tilM_front (f := uK 4) (T := numS 4) (fun x => by rw [numS_size]; omega) (fun x hx z => uK4_f (h x hx) z) n hn
theorem pad4_zb (s : ByteArray) : pad4 s = s ++ zb (padJ s.size 4) := rfl
theorem byE_f {ss : List Int} {rs : ByteArray} (h1 : ∀ x ∈ ss, in32 x) (h2 : rs.size ≤ 255) : byE (repM (uK 4) ss.length (byT ss rs, 0)) = (.bye ss rs, E0, 0) := by
  unfold byT
  by_cases h0 : rs = E0
  · rw [if_pos h0]
    have := rep4 h1 E0
    rw [append_E0] at this
    rw [this]
    unfold byE
    dsimp only
    rw [if_pos (show E0.size = 0 from rfl), h0]
  · rw [if_neg h0, pad4_zb]
    simp only [ByteArray.append_assoc]
    rw [rep4 h1]
    unfold byE
    have hz : in8 (rs.size : Int) := ⟨by omega, by omega⟩
    rw [b1_nums hz]
    dsimp only
    rw [if_neg (by rw [ByteArray.size_append, b1_size]; omega), uK1_f hz]
    dsimp only
    rw [rdB_front rs _ _ rfl]
    dsimp only
    rw [rdB_all]
theorem orsT_cat : ∀ l, orsT l = catT orT l
  | [] => rfl
  | x :: l => by
    show orT x ++ orsT l = orT x ++ catT orT l
    rw [orsT_cat l]
theorem tOr_f {x : Int × Int} (h : in32 x.1 ∧ in8 x.2) (z : ByteArray) : tOr (orT x ++ z, 0) = (x, z, 0) := by
  unfold tOr orT
  rw [ByteArray.append_assoc, nums1, uK4_f h.1]
  dsimp only
  have e : numsS 1 [x.2, 0, 0, 0] ++ z = b1 x.2 ++ (numsS 1 [0, 0, 0] ++ z) := by
    rw [nums_cons, ← nums1, b1_nums h.2]
  rw [e, uK1_f h.2]
  dsimp only
  rw [rdB_front (numsS 1 [0, 0, 0]) z 3 (by rw [numsS_size]; rfl)]
theorem tFi_f {a : Int} {l : List (Int × Int)} (ha : in32 a) (hl : ∀ x ∈ l, in32 x.1 ∧ in8 x.2) : tFi (numsS 4 [a, 0] ++ orsT l, 0) = (.fir a l, E0, 0) := by
  unfold tFi
  rw [two4, uK4_f ha]
  dsimp only
  rw [uK4_f in32_0]
  dsimp only
  rw [orsT_cat, tilM_front (fun x => by rw [orT_size]; omega) (fun x hx z => tOr_f (hl x hx) z) _ (Nat.le_refl _)]
theorem itmM_f : ∀ {l : List (Int × ByteArray)} {n : Nat}, l.length < n → (∀ x ∈ l, in8 x.1 ∧ x.1 ≠ 0 ∧ x.2.size ≤ 255) → ∀ z, itmM n (itsT l ++ (b1 0 ++ z), 0) = (l, z, 0)
  | [], n, hn, _, z => by
    obtain ⟨m, rfl⟩ : ∃ m, n = m + 1 := ⟨n - 1, by simp at hn; omega⟩
    show itmM (m + 1) (E0 ++ (b1 0 ++ z), 0) = _
    rw [E0_append, itmM, if_neg (by simp), uK1_f in8_0, if_pos rfl]
  | x :: l, n, hn, h, z => by
    obtain ⟨m, rfl⟩ : ∃ m, n = m + 1 := ⟨n - 1, by simp at hn; omega⟩
    obtain ⟨h1, h2, h3⟩ := h x (.head _)
    have hz : in8 (x.2.size : Int) := ⟨by omega, by omega⟩
    have e : itsT (x :: l) ++ (b1 0 ++ z) = b1 x.1 ++ (b1 (x.2.size : Int) ++ (x.2 ++ (itsT l ++ (b1 0 ++ z)))) := by
      show (itT x ++ itsT l) ++ (b1 0 ++ z) = _
      unfold itT
      rw [ByteArray.append_assoc, ByteArray.append_assoc, nums_cons, ← nums1, b1_nums h1, b1_nums hz]
    have e1 : uK 1 (itsT (x :: l) ++ (b1 0 ++ z), 0) = (x.1, b1 (x.2.size : Int) ++ (x.2 ++ (itsT l ++ (b1 0 ++ z))), 0) := by rw [e, uK1_f h1]
    have e2 : itmS (itsT (x :: l) ++ (b1 0 ++ z), 0) = (itsT l ++ (b1 0 ++ z), 0) := by
      unfold itmS
      rw [e1]
      dsimp only
      rw [uK1_f hz]
      dsimp only
      rw [rdB_front x.2 _ _ rfl]
    rw [itmM_step rfl (by rw [e1]; exact h2), e2, itmM_f (by simp at hn; omega) (fun y hy => h y (.tail _ hy)) z, e1]
    dsimp only
    rw [uK1_f hz]
    dsimp only
    rw [rdB_front x.2 _ _ rfl]
theorem itsT_long : ∀ l : List (Int × ByteArray), 2 * l.length ≤ (itsT l).size
  | [] => Nat.zero_le _
  | x :: l => by
    have := itsT_long l
    show _ ≤ (itT x ++ itsT l).size
    unfold itT
    simp only [ByteArray.size_append, numsS_size, List.length_cons, List.length_nil]; omega
theorem tCh_f {c : Int × List (Int × ByteArray)} (h1 : in32 c.1) (h2 : ∀ x ∈ c.2, in8 x.1 ∧ x.1 ≠ 0 ∧ x.2.size ≤ 255) (z : ByteArray) : tCh (chT c ++ z, 0) = (c, z, 0) := by
  obtain ⟨ss, l⟩ := c
  dsimp only at h1 h2
  have hl := itsT_long l
  obtain ⟨m, hm⟩ : ∃ m, (numsS 4 [ss] ++ itsT l ++ numsS 1 [0]).size = m := ⟨_, rfl⟩
  have hm2 : m = 5 + (itsT l).size := by rw [← hm]; simp only [ByteArray.size_append, numsS_size, List.length_cons, List.length_nil]; omega
  have e : chT (ss, l) ++ z = numS 4 ss ++ (itsT l ++ (b1 0 ++ (zb (padJ m 4) ++ z))) := by
    unfold chT
    rw [pad4_zb, hm]
    simp only [ByteArray.append_assoc]
    rw [nums1, b1_nums in8_0]
  have hz : (chT (ss, l) ++ z).size = m + padJ m 4 + z.size := by
    unfold chT
    rw [pad4_zb, hm, ByteArray.size_append, ByteArray.size_append, zb_size, hm]
  unfold tCh
  dsimp only
  rw [hz]
  have e1 : uK 4 (chT (ss, l) ++ z, 0) = (ss, itsT l ++ (b1 0 ++ (zb (padJ m 4) ++ z)), 0) := by rw [e, uK4_f h1]
  rw [e1]
  dsimp only
  rw [itmM_f (by simp only [ByteArray.size_append]; omega) h2]
  unfold chE
  dsimp only
  rw [rdB_front (zb (padJ m 4)) z _ (by rw [zb_size, ByteArray.size_append, zb_size]; unfold padJ; omega)]
theorem chsT_cat : ∀ l, chsT l = catT chT l
  | [] => rfl
  | x :: l => by
    show chT x ++ chsT l = chT x ++ catT chT l
    rw [chsT_cat l]
theorem repCh {l : List (Int × List (Int × ByteArray))} (h : ∀ c ∈ l, in32 c.1 ∧ ∀ x ∈ c.2, in8 x.1 ∧ x.1 ≠ 0 ∧ x.2.size ≤ 255) : repM tCh l.length (chsT l, 0) = (l, E0, 0) := by
  have := repM_front (f := tCh) (T := chT) (l := l) (fun x hx z => tCh_f (h x hx).1 (h x hx).2 z) E0
  rwa [append_E0, ← chsT_cat] at this
theorem shl_f : ∀ (e : Nat) (q : Int), 0 ≤ q → q * 2 ^ e ≤ 18446744073709551615 → shlM e q = (q * 2 ^ e, false)
  | 0, q, _, _ => by rw [shlM]; simp
  | e + 1, q, h0, h => by
    have hp : (0 : Int) < 2 ^ e := Int.pow_pos (by omega)
    have e1 : q * 2 ^ (e + 1) = 2 * q * 2 ^ e := by rw [Int.pow_succ, Int.mul_comm (2 ^ e) 2, ← Int.mul_assoc, Int.mul_comm q 2]
    have h2 : 2 * q ≤ 18446744073709551615 := by
      have : 2 * q * 1 ≤ 2 * q * 2 ^ e := Int.mul_le_mul_of_nonneg_left (by omega) (by omega)
      omega
    rw [shlM, if_neg (by omega), shl_f e (2 * q) (by omega) (by omega), e1]
theorem tRe_f {a rt : Int} {l : List Int} (ha : in32 a) (hr : in64 rt) (hx : rt / 2 ^ exM rt * 2 ^ exM rt = rt) (hn : l.length ≤ 255) (hl : ∀ x ∈ l, in32 x) : tRe (remT a rt l, 0) = (.remb a rt l, E0, 0) := by
  have hv := remV_b hr
  have hq := exM_q hr
  have he := exM_le hr
  have hn8 : in8 (l.length : Int) := ⟨by omega, by omega⟩
  unfold tRe remT
  simp only [ByteArray.append_assoc]
  rw [two4, uK4_f ha]
  dsimp only
  rw [uK4_f in32_0]
  dsimp only
  have e1 : reA (rembS ++ (numsS 1 [(l.length : Int)] ++ (numsS 3 [remV rt] ++ numsS 4 l)), 0) = (numsS 1 [(l.length : Int)] ++ (numsS 3 [remV rt] ++ numsS 4 l), 0) := by
    unfold reA
    rw [rdB_front rembS _ 4 rfl, if_pos rfl]
  rw [e1, b1_nums hn8, uK1_f hn8]
  dsimp only
  rw [nums1, uK3_f hv]
  dsimp only
  have d1 : remV rt / 262144 = (exM rt : Int) := by unfold remV; omega
  have d2 : remV rt % 262144 = rt / 2 ^ exM rt := by unfold remV; omega
  rw [d1, d2, show ((exM rt : Int)).toNat = exM rt from rfl, shl_f _ _ hq.1 (by rw [hx]; exact hr.2), hx]
  dsimp only
  have e2 : reB false (numsS 4 l, 0) = (numsS 4 l, 0) := rfl
  rw [e2, til4 hl _ (Nat.le_refl _)]
  dsimp only
  unfold reC
  rw [if_pos rfl]
theorem txK_mod {p : Pkt} (h : okK p) : (txK p).size % 4 = 0 := by
  cases p with
  | sender ss ntp t pk oc bl => simp only [txK, ByteArray.size_append, numsS_size, bksT_size, List.length_cons, List.length_nil]; omega
  | receiver ss bl => simp only [txK, ByteArray.size_append, numsS_size, bksT_size, List.length_cons, List.length_nil]; omega
  | sdes ch => exact chsT_mod ch
  | bye ss rs =>
    simp only [txK, byT]
    split
    · rw [numsS_size]; omega
    · exact pad4_mod _
  | nack fm to ps => simp only [txK, ByteArray.size_append, numsS_size, prsT_size, List.length_cons, List.length_nil]; omega
  | pli fm to => simp only [txK, numsS_size, List.length_cons, List.length_nil]
  | fir fm os => simp only [txK, ByteArray.size_append, numsS_size, orsT_size, List.length_cons, List.length_nil]; omega
  | remb fm rt ss =>
    have : rembS.size = 4 := rfl
    simp only [txK, remT, ByteArray.size_append, numsS_size, List.length_cons, List.length_nil]; omega
  | other kd ct bd => exact h.2.2.2.2.1
theorem tkM_f {p : Pkt} (h : okK p) : tkM (txK p, 0) (hdK p).1 (hdK p).2 = (p, E0, 0) := by
  cases p with
  | sender ss ntp t pk oc bl =>
    obtain ⟨h1, h2, h3, h4, h5, h6, h7⟩ := h
    show tkM (txK (.sender ss ntp t pk oc bl), 0) 200 (bl.length : Int) = _
    unfold tkM
    rw [if_pos rfl]
    exact tSn_f h1 h2 h3 h4 h5 h7
  | receiver ss bl =>
    obtain ⟨h1, h6, h7⟩ := h
    show tkM (txK (.receiver ss bl), 0) 201 (bl.length : Int) = _
    unfold tkM
    rw [if_neg (by decide), if_pos rfl]
    exact tRv_f h1 h7
  | sdes ch =>
    obtain ⟨h1, h2⟩ := h
    show tkM (txK (.sdes ch), 0) 202 (ch.length : Int) = _
    unfold tkM
    rw [if_neg (by decide), if_neg (by decide), if_pos rfl]
    show (Pkt.sdes (repM tCh ch.length (chsT ch, 0)).1, (repM tCh ch.length (chsT ch, 0)).2) = _
    rw [repCh (fun c hc => ⟨(h2 c hc).1, (h2 c hc).2.2⟩)]
  | bye ss rs =>
    obtain ⟨h1, h2, h3⟩ := h
    show tkM (txK (.bye ss rs), 0) 203 (ss.length : Int) = _
    unfold tkM
    rw [if_neg (by decide), if_neg (by decide), if_neg (by decide), if_pos rfl]
    exact byE_f h2 h3
  | nack fm to ps =>
    obtain ⟨h1, h2, h3, h4⟩ := h
    show tkM (txK (.nack fm to ps), 0) 205 1 = _
    unfold tkM
    rw [if_neg (by decide), if_neg (by decide), if_neg (by decide), if_neg (by decide), if_pos ⟨rfl, rfl⟩]
    exact tNk_f h1 h2 h4
  | pli fm to =>
    obtain ⟨h1, h2⟩ := h
    show tkM (txK (.pli fm to), 0) 206 1 = _
    unfold tkM
    rw [if_neg (by decide), if_neg (by decide), if_neg (by decide), if_neg (by decide), if_neg (by decide), if_pos ⟨rfl, rfl⟩]
    have h3 := tPl_f h1 h2 E0
    rw [append_E0] at h3
    have h4 : uK 4 (txK (.pli fm to), 0) = (fm, numS 4 to ++ E0, 0) := by rw [append_E0]; exact h3.1
    rw [h4]
    dsimp only
    rw [h3.2]
  | fir fm os =>
    obtain ⟨h1, h2, h3⟩ := h
    show tkM (txK (.fir fm os), 0) 206 4 = _
    unfold tkM
    rw [if_neg (by decide), if_neg (by decide), if_neg (by decide), if_neg (by decide), if_neg (by decide), if_neg (by decide), if_pos ⟨rfl, rfl⟩]
    exact tFi_f h1 h3
  | remb fm rt ss =>
    obtain ⟨h1, h2, h3, h4, h5⟩ := h
    show tkM (txK (.remb fm rt ss), 0) 206 15 = _
    unfold tkM
    rw [if_neg (by decide), if_neg (by decide), if_neg (by decide), if_neg (by decide), if_neg (by decide), if_neg (by decide), if_neg (by decide), if_pos ⟨rfl, rfl⟩]
    exact tRe_f h1 h2 h3 h4 h5
  | other kd ct bd =>
    obtain ⟨h1, h2, h3, h4, h5, h6, h7⟩ := h
    show tkM (bd, 0) kd ct = _
    unfold tkM
    unfold knK at h7
    dsimp only
    rw [if_neg (by omega), if_neg (by omega), if_neg (by omega), if_neg (by omega), if_neg (by omega), if_neg (by omega), if_neg (by omega), if_neg (by omega), rdB_all]
theorem stK_f {p : Pkt} (h : okK p) (hz : (txK p).size ≤ 262000) (z : ByteArray) : stM (one4 ((hdK p).1, (hdK p).2, txK p) ++ z, 0) = (p, z, 0) := by
  obtain ⟨h1, h2, h3, h4, h5⟩ := hdK_in h
  have e := pad4_id (txK_mod h)
  refine stM_front ⟨h4, h5⟩ ⟨h2, by omega⟩ (by rw [e]; omega) ?_
  rw [e, Int.emod_eq_of_lt h2 (by omega), tkM_f h]
theorem one4_txs : ∀ {l : List Pkt} {p : Pkt}, p ∈ l → (txK p).size ≤ (txs l).size
  | q :: l, p, hp => by
    have e : txs (q :: l) = one4 ((hdK q).1, (hdK q).2, txK q) ++ txs l := rfl
    rw [e, ByteArray.size_append, one4_size]
    rcases List.mem_cons.1 hp with rfl | hp
    · have : (txK p).size ≤ (pad4 (txK p)).size := by unfold pad4; rw [ByteArray.size_append]; omega
      dsimp only; omega
    · have := one4_txs hp; omega
/-- packets that may be, written, are read back -/
theorem pk_back5 {l : List Pkt} (h : ∀ p ∈ l, okK p) (h0 : l ≠ []) (hs : (txs l).size ≤ 1500) : pkM (txs l) = (l, 0) := by
  refine pkM_all _ l (by simp) (fun i x p hx hp z => ?_) hs (by simpa using h0)
  rw [List.getElem?_map, hp] at hx
  simp only [Option.map_some, Option.some.injEq] at hx
  subst hx
  have hm := List.mem_of_getElem? hp
  exact stK_f (h p hm) (by have := one4_txs hm; omega) z
/-- their text -/
theorem tTextK (l : List Pkt) (vs : List Value) (A : Option Addr) (n c : Nat) (R : List Ro) (hS : SQ R 1 A n c (one1 vs)) (hV : PksV R l vs) (hok : ∀ p ∈ l, okK p) (hl : l.length ≤ 1000) (hz : ∀ p ∈ l, (txK p).size ≤ 200000) :
    Fn Try.prog 11 #[.slice A n c] [] R (fun v L' R' => v = .string (txs l) ∧ L' = [] ∧ R' = []) := by
  refine tText (l.map fun p => ((hdK p).1, (hdK p).2, txK p)) vs A n c R hS (by rw [hV.1, List.length_map]) (by rw [List.length_map]; exact hl) ?_ ?_ ?_
  · intro x hx
    obtain ⟨p, hp, rfl⟩ := List.mem_map.1 hx
    exact hz p hp
  · intro x hx
    obtain ⟨p, hp, rfl⟩ := List.mem_map.1 hx
    have := hdK_in (hok p hp)
    exact ⟨this.1, show 0 ≤ (hdK p).2 ∧ (hdK p).2 ≤ 255 by omega⟩
  · intro i x v hx hv
    rw [List.getElem?_map] at hx
    cases hp : l[i]? with
    | none => rw [hp] at hx; cases hx
    | some p =>
      rw [hp] at hx
      simp only [Option.map_some, Option.some.injEq] at hx
      subst hx
      obtain ⟨v', h1, h2⟩ := hV.2 i p hp
      obtain rfl : v' = v := Option.some.inj (h1.symm.trans hv)
      exact wrK (hok p (List.mem_of_getElem? hp)) h2
end Go.Proofs.Yteaccbbmphcmnaa

/-
  Package rtcp: what packets' parts are read.
-/
namespace Go.Proofs.Yteaccbbmphcmnaa
set_option linter.unusedSimpArgs false
set_option linter.unusedVariables false
open Go.RowKit
attribute [local irreducible] Pv WO WC Fn
set_option maxRecDepth 100000
attribute [local irreducible] ByteArray.extract

theorem rU8 (g : Nat) (r : Rs) (hs : r.1.size ≤ 1000000) : Fn Try.prog 23 #[.pointer (some ⟨g, 0, none⟩)] [rdO g r.1 r.2] [] (fun v L' R' => v = .int .u8 (uK 1 r).1 ∧ L' = [rdO g (uK 1 r).2.1 (uK 1 r).2.2] ∧ R' = []) := octU8 g r.1 _ _ r.2 _ (by omega) rfl
theorem rU16 (g : Nat) (r : Rs) (hs : r.1.size ≤ 1000000) : Fn Try.prog 46 #[.pointer (some ⟨g, 0, none⟩)] [rdO g r.1 r.2] [] (fun v L' R' => v = .int .u16 (uK 2 r).1 ∧ L' = [rdO g (uK 2 r).2.1 (uK 2 r).2.2] ∧ R' = []) := octU16 g r.1 _ _ r.2 _ (by omega) rfl
theorem rU32 (g : Nat) (r : Rs) (hs : r.1.size ≤ 1000000) : Fn Try.prog 47 #[.pointer (some ⟨g, 0, none⟩)] [rdO g r.1 r.2] [] (fun v L' R' => v = .int .u32 (uK 4 r).1 ∧ L' = [rdO g (uK 4 r).2.1 (uK 4 r).2.2] ∧ R' = []) := octU32 g r.1 _ _ r.2 _ (by omega) rfl
theorem rNum3 (g : Nat) (r : Rs) (hs : r.1.size ≤ 1000000) : Fn Try.prog 44 #[.pointer (some ⟨g, 0, none⟩), .int .i64 3] [rdO g r.1 r.2] [] (fun v L' R' => v = .int .u64 (uK 3 r).1 ∧ L' = [rdO g (uK 3 r).2.1 (uK 3 r).2.2] ∧ R' = []) := octNum g r.1 _ _ r.2 3 _ (by omega) rfl
theorem rNum8 (g : Nat) (r : Rs) (hs : r.1.size ≤ 1000000) : Fn Try.prog 44 #[.pointer (some ⟨g, 0, none⟩), .int .i64 8] [rdO g r.1 r.2] [] (fun v L' R' => v = .int .u64 (uK 8 r).1 ∧ L' = [rdO g (uK 8 r).2.1 (uK 8 r).2.2] ∧ R' = []) := octNum g r.1 _ _ r.2 8 _ (by omega) rfl
def tilA {α : Type} (f : Rs → α × Rs) (r : Rs) : List α × Rs := tilM f r.1.size r
theorem tilA_end {α : Type} {f : Rs → α × Rs} {r : Rs} (h : r.1.size = 0) : tilA f r = ([], r) := tilM_end h
theorem tilA_go {α : Type} {f : Rs → α × Rs} (h : ∀ r, Ri r → 0 < r.1.size → (f r).2.1.size < r.1.size) (hi : ∀ r, Ri r → Ri (f r).2) {r : Rs} (hr : Ri r) (h0 : 0 < r.1.size) : tilA f r = ((f r).1 :: (tilA f (f r).2).1, (tilA f (f r).2).2) := by
  have h1 := h r hr h0
  unfold tilA
  obtain ⟨n, hn⟩ : ∃ n, r.1.size = n + 1 := ⟨r.1.size - 1, by omega⟩
  rw [hn, tilM, if_neg (by omega), tilM_more h hi n (f r).2.1.size (f r).2 (hi r hr) (by omega) (Nat.le_refl _)]
abbrev c32O (ao : Option Addr) (n c : Nat) (l : List Int) : It := .own 37 1 ao n c (c32 l)
abbrev c32O' (ao : Option Addr) (n c : Nat) (xs : List (List Value)) : It := .own 37 1 ao n c xs
theorem c32_snoc (l : List Int) (x : Int) : c32 (l ++ [x]) = c32 l ++ [[.int .u32 x]] := by simp [c32]
theorem c32O_snoc (ao : Option Addr) (n c : Nat) (l : List Int) (x : Int) : c32O ao n c (l ++ [x]) = c32O' ao n c (c32 l ++ [[.int .u32 x]]) := by rw [c32O, c32_snoc]
theorem pairV_snoc (l : List (Int × Int)) (x : Int × Int) : pairV (l ++ [x]) = pairV l ++ [[.int .u16 x.1, .int .u16 x.2]] := by simp [pairV]
theorem ordV_snoc (l : List (Int × Int)) (x : Int × Int) : ordV (l ++ [x]) = ordV l ++ [[.int .u32 x.1, .int .u8 x.2]] := by simp [ordV]
theorem itmV_snoc (l : List (Int × ByteArray)) (x : Int × ByteArray) : itmV (l ++ [x]) = itmV l ++ [[.int .u8 x.1, .string x.2]] := by simp [itmV]
theorem blkV_snoc (l : List Bk) (b : Bk) : blkV (l ++ [b]) = blkV l ++ [[.int .u32 b.ss, .int .u8 b.lo, .int .u32 b.tt, .int .u32 b.la, .int .u32 b.ji, .int .u32 b.ls, .int .u32 b.dl]] := by simp [blkV]
set_option maxHeartbeats 4000000 in
theorem kAll (g : Nat) (r0 : Rs) (hi : Ri r0) (hs : r0.1.size ≤ 1000000) : Fn Try.prog 77 #[.pointer (some ⟨g, 0, none⟩)] [rdO g r0.1 r0.2] [] (fun v L' R' => ∃ ao c, v = .slice ao (tilA (uK 4) r0).1.length c ∧ L' = [rdO g (tilA (uK 4) r0).2.1 (tilA (uK 4) r0).2.2, c32O ao (tilA (uK 4) r0).1.length c (tilA (uK 4) r0).1] ∧ R' = []) := by
  refine fn_intro Try.func77 rfl Try.ntmps77 rfl (fun E => ?_)
  refine wc_own0 37 1 ?_
  (repeat (first | ((first | (apply wo_v; rfl) ); (· first | (apply pv_ev; rfl) )) | apply wo_nil | apply wc_seq | apply wc_region ))
  refine wc_block ?_
  refine wc_loop' (fun q st => ∃ (l : List Int) (ao : Option Addr) (c : Nat) (r : Rs), q = r.1.size ∧ Ri r ∧ l.length + r.1.size ≤ 1000000 ∧ l ++ (tilA (uK 4) r).1 = (tilA (uK 4) r0).1 ∧ (tilA (uK 4) r).2 = (tilA (uK 4) r0).2 ∧ st = ⟨[(0, .pointer (some ⟨g, 0, none⟩)), (3, .slice ao l.length c)], [rdO g r.1 r.2, c32O ao l.length c l], []⟩) ⟨[], none, 0, r0, rfl, hi, by simpa using hs, rfl, rfl, rfl⟩ (wk_mk (by (repeat (first | apply wkf_nil | (apply wkf_cons; rfl))); done) (by (repeat (first | apply sub_nil | (apply sub_cons; (· (repeat (first | apply sel_here | apply sel_there)))))); done) (by first | exact fun _ h => h | (intro r hr; cases hr; done) | (simp; done) | exact fun _ h => List.mem_append_left _ h | (intro r hr; simp [hr]; done))) ?_
  rintro q st ⟨l, ao, c, r, rfl, hr, hl, h1, h2, rfl⟩
  (repeat (first | ((first | (apply wo_v; rfl) ); (· first | (apply pv_ev; rfl) )) | apply wc_seq | apply wc_region ))
  (refine wo_call (octLen g r.1 r.2) rfl (by (repeat (first | apply sub_nil )); done) (by first | exact fun _ h => h | (intro r hr; cases hr; done) | (simp; done) | exact fun _ h => List.mem_append_left _ h | (intro r hr; simp [hr]; done)) rfl ?_; rintro v L' R' ⟨rfl, rfl, rfl⟩ H' hH RR hR; simp only [List.cons_append, List.nil_append] at hH hR; subst hH; have hR := hR.symm; subst hR)
  by_cases h0 : 0 < r.1.size
  · have hgo := tilA_go (f := uK 4) (fun r hr h => uK_less hr (by omega) h) (fun r hr => hr.uK 4) hr h0
    have hless := uK_less hr (n := 4) (by omega) h0
    have hri := hr.uK 4
    have hU := rU32 g r (by omega)
    rw [hgo] at h1 h2
    generalize uK 4 r = y at *
    obtain ⟨x, rr⟩ := y
    dsimp only at *
    (repeat (first | ((first | (apply wo_v; rfl) ); (· first | (apply pv_ev; rfl) )) | apply wo_nil | apply wc_skip | (apply wc_true; rfl) | (apply wc_false; rfl) | (apply a_dec_t; rfl; (· first | assumption | omega)) ))
    refine wc_block ?_
    (repeat (first | ((first | (apply wo_v; rfl) ); (· first | (apply pv_ev; rfl) )) | apply wc_region ))
    (refine wo_call (hU) rfl (by (repeat (first | apply sub_nil )); done) (by first | exact fun _ h => h | (intro r hr; cases hr; done) | (simp; done) | exact fun _ h => List.mem_append_left _ h | (intro r hr; simp [hr]; done)) rfl ?_; rintro v L' R' ⟨rfl, rfl, rfl⟩ H' hH RR hR; simp only [List.cons_append, List.nil_append] at hH hR; subst hH; have hR := hR.symm; subst hR)
    (repeat (first | ((first | (apply wo_v; rfl) ); (· first | (apply pv_ev; rfl) | (apply g_bi; first | fail ) )) | (apply wo_bsl; (· (repeat (first | apply Rws'.nil | (apply Rws'.one; rfl; rfl; rfl) ))); rfl; rfl; rfl; rfl; intro bx) ))
    refine wo_app rfl rfl (by (repeat (first | apply sel_here | apply sel_there)); done) (by (repeat (first | apply sel_here )); done) (by unfold maxLen; omega) (by omega) rfl (fun ao2 c2 => ?_)
    (repeat (first | ((first | (apply wo_v; rfl) ); (· first | (apply pv_ev; rfl) )) | apply wo_nil ))
    exact loop_end ⟨l ++ [x], ao2, c2, rr, rfl, hri, by rw [List.length_append, List.length_singleton]; omega, by rw [List.append_assoc]; exact h1, h2, by rw [List.length_append, List.length_singleton, c32O_snoc]⟩ (by omega) (wk_mk (by (repeat (first | apply wkf_nil | (apply wkf_cons; rfl))); done) (by (repeat (first | apply sub_nil | (apply sub_cons; (· (repeat (first | apply sel_here | apply sel_there)))))); done) (by first | exact fun _ h => h | (intro r hr; cases hr; done) | (simp; done) | exact fun _ h => List.mem_append_left _ h | (intro r hr; simp [hr]; done)))
  · have e : r.1.size = 0 := by omega
    rw [tilA_end e] at h1 h2
    dsimp only at h1 h2
    rw [List.append_nil] at h1
    subst h1
    (repeat (first | ((first | (apply wo_v; rfl) ); (· first | (apply pv_ev; rfl) )) | apply wo_nil | apply wc_seq | apply wc_region | (apply wc_exit; rfl) | apply wc_ret | (apply wc_true; rfl) | (apply wc_false; rfl) | (apply a_dec_t; rfl; (· first | assumption | omega)) | (apply a_dec_f; rfl; (· first | assumption | omega)) ))
    rw [← h2]
    exact ret1 rfl rfl ⟨ao, c, rfl, rfl, rfl⟩ (by (repeat (first | apply sub_nil )); done) (by first | exact fun _ h => h | (intro r hr; cases hr; done) | (simp; done) | exact fun _ h => List.mem_append_left _ h | (intro r hr; simp [hr]; done))

abbrev bkO (ao : Option Addr) (n c : Nat) (l : List Bk) : It := .own 160 7 ao n c (blkV l)
theorem bkO_snoc (ao : Option Addr) (n c : Nat) (l : List Bk) (b : Bk) : bkO ao n c (l ++ [b]) = It.own 160 7 ao n c (blkV l ++ [[.int .u32 b.ss, .int .u8 b.lo, .int .u32 b.tt, .int .u32 b.la, .int .u32 b.ji, .int .u32 b.ls, .int .u32 b.dl]]) := by rw [bkO, blkV_snoc]
theorem tBk_size (r : Rs) : (tBk r).2.1.size ≤ r.1.size := by
  unfold tBk
  exact Nat.le_trans (uK_size _ _) (Nat.le_trans (uK_size _ _) (Nat.le_trans (uK_size _ _) (Nat.le_trans (uK_size _ _) (Nat.le_trans (uK_size _ _) (Nat.le_trans (uK_size _ _) (uK_size _ _))))))
set_option maxHeartbeats 8000000 in
theorem kBlocks (g : Nat) (r0 : Rs) (hs : r0.1.size ≤ 1000000) (N : Nat) (hN : N ≤ 255) : Fn Try.prog 48 #[.pointer (some ⟨g, 0, none⟩), .int .u8 N] [rdO g r0.1 r0.2] [] (fun v L' R' => ∃ ao c, v = .slice ao N c ∧ L' = [rdO g (repM tBk N r0).2.1 (repM tBk N r0).2.2, bkO ao N c (repM tBk N r0).1] ∧ R' = []) := by
  refine fn_intro Try.func48 rfl Try.ntmps48 rfl (fun E => ?_)
  refine wc_own0 160 7 ?_
  (repeat (first | ((first | (apply wo_v; rfl) ); (· first | (apply pv_ev; rfl) )) | apply wo_nil | apply wc_seq | apply wc_region ))
  refine wc_block ?_
  refine wc_loop' (fun q st => ∃ (i : Nat) (l : List Bk) (ao : Option Addr) (c : Nat) (r : Rs), q = N - i ∧ i ≤ N ∧ r.1.size ≤ 1000000 ∧ l.length = i ∧ l ++ (repM tBk (N - i) r).1 = (repM tBk N r0).1 ∧ (repM tBk (N - i) r).2 = (repM tBk N r0).2 ∧ st = ⟨[(0, .pointer (some ⟨g, 0, none⟩)), (5, .slice ao i c), (6, .int .u8 N), (7, .int .u8 i)], [rdO g r.1 r.2, bkO ao i c l], []⟩) ⟨0, [], none, 0, r0, rfl, Nat.zero_le _, hs, rfl, rfl, rfl, rfl⟩ (wk_mk (by (repeat (first | apply wkf_nil | (apply wkf_cons; rfl))); done) (by (repeat (first | apply sub_nil | (apply sub_cons; (· (repeat (first | apply sel_here | apply sel_there)))))); done) (by first | exact fun _ h => h | (intro r hr; cases hr; done) | (simp; done) | exact fun _ h => List.mem_append_left _ h | (intro r hr; simp [hr]; done))) ?_
  rintro q st ⟨i, l, ao, c, r, rfl, hi, hr, hl, h1, h2, rfl⟩
  by_cases h0 : i < N
  · obtain ⟨m, hm⟩ : ∃ m, N - i = m + 1 := ⟨N - i - 1, by omega⟩
    have hm2 : N - (i + 1) = m := by omega
    have e1 : l ++ ((tBk r).1 :: (repM tBk (N - (i + 1)) (tBk r).2).1) = (repM tBk N r0).1 := by rw [hm2, ← h1, hm]; rfl
    have e2 : (repM tBk (N - (i + 1)) (tBk r).2).2 = (repM tBk N r0).2 := by rw [hm2, ← h2, hm]; rfl
    clear h1 h2
    have hz := tBk_size r
    unfold tBk at e1 e2 hz
    dsimp only at e1 e2 hz
    have s1 := uK_size 4 r
    have c1 := rU32 g r (by omega)
    generalize uK 4 r = y at *
    obtain ⟨v1, r1⟩ := y
    dsimp only at *
    have s2 := uK_size 1 r1
    have c2 := rU8 g r1 (by omega)
    generalize uK 1 r1 = y at *
    obtain ⟨v2, r2⟩ := y
    dsimp only at *
    have s3 := uK_size 3 r2
    have b3 := uK3_b r2
    have c3 := rNum3 g r2 (by omega)
    generalize uK 3 r2 = y at *
    obtain ⟨v3, r3⟩ := y
    dsimp only at *
    have s4 := uK_size 4 r3
    have c4 := rU32 g r3 (by omega)
    generalize uK 4 r3 = y at *
    obtain ⟨v4, r4⟩ := y
    dsimp only at *
    have s5 := uK_size 4 r4
    have c5 := rU32 g r4 (by omega)
    generalize uK 4 r4 = y at *
    obtain ⟨v5, r5⟩ := y
    dsimp only at *
    have s6 := uK_size 4 r5
    have c6 := rU32 g r5 (by omega)
    generalize uK 4 r5 = y at *
    obtain ⟨v6, r6⟩ := y
    dsimp only at *
    have s7 := uK_size 4 r6
    have c7 := rU32 g r6 (by omega)
    generalize uK 4 r6 = y at *
    obtain ⟨v7, r7⟩ := y
    dsimp only at *
    (repeat (first | ((first | (apply wo_v; rfl) ); (· first | (apply pv_ev; rfl) )) | apply wo_nil | apply wc_seq | apply wc_region | apply wc_skip | (apply wc_true; rfl) | (apply wc_false; rfl) | (apply a_dec_t; rfl; (· first | assumption | omega)) ))
    refine wc_block ?_
    (repeat (first | ((first | (apply wo_v; rfl) ); (· first | (apply pv_ev; rfl) )) | apply wc_region ))
    (refine wo_call (c1) rfl (by (repeat (first | apply sub_nil )); done) (by first | exact fun _ h => h | (intro r hr; cases hr; done) | (simp; done) | exact fun _ h => List.mem_append_left _ h | (intro r hr; simp [hr]; done)) rfl ?_; rintro v L' R' ⟨rfl, rfl, rfl⟩ H' hH RR hR; simp only [List.cons_append, List.nil_append] at hH hR; subst hH; have hR := hR.symm; subst hR)
    (repeat (first | ((first | (apply wo_v; rfl) ); (· first | (apply pv_ev; rfl) )) ))
    (refine wo_call (c2) rfl (by (repeat (first | apply sub_nil )); done) (by first | exact fun _ h => h | (intro r hr; cases hr; done) | (simp; done) | exact fun _ h => List.mem_append_left _ h | (intro r hr; simp [hr]; done)) rfl ?_; rintro v L' R' ⟨rfl, rfl, rfl⟩ H' hH RR hR; simp only [List.cons_append, List.nil_append] at hH hR; subst hH; have hR := hR.symm; subst hR)
    (repeat (first | ((first | (apply wo_v; rfl) ); (· first | (apply pv_ev; rfl) )) ))
    (refine wo_call (c3) rfl (by (repeat (first | apply sub_nil )); done) (by first | exact fun _ h => h | (intro r hr; cases hr; done) | (simp; done) | exact fun _ h => List.mem_append_left _ h | (intro r hr; simp [hr]; done)) rfl ?_; rintro v L' R' ⟨rfl, rfl, rfl⟩ H' hH RR hR; simp only [List.cons_append, List.nil_append] at hH hR; subst hH; have hR := hR.symm; subst hR)
    (repeat (first | ((first | (apply wo_v; rfl) ); (· first | (apply pv_ev; rfl) | (apply g_conv; first | (apply a_conv; rfl; infer_instance; infer_instance; infer_instance; omega) ) )) ))
    (refine wo_call (c4) rfl (by (repeat (first | apply sub_nil )); done) (by first | exact fun _ h => h | (intro r hr; cases hr; done) | (simp; done) | exact fun _ h => List.mem_append_left _ h | (intro r hr; simp [hr]; done)) rfl ?_; rintro v L' R' ⟨rfl, rfl, rfl⟩ H' hH RR hR; simp only [List.cons_append, List.nil_append] at hH hR; subst hH; have hR := hR.symm; subst hR)
    (repeat (first | ((first | (apply wo_v; rfl) ); (· first | (apply pv_ev; rfl) )) ))
    (refine wo_call (c5) rfl (by (repeat (first | apply sub_nil )); done) (by first | exact fun _ h => h | (intro r hr; cases hr; done) | (simp; done) | exact fun _ h => List.mem_append_left _ h | (intro r hr; simp [hr]; done)) rfl ?_; rintro v L' R' ⟨rfl, rfl, rfl⟩ H' hH RR hR; simp only [List.cons_append, List.nil_append] at hH hR; subst hH; have hR := hR.symm; subst hR)
    (repeat (first | ((first | (apply wo_v; rfl) ); (· first | (apply pv_ev; rfl) )) ))
    (refine wo_call (c6) rfl (by (repeat (first | apply sub_nil )); done) (by first | exact fun _ h => h | (intro r hr; cases hr; done) | (simp; done) | exact fun _ h => List.mem_append_left _ h | (intro r hr; simp [hr]; done)) rfl ?_; rintro v L' R' ⟨rfl, rfl, rfl⟩ H' hH RR hR; simp only [List.cons_append, List.nil_append] at hH hR; subst hH; have hR := hR.symm; subst hR)
    (repeat (first | ((first | (apply wo_v; rfl) ); (· first | (apply pv_ev; rfl) )) ))
    (refine wo_call (c7) rfl (by (repeat (first | apply sub_nil )); done) (by first | exact fun _ h => h | (intro r hr; cases hr; done) | (simp; done) | exact fun _ h => List.mem_append_left _ h | (intro r hr; simp [hr]; done)) rfl ?_; rintro v L' R' ⟨rfl, rfl, rfl⟩ H' hH RR hR; simp only [List.cons_append, List.nil_append] at hH hR; subst hH; have hR := hR.symm; subst hR)
    (repeat (first | ((first | (apply wo_v; rfl) ); (· first | (apply pv_ev; rfl) | (apply g_bi; first | fail ) | (apply g_build; apply pv_build; (· (repeat (first | apply Bld.nil | (apply Bld.one; rfl; rfl; (· (repeat (first | apply SetAt.here | apply SetAt.there)))) )))) )) | (apply wo_bsl; (· (repeat (first | apply Rws'.nil | (apply Rws'.one; rfl; rfl; rfl) | (apply Rws'.agg; rfl; rfl; rfl)))); rfl; rfl; rfl; rfl; intro bx) ))
    refine wo_app rfl rfl (by (repeat (first | apply sel_here | apply sel_there)); done) (by (repeat (first | apply sel_here )); done) (by unfold maxLen; omega) (by omega) rfl (fun ao2 c2 => ?_)
    (repeat (first | ((first | (apply wo_v; rfl) ); (· first | (apply pv_ev; rfl) | (apply g_bin; first | (apply a_add; rfl; rfl; infer_instance; omega) ) )) | apply wo_nil | apply wc_region ))
    exact loop_end ⟨i + 1, l ++ [⟨v1, v2, v3, v4, v5, v6, v7⟩], ao2, c2, r7, rfl, by omega, by omega, by rw [List.length_append, List.length_singleton, hl], by rw [List.append_assoc]; exact e1, e2, by rw [bkO_snoc]⟩ (by omega) (wk_mk (by (repeat (first | apply wkf_nil | (apply wkf_cons; rfl))); done) (by (repeat (first | apply sub_nil | (apply sub_cons; (· (repeat (first | apply sel_here | apply sel_there)))))); done) (by first | exact fun _ h => h | (intro r hr; cases hr; done) | (simp; done) | exact fun _ h => List.mem_append_left _ h | (intro r hr; simp [hr]; done)))
  · have e : i = N := by omega
    subst e
    rw [Nat.sub_self] at h1 h2
    have h1 : l ++ [] = (repM tBk i r0).1 := h1
    have h2 : r = (repM tBk i r0).2 := h2
    rw [List.append_nil] at h1
    subst h1
    subst h2
    (repeat (first | ((first | (apply wo_v; rfl) ); (· first | (apply pv_ev; rfl) )) | apply wo_nil | apply wc_seq | apply wc_region | (apply wc_exit; rfl) | apply wc_ret | (apply wc_true; rfl) | (apply wc_false; rfl) | (apply a_dec_t; rfl; (· first | assumption | omega)) | (apply a_dec_f; rfl; (· first | assumption | omega)) ))
    exact ret1 rfl rfl ⟨ao, c, rfl, rfl, rfl⟩ (by (repeat (first | apply sub_nil )); done) (by first | exact fun _ h => h | (intro r hr; cases hr; done) | (simp; done) | exact fun _ h => List.mem_append_left _ h | (intro r hr; simp [hr]; done))
end Go.Proofs.Yteaccbbmphcmnaa

/-
  Package rtcp: packets' kinds, read.
-/
namespace Go.Proofs.Yteaccbbmphcmnaa
set_option linter.unusedSimpArgs false
set_option linter.unusedVariables false
open Go.RowKit
attribute [local irreducible] Pv WO WC Fn
set_option maxRecDepth 100000
attribute [local irreducible] ByteArray.extract

abbrev pairO (ao : Option Addr) (n c : Nat) (l : List (Int × Int)) : It := .own 44 2 ao n c (pairV l)
abbrev pairO' (ao : Option Addr) (n c : Nat) (xs : List (List Value)) : It := .own 44 2 ao n c xs
theorem pairO_snoc (ao : Option Addr) (n c : Nat) (l : List (Int × Int)) (x : Int × Int) : pairO ao n c (l ++ [x]) = pairO' ao n c (pairV l ++ pairV [x]) := by rw [pairO, pairV_snoc]; rfl
abbrev nakI (b : Nat) (fm to : Int) (v : Value) : It := .ob b (.cells #[.int .u32 fm, .int .u32 to, v] 39 (0, 0))
def tblN5 (g : Nat) (x y : Int) (r2 r3 : Rs) (bp : Nat) (fm to : Int) (ao : Option Addr) (c : Nat) (l : List (Int × Int)) : Nat → List (List It) → Value → List (List It) → Prop := fun k Ls v Ms => match k, Ls with
  | 1, [z] => v = .slice ao l.length c ∧ Ms = [z]
  | 3, _ => v = .int .u16 x ∧ Ms = [[rdO g r2.1 r2.2]]
  | 5, _ => v = .int .u16 y ∧ Ms = [[rdO g r3.1 r3.2]]
  | 7, _ => ∃ b, v = .slice (some ⟨b, 0, none⟩) 1 1 ∧ Ms = [[pairO (some ⟨b, 0, none⟩) 1 1 [(x, y)]]]
  | 8, [_, z] => ∃ ao2 c2, v = .slice ao2 (l.length + 1) c2 ∧ Ms = [[pairO' ao2 (l.length + 1) c2 (pairV l ++ pairV [(x, y)])], z]
  | 10, [[.own T2 sz ao2 n2 c2 xs], _] => v = undef ∧ Ms = [[.own T2 sz ao2 n2 c2 xs], [nakI bp fm to (.slice ao2 n2 c2)]]
  | _, _ => False
theorem tPr_size (r : Rs) : (tPr r).2.1.size ≤ r.1.size := Nat.le_trans (uK_size _ _) (uK_size _ _)
theorem tPr_less (r : Rs) (h : Ri r) (h0 : 0 < r.1.size) : (tPr r).2.1.size < r.1.size := Nat.lt_of_le_of_lt (uK_size _ _) (uK_less h (by omega) h0)
theorem tPr_ri (r : Rs) (h : Ri r) : Ri (tPr r).2 := (h.uK 2).uK 2
set_option maxHeartbeats 8000000 in
theorem kNack (g : Nat) (r0 : Rs) (hi : Ri r0) (hs : r0.1.size ≤ 1000000) : Fn Try.prog 51 #[.pointer (some ⟨g, 0, none⟩)] [rdO g r0.1 r0.2] [] (fun v L' R' => PkV R' (tNk r0).1 v ∧ L' = [rdO g (tNk r0).2.1 (tNk r0).2.2]) := by
  unfold tNk
  dsimp only
  have s1 := uK_size 4 r0
  have i1 := hi.uK 4
  have c1 := rU32 g r0 (by omega)
  generalize uK 4 r0 = y at *
  obtain ⟨f0, r1⟩ := y
  dsimp only at *
  have s2 := uK_size 4 r1
  have i2 := i1.uK 4
  have c2 := rU32 g r1 (by omega)
  generalize uK 4 r1 = y at *
  obtain ⟨to, r2⟩ := y
  dsimp only at *
  rw [show tilM tPr r2.1.size r2 = tilA tPr r2 from rfl]
  refine fn_intro Try.func51 rfl Try.ntmps51 rfl (fun E => ?_)
  (repeat (first | ((first | (apply wo_v; rfl) ); (· first | (apply pv_ev; rfl) )) | apply wo_nil | apply wc_seq | apply wc_region ))
  (refine wo_call (c1) rfl (by (repeat (first | apply sub_nil )); done) (by first | exact fun _ h => h | (intro r hr; cases hr; done) | (simp; done) | exact fun _ h => List.mem_append_left _ h | (intro r hr; simp [hr]; done)) rfl ?_; rintro v L' R' ⟨rfl, rfl, rfl⟩ H' hH RR hR; simp only [List.cons_append, List.nil_append] at hH hR; subst hH; have hR := hR.symm; subst hR)
  (repeat (first | ((first | (apply wo_v; rfl) ); (· first | (apply pv_ev; rfl) )) ))
  (refine wo_call (c2) rfl (by (repeat (first | apply sub_nil )); done) (by first | exact fun _ h => h | (intro r hr; cases hr; done) | (simp; done) | exact fun _ h => List.mem_append_left _ h | (intro r hr; simp [hr]; done)) rfl ?_; rintro v L' R' ⟨rfl, rfl, rfl⟩ H' hH RR hR; simp only [List.cons_append, List.nil_append] at hH hR; subst hH; have hR := hR.symm; subst hR)
  (repeat (first | ((first | (apply wo_v; rfl) ); (· first | (apply pv_ev; rfl) | (apply g_build; apply pv_build; (· (repeat (first | apply Bld.nil | (apply Bld.one; rfl; rfl; (· (repeat (first | apply SetAt.here | apply SetAt.there)))) )))) )) | apply wo_nil | apply wc_seq | (apply wo_alloc; rfl; intro bx) | (apply wo_sta; rfl; rfl; rfl; rfl; (· (repeat (first | apply sel_here ))); (· (repeat (first | apply LayAt.nil | apply LayAt.here ))); rfl) ))
  obtain ⟨bp, hbp⟩ : ∃ g, g = bx := ⟨_, rfl⟩
  subst hbp
  refine wc_own0 44 2 ?_
  refine wc_block ?_
  refine wc_loop' (fun q st => ∃ (l : List (Int × Int)) (ao : Option Addr) (c : Nat) (r : Rs), q = r.1.size ∧ Ri r ∧ l.length + r.1.size ≤ 1000000 ∧ l ++ (tilA tPr r).1 = (tilA tPr r2).1 ∧ (tilA tPr r).2 = (tilA tPr r2).2 ∧ st = ⟨[(0, .pointer (some ⟨g, 0, none⟩)), (3, .pointer (some ⟨bp, 0, none⟩))], [rdO g r.1 r.2, nakI bp f0 to (.slice ao l.length c), pairO ao l.length c l], []⟩) ⟨[], none, 0, r2, rfl, i2, by simpa using (by omega : r2.1.size ≤ 1000000), rfl, rfl, rfl⟩ (wk_mk (by (repeat (first | apply wkf_nil | (apply wkf_cons; rfl))); done) (by (repeat (first | apply sub_nil | (apply sub_cons; (· (repeat (first | apply sel_here | apply sel_there)))))); done) (by first | exact fun _ h => h | (intro r hr; cases hr; done) | (simp; done) | exact fun _ h => List.mem_append_left _ h | (intro r hr; simp [hr]; done))) ?_
  clear c1 c2
  rintro q st ⟨l, ao, c, r, rfl, hr, hl, h1, h2, rfl⟩
  (repeat (first | ((first | (apply wo_v; rfl) ); (· first | (apply pv_ev; rfl) )) | apply wc_seq | apply wc_region ))
  (refine wo_call (octLen g r.1 r.2) rfl (by (repeat (first | apply sub_nil )); done) (by first | exact fun _ h => h | (intro r hr; cases hr; done) | (simp; done) | exact fun _ h => List.mem_append_left _ h | (intro r hr; simp [hr]; done)) rfl ?_; rintro v L' R' ⟨rfl, rfl, rfl⟩ H' hH RR hR; simp only [List.cons_append, List.nil_append] at hH hR; subst hH; have hR := hR.symm; subst hR)
  by_cases h0 : 0 < r.1.size
  · have hgo := tilA_go (f := tPr) tPr_less tPr_ri hr h0
    have hless := tPr_less r hr h0
    have hri := tPr_ri r hr
    rw [hgo] at h1 h2
    clear hgo
    rw [show tPr r = (((uK 2 r).1, (uK 2 (uK 2 r).2).1), (uK 2 (uK 2 r).2).2) from rfl] at *
    have c3 := rU16 g r (by omega)
    have s3 := uK_size 2 r
    generalize uK 2 r = y at *
    obtain ⟨x, r3⟩ := y
    dsimp only at *
    have c4 := rU16 g r3 (by omega)
    generalize uK 2 r3 = z at *
    obtain ⟨y, r4⟩ := z
    dsimp only at *
    (repeat (first | ((first | (apply wo_v; rfl) ); (· first | (apply pv_ev; rfl) )) | apply wo_nil | apply wc_skip | (apply wc_true; rfl) | (apply wc_false; rfl) | (apply a_dec_t; rfl; (· first | assumption | omega)) ))
    refine wc_block ?_
    (repeat (first | fail ))
    (refine wc_regM [0, 1, 2, 3] (aslL [(1, [3]), (3, [0]), (5, [0]), (7, [1]), (8, [2, 1]), (10, [2, 3])]) (tblN5 g x y r3 r4 bp f0 to ao c l) ([]) (fm [(0, [rdO g r.1 r.2]), (1, []), (2, [pairO ao l.length c l]), (3, [nakI bp f0 to (.slice ao l.length c)])]) mixed (by kernel_rfl) (by kernel_rfl) (by decide) (aslL_ok (by decide)) (by (repeat (first | (apply prm_cons; (· (repeat (first | apply sel_here | apply sel_there)))) | apply List.Perm.nil )); done) ?_; (repeat (first | (apply HdM.val; rfl; rfl; (· first | apply gok_none ); (· first | (apply pv_ev; rfl) | (apply pv_fld; rfl) )) )))
    (refine hm_eff (cs := [3]) rfl (by decide) rfl rfl (by first | exact gok_none | exact gok_run rfl rfl) (fun a ha => outc_mono (outc_ld (L := [nakI bp f0 to (.slice ao l.length c)]) (pv_ld rfl (by (repeat (first | apply sel_here )); done) rfl) a ha) (fun v M h => ⟨[M], And.intro h.1 (congrArg (fun x => [x]) h.2), rfl, by simp⟩)) (⟨_, _, And.intro rfl rfl, rfl⟩) ?_; rintro v Ms ⟨rfl, rfl⟩ _; simp only [setls, setl, reduceIte, Nat.reduceEqDiff]; (repeat (first | (apply HdM.val; rfl; rfl; (· first | apply gok_none ); (· first | (apply pv_ev; rfl) )) )))
    (refine hm_eff (cs := [0]) rfl (by decide) rfl rfl (by first | exact gok_none | exact gok_run rfl rfl) (fun a ha => outc_mono (outc_call (F1 := _) (T := fun v M => v = .int .u16 x ∧ M = [rdO g r3.1 r3.2]) c3 rfl (by (repeat (first | apply sub_nil )); done) (by first | exact fun _ h => h | (intro r hr; cases hr; done) | (simp; done) | exact fun _ h => List.mem_append_left _ h | (intro r hr; simp [hr]; done)) (by rintro v L' R' ⟨rfl, rfl, _⟩; exact ⟨_, ⟨rfl, rfl⟩, (by (repeat (first | (apply prm_cons; (· (repeat (first | apply sel_here )))) | apply List.Perm.nil )); done)⟩) a ha) (fun v M h => ⟨[M], And.intro h.1 (congrArg (fun x => [x]) h.2), rfl, by simp⟩)) (⟨_, _, And.intro rfl rfl, rfl⟩) ?_; rintro v Ms ⟨rfl, rfl⟩ _; simp only [setls, setl, reduceIte, Nat.reduceEqDiff]; (repeat (first | (apply HdM.val; rfl; rfl; (· first | apply gok_none ); (· first | (apply pv_ev; rfl) )) )))
    (refine hm_eff (cs := [0]) rfl (by decide) rfl rfl (by first | exact gok_none | exact gok_run rfl rfl) (fun a ha => outc_mono (outc_call (F1 := _) (T := fun v M => v = .int .u16 y ∧ M = [rdO g r4.1 r4.2]) c4 rfl (by (repeat (first | apply sub_nil )); done) (by first | exact fun _ h => h | (intro r hr; cases hr; done) | (simp; done) | exact fun _ h => List.mem_append_left _ h | (intro r hr; simp [hr]; done)) (by rintro v L' R' ⟨rfl, rfl, _⟩; exact ⟨_, ⟨rfl, rfl⟩, (by (repeat (first | (apply prm_cons; (· (repeat (first | apply sel_here )))) | apply List.Perm.nil )); done)⟩) a ha) (fun v M h => ⟨[M], And.intro h.1 (congrArg (fun x => [x]) h.2), rfl, by simp⟩)) (⟨_, _, And.intro rfl rfl, rfl⟩) ?_; rintro v Ms ⟨rfl, rfl⟩ _; simp only [setls, setl, reduceIte, Nat.reduceEqDiff]; (repeat (first | (apply HdM.val; rfl; rfl; (· first | apply gok_none ); (· first | (apply pv_ev; rfl) | (apply g_build; apply pv_build; (· (repeat (first | apply Bld.nil | (apply Bld.one; rfl; rfl; (· (repeat (first | apply SetAt.here | apply SetAt.there)))) )))) )) )))
    (refine hm_eff (cs := [1]) rfl (by decide) rfl rfl (by first | exact gok_none | exact gok_run rfl rfl) (fun a ha => outc_mono (outc_bsl (by (repeat (first | apply Rws'.nil | (apply Rws'.agg; rfl; rfl; rfl))); done) rfl rfl rfl a ha) (fun v M h => Exists.elim h fun b h => ⟨[M], Exists.intro b (And.intro h.1 (congrArg (fun x => [x]) h.2)), rfl, by simp⟩)) (⟨_, _, Exists.intro 0 (And.intro rfl rfl), rfl⟩) ?_; rintro v Ms ⟨b9, rfl, rfl⟩ _; simp only [setls, setl, reduceIte, Nat.reduceEqDiff]; (repeat (first | (apply HdM.val; rfl; rfl; (· first | fail ); (· first | fail )) )))
    (refine hm_eff (cs := [2, 1]) rfl (by decide) rfl rfl (by first | exact gok_none | exact gok_run rfl rfl) (fun a ha => outc_mono (outc_app rfl rfl (by unfold maxLen; omega) (by omega) a ha) (fun v M h => by obtain ⟨b, c, h1, h2⟩ := h; exact ⟨[[_], [_]], ⟨b, c, h1, rfl⟩, rfl, h2⟩)) (⟨_, _, ⟨none, 0, rfl, rfl⟩, rfl⟩) ?_; rintro v Ms ⟨ao2, c2, rfl, rfl⟩ _; simp only [setls, setl, reduceIte, Nat.reduceEqDiff]; (repeat (first | (apply HdM.val; rfl; rfl; (· first | apply gok_none ); (· first | (apply pv_ev; rfl) | (apply pv_fld; rfl) )) )))
    (refine hm_eff (cs := [2, 3]) rfl (by decide) rfl rfl (by first | exact gok_none | exact gok_run rfl rfl) (fun a ha => outc_mono (outc_frA (X := [pairO' ao2 (l.length + 1) c2 (pairV l ++ pairV [(x, y)])]) (L := [nakI bp f0 to (.slice ao l.length c)]) (outc_st rfl rfl rfl (by (repeat (first | apply SetAt.here | apply SetAt.there)); done)) a ha) (fun v M h => by obtain ⟨M0, ⟨h1, h2⟩, h3⟩ := h; exact ⟨[[_], [_]], ⟨h1, rfl⟩, rfl, by rw [h3, h2]; rfl⟩)) (⟨_, _, ⟨rfl, rfl⟩, rfl⟩) ?_; rintro v Ms ⟨rfl, rfl⟩ _; simp only [setls, setl, reduceIte, Nat.reduceEqDiff]; (repeat (first | fail )))
    (refine HdM.nil ?_; intro H hH; simp only [Hp, fm, look, setl, List.flatMap_cons, List.flatMap_nil, reduceIte, Nat.reduceEqDiff, Option.getD_some, List.append_nil, List.cons_append, List.nil_append] at hH; subst hH)
    (repeat (first | fail ))
    exact loop_end ⟨l ++ [(x, y)], ao2, c2, r4, rfl, hri, by rw [List.length_append, List.length_singleton]; omega, by rw [List.append_assoc]; exact h1, h2, by rw [List.length_append, List.length_singleton, pairO_snoc]⟩ (by omega) (wk_mk (by (repeat (first | apply wkf_nil | (apply wkf_cons; rfl))); done) (by (repeat (first | apply sub_nil | (apply sub_cons; (· (repeat (first | apply sel_here | apply sel_there)))))); done) (by first | exact fun _ h => h | (intro r hr; cases hr; done) | (simp; done) | exact fun _ h => List.mem_append_left _ h | (intro r hr; simp [hr]; done)))
  · have e : r.1.size = 0 := by omega
    rw [tilA_end e] at h1 h2
    dsimp only at h1 h2
    rw [List.append_nil] at h1
    subst h1
    refine wo_still (ao := ao) (n := (tilA tPr r2).1.length) (c := c) (by (repeat (first | apply sel_here | apply sel_there)); done) (fun R1 hS1 => ?_)
    (repeat (first | ((first | (apply wo_v; rfl) ); (· first | (apply pv_ev; rfl) | (apply g_load; first | (apply pv_lda; rfl; (· (repeat (first | apply sel_here | apply sel_there))); (· (repeat (first | apply Cut.here0 | apply Cut.here )))) ) | (apply pv_mki; rfl; infer_instance) )) | apply wo_nil | apply wc_seq | apply wc_region | (apply wc_exit; rfl) | apply wc_ret | (apply wc_true; rfl) | (apply wc_false; rfl) | (apply a_dec_t; rfl; (· first | assumption | omega)) | (apply a_dec_f; rfl; (· first | assumption | omega)) ))
    rw [← h2]
    exact ret1 rfl rfl ⟨⟨ao, _, c, rfl, hS1.sq⟩, rfl⟩ (by (repeat (first | apply sub_nil )); done) (by first | exact fun _ h => h | (intro r hr; cases hr; done) | (simp; done) | exact fun _ h => List.mem_append_left _ h | (intro r hr; simp [hr]; done))

/-! ## Fir -/
abbrev ordO (ao : Option Addr) (n c : Nat) (l : List (Int × Int)) : It := .own 108 2 ao n c (ordV l)
abbrev ordO' (ao : Option Addr) (n c : Nat) (xs : List (List Value)) : It := .own 108 2 ao n c xs
theorem ordO_snoc (ao : Option Addr) (n c : Nat) (l : List (Int × Int)) (x : Int × Int) : ordO ao n c (l ++ [x]) = ordO' ao n c (ordV l ++ ordV [x]) := by rw [ordO, ordV_snoc]; rfl
abbrev firI (b : Nat) (fm : Int) (v : Value) : It := .ob b (.cells #[.int .u32 fm, v] 106 (0, 0))
def tblF5 (g : Nat) (x y : Int) (r2 r3 : Rs) (bp : Nat) (fm : Int) (ao : Option Addr) (c : Nat) (l : List (Int × Int)) : Nat → List (List It) → Value → List (List It) → Prop := fun k Ls v Ms => match k, Ls with
  | 1, [z] => v = .slice ao l.length c ∧ Ms = [z]
  | 3, _ => v = .int .u32 x ∧ Ms = [[rdO g r2.1 r2.2]]
  | 5, _ => v = .int .u8 y ∧ Ms = [[rdO g r3.1 r3.2]]
  | 7, _ => ∃ b, v = .slice (some ⟨b, 0, none⟩) 1 1 ∧ Ms = [[ordO (some ⟨b, 0, none⟩) 1 1 [(x, y)]]]
  | 8, [_, z] => ∃ ao2 c2, v = .slice ao2 (l.length + 1) c2 ∧ Ms = [[ordO' ao2 (l.length + 1) c2 (ordV l ++ ordV [(x, y)])], z]
  | 10, [[.own T2 sz ao2 n2 c2 xs], _] => v = undef ∧ Ms = [[.own T2 sz ao2 n2 c2 xs], [firI bp fm (.slice ao2 n2 c2)]]
  | _, _ => False
theorem tOr_less (r : Rs) (h : Ri r) (h0 : 0 < r.1.size) : (tOr r).2.1.size < r.1.size := Nat.lt_of_le_of_lt (rdB_size2 _ _ _) (Nat.lt_of_le_of_lt (uK_size _ _) (uK_less h (by omega) h0))
theorem tOr_ri (r : Rs) (h : Ri r) : Ri (tOr r).2 := ((h.uK 4).uK 1).rdB 3
set_option maxHeartbeats 8000000 in
theorem kFir (g : Nat) (r0 : Rs) (hi : Ri r0) (hs : r0.1.size ≤ 1000000) : Fn Try.prog 52 #[.pointer (some ⟨g, 0, none⟩)] [rdO g r0.1 r0.2] [] (fun v L' R' => PkV R' (tFi r0).1 v ∧ L' = [rdO g (tFi r0).2.1 (tFi r0).2.2]) := by
  unfold tFi
  dsimp only
  have s1 := uK_size 4 r0
  have i1 := hi.uK 4
  have c1 := rU32 g r0 (by omega)
  generalize uK 4 r0 = y at *
  obtain ⟨f0, r1⟩ := y
  dsimp only at *
  have s2 := uK_size 4 r1
  have i2 := i1.uK 4
  have c2 := rU32 g r1 (by omega)
  generalize uK 4 r1 = y at *
  obtain ⟨to, r2⟩ := y
  dsimp only at *
  rw [show tilM tOr r2.1.size r2 = tilA tOr r2 from rfl]
  refine fn_intro Try.func52 rfl Try.ntmps52 rfl (fun E => ?_)
  (repeat (first | ((first | (apply wo_v; rfl) ); (· first | (apply pv_ev; rfl) )) | apply wo_nil | apply wc_seq | apply wc_region ))
  (refine wo_call (c1) rfl (by (repeat (first | apply sub_nil )); done) (by first | exact fun _ h => h | (intro r hr; cases hr; done) | (simp; done) | exact fun _ h => List.mem_append_left _ h | (intro r hr; simp [hr]; done)) rfl ?_; rintro v L' R' ⟨rfl, rfl, rfl⟩ H' hH RR hR; simp only [List.cons_append, List.nil_append] at hH hR; subst hH; have hR := hR.symm; subst hR)
  (repeat (first | ((first | (apply wo_v; rfl) ); (· first | (apply pv_ev; rfl) | (apply g_build; apply pv_build; (· (repeat (first | apply Bld.nil | (apply Bld.one; rfl; rfl; (· (repeat (first | apply SetAt.here )))) )))) )) | apply wo_nil | apply wc_seq | apply wc_region | (apply wo_alloc; rfl; intro bx) | (apply wo_sta; rfl; rfl; rfl; rfl; (· (repeat (first | apply sel_here ))); (· (repeat (first | apply LayAt.nil | apply LayAt.here ))); rfl) ))
  obtain ⟨bp, hbp⟩ : ∃ g, g = bx := ⟨_, rfl⟩
  subst hbp
  (refine wo_call (c2) rfl (by (repeat (first | apply sub_nil | (apply sub_cons; (· (repeat (first | apply sel_here | apply sel_there)))))); done) (by first | exact fun _ h => h | (intro r hr; cases hr; done) | (simp; done) | exact fun _ h => List.mem_append_left _ h | (intro r hr; simp [hr]; done)) rfl ?_; rintro v L' R' ⟨rfl, rfl, rfl⟩ H' hH RR hR; simp only [List.cons_append, List.nil_append] at hH hR; subst hH; have hR := hR.symm; subst hR)
  (repeat (first | apply wo_nil | apply wc_seq ))
  refine wc_own0 108 2 ?_
  refine wc_block ?_
  refine wc_loop' (fun q st => ∃ (l : List (Int × Int)) (ao : Option Addr) (c : Nat) (r : Rs), q = r.1.size ∧ Ri r ∧ l.length + r.1.size ≤ 1000000 ∧ l ++ (tilA tOr r).1 = (tilA tOr r2).1 ∧ (tilA tOr r).2 = (tilA tOr r2).2 ∧ st = ⟨[(0, .pointer (some ⟨g, 0, none⟩)), (3, .pointer (some ⟨bp, 0, none⟩))], [rdO g r.1 r.2, firI bp f0 (.slice ao l.length c), ordO ao l.length c l], []⟩) ⟨[], none, 0, r2, rfl, i2, by simpa using (by omega : r2.1.size ≤ 1000000), rfl, rfl, rfl⟩ (wk_mk (by (repeat (first | apply wkf_nil | (apply wkf_cons; rfl))); done) (by (repeat (first | apply sub_nil | (apply sub_cons; (· (repeat (first | apply sel_here | apply sel_there)))))); done) (by first | exact fun _ h => h | (intro r hr; cases hr; done) | (simp; done) | exact fun _ h => List.mem_append_left _ h | (intro r hr; simp [hr]; done))) ?_
  clear c1 c2
  rintro q st ⟨l, ao, c, r, rfl, hr, hl, h1, h2, rfl⟩
  (repeat (first | ((first | (apply wo_v; rfl) ); (· first | (apply pv_ev; rfl) )) | apply wc_seq | apply wc_region ))
  (refine wo_call (octLen g r.1 r.2) rfl (by (repeat (first | apply sub_nil )); done) (by first | exact fun _ h => h | (intro r hr; cases hr; done) | (simp; done) | exact fun _ h => List.mem_append_left _ h | (intro r hr; simp [hr]; done)) rfl ?_; rintro v L' R' ⟨rfl, rfl, rfl⟩ H' hH RR hR; simp only [List.cons_append, List.nil_append] at hH hR; subst hH; have hR := hR.symm; subst hR)
  by_cases h0 : 0 < r.1.size
  · have hgo := tilA_go (f := tOr) tOr_less tOr_ri hr h0
    have hless := tOr_less r hr h0
    have hri := tOr_ri r hr
    rw [hgo] at h1 h2
    clear hgo
    rw [show tOr r = (((uK 4 r).1, (uK 1 (uK 4 r).2).1), (rdB (uK 1 (uK 4 r).2).2.1 (uK 1 (uK 4 r).2).2.2 3).2) from rfl] at *
    have c3 := rU32 g r (by omega)
    have s3 := uK_size 4 r
    generalize uK 4 r = y at *
    obtain ⟨x, r3⟩ := y
    dsimp only at *
    have c4 := rU8 g r3 (by omega)
    have s4 := uK_size 1 r3
    generalize uK 1 r3 = z at *
    obtain ⟨y, r4⟩ := z
    dsimp only at *
    have c5 := octBytes g r4.1 r4.2 3 (by omega)
    generalize rdB r4.1 r4.2 3 = z at *
    obtain ⟨z, r5⟩ := z
    dsimp only at *
    (repeat (first | ((first | (apply wo_v; rfl) ); (· first | (apply pv_ev; rfl) )) | apply wo_nil | apply wc_skip | (apply wc_true; rfl) | (apply wc_false; rfl) | (apply a_dec_t; rfl; (· first | assumption | omega)) ))
    refine wc_block ?_
    (repeat (first | apply wc_seq ))
    (refine wc_regM [0, 1, 2, 3] (aslL [(1, [3]), (3, [0]), (5, [0]), (7, [1]), (8, [2, 1]), (10, [2, 3])]) (tblF5 g x y r3 r4 bp f0 ao c l) ([]) (fm [(0, [rdO g r.1 r.2]), (1, []), (2, [ordO ao l.length c l]), (3, [firI bp f0 (.slice ao l.length c)])]) mixed (by kernel_rfl) (by kernel_rfl) (by decide) (aslL_ok (by decide)) (by (repeat (first | (apply prm_cons; (· (repeat (first | apply sel_here | apply sel_there)))) | apply List.Perm.nil )); done) ?_; (repeat (first | (apply HdM.val; rfl; rfl; (· first | apply gok_none ); (· first | (apply pv_ev; rfl) | (apply pv_fld; rfl) )) )))
    (refine hm_eff (cs := [3]) rfl (by decide) rfl rfl (by first | exact gok_none | exact gok_run rfl rfl) (fun a ha => outc_mono (outc_ld (L := [firI bp f0 (.slice ao l.length c)]) (pv_ld rfl (by (repeat (first | apply sel_here )); done) rfl) a ha) (fun v M h => ⟨[M], And.intro h.1 (congrArg (fun x => [x]) h.2), rfl, by simp⟩)) (⟨_, _, And.intro rfl rfl, rfl⟩) ?_; rintro v Ms ⟨rfl, rfl⟩ _; simp only [setls, setl, reduceIte, Nat.reduceEqDiff]; (repeat (first | (apply HdM.val; rfl; rfl; (· first | apply gok_none ); (· first | (apply pv_ev; rfl) )) )))
    (refine hm_eff (cs := [0]) rfl (by decide) rfl rfl (by first | exact gok_none | exact gok_run rfl rfl) (fun a ha => outc_mono (outc_call (F1 := _) (T := fun v M => v = .int .u32 x ∧ M = [rdO g r3.1 r3.2]) c3 rfl (by (repeat (first | apply sub_nil )); done) (by first | exact fun _ h => h | (intro r hr; cases hr; done) | (simp; done) | exact fun _ h => List.mem_append_left _ h | (intro r hr; simp [hr]; done)) (by rintro v L' R' ⟨rfl, rfl, _⟩; exact ⟨_, ⟨rfl, rfl⟩, (by (repeat (first | (apply prm_cons; (· (repeat (first | apply sel_here )))) | apply List.Perm.nil )); done)⟩) a ha) (fun v M h => ⟨[M], And.intro h.1 (congrArg (fun x => [x]) h.2), rfl, by simp⟩)) (⟨_, _, And.intro rfl rfl, rfl⟩) ?_; rintro v Ms ⟨rfl, rfl⟩ _; simp only [setls, setl, reduceIte, Nat.reduceEqDiff]; (repeat (first | (apply HdM.val; rfl; rfl; (· first | apply gok_none ); (· first | (apply pv_ev; rfl) )) )))
    (refine hm_eff (cs := [0]) rfl (by decide) rfl rfl (by first | exact gok_none | exact gok_run rfl rfl) (fun a ha => outc_mono (outc_call (F1 := _) (T := fun v M => v = .int .u8 y ∧ M = [rdO g r4.1 r4.2]) c4 rfl (by (repeat (first | apply sub_nil )); done) (by first | exact fun _ h => h | (intro r hr; cases hr; done) | (simp; done) | exact fun _ h => List.mem_append_left _ h | (intro r hr; simp [hr]; done)) (by rintro v L' R' ⟨rfl, rfl, _⟩; exact ⟨_, ⟨rfl, rfl⟩, (by (repeat (first | (apply prm_cons; (· (repeat (first | apply sel_here )))) | apply List.Perm.nil )); done)⟩) a ha) (fun v M h => ⟨[M], And.intro h.1 (congrArg (fun x => [x]) h.2), rfl, by simp⟩)) (⟨_, _, And.intro rfl rfl, rfl⟩) ?_; rintro v Ms ⟨rfl, rfl⟩ _; simp only [setls, setl, reduceIte, Nat.reduceEqDiff]; (repeat (first | (apply HdM.val; rfl; rfl; (· first | apply gok_none ); (· first | (apply pv_ev; rfl) | (apply g_build; apply pv_build; (· (repeat (first | apply Bld.nil | (apply Bld.one; rfl; rfl; (· (repeat (first | apply SetAt.here | apply SetAt.there)))) )))) )) )))
    (refine hm_eff (cs := [1]) rfl (by decide) rfl rfl (by first | exact gok_none | exact gok_run rfl rfl) (fun a ha => outc_mono (outc_bsl (by (repeat (first | apply Rws'.nil | (apply Rws'.agg; rfl; rfl; rfl))); done) rfl rfl rfl a ha) (fun v M h => Exists.elim h fun b h => ⟨[M], Exists.intro b (And.intro h.1 (congrArg (fun x => [x]) h.2)), rfl, by simp⟩)) (⟨_, _, Exists.intro 0 (And.intro rfl rfl), rfl⟩) ?_; rintro v Ms ⟨b9, rfl, rfl⟩ _; simp only [setls, setl, reduceIte, Nat.reduceEqDiff]; (repeat (first | (apply HdM.val; rfl; rfl; (· first | fail ); (· first | fail )) )))
    (refine hm_eff (cs := [2, 1]) rfl (by decide) rfl rfl (by first | exact gok_none | exact gok_run rfl rfl) (fun a ha => outc_mono (outc_app rfl rfl (by unfold maxLen; omega) (by omega) a ha) (fun v M h => by obtain ⟨b, c, h1, h2⟩ := h; exact ⟨[[_], [_]], ⟨b, c, h1, rfl⟩, rfl, h2⟩)) (⟨_, _, ⟨none, 0, rfl, rfl⟩, rfl⟩) ?_; rintro v Ms ⟨ao2, c2, rfl, rfl⟩ _; simp only [setls, setl, reduceIte, Nat.reduceEqDiff]; (repeat (first | (apply HdM.val; rfl; rfl; (· first | apply gok_none ); (· first | (apply pv_ev; rfl) | (apply pv_fld; rfl) )) )))
    (refine hm_eff (cs := [2, 3]) rfl (by decide) rfl rfl (by first | exact gok_none | exact gok_run rfl rfl) (fun a ha => outc_mono (outc_frA (X := [ordO' ao2 (l.length + 1) c2 (ordV l ++ ordV [(x, y)])]) (L := [firI bp f0 (.slice ao l.length c)]) (outc_st rfl rfl rfl (by (repeat (first | apply SetAt.here | apply SetAt.there)); done)) a ha) (fun v M h => by obtain ⟨M0, ⟨h1, h2⟩, h3⟩ := h; exact ⟨[[_], [_]], ⟨h1, rfl⟩, rfl, by rw [h3, h2]; rfl⟩)) (⟨_, _, ⟨rfl, rfl⟩, rfl⟩) ?_; rintro v Ms ⟨rfl, rfl⟩ _; simp only [setls, setl, reduceIte, Nat.reduceEqDiff]; (repeat (first | fail )))
    (refine HdM.nil ?_; intro H hH; simp only [Hp, fm, look, setl, List.flatMap_cons, List.flatMap_nil, reduceIte, Nat.reduceEqDiff, Option.getD_some, List.append_nil, List.cons_append, List.nil_append] at hH; subst hH)
    (repeat (first | ((first | (apply wo_v; rfl) ); (· first | (apply pv_ev; rfl) )) | apply wc_region ))
    (refine wo_call (c5) rfl (by (repeat (first | apply sub_nil )); done) (by first | exact fun _ h => h | (intro r hr; cases hr; done) | (simp; done) | exact fun _ h => List.mem_append_left _ h | (intro r hr; simp [hr]; done)) rfl ?_; rintro v L' R' ⟨rfl, rfl, rfl⟩ H' hH RR hR; simp only [List.cons_append, List.nil_append] at hH hR; subst hH; have hR := hR.symm; subst hR)
    (repeat (first | apply wo_nil ))
    exact loop_end ⟨l ++ [(x, y)], ao2, c2, r5, rfl, hri, by rw [List.length_append, List.length_singleton]; omega, by rw [List.append_assoc]; exact h1, h2, by rw [List.length_append, List.length_singleton, ordO_snoc]⟩ (by omega) (wk_mk (by (repeat (first | apply wkf_nil | (apply wkf_cons; rfl))); done) (by (repeat (first | apply sub_nil | (apply sub_cons; (· (repeat (first | apply sel_here | apply sel_there)))))); done) (by first | exact fun _ h => h | (intro r hr; cases hr; done) | (simp; done) | exact fun _ h => List.mem_append_left _ h | (intro r hr; simp [hr]; done)))
  · have e : r.1.size = 0 := by omega
    rw [tilA_end e] at h1 h2
    dsimp only at h1 h2
    rw [List.append_nil] at h1
    subst h1
    refine wo_still (ao := ao) (n := (tilA tOr r2).1.length) (c := c) (by (repeat (first | apply sel_here | apply sel_there)); done) (fun R1 hS1 => ?_)
    (repeat (first | ((first | (apply wo_v; rfl) ); (· first | (apply pv_ev; rfl) | (apply g_load; first | (apply pv_lda; rfl; (· (repeat (first | apply sel_here | apply sel_there))); (· (repeat (first | apply Cut.here0 | apply Cut.here )))) ) | (apply pv_mki; rfl; infer_instance) )) | apply wo_nil | apply wc_seq | apply wc_region | (apply wc_exit; rfl) | apply wc_ret | (apply wc_true; rfl) | (apply wc_false; rfl) | (apply a_dec_t; rfl; (· first | assumption | omega)) | (apply a_dec_f; rfl; (· first | assumption | omega)) ))
    rw [← h2]
    exact ret1 rfl rfl ⟨⟨ao, _, c, rfl, hS1.sq⟩, rfl⟩ (by (repeat (first | apply sub_nil )); done) (by first | exact fun _ h => h | (intro r hr; cases hr; done) | (simp; done) | exact fun _ h => List.mem_append_left _ h | (intro r hr; simp [hr]; done))

/-! ## Bye -/
abbrev byeI (b : Nat) (v : Value) (s : ByteArray) : It := .ob b (.cells #[v, .string s] 136 (0, 0))
def tblB5 (g : Nat) (x : Int) (r2 : Rs) (bp : Nat) (ao : Option Addr) (c : Nat) (l : List Int) : Nat → List (List It) → Value → List (List It) → Prop := fun k Ls v Ms => match k, Ls with
  | 1, [y] => v = .slice ao l.length c ∧ Ms = [y]
  | 3, _ => v = .int .u32 x ∧ Ms = [[rdO g r2.1 r2.2]]
  | 4, _ => ∃ b, v = .slice (some ⟨b, 0, none⟩) 1 1 ∧ Ms = [[c32O (some ⟨b, 0, none⟩) 1 1 [x]]]
  | 5, [_, y] => ∃ ao2 c2, v = .slice ao2 (l.length + 1) c2 ∧ Ms = [[c32O' ao2 (l.length + 1) c2 (c32 l ++ c32 [x])], y]
  | 7, [[.own T2 sz ao2 n2 c2 xs], _] => v = undef ∧ Ms = [[.own T2 sz ao2 n2 c2 xs], [byeI bp (.slice ao2 n2 c2) E0]]
  | _, _ => False
theorem c32O_snoc' (ao : Option Addr) (n c : Nat) (l : List Int) (x : Int) : c32O ao n c (l ++ [x]) = c32O' ao n c (c32 l ++ c32 [x]) := c32O_snoc ao n c l x
theorem uK4_size (r : Rs) : (uK 4 r).2.1.size ≤ r.1.size := uK_size 4 r
set_option maxHeartbeats 8000000 in
theorem kBye (g : Nat) (r0 : Rs) (hs : r0.1.size ≤ 1000000) (N : Nat) (hN : N ≤ 255) : Fn Try.prog 50 #[.pointer (some ⟨g, 0, none⟩), .int .u8 N] [rdO g r0.1 r0.2] [] (fun v L' R' => PkV R' (byE (repM (uK 4) N r0)).1 v ∧ L' = [rdO g (byE (repM (uK 4) N r0)).2.1 (byE (repM (uK 4) N r0)).2.2]) := by
  refine fn_intro Try.func50 rfl Try.ntmps50 rfl (fun E => ?_)
  (repeat (first | ((first | (apply wo_v; rfl) ); (· first | (apply pv_ev; rfl) )) | apply wo_nil | apply wc_seq | apply wc_region | (apply wo_alloc; rfl; intro bx) ))
  obtain ⟨bp, hbp⟩ : ∃ g, g = bx := ⟨_, rfl⟩
  subst hbp
  refine wc_own0 37 1 ?_
  refine wc_join0 (fun st => ∃ ao c, st = ⟨[(0, .pointer (some ⟨g, 0, none⟩)), (5, .pointer (some ⟨bp, 0, none⟩))], [rdO g (repM (uK 4) N r0).2.1 (repM (uK 4) N r0).2.2, byeI bp (.slice ao (repM (uK 4) N r0).1.length c) E0, c32O ao (repM (uK 4) N r0).1.length c (repM (uK 4) N r0).1], []⟩) ?_ ?_
  · refine wc_block ?_
    refine wc_loop' (fun q st => ∃ (i : Nat) (l : List Int) (ao : Option Addr) (c : Nat) (r : Rs), q = N - i ∧ i ≤ N ∧ r.1.size ≤ 1000000 ∧ l.length = i ∧ l ++ (repM (uK 4) (N - i) r).1 = (repM (uK 4) N r0).1 ∧ (repM (uK 4) (N - i) r).2 = (repM (uK 4) N r0).2 ∧ st = ⟨[(0, .pointer (some ⟨g, 0, none⟩)), (5, .pointer (some ⟨bp, 0, none⟩)), (6, .int .u8 N), (7, .int .u8 i)], [rdO g r.1 r.2, byeI bp (.slice ao l.length c) E0, c32O ao l.length c l], []⟩) ⟨0, [], none, 0, r0, rfl, Nat.zero_le _, hs, rfl, rfl, rfl, rfl⟩ (wk_mk (by (repeat (first | apply wkf_nil | (apply wkf_cons; rfl))); done) (by (repeat (first | apply sub_nil | (apply sub_cons; (· (repeat (first | apply sel_here | apply sel_there)))))); done) (by first | exact fun _ h => h | (intro r hr; cases hr; done) | (simp; done) | exact fun _ h => List.mem_append_left _ h | (intro r hr; simp [hr]; done))) ?_
    rintro q st ⟨i, l, ao, c, r, rfl, hi, hr, hl, h1, h2, rfl⟩
    by_cases h0 : i < N
    · obtain ⟨m, hm⟩ : ∃ m, N - i = m + 1 := ⟨N - i - 1, by omega⟩
      have hm2 : N - (i + 1) = m := by omega
      have e1 : l ++ ((uK 4 r).1 :: (repM (uK 4) (N - (i + 1)) (uK 4 r).2).1) = (repM (uK 4) N r0).1 := by rw [hm2, ← h1, hm]; rfl
      have e2 : (repM (uK 4) (N - (i + 1)) (uK 4 r).2).2 = (repM (uK 4) N r0).2 := by rw [hm2, ← h2, hm]; rfl
      clear h1 h2
      have s1 := uK_size 4 r
      have c1 := rU32 g r (by omega)
      generalize uK 4 r = y at *
      obtain ⟨x, r1⟩ := y
      dsimp only at *
      (repeat (first | ((first | (apply wo_v; rfl) ); (· first | (apply pv_ev; rfl) )) | apply wo_nil | apply wc_seq | apply wc_region | apply wc_skip | (apply wc_true; rfl) | (apply wc_false; rfl) | (apply a_dec_t; rfl; (· first | assumption | omega)) ))
      refine wc_block ?_
      (repeat (first | fail ))
      (refine wc_regM [0, 1, 2, 3] (aslL [(1, [3]), (3, [0]), (4, [1]), (5, [2, 1]), (7, [2, 3])]) (tblB5 g x r1 bp ao c l) ([]) (fm [(0, [rdO g r.1 r.2]), (1, []), (2, [c32O ao l.length c l]), (3, [byeI bp (.slice ao l.length c) E0])]) mixed (by kernel_rfl) (by kernel_rfl) (by decide) (aslL_ok (by decide)) (by (repeat (first | (apply prm_cons; (· (repeat (first | apply sel_here | apply sel_there)))) | apply List.Perm.nil )); done) ?_; (repeat (first | (apply HdM.val; rfl; rfl; (· first | apply gok_none ); (· first | (apply pv_ev; rfl) | (apply pv_fld; rfl) )) )))
      (refine hm_eff (cs := [3]) rfl (by decide) rfl rfl (by first | exact gok_none | exact gok_run rfl rfl) (fun a ha => outc_mono (outc_ld (L := [byeI bp (.slice ao l.length c) E0]) (pv_ld rfl (by (repeat (first | apply sel_here )); done) rfl) a ha) (fun v M h => ⟨[M], And.intro h.1 (congrArg (fun x => [x]) h.2), rfl, by simp⟩)) (⟨_, _, And.intro rfl rfl, rfl⟩) ?_; rintro v Ms ⟨rfl, rfl⟩ _; simp only [setls, setl, reduceIte, Nat.reduceEqDiff]; (repeat (first | (apply HdM.val; rfl; rfl; (· first | apply gok_none ); (· first | (apply pv_ev; rfl) )) )))
      (refine hm_eff (cs := [0]) rfl (by decide) rfl rfl (by first | exact gok_none | exact gok_run rfl rfl) (fun a ha => outc_mono (outc_call (F1 := _) (T := fun v M => v = .int .u32 x ∧ M = [rdO g r1.1 r1.2]) c1 rfl (by (repeat (first | apply sub_nil )); done) (by first | exact fun _ h => h | (intro r hr; cases hr; done) | (simp; done) | exact fun _ h => List.mem_append_left _ h | (intro r hr; simp [hr]; done)) (by rintro v L' R' ⟨rfl, rfl, _⟩; exact ⟨_, ⟨rfl, rfl⟩, (by (repeat (first | (apply prm_cons; (· (repeat (first | apply sel_here )))) | apply List.Perm.nil )); done)⟩) a ha) (fun v M h => ⟨[M], And.intro h.1 (congrArg (fun x => [x]) h.2), rfl, by simp⟩)) (⟨_, _, And.intro rfl rfl, rfl⟩) ?_; rintro v Ms ⟨rfl, rfl⟩ _; simp only [setls, setl, reduceIte, Nat.reduceEqDiff]; (repeat (first | (apply HdM.val; rfl; rfl; (· first | fail ); (· first | fail )) )))
      (refine hm_eff (cs := [1]) rfl (by decide) rfl rfl (by first | exact gok_none | exact gok_run rfl rfl) (fun a ha => outc_mono (outc_bsl (by (repeat (first | apply Rws'.nil | (apply Rws'.one; rfl; rfl; rfl) )); done) rfl rfl rfl a ha) (fun v M h => Exists.elim h fun b h => ⟨[M], Exists.intro b (And.intro h.1 (congrArg (fun x => [x]) h.2)), rfl, by simp⟩)) (⟨_, _, Exists.intro 0 (And.intro rfl rfl), rfl⟩) ?_; rintro v Ms ⟨b9, rfl, rfl⟩ _; simp only [setls, setl, reduceIte, Nat.reduceEqDiff]; (repeat (first | (apply HdM.val; rfl; rfl; (· first | fail ); (· first | fail )) )))
      (refine hm_eff (cs := [2, 1]) rfl (by decide) rfl rfl (by first | exact gok_none | exact gok_run rfl rfl) (fun a ha => outc_mono (outc_app rfl rfl (by unfold maxLen; omega) (by omega) a ha) (fun v M h => by obtain ⟨b, c, h1, h2⟩ := h; exact ⟨[[_], [_]], ⟨b, c, h1, rfl⟩, rfl, h2⟩)) (⟨_, _, ⟨none, 0, rfl, rfl⟩, rfl⟩) ?_; rintro v Ms ⟨ao2, c2, rfl, rfl⟩ _; simp only [setls, setl, reduceIte, Nat.reduceEqDiff]; (repeat (first | (apply HdM.val; rfl; rfl; (· first | apply gok_none ); (· first | (apply pv_ev; rfl) | (apply pv_fld; rfl) )) )))
      (refine hm_eff (cs := [2, 3]) rfl (by decide) rfl rfl (by first | exact gok_none | exact gok_run rfl rfl) (fun a ha => outc_mono (outc_frA (X := [c32O' ao2 (l.length + 1) c2 (c32 l ++ c32 [x])]) (L := [byeI bp (.slice ao l.length c) E0]) (outc_st rfl rfl rfl (by (repeat (first | apply SetAt.here )); done)) a ha) (fun v M h => by obtain ⟨M0, ⟨h1, h2⟩, h3⟩ := h; exact ⟨[[_], [_]], ⟨h1, rfl⟩, rfl, by rw [h3, h2]; rfl⟩)) (⟨_, _, ⟨rfl, rfl⟩, rfl⟩) ?_; rintro v Ms ⟨rfl, rfl⟩ _; simp only [setls, setl, reduceIte, Nat.reduceEqDiff]; (repeat (first | fail )))
      (refine HdM.nil ?_; intro H hH; simp only [Hp, fm, look, setl, List.flatMap_cons, List.flatMap_nil, reduceIte, Nat.reduceEqDiff, Option.getD_some, List.append_nil, List.cons_append, List.nil_append] at hH; subst hH)
      (repeat (first | ((first | (apply wo_v; rfl) ); (· first | (apply pv_ev; rfl) | (apply g_bin; first | (apply a_add; rfl; rfl; infer_instance; omega) ) )) | apply wo_nil | apply wc_region ))
      exact loop_end ⟨i + 1, l ++ [x], ao2, c2, r1, rfl, by omega, by omega, by rw [List.length_append, List.length_singleton, hl], by rw [List.append_assoc]; exact e1, e2, by rw [List.length_append, List.length_singleton, c32O_snoc']⟩ (by omega) (wk_mk (by (repeat (first | apply wkf_nil | (apply wkf_cons; rfl))); done) (by (repeat (first | apply sub_nil | (apply sub_cons; (· (repeat (first | apply sel_here | apply sel_there)))))); done) (by first | exact fun _ h => h | (intro r hr; cases hr; done) | (simp; done) | exact fun _ h => List.mem_append_left _ h | (intro r hr; simp [hr]; done)))
    · have e : i = N := by omega
      subst e
      rw [Nat.sub_self] at h1 h2
      have h1 : l ++ [] = (repM (uK 4) i r0).1 := h1
      have h2 : r = (repM (uK 4) i r0).2 := h2
      rw [List.append_nil] at h1
      subst h1
      subst h2
      (repeat (first | ((first | (apply wo_v; rfl) ); (· first | (apply pv_ev; rfl) )) | apply wo_nil | apply wc_seq | apply wc_region | (apply wc_exit; rfl) | (apply wc_true; rfl) | (apply wc_false; rfl) | (apply a_dec_t; rfl; (· first | assumption | omega)) | (apply a_dec_f; rfl; (· first | assumption | omega)) ))
      exact cut_end ⟨ao, c, rfl⟩ (wk_mk (by (repeat (first | apply wkf_nil | (apply wkf_cons; rfl))); done) (by (repeat (first | apply sub_nil )); done) (by first | exact fun _ h => h | (intro r hr; cases hr; done) | (simp; done) | exact fun _ h => List.mem_append_left _ h | (intro r hr; simp [hr]; done)))
  rintro st ⟨ao, c, rfl⟩
  have hz := repM_size (f := uK 4) uK4_size N r0
  unfold byE
  generalize repM (uK 4) N r0 = y at *
  obtain ⟨l, r⟩ := y
  dsimp only at *
  (repeat (first | ((first | (apply wo_v; rfl) ); (· first | (apply pv_ev; rfl) )) | apply wc_seq | apply wc_region ))
  (refine wo_call (octLen g r.1 r.2) rfl (by (repeat (first | apply sub_nil )); done) (by first | exact fun _ h => h | (intro r hr; cases hr; done) | (simp; done) | exact fun _ h => List.mem_append_left _ h | (intro r hr; simp [hr]; done)) rfl ?_; rintro v L' R' ⟨rfl, rfl, rfl⟩ H' hH RR hR; simp only [List.cons_append, List.nil_append] at hH hR; subst hH; have hR := hR.symm; subst hR)
  by_cases h0 : r.1.size = 0
  · rw [if_pos h0]
    refine wo_still (ao := ao) (n := l.length) (c := c) (by (repeat (first | apply sel_here | apply sel_there)); done) (fun R1 hS1 => ?_)
    (repeat (first | ((first | (apply wo_v; rfl) ); (· first | (apply pv_ev; rfl) | (apply g_load; first | (apply pv_lda; rfl; (· (repeat (first | apply sel_here | apply sel_there))); (· (repeat (first | apply Cut.here0 | apply Cut.here )))) ) | (apply pv_mki; rfl; infer_instance) )) | apply wo_nil | apply wc_seq | apply wc_region | apply wc_skip | apply wc_ret | (apply wc_true; rfl) | (apply wc_false; rfl) | (apply a_dec_t; rfl; (· first | assumption | omega)) | (apply a_dec_f; rfl; (· first | assumption | omega)) ))
    exact ret1 rfl rfl ⟨⟨ao, _, c, rfl, hS1.sq⟩, rfl⟩ (by (repeat (first | apply sub_nil )); done) (by first | exact fun _ h => h | (intro r hr; cases hr; done) | (simp; done) | exact fun _ h => List.mem_append_left _ h | (intro r hr; simp [hr]; done))
  · rw [if_neg h0]
    have h0 : 0 < r.1.size := by omega
    have c1 := rU8 g r (by omega)
    have s1 := uK_size 1 r
    have b1 := uK1_b r
    generalize uK 1 r = y at *
    obtain ⟨k, r1⟩ := y
    dsimp only at *
    have c2 := octBytes g r1.1 r1.2 k (by omega)
    have s2 := rdB_size2 r1.1 r1.2 k
    generalize rdB r1.1 r1.2 k = y at *
    obtain ⟨tx, r2⟩ := y
    dsimp only at *
    have c3 := octRest g r2.1 r2.2 (by omega)
    generalize rdB r2.1 r2.2 r2.1.size = y at *
    obtain ⟨t2, r3⟩ := y
    dsimp only at *
    (repeat (first | ((first | (apply wo_v; rfl) ); (· first | (apply pv_ev; rfl) )) | apply wo_nil | apply wc_seq | apply wc_region | (apply wc_true; rfl) | (apply wc_false; rfl) | (apply a_dec_t; rfl; (· first | assumption | omega)) ))
    (refine wo_call (c1) rfl (by (repeat (first | apply sub_nil )); done) (by first | exact fun _ h => h | (intro r hr; cases hr; done) | (simp; done) | exact fun _ h => List.mem_append_left _ h | (intro r hr; simp [hr]; done)) rfl ?_; rintro v L' R' ⟨rfl, rfl, rfl⟩ H' hH RR hR; simp only [List.cons_append, List.nil_append] at hH hR; subst hH; have hR := hR.symm; subst hR)
    (repeat (first | ((first | (apply wo_v; rfl) ); (· first | (apply pv_ev; rfl) | (apply g_conv; first | (apply a_conv; rfl; infer_instance; infer_instance; infer_instance; omega) ) )) ))
    (refine wo_call (c2) rfl (by (repeat (first | apply sub_nil )); done) (by first | exact fun _ h => h | (intro r hr; cases hr; done) | (simp; done) | exact fun _ h => List.mem_append_left _ h | (intro r hr; simp [hr]; done)) rfl ?_; rintro v L' R' ⟨rfl, rfl, rfl⟩ H' hH RR hR; simp only [List.cons_append, List.nil_append] at hH hR; subst hH; have hR := hR.symm; subst hR)
    (repeat (first | ((first | (apply wo_v; rfl) ); (· first | (apply pv_ev; rfl) | (apply pv_fld; rfl) )) | apply wo_nil | apply wc_region | (apply wo_st; rfl; rfl; rfl; (· (repeat (first | apply sel_here | apply sel_there))); (· (repeat (first | apply SetAt.here | apply SetAt.there))); rfl) ))
    (refine wo_call (c3) rfl (by (repeat (first | apply sub_nil | (apply sub_cons; (· (repeat (first | apply sel_here | apply sel_there)))))); done) (by first | exact fun _ h => h | (intro r hr; cases hr; done) | (simp; done) | exact fun _ h => List.mem_append_left _ h | (intro r hr; simp [hr]; done)) rfl ?_; rintro v L' R' ⟨rfl, rfl, rfl⟩ H' hH RR hR; simp only [List.cons_append, List.nil_append] at hH hR; subst hH; have hR := hR.symm; subst hR)
    refine wo_still (ao := ao) (n := l.length) (c := c) (by (repeat (first | apply sel_here | apply sel_there)); done) (fun R1 hS1 => ?_)
    (repeat (first | ((first | (apply wo_v; rfl) ); (· first | (apply pv_ev; rfl) | (apply g_load; first | (apply pv_lda; rfl; (· (repeat (first | apply sel_here | apply sel_there))); (· (repeat (first | apply Cut.here0 | apply Cut.here )))) ) | (apply pv_mki; rfl; infer_instance) )) | apply wo_nil | apply wc_seq | apply wc_region | apply wc_ret ))
    exact ret1 rfl rfl ⟨⟨ao, _, c, rfl, hS1.sq⟩, rfl⟩ (by (repeat (first | apply sub_nil )); done) (by first | exact fun _ h => h | (intro r hr; cases hr; done) | (simp; done) | exact fun _ h => List.mem_append_left _ h | (intro r hr; simp [hr]; done))
end Go.Proofs.Yteaccbbmphcmnaa

/-
  Package rtcp: Remb, read.
-/
namespace Go.Proofs.Yteaccbbmphcmnaa
set_option linter.unusedSimpArgs false
set_option linter.unusedVariables false
open Go.RowKit
attribute [local irreducible] Pv WO WC Fn
set_option maxRecDepth 100000
attribute [local irreducible] ByteArray.extract

theorem and64_18 {a : Int} (h : 0 ≤ a ∧ a ≤ 16777215) : bits .and .u64 a 262143 = a % 262144 := by
  obtain ⟨u, rfl⟩ := Int.eq_ofNat_of_zero_le h.1
  show IntKind.u64.wrap ((BitVec.ofInt 64 (u : Int) &&& BitVec.ofInt 64 ((262143 : Nat) : Int)).toNat : Int) = _
  have hz : ∀ c : Nat, c < 2 ^ 64 → (BitVec.ofInt 64 (c : Int)).toNat = c := fun c hc => by
    rw [BitVec.ofInt_natCast, BitVec.toNat_ofNat]; exact Nat.mod_eq_of_lt hc
  rw [BitVec.toNat_and, hz u (by omega), hz 262143 (by omega), show (262143 : Nat) = 2 ^ 18 - 1 from rfl, Nat.and_two_pow_sub_one_eq_mod, IntKind.wrap_u64]
  omega
theorem shlM_b : ∀ (n : Nat) (x : Int), 0 ≤ x ∧ x ≤ 18446744073709551615 → 0 ≤ (shlM n x).1 ∧ (shlM n x).1 ≤ 18446744073709551615
  | 0, x, h => h
  | n + 1, x, h => by
    rw [shlM]
    split
    · exact h
    · exact shlM_b n (2 * x) (by omega)
abbrev rmbI (b : Nat) (fm rt : Int) (v : Value) : It := .ob b (.cells #[.int .u32 fm, .int .u64 rt, v] 111 (0, 0))
theorem reA_size (r : Rs) : (reA r).1.size ≤ r.1.size := by
  unfold reA
  split
  · exact rdB_size2 _ _ _
  · exact Nat.le_trans (rdF_sz _ _) (rdB_size2 _ _ _)
theorem reA_ri {r : Rs} (h : Ri r) : Ri (reA r) := by
  unfold reA
  split
  · exact h.rdB 4
  · exact (h.rdB 4).rdF 2
theorem reB_size (b : Bool) (r : Rs) : (reB b r).1.size ≤ r.1.size := by
  unfold reB
  split
  · exact rdF_sz _ _
  · exact Nat.le_refl _
theorem reB_ri (b : Bool) {r : Rs} (h : Ri r) : Ri (reB b r) := by
  unfold reB
  split
  · exact h.rdF 4
  · exact h
set_option maxHeartbeats 8000000 in
theorem kRemb (g : Nat) (r0 : Rs) (hi : Ri r0) (hs : r0.1.size ≤ 1000000) : Fn Try.prog 53 #[.pointer (some ⟨g, 0, none⟩)] [rdO g r0.1 r0.2] [] (fun v L' R' => PkV R' (tRe r0).1 v ∧ L' = [rdO g (tRe r0).2.1 (tRe r0).2.2]) := by
  unfold tRe
  dsimp only
  have s1 := uK_size 4 r0
  have i1 := hi.uK 4
  have c1 := rU32 g r0 (by omega)
  generalize uK 4 r0 = y at *
  obtain ⟨f0, r1⟩ := y
  dsimp only at *
  have s2 := uK_size 4 r1
  have i2 := i1.uK 4
  have c2 := rU32 g r1 (by omega)
  generalize uK 4 r1 = y at *
  obtain ⟨to, r2⟩ := y
  dsimp only at *
  have s3 := reA_size r2
  have i3 := reA_ri i2
  have c4 := rU8 g (reA r2) (by omega)
  have s4 := uK_size 1 (reA r2)
  have b4 := uK1_b (reA r2)
  have i4 := i3.uK 1
  have c3 := octBytes g r2.1 r2.2 4 (by omega)
  have e3 : reA r2 = if (rdB r2.1 r2.2 4).1 = rembS then (rdB r2.1 r2.2 4).2 else rdF (rdB r2.1 r2.2 4).2.1 (rdB r2.1 r2.2 4).2.2 2 := rfl
  generalize reA r2 = r3 at *
  generalize rdB r2.1 r2.2 4 = y at *
  obtain ⟨tg, rt⟩ := y
  dsimp only at *
  generalize uK 1 r3 = y at *
  obtain ⟨n, r4⟩ := y
  dsimp only at *
  have s5 := uK_size 3 r4
  have b5 := uK3_b r4
  have i5 := i4.uK 3
  have c5 := rNum3 g r4 (by omega)
  generalize uK 3 r4 = y at *
  obtain ⟨x, r5⟩ := y
  dsimp only at *
  have x18 := and64_18 b5
  obtain ⟨N, hN⟩ : ∃ N : Nat, x / 262144 = (N : Int) := ⟨(x / 262144).toNat, by omega⟩
  have hN2 : (x / 262144).toNat = N := by omega
  have hf : x.fdiv (2 ^ (min (18 : Int).toNat IntKind.u64.bits)) = (N : Int) := by
    rw [← hN]; show x.fdiv 262144 = _
    exact Int.fdiv_eq_ediv_of_nonneg _ (by omega)
  rw [hN2]
  have hm : 0 ≤ x % 262144 ∧ x % 262144 ≤ 262143 := by omega
  generalize x % 262144 = m at *
  have s6 := reB_size (shlM N m).2 r5
  have i6 := reB_ri (shlM N m).2 i5
  have hsb := shlM_b N m (by omega)
  have c6 := kAll g (reB (shlM N m).2 r5) i6 (by omega)
  rw [show tilM (uK 4) (reB (shlM N m).2 r5).1.size (reB (shlM N m).2 r5) = tilA (uK 4) (reB (shlM N m).2 r5) from rfl]
  refine fn_intro Try.func53 rfl Try.ntmps53 rfl (fun E => ?_)
  (repeat (first | ((first | (apply wo_v; rfl) ); (· first | (apply pv_ev; rfl) )) | apply wo_nil | apply wc_seq | apply wc_region ))
  (refine wo_call (c1) rfl (by (repeat (first | apply sub_nil )); done) (by first | exact fun _ h => h | (intro r hr; cases hr; done) | (simp; done) | exact fun _ h => List.mem_append_left _ h | (intro r hr; simp [hr]; done)) rfl ?_; rintro v L' R' ⟨rfl, rfl, rfl⟩ H' hH RR hR; simp only [List.cons_append, List.nil_append] at hH hR; subst hH; have hR := hR.symm; subst hR)
  (repeat (first | ((first | (apply wo_v; rfl) ); (· first | (apply pv_ev; rfl) | (apply g_build; apply pv_build; (· (repeat (first | apply Bld.nil | (apply Bld.one; rfl; rfl; (· (repeat (first | apply SetAt.here )))) )))) )) | apply wo_nil | apply wc_seq | apply wc_region | (apply wo_alloc; rfl; intro bx) | (apply wo_sta; rfl; rfl; rfl; rfl; (· (repeat (first | apply sel_here ))); (· (repeat (first | apply LayAt.nil | apply LayAt.here ))); rfl) ))
  obtain ⟨bp, hbp⟩ : ∃ g, g = bx := ⟨_, rfl⟩
  subst hbp
  (refine wo_call (c2) rfl (by (repeat (first | apply sub_nil | (apply sub_cons; (· (repeat (first | apply sel_here | apply sel_there)))))); done) (by first | exact fun _ h => h | (intro r hr; cases hr; done) | (simp; done) | exact fun _ h => List.mem_append_left _ h | (intro r hr; simp [hr]; done)) rfl ?_; rintro v L' R' ⟨rfl, rfl, rfl⟩ H' hH RR hR; simp only [List.cons_append, List.nil_append] at hH hR; subst hH; have hR := hR.symm; subst hR)
  (repeat (first | ((first | (apply wo_v; rfl) ); (· first | (apply pv_ev; rfl) )) | apply wo_nil | apply wc_seq | apply wc_region ))
  (refine wo_call (c3) rfl (by (repeat (first | apply sub_nil )); done) (by first | exact fun _ h => h | (intro r hr; cases hr; done) | (simp; done) | exact fun _ h => List.mem_append_left _ h | (intro r hr; simp [hr]; done)) rfl ?_; rintro v L' R' ⟨rfl, rfl, rfl⟩ H' hH RR hR; simp only [List.cons_append, List.nil_append] at hH hR; subst hH; have hR := hR.symm; subst hR)
  (repeat (first | ((first | (apply wo_v; rfl) ); (· first | (apply pv_ev; rfl) | (apply g_bin; first | (apply pv_neq_s; rfl; rfl) ) )) | apply wo_nil | (apply wc_true; rfl) | (apply wc_false; rfl) | (apply a_dec_t; rfl; (· first | assumption | omega)) | (apply a_dec_f; rfl; (· first | assumption | omega)) | (apply a_dec_t; rfl; (· first | (simp; done) | (simp; omega))) | (apply a_dec_f; rfl; (· first | (simp; done) | (simp; omega))) ))
  refine wc_join0 (fun st => st = ⟨[(0, .pointer (some ⟨g, 0, none⟩)), (3, .pointer (some ⟨bp, 0, none⟩))], [rdO g r3.1 r3.2, rmbI bp f0 0 (.slice none 0 0)], []⟩) ?_ ?_
  · by_cases ht : tg = rembS
    · rw [if_pos ht] at e3
      subst e3
      (repeat (first | apply wc_skip | (apply wc_true; rfl) | (apply wc_false; rfl) | (apply a_dec_t; rfl; (· first | assumption | omega)) | (apply a_dec_f; rfl; (· first | assumption | omega)) | (apply a_dec_t; rfl; (· first | (simp; done) | (simp; omega))) | (apply a_dec_f; rfl; (· first | (simp; done) | (simp; omega))) ))
      exact cut_end rfl (wk_mk (by (repeat (first | apply wkf_nil | (apply wkf_cons; rfl))); done) (by (repeat (first | apply sub_nil )); done) (by first | exact fun _ h => h | (intro r hr; cases hr; done) | (simp; done) | exact fun _ h => List.mem_append_left _ h | (intro r hr; simp [hr]; done)))
    · rw [if_neg ht] at e3
      subst e3
      (repeat (first | ((first | (apply wo_v; rfl) ); (· first | (apply pv_ev; rfl) )) | apply wc_region | (apply wc_true; rfl) | (apply wc_false; rfl) | (apply a_dec_t; rfl; (· first | assumption | omega)) ))
      (refine wo_call (octFail g rt.1 rt.2 2) rfl (by (repeat (first | apply sub_nil )); done) (by first | exact fun _ h => h | (intro r hr; cases hr; done) | (simp; done) | exact fun _ h => List.mem_append_left _ h | (intro r hr; simp [hr]; done)) rfl ?_; rintro v L' R' ⟨rfl, rfl, rfl⟩ H' hH RR hR; simp only [List.cons_append, List.nil_append] at hH hR; subst hH; have hR := hR.symm; subst hR)
      (repeat (first | apply wo_nil ))
      exact cut_end rfl (wk_mk (by (repeat (first | apply wkf_nil | (apply wkf_cons; rfl))); done) (by (repeat (first | apply sub_nil )); done) (by first | exact fun _ h => h | (intro r hr; cases hr; done) | (simp; done) | exact fun _ h => List.mem_append_left _ h | (intro r hr; simp [hr]; done)))
  rintro st rfl
  clear c1 c2 c3 e3
  (repeat (first | ((first | (apply wo_v; rfl) ); (· first | (apply pv_ev; rfl) )) | apply wc_seq | apply wc_region ))
  (refine wo_call (c4) rfl (by (repeat (first | apply sub_nil )); done) (by first | exact fun _ h => h | (intro r hr; cases hr; done) | (simp; done) | exact fun _ h => List.mem_append_left _ h | (intro r hr; simp [hr]; done)) rfl ?_; rintro v L' R' ⟨rfl, rfl, rfl⟩ H' hH RR hR; simp only [List.cons_append, List.nil_append] at hH hR; subst hH; have hR := hR.symm; subst hR)
  (repeat (first | ((first | (apply wo_v; rfl) ); (· first | (apply pv_ev; rfl) | (apply g_conv; first | (apply a_conv; rfl; infer_instance; infer_instance; infer_instance; omega) ) )) | apply wo_nil | apply wc_seq | apply wc_region ))
  (refine wo_call (c5) rfl (by (repeat (first | apply sub_nil )); done) (by first | exact fun _ h => h | (intro r hr; cases hr; done) | (simp; done) | exact fun _ h => List.mem_append_left _ h | (intro r hr; simp [hr]; done)) rfl ?_; rintro v L' R' ⟨rfl, rfl, rfl⟩ H' hH RR hR; simp only [List.cons_append, List.nil_append] at hH hR; subst hH; have hR := hR.symm; subst hR)
  (repeat (first | ((first | (apply wo_v; rfl) ); (· first | (apply pv_ev; rfl) | (apply pv_fld; rfl) | (apply g_bin; first | (apply pv_and; rfl; rfl) | (apply a_shr; rfl; rfl; rfl; omega; rfl) ) )) | apply wo_nil | apply wc_seq | apply wc_region | (apply wo_st; rfl; rfl; rfl; (· (repeat (first | apply sel_here | apply sel_there))); (· (repeat (first | apply SetAt.here | apply SetAt.there))); rfl) ))
  rw [x18, hN]
  refine wc_join0 (fun st => st = ⟨[(0, .pointer (some ⟨g, 0, none⟩)), (3, .pointer (some ⟨bp, 0, none⟩)), (4, .int .i64 n)], [rdO g (reB (shlM N m).2 r5).1 (reB (shlM N m).2 r5).2, rmbI bp f0 (shlM N m).1 (.slice none 0 0)], []⟩) ?_ ?_
  · refine wc_block ?_
    refine wc_loop' (fun q st => ∃ (i : Nat) (u : Int), q = N - i ∧ i ≤ N ∧ (0 ≤ u ∧ u ≤ 18446744073709551615) ∧ shlM (N - i) u = shlM N m ∧ st = ⟨[(0, .pointer (some ⟨g, 0, none⟩)), (3, .pointer (some ⟨bp, 0, none⟩)), (4, .int .i64 n), (25, .int .u64 N), (26, .int .u64 i)], [rdO g r5.1 r5.2, rmbI bp f0 u (.slice none 0 0)], []⟩) ⟨0, m, rfl, Nat.zero_le _, by omega, rfl, rfl⟩ (wk_mk (by (repeat (first | apply wkf_nil | (apply wkf_cons; rfl))); done) (by (repeat (first | apply sub_nil | (apply sub_cons; (· (repeat (first | apply sel_here | apply sel_there)))))); done) (by first | exact fun _ h => h | (intro r hr; cases hr; done) | (simp; done) | exact fun _ h => List.mem_append_left _ h | (intro r hr; simp [hr]; done))) ?_
    rintro q st ⟨i, u, rfl, hi, hu, hsh, rfl⟩
    by_cases h0 : i < N
    · obtain ⟨k, hk⟩ : ∃ k, N - i = k + 1 := ⟨N - i - 1, by omega⟩
      have hk2 : N - (i + 1) = k := by omega
      rw [hk, shlM] at hsh
      by_cases hbig : 9223372036854775808 ≤ u
      · rw [if_pos hbig] at hsh
        rw [← hsh]
        (repeat (first | ((first | (apply wo_v; rfl) ); (· first | (apply pv_ev; rfl) )) | apply wo_nil | apply wc_seq | apply wc_region | apply wc_skip | (apply wc_true; rfl) | (apply wc_false; rfl) | (apply a_dec_t; rfl; (· first | assumption | omega)) ))
        refine wc_block ?_
        (repeat (first | ((first | (apply wo_v; rfl) ); (· first | (apply pv_ev; rfl) | (apply pv_fld; rfl) | (apply g_load; first | (apply pv_ld; rfl; (· (repeat (first | apply sel_here | apply sel_there))); rfl) ) )) | apply wo_nil | apply wc_seq | apply wc_region | (apply wc_true; rfl) | (apply wc_false; rfl) | (apply a_dec_t; rfl; (· first | assumption | omega)) ))
        (refine wo_call (octFail g r5.1 r5.2 4) rfl (by (repeat (first | apply sub_nil )); done) (by first | exact fun _ h => h | (intro r hr; cases hr; done) | (simp; done) | exact fun _ h => List.mem_append_left _ h | (intro r hr; simp [hr]; done)) rfl ?_; rintro v L' R' ⟨rfl, rfl, rfl⟩ H' hH RR hR; simp only [List.cons_append, List.nil_append] at hH hR; subst hH; have hR := hR.symm; subst hR)
        (repeat (first | apply wo_nil | (apply wc_exit; rfl) ))
        exact cut_end rfl (wk_mk (by (repeat (first | apply wkf_nil | (apply wkf_cons; rfl))); done) (by (repeat (first | apply sub_nil )); done) (by first | exact fun _ h => h | (intro r hr; cases hr; done) | (simp; done) | exact fun _ h => List.mem_append_left _ h | (intro r hr; simp [hr]; done)))
      · rw [if_neg hbig, ← hk2] at hsh
        (repeat (first | ((first | (apply wo_v; rfl) ); (· first | (apply pv_ev; rfl) )) | apply wo_nil | apply wc_seq | apply wc_region | apply wc_skip | (apply wc_true; rfl) | (apply wc_false; rfl) | (apply a_dec_t; rfl; (· first | assumption | omega)) ))
        refine wc_block ?_
        (repeat (first | ((first | (apply wo_v; rfl) ); (· first | (apply pv_ev; rfl) | (apply pv_fld; rfl) | (apply g_load; first | (apply pv_ld; rfl; (· (repeat (first | apply sel_here | apply sel_there))); rfl) ) | (apply g_bin; first | (apply a_add; rfl; rfl; infer_instance; omega) | (apply a_shl; rfl; rfl; rfl; omega; rfl; infer_instance; omega) ) )) | apply wo_nil | apply wc_seq | apply wc_region | apply wc_skip | (apply wc_true; rfl) | (apply wc_false; rfl) | (apply a_dec_t; rfl; (· first | assumption | omega)) | (apply a_dec_f; rfl; (· first | assumption | omega)) | (apply wo_st; rfl; rfl; rfl; (· (repeat (first | apply sel_here | apply sel_there))); (· (repeat (first | apply SetAt.here | apply SetAt.there))); rfl) ))
        exact loop_end ⟨i + 1, 2 * u, rfl, by omega, by omega, hsh, by rw [Int.mul_comm]⟩ (by omega) (wk_mk (by (repeat (first | apply wkf_nil | (apply wkf_cons; rfl))); done) (by (repeat (first | apply sub_nil | (apply sub_cons; (· (repeat (first | apply sel_here | apply sel_there)))))); done) (by first | exact fun _ h => h | (intro r hr; cases hr; done) | (simp; done) | exact fun _ h => List.mem_append_left _ h | (intro r hr; simp [hr]; done)))
    · have e : i = N := by omega
      subst e
      rw [Nat.sub_self] at hsh
      have hsh : (u, false) = shlM i m := hsh
      rw [← hsh]
      (repeat (first | ((first | (apply wo_v; rfl) ); (· first | (apply pv_ev; rfl) )) | apply wo_nil | apply wc_seq | apply wc_region | (apply wc_exit; rfl) | (apply wc_true; rfl) | (apply wc_false; rfl) | (apply a_dec_t; rfl; (· first | assumption | omega)) | (apply a_dec_f; rfl; (· first | assumption | omega)) ))
      exact cut_end rfl (wk_mk (by (repeat (first | apply wkf_nil | (apply wkf_cons; rfl))); done) (by (repeat (first | apply sub_nil )); done) (by first | exact fun _ h => h | (intro r hr; cases hr; done) | (simp; done) | exact fun _ h => List.mem_append_left _ h | (intro r hr; simp [hr]; done)))
  rintro st rfl
  generalize shlM N m = y at *
  obtain ⟨rate, big⟩ := y
  dsimp only at *
  have s7 := tilM_size (f := uK 4) uK4_size (reB big r5).1.size (reB big r5)
  rw [show tilM (uK 4) (reB big r5).1.size (reB big r5) = tilA (uK 4) (reB big r5) from rfl] at s7
  generalize tilA (uK 4) (reB big r5) = y at *
  obtain ⟨l, r7⟩ := y
  dsimp only at *
  unfold reC
  (repeat (first | ((first | (apply wo_v; rfl) ); (· first | (apply pv_ev; rfl) )) | apply wc_seq | apply wc_region ))
  (refine wo_call (c6) rfl (by (repeat (first | apply sub_nil )); done) (by first | exact fun _ h => h | (intro r hr; cases hr; done) | (simp; done) | exact fun _ h => List.mem_append_left _ h | (intro r hr; simp [hr]; done)) rfl ?_; rintro v L' R' ⟨ao, c, rfl, rfl, rfl⟩ H' hH RR hR; simp only [List.cons_append, List.nil_append] at hH hR; subst hH; have hR := hR.symm; subst hR)
  (repeat (first | ((first | (apply wo_v; rfl) ); (· first | (apply pv_ev; rfl) | (apply pv_fld; rfl) | (apply g_load; first | (apply pv_ld; rfl; (· (repeat (first | apply sel_here ))); rfl) ) | (apply g_bi; first | (apply pv_len_sl; rfl) ) )) | apply wo_nil | apply wc_seq | apply wc_region | (apply wc_true; rfl) | (apply wc_false; rfl) | (apply a_dec_t; rfl; (· first | assumption | omega)) | (apply a_dec_f; rfl; (· first | assumption | omega)) | (apply a_dec_t; rfl; (· first | (simp; done) | (simp; omega))) | (apply a_dec_f; rfl; (· first | (simp; done) | (simp; omega))) | (apply wo_st; rfl; rfl; rfl; (· (repeat (first | apply sel_here | apply sel_there))); (· (repeat (first | apply SetAt.here | apply SetAt.there))); rfl) ))
  refine wc_still (ao := ao) (n := l.length) (c := c) (by (repeat (first | apply sel_here | apply sel_there)); done) (fun R1 hS1 => ?_)
  by_cases hn : (l.length : Int) = n
  · rw [if_pos hn]
    (repeat (first | ((first | (apply wo_v; rfl) ); (· first | (apply pv_ev; rfl) | (apply g_load; first | (apply pv_lda; rfl; (· (repeat (first | apply sel_here ))); (· (repeat (first | apply Cut.here0 | apply Cut.here )))) ) | (apply pv_mki; rfl; infer_instance) )) | apply wo_nil | apply wc_seq | apply wc_region | apply wc_skip | apply wc_ret | (apply wc_true; rfl) | (apply wc_false; rfl) | (apply a_dec_t; rfl; (· first | assumption | omega)) | (apply a_dec_f; rfl; (· first | assumption | omega)) ))
    exact ret1 rfl rfl ⟨⟨ao, _, c, rfl, hS1.sq⟩, rfl⟩ (by (repeat (first | apply sub_nil | (apply sub_cons; (· (repeat (first | apply sel_here | apply sel_there)))))); done) (by first | exact fun _ h => h | (intro r hr; cases hr; done) | (simp; done) | exact fun _ h => List.mem_append_left _ h | (intro r hr; simp [hr]; done))
  · rw [if_neg hn]
    (repeat (first | ((first | (apply wo_v; rfl) ); (· first | (apply pv_ev; rfl) )) | apply wc_region | (apply wc_true; rfl) | (apply wc_false; rfl) | (apply a_dec_t; rfl; (· first | assumption | omega)) ))
    (refine wo_call (octFail g r7.1 r7.2 2) rfl (by (repeat (first | apply sub_nil | (apply sub_cons; (· (repeat (first | apply sel_here | apply sel_there)))))); done) (by first | exact fun _ h => h | (intro r hr; cases hr; done) | (simp; done) | exact fun _ h => List.mem_append_left _ h | (intro r hr; simp [hr]; done)) rfl ?_; rintro v L' R' ⟨rfl, rfl, rfl⟩ H' hH RR hR; simp only [List.cons_append, List.nil_append] at hH hR; subst hH; have hR := hR.symm; subst hR)
    (repeat (first | ((first | (apply wo_v; rfl) ); (· first | (apply pv_ev; rfl) | (apply g_load; first | (apply pv_lda; rfl; (· (repeat (first | apply sel_here | apply sel_there))); (· (repeat (first | apply Cut.here0 | apply Cut.here )))) ) | (apply pv_mki; rfl; infer_instance) )) | apply wo_nil | apply wc_seq | apply wc_region | apply wc_ret ))
    exact ret1 rfl rfl ⟨⟨ao, _, c, rfl, hS1.sq⟩, rfl⟩ (by (repeat (first | apply sub_nil )); done) (by first | exact fun _ h => h | (intro r hr; cases hr; done) | (simp; done) | exact fun _ h => List.mem_append_left _ h | (intro r hr; simp [hr]; done))
end Go.Proofs.Yteaccbbmphcmnaa
