/-
  Package rtp: a packet's bytes.
-/
import Derived.Test.YtlhlidmhlhodiaaRtpF
namespace Go.Proofs.Ytlhlidmhlhodiaa
set_option linter.unusedSimpArgs false
set_option linter.unusedVariables false
set_option linter.unusedSimpArgs false
set_option linter.unusedVariables false
open Go.RowKit
attribute [local irreducible] Pv WO WC Fn
set_option maxRecDepth 100000
attribute [local irreducible] ByteArray.extract

set_option maxHeartbeats 4000000 in
theorem wU32R (g c : Nat) (p ao : Option Addr) (s : ByteArray) (xs : List Int) (A : Option Addr) (n c2 : Nat) (R : List Ro) (hS : SQ R 1 A n c2 (crs xs)) (hx : ∀ x ∈ xs, 0 ≤ x ∧ x ≤ 4294967295) (hl : xs.length ≤ 1000000) (hw : WOk g p ao c s) (hz : s.size ≤ 1098000000000) :
    Fn Try.prog 72 #[.pointer (some ⟨g, 0, none⟩), .slice A n c2] (wrH g p ao c s) R
    (fun v L' R' => ∃ p' ao' c', v = .pointer (some ⟨g, 0, none⟩) ∧ L' = wrH g p' ao' c' (s ++ numsS 4 xs) ∧ R' = [] ∧ WOk g p' ao' c' (s ++ numsS 4 xs)) := by
  have hn : n = xs.length := by rw [← hS.len]; simp
  subst hn
  refine fn_intro Try.func72 rfl Try.ntmps72 rfl (fun E => ?_)
  (repeat (first | ((first | (apply wo_v; rfl) ); (· first | (apply pv_ev; rfl) | (apply g_bi; first | (apply pv_len_sl; rfl) ) )) | apply wo_nil | apply wc_seq | apply wc_region | apply wc_block ))
  refine wc_loop' (fun m st => ∃ (j : Nat) (p' ao' : Option Addr) (c' : Nat), m = xs.length - j ∧ st = ⟨[(0, .pointer (some ⟨g, 0, none⟩)), (7, .slice A xs.length c2), (8, .int .i64 xs.length), (9, .int .i64 j)], wrH g p' ao' c' (s ++ numsS 4 (xs.take j)), R⟩ ∧ j ≤ xs.length ∧ WOk g p' ao' c' (s ++ numsS 4 (xs.take j)))
    ⟨0, p, ao, c, rfl, by rw [List.take_zero, show numsS 4 [] = E0 from rfl, append_E0], Nat.zero_le _, by rw [List.take_zero, show numsS 4 [] = E0 from rfl, append_E0]; exact hw⟩ (wk_mk (by (repeat (first | apply wkf_nil | (apply wkf_cons; rfl))); done) (by (repeat (first | apply sub_nil )); done) (by first | exact fun _ h => h | (intro r hr; cases hr; done) | (simp; done) | exact fun _ h => List.mem_append_left _ h | (intro r hr; simp [hr]; done))) ?_
  clear hw p ao c
  rintro m st ⟨j, p, ao, c, rfl, rfl, hj, hw⟩
  by_cases hlt : j < xs.length
  · obtain ⟨x, he⟩ : ∃ x, xs[j]? = some x := ⟨_, List.getElem?_eq_getElem hlt⟩
    have hr : (crs xs)[j]? = some [.int .u32 x] := crs_at he
    have hxb := hx x (List.mem_of_getElem? he)
    have hS' : (s ++ numsS 4 (xs.take j)).size ≤ 1099000000000 := by
      rw [ByteArray.size_append, numsS_size, List.length_take]; omega
    have hnext := numsS_take (k := 4) he
    obtain ⟨S0, hS0⟩ : ∃ S0, s ++ numsS 4 (xs.take j) = S0 := ⟨_, rfl⟩
    have hnx : s ++ numsS 4 (xs.take (j + 1)) = S0 ++ numsS 4 [x] := by rw [hnext, ← ByteArray.append_assoc, hS0]; show S0 ++ numS 4 x = S0 ++ (numS 4 x ++ E0); rw [append_E0]
    rw [hS0] at hw hS' ⊢
    clear hnext hS0
    have hN := fun bl c2 => wNum g c bl c2 p ao S0 4 4 [x] rfl (by intro y hy; rcases List.mem_singleton.1 hy with rfl; omega) (by simp) hw hS'
    rw [← hnx] at hN
    obtain ⟨b1, o1, rfl, hmem⟩ := hS.pos (by omega)
    (repeat (first | ((first | (apply wo_v; rfl) ); (· first | (apply pv_ev; rfl) | (apply g_load; first | (apply pv_ld; rfl; (· (repeat (first | apply sel_there))); rfl) | (apply pv_ld_ownf; rfl; (· (repeat (first | fail ))); (· assumption); rfl) | (apply pv_ld_own1; rfl; (· (repeat (first | apply sel_there))); (· assumption)) | (apply pv_ld_rof; rfl; (· (first | assumption )); (· assumption); rfl) | (apply pv_ld_ro1; rfl; (· (first | assumption )); (· assumption)) ) | (apply g_conv; first | (apply a_conv; rfl; infer_instance; infer_instance; infer_instance; omega) ) | (apply g_idx; first | (apply pv_idx; rfl; rfl; omega) ) )) | apply wo_nil | apply wc_seq | apply wc_region | apply wc_block | apply wc_skip | (apply wc_true; rfl) | (apply wc_false; rfl) | (apply a_dec_t; rfl; (· first | assumption | omega)) | (apply wo_bsl; (· (repeat (first | apply Rws'.nil | (apply Rws'.one; rfl; rfl; rfl) ))); rfl; rfl; rfl; rfl; intro bx) ))
    (refine wo_call (hN _ _) rfl (by (repeat (first | apply sub_nil | (apply sub_cons; (· (repeat (first | apply sel_here | apply sel_there)))))); done) (by first | exact fun _ h => h | (intro r hr; cases hr; done) | (simp; done) | exact fun _ h => List.mem_append_left _ h | (intro r hr; simp [hr]; done)) rfl ?_; rintro v L' R' ⟨p', ao', c', rfl, rfl, rfl, hw'⟩ H' hH RR hR; simp only [List.cons_append, List.nil_append] at hH hR; subst hH; have hR := hR.symm; subst hR)
    (repeat (first | ((first | (apply wo_v; rfl) ); (· first | (apply pv_ev; rfl) | (apply g_bin; first | (apply a_add; rfl; rfl; infer_instance; omega) ) )) | apply wo_nil | apply wc_region ))
    exact loop_end ⟨j + 1, p', ao', c', rfl, rfl, by omega, hw'⟩ (by omega) (wk_mk (by (repeat (first | apply wkf_nil | (apply wkf_cons; rfl))); done) (by (repeat (first | apply sub_nil )); done) (by first | exact fun _ h => h | (intro r hr; cases hr; done) | (simp; done) | exact fun _ h => List.mem_append_left _ h | (intro r hr; simp [hr]; done)))
  · obtain rfl : j = xs.length := by omega
    rw [List.take_length] at hw ⊢
    (repeat (first | ((first | (apply wo_v; rfl) ); (· first | (apply pv_ev; rfl) )) | apply wo_nil | apply wc_seq | apply wc_region | (apply wc_exit; rfl) | apply wc_ret | (apply wc_true; rfl) | (apply wc_false; rfl) | (apply a_dec_t; rfl; (· first | assumption | omega)) | (apply a_dec_f; rfl; (· first | assumption | omega)) ))
    exact retv rfl (by (repeat (first | apply RV.nil | (apply RV.tmp; rfl) )); done) ⟨p, ao, c, rfl, rfl, rfl, hw⟩ (by (repeat (first | apply sub_nil )); done) (by first | exact fun _ h => h | (intro r hr; cases hr; done) | (simp; done) | exact fun _ h => List.mem_append_left _ h | (intro r hr; simp [hr]; done))
theorem numS1 {x : Int} (h : 0 ≤ x ∧ x ≤ 255) : numS 1 x = b1 x := by
  show E0 ++ b1 (x % 256) = b1 x
  rw [E0_append, Int.emod_eq_of_lt h.1 (by omega)]
theorem brows_two {x y : Int} (hx : 0 ≤ x ∧ x ≤ 255) (hy : 0 ≤ y ∧ y ≤ 255) : brows (b1 x ++ b1 y) = [[.int .u8 x], [.int .u8 y]] := by
  have e1 := b1_rows hx
  have e2 := b1_rows hy
  have : brows (b1 x ++ b1 y) = brows (b1 x) ++ brows (b1 y) := by simp [brows]
  rw [this, e1, e2]; rfl
theorem csT_take (cs : List Int) : ∀ i, i ≤ cs.length → csT cs i = numsS 4 (cs.take i)
  | 0, _ => rfl
  | i + 1, h => by
    have he := List.getElem?_eq_getElem (show i < cs.length by omega)
    rw [csT, he]
    simp only
    rw [numsS_take he, csT_take cs i (by omega)]
def pdB (pd : Int) : Nat → ByteArray
  | 0 => E0
  | i + 1 => pdB pd i ++ b1 (if (i : Int) = pd - 1 then pd else 0)
theorem pdB_size (pd : Int) : ∀ i, (pdB pd i).size = i
  | 0 => rfl
  | i + 1 => by rw [pdB, ByteArray.size_append, pdB_size pd i, b1_size]
theorem pdB_zr (pd : Int) : ∀ i : Nat, (i : Int) ≤ pd - 1 → pdB pd i = zrT i
  | 0, _ => rfl
  | i + 1, h => by
    rw [pdB, pdB_zr pd i (by omega), if_neg (by omega), zrT]; rfl
theorem pdB_end (pd : Int) (h0 : 0 ≤ pd ∧ pd ≤ 255) : pdB pd pd.toNat = (if 0 < pd then zrT (pd.toNat - 1) ++ numS 1 pd else E0) := by
  by_cases h : 0 < pd
  · rw [if_pos h]
    obtain ⟨i, hi⟩ : ∃ i, pd.toNat = i + 1 := ⟨pd.toNat - 1, by omega⟩
    rw [hi, pdB, pdB_zr pd i (by omega), if_pos (by omega), numS1 h0]; rfl
  · rw [if_neg h, show pd.toNat = 0 by omega]; rfl
abbrev wrQ1 (g : Nat) (t : ByteArray) (v : Value) (Ms : List (List It)) : Prop := ∃ (p ao : Option Addr) (c : Nat), v = .pointer (some ⟨g, 0, none⟩) ∧ Ms = [wrH g p ao c t] ∧ WOk g p ao c t
abbrev wrQ0 (g : Nat) (t : ByteArray) (v : Value) (Ms : List (List It)) : Prop := ∃ (p ao : Option Addr) (c : Nat), v = .pointer (some ⟨g, 0, none⟩) ∧ Ms = [wrH g p ao c t, []] ∧ WOk g p ao c t
abbrev newS (T : TypeId) (xs : List (List Value)) (v : Value) (Ms : List (List It)) : Prop := ∃ b, v = .slice (some ⟨b, 0, none⟩) xs.length xs.length ∧ Ms = [[.own T 1 (some ⟨b, 0, none⟩) xs.length xs.length xs]]
def tblA (g : Nat) (T1 : ByteArray) (A B x1 x2 x3 : Int) : Nat → List (List It) → Value → List (List It) → Prop := fun k Ls v Ms => match k with
  | 3 => v = .int .u8 x1 ∧ Ms = [[]]
  | 7 => v = .int .u8 x2 ∧ Ms = [[]]
  | 16 => v = .int .u8 x3 ∧ Ms = [[]]
  | 20 => newS 5 [[.int .u8 A], [.int .u8 B]] v Ms
  | _ => wrQ0 g T1 v Ms
def tblB (g : Nat) (sq t ss : Int) (T2 T3 T4 : ByteArray) : Nat → List (List It) → Value → List (List It) → Prop := fun k Ls v Ms => match k with
  | 2 => newS 24 [[.int .u16 sq]] v Ms
  | 3 => wrQ0 g T2 v Ms
  | 8 => newS 30 [[.int .u32 t], [.int .u32 ss]] v Ms
  | 9 => wrQ0 g T3 v Ms
  | _ => wrQ1 g T4 v Ms
def tblC5 (g : Nat) (pf ln : Int) (dt : ByteArray) (T5 T6 : ByteArray) : Nat → List (List It) → Value → List (List It) → Prop := fun k Ls v Ms => match k with
  | 7 => newS 24 [[.int .u16 pf], [.int .u16 ln]] v Ms
  | 8 => wrQ0 g T5 v Ms
  | 11 => newS 9 [[.string dt]] v Ms
  | _ => wrQ0 g T6 v Ms
set_option maxHeartbeats 64000000 in
theorem gText (mrk : Bool) (kd sq t ss : Int) (cs : List Int) (ex : Bool) (pf : Int) (dt pl : ByteArray) (pd : Int) (ao : Option Addr) (n c : Nat) (R : List Ro) (hS : SQ R 1 ao n c (crs cs)) (hn : cs.length ≤ 15) (hdt : dt.size ≤ 100000) (hpl : pl.size ≤ 100000) (hpd : 0 ≤ pd ∧ pd ≤ 255)
    (h1 : 0 ≤ kd ∧ kd ≤ 127) (h2 : 0 ≤ sq ∧ sq ≤ 65535) (h3 : 0 ≤ t ∧ t ≤ 4294967295) (h4 : 0 ≤ ss ∧ ss ≤ 4294967295) (h5 : 0 ≤ pf ∧ pf ≤ 65535) (h6 : ∀ z ∈ cs, 0 ≤ z ∧ z ≤ 4294967295) :
    Fn Try.prog 16 #[.agg (rpR mrk kd sq t ss (.slice ao n c) ex pf dt pl pd).toArray] [] R (fun v L' R' => v = .string (txR mrk kd sq t ss cs ex pf dt pl pd) ∧ L' = [] ∧ R' = []) := by
  have hnn : n = cs.length := by rw [← hS.len]; simp
  subst hnn
  obtain ⟨x1, hx1⟩ : ∃ x, bi (decide (0 < pd)) 32 = x := ⟨_, rfl⟩
  obtain ⟨x2, hx2⟩ : ∃ x, bi ex 16 = x := ⟨_, rfl⟩
  obtain ⟨x3, hx3⟩ : ∃ x, bi mrk 128 = x := ⟨_, rfl⟩
  have o1 := bi_or (decide (0 < pd)) 32
  have o2 := bi_or ex 16
  have o3 := bi_or mrk 128
  rw [hx1] at o1
  rw [hx2] at o2
  rw [hx3] at o3
  have q1 := gFlag (decide (0 < pd)) 32 x1 hx1
  have q2 := gFlag ex 16 x2 hx2
  have q3 := gFlag mrk 128 x3 hx3
  have hA : 0 ≤ 128 + x1 + x2 + cs.length ∧ 128 + x1 + x2 + cs.length ≤ 255 := by omega
  have hB : 0 ≤ x3 + kd ∧ x3 + kd ≤ 255 := by omega
  unfold txR hdT
  rw [hx1, hx2, hx3, numS1 hA, numS1 hB, csT_take cs cs.length (Nat.le_refl _), List.take_length, ← pdB_end pd hpd]
  obtain ⟨A, hAe⟩ : ∃ A, 128 + x1 + x2 + (cs.length : Int) = A := ⟨_, rfl⟩
  obtain ⟨B, hBe⟩ : ∃ B, x3 + kd = B := ⟨_, rfl⟩
  rw [hAe] at hA ⊢
  rw [hBe] at hB ⊢
  have hW1 := fun g bl => wU8 g 0 bl 2 none none E0 (b1 A ++ b1 B) ⟨.inl rfl, .inl ⟨rfl, rfl, rfl⟩⟩ (by rw [ByteArray.size_append, b1_size]; omega) (by rw [ByteArray.size_append, b1_size, b1_size]; decide)
  simp only [E0_append] at hW1
  rw [show byO = fun bl c z => It.own 5 1 (some ⟨bl, 0, none⟩) z.size c (brows z) from rfl] at hW1
  have zAB : (b1 A ++ b1 B).size = 2 := by rw [ByteArray.size_append, b1_size, b1_size]
  simp only [brows_two hA hB, zAB] at hW1
  refine fn_intro Try.func16 rfl Try.ntmps16 rfl (fun E => ?_)
  (repeat (first | ((first | (apply wo_v; rfl) ); (· first | (apply pv_ev; rfl) )) | apply wo_nil | apply wc_seq | apply wc_region | (apply wo_box1; rfl; rfl; rfl; intro bx) | (apply wo_boxa; rfl; rfl; intro bx) | (apply wo_alloc; rfl; intro bx) ))
  obtain ⟨g, hg⟩ : ∃ g, g = bx := ⟨_, rfl⟩
  subst hg
  obtain ⟨bp, hbp⟩ : ∃ b, b = bx := ⟨_, rfl⟩
  subst hbp
  refine wc_own0 5 1 ?_
  have hW1 := hW1 g
  generalize hT1 : b1 A ++ b1 B = T1 at hW1 zAB ⊢
  refine wc_join0 (fun st' => ∃ (p' ao' : Option Addr) (c' : Nat), st' = ⟨[(1, .pointer (some ⟨bp, 0, none⟩)), (3, .pointer (some ⟨g, 0, none⟩))], wrH g p' ao' c' T1 ++ [rpI bp mrk kd sq t ss (.slice ao cs.length c) ex pf dt pl pd], R⟩ ∧ WOk g p' ao' c' T1) ?_ ?_
  · (refine wc_regM [0, 1, 2, 3, 4] (aslL [(3, [2]), (7, [3]), (16, [4]), (20, [1]), (21, [0, 1])]) (tblA g T1 A B x1 x2 x3) ([rpI bp mrk kd sq t ss (.slice ao cs.length c) ex pf dt pl pd]) (fm [(0, wrH g none none 0 E0), (1, []), (2, []), (3, []), (4, [])]) mixed (by kernel_rfl) (by kernel_rfl) (by decide) (aslL_ok (by decide)) (by (repeat (first | (apply prm_cons; (· (repeat (first | apply sel_here | apply sel_there)))) | apply List.Perm.nil )); done) ?_; (repeat (first | (apply HdM.val; rfl; rfl; (· first | apply gok_none ); (· first | (apply pv_ev; rfl) | (apply pv_fld; rfl) | (apply g_load; first | (apply pv_ld; rfl; (· (repeat (first | apply sel_here ))); rfl) ) )) )))
    (refine hm_eff (cs := [2]) rfl (by decide) rfl rfl (by first | exact gok_none | exact gok_run rfl rfl) (fun a ha => outc_mono (outc_call (F1 := _) (T := fun v M => v = .int .u8 x1 ∧ M = []) (q1) rfl (by (repeat (first | apply sub_nil )); done) (by first | exact fun _ h => h | (intro r hr; cases hr; done) | (simp; done) | exact fun _ h => List.mem_append_left _ h | (intro r hr; simp [hr]; done)) (by rintro v L' R' ⟨rfl, rfl, _⟩; exact ⟨_, ⟨rfl, rfl⟩, (by (repeat (first | (apply prm_cons; (· (repeat (first | apply sel_here )))) | apply List.Perm.nil )); done)⟩) a ha) (fun v M h => ⟨[[]], And.intro h.1 rfl, rfl, h.2⟩)) ⟨_, _, And.intro rfl rfl, rfl⟩ ?_; rintro v Ms ⟨rfl, rfl⟩ _; simp only [setls, setl, reduceIte, Nat.reduceEqDiff]; (repeat (first | (apply HdM.val; rfl; rfl; (· first | apply gok_none ); (· first | (apply pv_ev; rfl) | (apply pv_fld; rfl) | (apply g_load; first | (apply pv_ld; rfl; (· (repeat (first | apply sel_here ))); rfl) ) | (apply g_bin; first | (apply (a_or 4); rfl; rfl; infer_instance; rfl; omega) | (apply (a_or 5); rfl; rfl; infer_instance; rfl; omega) | (apply (a_or 6); rfl; rfl; infer_instance; rfl; omega) ) )) )))
    (refine hm_eff (cs := [3]) rfl (by decide) rfl rfl (by first | exact gok_none | exact gok_run rfl rfl) (fun a ha => outc_mono (outc_call (F1 := _) (T := fun v M => v = .int .u8 x2 ∧ M = []) (q2) rfl (by (repeat (first | apply sub_nil )); done) (by first | exact fun _ h => h | (intro r hr; cases hr; done) | (simp; done) | exact fun _ h => List.mem_append_left _ h | (intro r hr; simp [hr]; done)) (by rintro v L' R' ⟨rfl, rfl, _⟩; exact ⟨_, ⟨rfl, rfl⟩, (by (repeat (first | (apply prm_cons; (· (repeat (first | apply sel_here )))) | apply List.Perm.nil )); done)⟩) a ha) (fun v M h => ⟨[[]], And.intro h.1 rfl, rfl, h.2⟩)) ⟨_, _, And.intro rfl rfl, rfl⟩ ?_; rintro v Ms ⟨rfl, rfl⟩ _; simp only [setls, setl, reduceIte, Nat.reduceEqDiff]; (repeat (first | (apply HdM.val; rfl; rfl; (· first | apply gok_none ); (· first | (apply pv_ev; rfl) | (apply pv_fld; rfl) | (apply g_load; first | (apply pv_ld; rfl; (· (repeat (first | apply sel_here ))); rfl) ) | (apply g_bin; first | (apply (a_or 4); rfl; rfl; infer_instance; rfl; omega) | (apply (a_or 5); rfl; rfl; infer_instance; rfl; omega) ) | (apply g_bi; first | (apply pv_len_sl; rfl) ) | (apply g_conv; first | (apply a_conv; rfl; infer_instance; infer_instance; infer_instance; omega) ) )) )))
    (refine hm_eff (cs := [4]) rfl (by decide) rfl rfl (by first | exact gok_none | exact gok_run rfl rfl) (fun a ha => outc_mono (outc_call (F1 := _) (T := fun v M => v = .int .u8 x3 ∧ M = []) (q3) rfl (by (repeat (first | apply sub_nil )); done) (by first | exact fun _ h => h | (intro r hr; cases hr; done) | (simp; done) | exact fun _ h => List.mem_append_left _ h | (intro r hr; simp [hr]; done)) (by rintro v L' R' ⟨rfl, rfl, _⟩; exact ⟨_, ⟨rfl, rfl⟩, (by (repeat (first | (apply prm_cons; (· (repeat (first | apply sel_here )))) | apply List.Perm.nil )); done)⟩) a ha) (fun v M h => ⟨[[]], And.intro h.1 rfl, rfl, h.2⟩)) ⟨_, _, And.intro rfl rfl, rfl⟩ ?_; rintro v Ms ⟨rfl, rfl⟩ _; simp only [setls, setl, reduceIte, Nat.reduceEqDiff]; (repeat (first | (apply HdM.val; rfl; rfl; (· first | apply gok_none ); (· first | (apply pv_ev; rfl) | (apply pv_fld; rfl) | (apply g_load; first | (apply pv_ld; rfl; (· (repeat (first | apply sel_here ))); rfl) ) | (apply g_bin; first | (apply (a_or 4); rfl; rfl; infer_instance; rfl; omega) | (apply (a_or 5); rfl; rfl; infer_instance; rfl; omega) | (apply (a_or 6); rfl; rfl; infer_instance; rfl; omega) | (apply (a_or 7); rfl; rfl; infer_instance; rfl; omega) ) )) )))
    (refine hm_eff (cs := [1]) rfl (by decide) rfl rfl (by first | exact gok_none | exact gok_run rfl rfl) (fun a ha => outc_mono (outc_bsl (by (repeat (first | apply Rws'.nil | (apply Rws'.one; rfl; rfl; rfl) )); done) rfl rfl rfl a ha) (fun v M h => by obtain ⟨b, h1, h2⟩ := h; rw [hAe, hBe] at h2; exact ⟨[M], ⟨b, h1, congrArg (fun x => [x]) h2⟩, rfl, by simp⟩)) (⟨_, _, Exists.intro 0 (And.intro rfl rfl), rfl⟩) ?_; rintro v Ms ⟨b20, rfl, rfl⟩ _; simp only [setls, setl, reduceIte, Nat.reduceEqDiff]; (repeat (first | (apply HdM.val; rfl; rfl; (· first | fail ); (· first | fail )) )))
    (refine hm_eff (cs := [0, 1]) rfl (by decide) rfl rfl (by first | exact gok_none | exact gok_run rfl rfl) (fun a ha => outc_mono (outc_call (F1 := _) (T := fun v M => ∃ (p ao : Option Addr) (c : Nat), v = .pointer (some ⟨g, 0, none⟩) ∧ M = wrH g p ao c T1 ∧ WOk g p ao c T1) (hW1 b20) rfl (by (repeat (first | apply sub_nil )); done) (by first | exact fun _ h => h | (intro r hr; cases hr; done) | (simp; done) | exact fun _ h => List.mem_append_left _ h | (intro r hr; simp [hr]; done)) (by rintro v L' R' ⟨p', ao', c', rfl, rfl, _, hw'⟩; exact ⟨_, ⟨p', ao', c', rfl, rfl, hw'⟩, (by (repeat (first | (apply prm_cons; (· (repeat (first | apply sel_here )))) | apply List.Perm.nil )); done)⟩) a ha) (fun v M h => Exists.elim h fun p h => Exists.elim h fun ao h => Exists.elim h fun c h => ⟨[M, []], Exists.intro p (Exists.intro ao (Exists.intro c (And.intro h.1 (And.intro (congrArg (fun x => [x, []]) h.2.1) h.2.2)))), rfl, by simp⟩)) ((by obtain ⟨p, ao, c, h⟩ := WOk.ex g T1; exact ⟨_, _, Exists.intro p (Exists.intro ao (Exists.intro c (And.intro rfl (And.intro rfl h)))), rfl⟩)) ?_; rintro v Ms ⟨p1, ao1, c1, rfl, rfl, hw1⟩ _; simp only [setls, setl, reduceIte, Nat.reduceEqDiff]; (repeat (first | fail )))
    (refine HdM.nil ?_; intro H hH; simp only [Hp, fm, look, setl, List.flatMap_cons, List.flatMap_nil, reduceIte, Nat.reduceEqDiff, Option.getD_some, List.append_nil, List.cons_append, List.nil_append] at hH; subst hH)
    exact cut_end ⟨p1, ao1, c1, rfl, hw1⟩ (wk_mk (by (repeat (first | apply wkf_nil | (apply wkf_cons; rfl))); done) (by (repeat (first | apply sub_nil | (apply sub_cons; (· (repeat (first | apply sel_here | apply sel_there)))))); done) (by first | exact fun _ h => h | (intro r hr; cases hr; done) | (simp; done) | exact fun _ h => List.mem_append_left _ h | (intro r hr; simp [hr]; done)))
  rintro st' ⟨p1, ao1, c1, rfl, hw1⟩
  clear hW1 q1 q2 q3 hx1 hx2 hx3
  obtain ⟨T2, hT2⟩ : ∃ T2, T1 ++ numsS 2 [sq] = T2 := ⟨_, rfl⟩
  obtain ⟨T3, hT3⟩ : ∃ T3, T2 ++ numsS 4 [t, ss] = T3 := ⟨_, rfl⟩
  obtain ⟨T4, hT4⟩ : ∃ T4, T3 ++ numsS 4 cs = T4 := ⟨_, rfl⟩
  have z2 : T2.size = 4 := by rw [← hT2, ByteArray.size_append, numsS_size, zAB]; rfl
  have z3 : T3.size = 12 := by rw [← hT3, ByteArray.size_append, numsS_size, z2]; rfl
  have z4 : T4.size = 12 + 4 * cs.length := by rw [← hT4, ByteArray.size_append, numsS_size, z3]
  have hW2 := fun bl => wU16 g c1 bl 1 p1 ao1 T1 [sq] (by intro y hy; rcases List.mem_singleton.1 hy with rfl; exact h2) (by simp) hw1 (by omega)
  rw [hT2] at hW2
  have hW3 := fun c2 p2 ao2 hw2 bl => wU32 g c2 bl 2 p2 ao2 T2 [t, ss] (by intro y hy; simp only [List.mem_cons, List.not_mem_nil, or_false] at hy; rcases hy with rfl | rfl; exact h3; exact h4) (by simp) hw2 (by omega)
  rw [hT3] at hW3
  have hW4 := fun c2 p2 ao2 hw2 => wU32R g c2 p2 ao2 T3 cs ao cs.length c R hS h6 (by omega) hw2 (by omega)
  rw [hT4] at hW4
  (repeat (first | apply wc_seq ))
  refine wc_join0 (fun st' => ∃ (p' ao' : Option Addr) (c' : Nat), st' = ⟨[(1, .pointer (some ⟨bp, 0, none⟩)), (3, .pointer (some ⟨g, 0, none⟩))], wrH g p' ao' c' T4 ++ [rpI bp mrk kd sq t ss (.slice ao cs.length c) ex pf dt pl pd], R⟩ ∧ WOk g p' ao' c' T4) ?_ ?_
  · (refine wc_regM [0, 1, 2] (aslL [(2, [1]), (3, [0, 1]), (8, [2]), (9, [0, 2]), (12, [0])]) (tblB g sq t ss T2 T3 T4) ([rpI bp mrk kd sq t ss (.slice ao cs.length c) ex pf dt pl pd]) (fm [(0, wrH g p1 ao1 c1 T1), (1, []), (2, [])]) mixed (by kernel_rfl) (by kernel_rfl) (by decide) (aslL_ok (by decide)) (by (repeat (first | (apply prm_cons; (· (repeat (first | apply sel_here | apply sel_there)))) | apply List.Perm.nil )); done) ?_; (repeat (first | (apply HdM.val; rfl; rfl; (· first | apply gok_none ); (· first | (apply pv_ev; rfl) | (apply pv_fld; rfl) | (apply g_load; first | (apply pv_ld; rfl; (· (repeat (first | apply sel_here ))); rfl) ) )) )))
    (refine hm_eff (cs := [1]) rfl (by decide) rfl rfl (by first | exact gok_none | exact gok_run rfl rfl) (fun a ha => outc_mono (outc_bsl (by (repeat (first | apply Rws'.nil | (apply Rws'.one; rfl; rfl; rfl) )); done) rfl rfl rfl a ha) (fun v M h => by obtain ⟨b, h1, h2⟩ := h; exact ⟨[M], ⟨b, h1, congrArg (fun x => [x]) h2⟩, rfl, by simp⟩)) (⟨_, _, Exists.intro 0 (And.intro rfl rfl), rfl⟩) ?_; rintro v Ms ⟨b29, rfl, rfl⟩ _; simp only [setls, setl, reduceIte, Nat.reduceEqDiff]; (repeat (first | (apply HdM.val; rfl; rfl; (· first | fail ); (· first | fail )) )))
    (refine hm_eff (cs := [0, 1]) rfl (by decide) rfl rfl (by first | exact gok_none | exact gok_run rfl rfl) (fun a ha => outc_mono (outc_call (F1 := _) (T := fun v M => ∃ (p ao : Option Addr) (c : Nat), v = .pointer (some ⟨g, 0, none⟩) ∧ M = wrH g p ao c T2 ∧ WOk g p ao c T2) (hW2 b29) rfl (by (repeat (first | apply sub_nil )); done) (by first | exact fun _ h => h | (intro r hr; cases hr; done) | (simp; done) | exact fun _ h => List.mem_append_left _ h | (intro r hr; simp [hr]; done)) (by rintro v L' R' ⟨p', ao', c', rfl, rfl, _, hw'⟩; exact ⟨_, ⟨p', ao', c', rfl, rfl, hw'⟩, (by (repeat (first | (apply prm_cons; (· (repeat (first | apply sel_here )))) | apply List.Perm.nil )); done)⟩) a ha) (fun v M h => Exists.elim h fun p h => Exists.elim h fun ao h => Exists.elim h fun c h => ⟨[M, []], Exists.intro p (Exists.intro ao (Exists.intro c (And.intro h.1 (And.intro (congrArg (fun x => [x, []]) h.2.1) h.2.2)))), rfl, by simp⟩)) ((by obtain ⟨p, ao, c, h⟩ := WOk.ex g T2; exact ⟨_, _, Exists.intro p (Exists.intro ao (Exists.intro c (And.intro rfl (And.intro rfl h)))), rfl⟩)) ?_; rintro v Ms ⟨p2, ao2, c2, rfl, rfl, hw2⟩ _; simp only [setls, setl, reduceIte, Nat.reduceEqDiff]; (repeat (first | (apply HdM.val; rfl; rfl; (· first | apply gok_none ); (· first | (apply pv_ev; rfl) | (apply pv_fld; rfl) | (apply g_load; first | (apply pv_ld; rfl; (· (repeat (first | apply sel_here ))); rfl) ) )) )))
    (refine hm_eff (cs := [2]) rfl (by decide) rfl rfl (by first | exact gok_none | exact gok_run rfl rfl) (fun a ha => outc_mono (outc_bsl (by (repeat (first | apply Rws'.nil | (apply Rws'.one; rfl; rfl; rfl) )); done) rfl rfl rfl a ha) (fun v M h => by obtain ⟨b, h1, h2⟩ := h; exact ⟨[M], ⟨b, h1, congrArg (fun x => [x]) h2⟩, rfl, by simp⟩)) (⟨_, _, Exists.intro 0 (And.intro rfl rfl), rfl⟩) ?_; rintro v Ms ⟨b35, rfl, rfl⟩ _; simp only [setls, setl, reduceIte, Nat.reduceEqDiff]; (repeat (first | (apply HdM.val; rfl; rfl; (· first | fail ); (· first | fail )) )))
    (refine hm_eff (cs := [0, 2]) rfl (by decide) rfl rfl (by first | exact gok_none | exact gok_run rfl rfl) (fun a ha => outc_mono (outc_call (F1 := _) (T := fun v M => ∃ (p ao : Option Addr) (c : Nat), v = .pointer (some ⟨g, 0, none⟩) ∧ M = wrH g p ao c T3 ∧ WOk g p ao c T3) (hW3 c2 p2 ao2 hw2 b35) rfl (by (repeat (first | apply sub_nil )); done) (by first | exact fun _ h => h | (intro r hr; cases hr; done) | (simp; done) | exact fun _ h => List.mem_append_left _ h | (intro r hr; simp [hr]; done)) (by rintro v L' R' ⟨p', ao', c', rfl, rfl, _, hw'⟩; exact ⟨_, ⟨p', ao', c', rfl, rfl, hw'⟩, (by (repeat (first | (apply prm_cons; (· (repeat (first | apply sel_here )))) | apply List.Perm.nil )); done)⟩) a ha) (fun v M h => Exists.elim h fun p h => Exists.elim h fun ao h => Exists.elim h fun c h => ⟨[M, []], Exists.intro p (Exists.intro ao (Exists.intro c (And.intro h.1 (And.intro (congrArg (fun x => [x, []]) h.2.1) h.2.2)))), rfl, by simp⟩)) ((by obtain ⟨p, ao, c, h⟩ := WOk.ex g T3; exact ⟨_, _, Exists.intro p (Exists.intro ao (Exists.intro c (And.intro rfl (And.intro rfl h)))), rfl⟩)) ?_; rintro v Ms ⟨p3, ao3, c3, rfl, rfl, hw3⟩ _; simp only [setls, setl, reduceIte, Nat.reduceEqDiff]; (repeat (first | (apply HdM.val; rfl; rfl; (· first | apply gok_none ); (· first | (apply pv_ev; rfl) | (apply pv_fld; rfl) | (apply g_load; first | (apply pv_ld; rfl; (· (repeat (first | apply sel_here ))); rfl) ) )) )))
    (refine hm_eff (cs := [0]) rfl (by decide) rfl rfl (by first | exact gok_none | exact gok_run rfl rfl) (fun a ha => outc_mono (outc_call (F1 := _) (T := fun v M => ∃ (p ao : Option Addr) (c : Nat), v = .pointer (some ⟨g, 0, none⟩) ∧ M = wrH g p ao c T4 ∧ WOk g p ao c T4) (hW4 c3 p3 ao3 hw3) rfl (by (repeat (first | apply sub_nil )); done) (by first | exact fun _ h => h | (intro r hr; cases hr; done) | (simp; done) | exact fun _ h => List.mem_append_left _ h | (intro r hr; simp [hr]; done)) (by rintro v L' R' ⟨p', ao', c', rfl, rfl, _, hw'⟩; exact ⟨_, ⟨p', ao', c', rfl, rfl, hw'⟩, (by (repeat (first | (apply prm_cons; (· (repeat (first | apply sel_here )))) | apply List.Perm.nil )); done)⟩) a ha) (fun v M h => by obtain ⟨p, ao, c, h1, h2, h3⟩ := h; exact ⟨[M], ⟨p, ao, c, h1, congrArg (fun x => [x]) h2, h3⟩, rfl, by simp⟩)) ((by obtain ⟨p, ao, c, h⟩ := WOk.ex g T4; exact ⟨_, _, Exists.intro p (Exists.intro ao (Exists.intro c (And.intro rfl (And.intro rfl h)))), rfl⟩)) ?_; rintro v Ms ⟨p4, ao4, c4, rfl, rfl, hw4⟩ _; simp only [setls, setl, reduceIte, Nat.reduceEqDiff]; (repeat (first | fail )))
    (refine HdM.nil ?_; intro H hH; simp only [Hp, fm, look, setl, List.flatMap_cons, List.flatMap_nil, reduceIte, Nat.reduceEqDiff, Option.getD_some, List.append_nil, List.cons_append, List.nil_append] at hH; subst hH)
    exact cut_end ⟨p4, ao4, c4, rfl, hw4⟩ (wk_mk (by (repeat (first | apply wkf_nil | (apply wkf_cons; rfl))); done) (by (repeat (first | apply sub_nil | (apply sub_cons; (· (repeat (first | apply sel_here | apply sel_there)))))); done) (by first | exact fun _ h => h | (intro r hr; cases hr; done) | (simp; done) | exact fun _ h => List.mem_append_left _ h | (intro r hr; simp [hr]; done)))
  rintro st' ⟨p4, ao4, c4, rfl, hw4⟩
  clear hW2 hW3 hW4 hw1
  obtain ⟨T5, hT5⟩ : ∃ T5, T4 ++ (if ex = true then numS 2 pf ++ numS 2 (dt.size / 4 : Nat) ++ dt else E0) = T5 := ⟨_, rfl⟩
  have z5 : T5.size ≤ 200000 := by
    have e0 : E0.size = 0 := rfl
    rw [← hT5]
    cases ex
    · simp only [ByteArray.size_append, z4, Bool.false_eq_true, if_false, e0]; omega
    · simp only [ByteArray.size_append, z4, if_true, numS_size]; omega
  (repeat (first | ((first | (apply wo_v; rfl) ); (· first | (apply pv_ev; rfl) | (apply pv_fld; rfl) | (apply g_load; first | (apply pv_ld; rfl; (· (repeat (first | apply sel_here | apply sel_there))); rfl) ) )) | apply wo_nil | apply wc_seq | apply wc_region | (apply wc_true; rfl) | (apply wc_false; rfl) | (apply a_dec_t; rfl; (· first | assumption | omega)) | (apply a_dec_f; rfl; (· first | assumption | omega)) | (apply a_dec_t; rfl; (· first | (simp; done) | (simp; omega))) | (apply a_dec_f; rfl; (· first | (simp; done) | (simp; omega))) ))
  refine wc_join0 (fun st' => ∃ (p' ao' : Option Addr) (c' : Nat), st' = ⟨[(1, .pointer (some ⟨bp, 0, none⟩)), (3, .pointer (some ⟨g, 0, none⟩))], wrH g p' ao' c' T5 ++ [rpI bp mrk kd sq t ss (.slice ao cs.length c) ex pf dt pl pd], R⟩ ∧ WOk g p' ao' c' T5) ?_ ?_
  · cases ex with
    | false =>
      rw [if_neg (by simp), append_E0] at hT5
      subst hT5
      (repeat (first | apply wc_skip | (apply wc_true; rfl) | (apply wc_false; rfl) ))
      exact cut_end ⟨p4, ao4, c4, rfl, hw4⟩ (wk_mk (by (repeat (first | apply wkf_nil | (apply wkf_cons; rfl))); done) (by (repeat (first | apply sub_nil )); done) (by first | exact fun _ h => h | (intro r hr; cases hr; done) | (simp; done) | exact fun _ h => List.mem_append_left _ h | (intro r hr; simp [hr]; done)))
    | true =>
      rw [if_pos rfl] at hT5
      have hq : ((dt.size / 4 : Nat) : Int) = (dt.size : Int) / 4 := by omega
      obtain ⟨T6, hT6⟩ : ∃ T6, T4 ++ numsS 2 [pf, (dt.size : Int) / 4] = T6 := ⟨_, rfl⟩
      have z6 : T6.size = T4.size + 4 := by rw [← hT6, ByteArray.size_append, numsS_size]; rfl
      have hT7 : T6 ++ catS [dt] = T5 := by
        rw [← hT5, ← hT6, hq]
        show T4 ++ (numS 2 pf ++ (numS 2 ((dt.size : Int) / 4) ++ E0)) ++ (dt ++ E0) = _
        simp only [append_E0, ByteArray.append_assoc]
      have hW5 := fun bl => wU16 g c4 bl 2 p4 ao4 T4 [pf, (dt.size : Int) / 4] (by intro y hy; simp only [List.mem_cons, List.not_mem_nil, or_false] at hy; rcases hy with rfl | rfl; exact h5; omega) (by simp) hw4 (by omega)
      rw [hT6] at hW5
      have hW6 := fun c2 p2 ao2 hw2 bl => wPut g c2 bl 1 p2 ao2 T6 [dt] (by intro y hy; rcases List.mem_singleton.1 hy with rfl; omega) (by simp) hw2 (by omega)
      rw [hT7] at hW6
      (repeat (first | (apply wc_true; rfl) ))
      (refine wc_regM [0, 1, 2] (aslL [(7, [1]), (8, [0, 1]), (11, [2]), (12, [0, 2])]) (tblC5 g pf ((dt.size : Int) / 4) dt T6 T5) ([rpI bp mrk kd sq t ss (.slice ao cs.length c) true pf dt pl pd]) (fm [(0, wrH g p4 ao4 c4 T4), (1, []), (2, [])]) mixed (by kernel_rfl) (by kernel_rfl) (by decide) (aslL_ok (by decide)) (by (repeat (first | (apply prm_cons; (· (repeat (first | apply sel_here | apply sel_there)))) | apply List.Perm.nil )); done) ?_; (repeat (first | (apply HdM.val; rfl; rfl; (· first | apply gok_none ); (· first | (apply pv_ev; rfl) | (apply pv_fld; rfl) | (apply g_load; first | (apply pv_ld; rfl; (· (repeat (first | apply sel_here ))); rfl) ) | (apply g_bin; first | (apply a_quo; rfl; rfl; infer_instance; omega) ) | (apply g_bi; first | (apply pv_len_str; rfl) ) | (apply g_conv; first | (apply a_conv; rfl; infer_instance; infer_instance; infer_instance; omega) ) )) )))
      (refine hm_eff (cs := [1]) rfl (by decide) rfl rfl (by first | exact gok_none | exact gok_run rfl rfl) (fun a ha => outc_mono (outc_bsl (by (repeat (first | apply Rws'.nil | (apply Rws'.one; rfl; rfl; rfl) )); done) rfl rfl rfl a ha) (fun v M h => by obtain ⟨b, h1, h2⟩ := h; exact ⟨[M], ⟨b, h1, congrArg (fun x => [x]) h2⟩, rfl, by simp⟩)) (⟨_, _, Exists.intro 0 (And.intro rfl rfl), rfl⟩) ?_; rintro v Ms ⟨b49, rfl, rfl⟩ _; simp only [setls, setl, reduceIte, Nat.reduceEqDiff]; (repeat (first | (apply HdM.val; rfl; rfl; (· first | fail ); (· first | fail )) )))
      (refine hm_eff (cs := [0, 1]) rfl (by decide) rfl rfl (by first | exact gok_none | exact gok_run rfl rfl) (fun a ha => outc_mono (outc_call (F1 := _) (T := fun v M => ∃ (p ao : Option Addr) (c : Nat), v = .pointer (some ⟨g, 0, none⟩) ∧ M = wrH g p ao c T6 ∧ WOk g p ao c T6) (hW5 b49) rfl (by (repeat (first | apply sub_nil )); done) (by first | exact fun _ h => h | (intro r hr; cases hr; done) | (simp; done) | exact fun _ h => List.mem_append_left _ h | (intro r hr; simp [hr]; done)) (by rintro v L' R' ⟨p', ao', c', rfl, rfl, _, hw'⟩; exact ⟨_, ⟨p', ao', c', rfl, rfl, hw'⟩, (by (repeat (first | (apply prm_cons; (· (repeat (first | apply sel_here )))) | apply List.Perm.nil )); done)⟩) a ha) (fun v M h => Exists.elim h fun p h => Exists.elim h fun ao h => Exists.elim h fun c h => ⟨[M, []], Exists.intro p (Exists.intro ao (Exists.intro c (And.intro h.1 (And.intro (congrArg (fun x => [x, []]) h.2.1) h.2.2)))), rfl, by simp⟩)) ((by obtain ⟨p, ao, c, h⟩ := WOk.ex g T6; exact ⟨_, _, Exists.intro p (Exists.intro ao (Exists.intro c (And.intro rfl (And.intro rfl h)))), rfl⟩)) ?_; rintro v Ms ⟨p5, ao5, c5, rfl, rfl, hw5⟩ _; simp only [setls, setl, reduceIte, Nat.reduceEqDiff]; (repeat (first | (apply HdM.val; rfl; rfl; (· first | apply gok_none ); (· first | (apply pv_ev; rfl) | (apply pv_fld; rfl) | (apply g_load; first | (apply pv_ld; rfl; (· (repeat (first | apply sel_here ))); rfl) ) )) )))
      (refine hm_eff (cs := [2]) rfl (by decide) rfl rfl (by first | exact gok_none | exact gok_run rfl rfl) (fun a ha => outc_mono (outc_bsl (by (repeat (first | apply Rws'.nil | (apply Rws'.one; rfl; rfl; rfl) )); done) rfl rfl rfl a ha) (fun v M h => by obtain ⟨b, h1, h2⟩ := h; exact ⟨[M], ⟨b, h1, congrArg (fun x => [x]) h2⟩, rfl, by simp⟩)) (⟨_, _, Exists.intro 0 (And.intro rfl rfl), rfl⟩) ?_; rintro v Ms ⟨b53, rfl, rfl⟩ _; simp only [setls, setl, reduceIte, Nat.reduceEqDiff]; (repeat (first | (apply HdM.val; rfl; rfl; (· first | fail ); (· first | fail )) )))
      (refine hm_eff (cs := [0, 2]) rfl (by decide) rfl rfl (by first | exact gok_none | exact gok_run rfl rfl) (fun a ha => outc_mono (outc_call (F1 := _) (T := fun v M => ∃ (p ao : Option Addr) (c : Nat), v = .pointer (some ⟨g, 0, none⟩) ∧ M = wrH g p ao c T5 ∧ WOk g p ao c T5) (hW6 c5 p5 ao5 hw5 b53) rfl (by (repeat (first | apply sub_nil )); done) (by first | exact fun _ h => h | (intro r hr; cases hr; done) | (simp; done) | exact fun _ h => List.mem_append_left _ h | (intro r hr; simp [hr]; done)) (by rintro v L' R' ⟨p', ao', c', rfl, rfl, _, hw'⟩; exact ⟨_, ⟨p', ao', c', rfl, rfl, hw'⟩, (by (repeat (first | (apply prm_cons; (· (repeat (first | apply sel_here )))) | apply List.Perm.nil )); done)⟩) a ha) (fun v M h => Exists.elim h fun p h => Exists.elim h fun ao h => Exists.elim h fun c h => ⟨[M, []], Exists.intro p (Exists.intro ao (Exists.intro c (And.intro h.1 (And.intro (congrArg (fun x => [x, []]) h.2.1) h.2.2)))), rfl, by simp⟩)) ((by obtain ⟨p, ao, c, h⟩ := WOk.ex g T5; exact ⟨_, _, Exists.intro p (Exists.intro ao (Exists.intro c (And.intro rfl (And.intro rfl h)))), rfl⟩)) ?_; rintro v Ms ⟨p6, ao6, c6, rfl, rfl, hw6⟩ _; simp only [setls, setl, reduceIte, Nat.reduceEqDiff]; (repeat (first | fail )))
      (refine HdM.nil ?_; intro H hH; simp only [Hp, fm, look, setl, List.flatMap_cons, List.flatMap_nil, reduceIte, Nat.reduceEqDiff, Option.getD_some, List.append_nil, List.cons_append, List.nil_append] at hH; subst hH)
      (repeat (first | fail ))
      exact cut_end ⟨p6, ao6, c6, rfl, hw6⟩ (wk_mk (by (repeat (first | apply wkf_nil | (apply wkf_cons; rfl))); done) (by (repeat (first | apply sub_nil | (apply sub_cons; (· (repeat (first | apply sel_here | apply sel_there)))))); done) (by first | exact fun _ h => h | (intro r hr; cases hr; done) | (simp; done) | exact fun _ h => List.mem_append_left _ h | (intro r hr; simp [hr]; done)))
  rintro st' ⟨p5, ao5, c5, rfl, hw5⟩
  obtain ⟨T6, hT6⟩ : ∃ T6, T5 ++ catS [pl] = T6 := ⟨_, rfl⟩
  have hW6 := fun bl => wPut g c5 bl 1 p5 ao5 T5 [pl] (by intro y hy; rcases List.mem_singleton.1 hy with rfl; omega) (by simp) hw5 (by omega)
  rw [hT6] at hW6
  have z6 : T6.size ≤ 400000 := by
    rw [← hT6, ByteArray.size_append]
    have : (catS [pl]).size = pl.size := congrArg ByteArray.size (append_E0 pl)
    omega
  (repeat (first | ((first | (apply wo_v; rfl) ); (· first | (apply pv_ev; rfl) | (apply pv_fld; rfl) | (apply g_load; first | (apply pv_ld; rfl; (· (repeat (first | apply sel_here | apply sel_there))); rfl) ) )) | apply wc_seq | apply wc_region | (apply wo_bsl; (· (repeat (first | apply Rws'.nil | (apply Rws'.one; rfl; rfl; rfl) ))); rfl; rfl; rfl; rfl; intro bx) ))
  (refine wo_call (hW6 _) rfl (by (repeat (first | apply sub_nil | (apply sub_cons; (· (repeat (first | apply sel_here | apply sel_there)))))); done) (by first | exact fun _ h => h | (intro r hr; cases hr; done) | (simp; done) | exact fun _ h => List.mem_append_left _ h | (intro r hr; simp [hr]; done)) rfl ?_; rintro v L' R' ⟨p6, ao6, c6, rfl, rfl, rfl, hw6⟩ H' hH RR hR; simp only [List.cons_append, List.nil_append] at hH hR; subst hH; have hR := hR.symm; subst hR)
  (repeat (first | ((first | (apply wo_v; rfl) ); (· first | (apply pv_ev; rfl) | (apply pv_fld; rfl) | (apply g_load; first | (apply pv_ld; rfl; (· (repeat (first | apply sel_here | apply sel_there))); rfl) ) )) | apply wo_nil | apply wc_seq | apply wc_region ))
  have hfin : T1 ++ (numS 2 sq ++ numS 4 t ++ numS 4 ss) ++ numsS 4 cs ++ (if ex = true then numS 2 pf ++ numS 2 (dt.size / 4 : Nat) ++ dt else E0) ++ pl = T6 := by
    rw [← hT6, ← hT5, ← hT4, ← hT3, ← hT2]
    show _ = T1 ++ (numS 2 sq ++ E0) ++ (numS 4 t ++ (numS 4 ss ++ E0)) ++ numsS 4 cs ++ _ ++ (pl ++ E0)
    simp only [append_E0, ByteArray.append_assoc]
  rw [hfin]
  refine wc_block ?_
  refine wc_loop' (fun q st => ∃ (i : Nat) (p' ao' : Option Addr) (c' : Nat), q = pd.toNat - i ∧ (i : Int) ≤ pd ∧ st = ⟨[(1, .pointer (some ⟨bp, 0, none⟩)), (3, .pointer (some ⟨g, 0, none⟩)), (60, .int .i64 pd), (61, .int .i64 i)], wrH g p' ao' c' (T6 ++ pdB pd i) ++ [rpI bp mrk kd sq t ss (.slice ao cs.length c) ex pf dt pl pd], R⟩ ∧ WOk g p' ao' c' (T6 ++ pdB pd i)) ⟨0, p6, ao6, c6, rfl, hpd.1, by rw [pdB, append_E0], by rw [pdB, append_E0]; exact hw6⟩ (wk_mk (by (repeat (first | apply wkf_nil | (apply wkf_cons; rfl))); done) (by (repeat (first | apply sub_nil )); done) (by first | exact fun _ h => h | (intro r hr; cases hr; done) | (simp; done) | exact fun _ h => List.mem_append_left _ h | (intro r hr; simp [hr]; done))) ?_
  clear hw6 p6 ao6 c6
  rintro q st ⟨i, p6, ao6, c6, rfl, hi, rfl, hw6⟩
  by_cases hlt : (i : Int) < pd
  · obtain ⟨y, hy⟩ : ∃ y : Int, (if (i : Int) = pd - 1 then pd else 0) = y := ⟨_, rfl⟩
    have hq := gFlag (decide ((i : Int) = pd - 1)) pd y (by rw [← hy]; simp)
    have hyb : 0 ≤ y ∧ y ≤ 255 := by rw [← hy]; split <;> omega
    have hnx : T6 ++ pdB pd (i + 1) = (T6 ++ pdB pd i) ++ b1 y := by rw [pdB, hy, ByteArray.append_assoc]
    have hz8 : (T6 ++ pdB pd i).size ≤ 500000 := by rw [ByteArray.size_append, pdB_size]; omega
    generalize T6 ++ pdB pd i = T7 at hw6 hnx hz8 ⊢
    have hW7 := fun bl => wU8 g c6 bl 1 p6 ao6 T7 (b1 y) hw6 (by rw [b1_size]; omega) (by rw [b1_size]; omega)
    simp only [b1_size] at hW7
    rw [← hnx] at hW7
    (repeat (first | ((first | (apply wo_v; rfl) ); (· first | (apply pv_ev; rfl) )) | apply wo_nil | apply wc_seq | apply wc_region | apply wc_skip | (apply wc_true; rfl) | (apply wc_false; rfl) | (apply a_dec_t; rfl; (· first | assumption | omega)) ))
    refine wc_block ?_
    (repeat (first | ((first | (apply wo_v; rfl) ); (· first | (apply pv_ev; rfl) | (apply pv_fld; rfl) | (apply g_load; first | (apply pv_ld; rfl; (· (repeat (first | apply sel_here | apply sel_there))); rfl) ) | (apply g_bin; first | (apply a_sub; rfl; rfl; infer_instance; omega) ) | (apply g_conv; first | (apply a_conv; rfl; infer_instance; infer_instance; infer_instance; omega) ) )) | apply wo_nil | apply wc_seq | apply wc_region ))
    (refine wo_call (hq) rfl (by (repeat (first | apply sub_nil )); done) (by first | exact fun _ h => h | (intro r hr; cases hr; done) | (simp; done) | exact fun _ h => List.mem_append_left _ h | (intro r hr; simp [hr]; done)) rfl ?_; rintro v L' R' ⟨rfl, rfl, rfl⟩ H' hH RR hR; simp only [List.cons_append, List.nil_append] at hH hR; subst hH; have hR := hR.symm; subst hR)
    (repeat (first | ((first | (apply wo_v; rfl) ); (· first | (apply pv_ev; rfl) )) | (apply wo_bsl; (· (repeat (first | apply Rws'.nil | (apply Rws'.one; rfl; rfl; rfl) ))); rfl; rfl; rfl; rfl; intro bx) ))
    rw [brows_one hyb]
    (refine wo_call (hW7 _) rfl (by (repeat (first | apply sub_nil | (apply sub_cons; (· (repeat (first | apply sel_here | apply sel_there)))))); done) (by first | exact fun _ h => h | (intro r hr; cases hr; done) | (simp; done) | exact fun _ h => List.mem_append_left _ h | (intro r hr; simp [hr]; done)) rfl ?_; rintro v L' R' ⟨p7, ao7, c7, rfl, rfl, rfl, hw7⟩ H' hH RR hR; simp only [List.cons_append, List.nil_append] at hH hR; subst hH; have hR := hR.symm; subst hR)
    (repeat (first | ((first | (apply wo_v; rfl) ); (· first | (apply pv_ev; rfl) | (apply g_bin; first | (apply a_add; rfl; rfl; infer_instance; omega) ) )) | apply wo_nil | apply wc_region ))
    exact loop_end ⟨i + 1, p7, ao7, c7, rfl, by omega, rfl, hw7⟩ (by omega) (wk_mk (by (repeat (first | apply wkf_nil | (apply wkf_cons; rfl))); done) (by (repeat (first | apply sub_nil )); done) (by first | exact fun _ h => h | (intro r hr; cases hr; done) | (simp; done) | exact fun _ h => List.mem_append_left _ h | (intro r hr; simp [hr]; done)))
  · have e : pd.toNat = i := by omega
    rw [e]
    (repeat (first | ((first | (apply wo_v; rfl) ); (· first | (apply pv_ev; rfl) )) | apply wo_nil | apply wc_seq | apply wc_region | (apply wc_exit; rfl) | (apply wc_true; rfl) | (apply wc_false; rfl) | (apply a_dec_t; rfl; (· first | assumption | omega)) | (apply a_dec_f; rfl; (· first | assumption | omega)) ))
    (refine wo_call (wText g c6 p6 ao6 _ hw6) rfl (by (repeat (first | apply sub_nil )); done) (by first | exact fun _ h => h | (intro r hr; cases hr; done) | (simp; done) | exact fun _ h => List.mem_append_left _ h | (intro r hr; simp [hr]; done)) rfl ?_; rintro v L' R' ⟨rfl, rfl, rfl⟩ H' hH RR hR; simp only [List.cons_append, List.nil_append] at hH hR; subst hH; have hR := hR.symm; subst hR)
    (repeat (first | ((first | (apply wo_v; rfl) ); (· first | (apply pv_ev; rfl) )) | apply wo_nil | apply wc_ret ))
    exact ret1 rfl rfl ⟨rfl, rfl, rfl⟩ ((by (repeat (first | apply sub_nil )); done) : List.Perm _ ([] ++ _)) (by first | exact fun _ h => h | (intro r hr; cases hr; done) | (simp; done) | exact fun _ h => List.mem_append_left _ h | (intro r hr; simp [hr]; done))
end Go.Proofs.Ytlhlidmhlhodiaa
