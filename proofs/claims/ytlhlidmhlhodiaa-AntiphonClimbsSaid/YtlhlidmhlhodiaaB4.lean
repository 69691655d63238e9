/-
  Texts of this proof, laid together (part 4 of 5).
-/
import Derived.Test.YtlhlidmhlhodiaaB3
/-
  Package rtp: a packet's bytes.
-/
namespace Go.Proofs.Ytlhlidmhlhodiaa
set_option linter.unusedSimpArgs false
set_option linter.unusedVariables false
set_option linter.unusedSimpArgs false
set_option linter.unusedVariables false
open Go.RowKit
attribute [local irreducible] Pv WO WC Fn
set_option maxRecDepth 100000
attribute [local irreducible] ByteArray.extract

set_option maxHeartbeats 4000000 in
theorem wU32R (g c : Nat) (p ao : Option Addr) (s : ByteArray) (xs : List Int) (A : Option Addr) (n c2 : Nat) (R : List Ro) (hS : SQ R 1 A n c2 (crs xs)) (hx : ∀ x ∈ xs, 0 ≤ x ∧ x ≤ 4294967295) (hl : xs.length ≤ 1000000) (hw : WOk g p ao c s) (hz : s.size ≤ 1098000000000) :
    Fn Try.prog 72 #[.pointer (some ⟨g, 0, none⟩), .slice A n c2] (wrH g p ao c s) R
    (fun v L' R' => ∃ p' ao' c', v = .pointer (some ⟨g, 0, none⟩) ∧ L' = wrH g p' ao' c' (s ++ numsS 4 xs) ∧ R' = [] ∧ WOk g p' ao' c' (s ++ numsS 4 xs)) := by
  have hn : n = xs.length := by rw [← hS.len]; simp
  subst hn
  refine fn_intro Try.func72 rfl Try.ntmps72 rfl (fun E => ?_)
  (repeat (first | ((first | (apply wo_v; rfl) ); (· first | (apply pv_ev; rfl) | (apply g_bi; first | (apply pv_len_sl; rfl) ) )) | apply wo_nil | apply wc_seq | apply wc_region | apply wc_block ))
  refine wc_loop' (fun m st => ∃ (j : Nat) (p' ao' : Option Addr) (c' : Nat), m = xs.length - j ∧ st = ⟨[(0, .pointer (some ⟨g, 0, none⟩)), (7, .slice A xs.length c2), (8, .int .i64 xs.length), (9, .int .i64 j)], wrH g p' ao' c' (s ++ numsS 4 (xs.take j)), R⟩ ∧ j ≤ xs.length ∧ WOk g p' ao' c' (s ++ numsS 4 (xs.take j)))
    ⟨0, p, ao, c, rfl, by rw [List.take_zero, show numsS 4 [] = E0 from rfl, append_E0], Nat.zero_le _, by rw [List.take_zero, show numsS 4 [] = E0 from rfl, append_E0]; exact hw⟩ (wk_mk (by (repeat (first | apply wkf_nil | (apply wkf_cons; rfl))); done) (by (repeat (first | apply sub_nil )); done) (by first | exact fun _ h => h | (intro r hr; cases hr; done) | (simp; done) | exact fun _ h => List.mem_append_left _ h | (intro r hr; simp [hr]; done))) ?_
  clear hw p ao c
  rintro m st ⟨j, p, ao, c, rfl, rfl, hj, hw⟩
  by_cases hlt : j < xs.length
  · obtain ⟨x, he⟩ : ∃ x, xs[j]? = some x := ⟨_, List.getElem?_eq_getElem hlt⟩
    have hr : (crs xs)[j]? = some [.int .u32 x] := crs_at he
    have hxb := hx x (List.mem_of_getElem? he)
    have hS' : (s ++ numsS 4 (xs.take j)).size ≤ 1099000000000 := by
      rw [ByteArray.size_append, numsS_size, List.length_take]; omega
    have hnext := numsS_take (k := 4) he
    obtain ⟨S0, hS0⟩ : ∃ S0, s ++ numsS 4 (xs.take j) = S0 := ⟨_, rfl⟩
    have hnx : s ++ numsS 4 (xs.take (j + 1)) = S0 ++ numsS 4 [x] := by rw [hnext, ← ByteArray.append_assoc, hS0]; show S0 ++ numS 4 x = S0 ++ (numS 4 x ++ E0); rw [append_E0]
    rw [hS0] at hw hS' ⊢
    clear hnext hS0
    have hN := fun bl c2 => wNum g c bl c2 p ao S0 4 4 [x] rfl (by intro y hy; rcases List.mem_singleton.1 hy with rfl; omega) (by simp) hw hS'
    rw [← hnx] at hN
    obtain ⟨b1, o1, rfl, hmem⟩ := hS.pos (by omega)
    (repeat (first | ((first | (apply wo_v; rfl) ); (· first | (apply pv_ev; rfl) | (apply g_load; first | (apply pv_ld; rfl; (· (repeat (first | apply sel_there))); rfl) | (apply pv_ld_ownf; rfl; (· (repeat (first | fail ))); (· assumption); rfl) | (apply pv_ld_own1; rfl; (· (repeat (first | apply sel_there))); (· assumption)) | (apply pv_ld_rof; rfl; (· (first | assumption )); (· assumption); rfl) | (apply pv_ld_ro1; rfl; (· (first | assumption )); (· assumption)) ) | (apply g_conv; first | (apply a_conv; rfl; infer_instance; infer_instance; infer_instance; omega) ) | (apply g_idx; first | (apply pv_idx; rfl; rfl; omega) ) )) | apply wo_nil | apply wc_seq | apply wc_region | apply wc_block | apply wc_skip | (apply wc_true; rfl) | (apply wc_false; rfl) | (apply a_dec_t; rfl; (· first | assumption | omega)) | (apply wo_bsl; (· (repeat (first | apply Rws'.nil | (apply Rws'.one; rfl; rfl; rfl) ))); rfl; rfl; rfl; rfl; intro bx) ))
    (refine wo_call (hN _ _) rfl (by (repeat (first | apply sub_nil | (apply sub_cons; (· (repeat (first | apply sel_here | apply sel_there)))))); done) (by first | exact fun _ h => h | (intro r hr; cases hr; done) | (simp; done) | exact fun _ h => List.mem_append_left _ h | (intro r hr; simp [hr]; done)) rfl ?_; rintro v L' R' ⟨p', ao', c', rfl, rfl, rfl, hw'⟩ H' hH RR hR; simp only [List.cons_append, List.nil_append] at hH hR; subst hH; have hR := hR.symm; subst hR)
    (repeat (first | ((first | (apply wo_v; rfl) ); (· first | (apply pv_ev; rfl) | (apply g_bin; first | (apply a_add; rfl; rfl; infer_instance; omega) ) )) | apply wo_nil | apply wc_region ))
    exact loop_end ⟨j + 1, p', ao', c', rfl, rfl, by omega, hw'⟩ (by omega) (wk_mk (by (repeat (first | apply wkf_nil | (apply wkf_cons; rfl))); done) (by (repeat (first | apply sub_nil )); done) (by first | exact fun _ h => h | (intro r hr; cases hr; done) | (simp; done) | exact fun _ h => List.mem_append_left _ h | (intro r hr; simp [hr]; done)))
  · obtain rfl : j = xs.length := by omega
    rw [List.take_length] at hw ⊢
    (repeat (first | ((first | (apply wo_v; rfl) ); (· first | (apply pv_ev; rfl) )) | apply wo_nil | apply wc_seq | apply wc_region | (apply wc_exit; rfl) | apply wc_ret | (apply wc_true; rfl) | (apply wc_false; rfl) | (apply a_dec_t; rfl; (· first | assumption | omega)) | (apply a_dec_f; rfl; (· first | assumption | omega)) ))
    exact retv rfl (by (repeat (first | apply RV.nil | (apply RV.tmp; rfl) )); done) ⟨p, ao, c, rfl, rfl, rfl, hw⟩ (by (repeat (first | apply sub_nil )); done) (by first | exact fun _ h => h | (intro r hr; cases hr; done) | (simp; done) | exact fun _ h => List.mem_append_left _ h | (intro r hr; simp [hr]; done))
theorem numS1 {x : Int} (h : 0 ≤ x ∧ x ≤ 255) : numS 1 x = b1 x := by
  show E0 ++ b1 (x % 256) = b1 x
  rw [E0_append, Int.emod_eq_of_lt h.1 (by omega)]
theorem brows_two {x y : Int} (hx : 0 ≤ x ∧ x ≤ 255) (hy : 0 ≤ y ∧ y ≤ 255) : brows (b1 x ++ b1 y) = [[.int .u8 x], [.int .u8 y]] := by
  have e1 := b1_rows hx
  have e2 := b1_rows hy
  have : brows (b1 x ++ b1 y) = brows (b1 x) ++ brows (b1 y) := by simp [brows]
  rw [this, e1, e2]; rfl
theorem csT_take (cs : List Int) : ∀ i, i ≤ cs.length → csT cs i = numsS 4 (cs.take i)
  | 0, _ => rfl
  | i + 1, h => by
    have he := List.getElem?_eq_getElem (show i < cs.length by omega)
    rw [csT, he]
    simp only
    rw [numsS_take he, csT_take cs i (by omega)]
def pdB (pd : Int) : Nat → ByteArray
  | 0 => E0
  | i + 1 => pdB pd i ++ b1 (if (i : Int) = pd - 1 then pd else 0)
theorem pdB_size (pd : Int) : ∀ i, (pdB pd i).size = i
  | 0 => rfl
  | i + 1 => by rw [pdB, ByteArray.size_append, pdB_size pd i, b1_size]
theorem pdB_zr (pd : Int) : ∀ i : Nat, (i : Int) ≤ pd - 1 → pdB pd i = zrT i
  | 0, _ => rfl
  | i + 1, h => by
    rw [pdB, pdB_zr pd i (by omega), if_neg (by omega), zrT]; rfl
theorem pdB_end (pd : Int) (h0 : 0 ≤ pd ∧ pd ≤ 255) : pdB pd pd.toNat = (if 0 < pd then zrT (pd.toNat - 1) ++ numS 1 pd else E0) := by
  by_cases h : 0 < pd
  · rw [if_pos h]
    obtain ⟨i, hi⟩ : ∃ i, pd.toNat = i + 1 := ⟨pd.toNat - 1, by omega⟩
    rw [hi, pdB, pdB_zr pd i (by omega), if_pos (by omega), numS1 h0]; rfl
  · rw [if_neg h, show pd.toNat = 0 by omega]; rfl
abbrev wrQ1 (g : Nat) (t : ByteArray) (v : Value) (Ms : List (List It)) : Prop := ∃ (p ao : Option Addr) (c : Nat), v = .pointer (some ⟨g, 0, none⟩) ∧ Ms = [wrH g p ao c t] ∧ WOk g p ao c t
abbrev wrQ0 (g : Nat) (t : ByteArray) (v : Value) (Ms : List (List It)) : Prop := ∃ (p ao : Option Addr) (c : Nat), v = .pointer (some ⟨g, 0, none⟩) ∧ Ms = [wrH g p ao c t, []] ∧ WOk g p ao c t
abbrev newS (T : TypeId) (xs : List (List Value)) (v : Value) (Ms : List (List It)) : Prop := ∃ b, v = .slice (some ⟨b, 0, none⟩) xs.length xs.length ∧ Ms = [[.own T 1 (some ⟨b, 0, none⟩) xs.length xs.length xs]]
def tblA (g : Nat) (T1 : ByteArray) (A B x1 x2 x3 : Int) : Nat → List (List It) → Value → List (List It) → Prop := fun k Ls v Ms => match k with
  | 3 => v = .int .u8 x1 ∧ Ms = [[]]
  | 7 => v = .int .u8 x2 ∧ Ms = [[]]
  | 16 => v = .int .u8 x3 ∧ Ms = [[]]
  | 20 => newS 5 [[.int .u8 A], [.int .u8 B]] v Ms
  | _ => wrQ0 g T1 v Ms
def tblB (g : Nat) (sq t ss : Int) (T2 T3 T4 : ByteArray) : Nat → List (List It) → Value → List (List It) → Prop := fun k Ls v Ms => match k with
  | 2 => newS 24 [[.int .u16 sq]] v Ms
  | 3 => wrQ0 g T2 v Ms
  | 8 => newS 30 [[.int .u32 t], [.int .u32 ss]] v Ms
  | 9 => wrQ0 g T3 v Ms
  | _ => wrQ1 g T4 v Ms
def tblC5 (g : Nat) (pf ln : Int) (dt : ByteArray) (T5 T6 : ByteArray) : Nat → List (List It) → Value → List (List It) → Prop := fun k Ls v Ms => match k with
  | 7 => newS 24 [[.int .u16 pf], [.int .u16 ln]] v Ms
  | 8 => wrQ0 g T5 v Ms
  | 11 => newS 9 [[.string dt]] v Ms
  | _ => wrQ0 g T6 v Ms
set_option maxHeartbeats 64000000 in
theorem gText (mrk : Bool) (kd sq t ss : Int) (cs : List Int) (ex : Bool) (pf : Int) (dt pl : ByteArray) (pd : Int) (ao : Option Addr) (n c : Nat) (R : List Ro) (hS : SQ R 1 ao n c (crs cs)) (hn : cs.length ≤ 15) (hdt : dt.size ≤ 100000) (hpl : pl.size ≤ 100000) (hpd : 0 ≤ pd ∧ pd ≤ 255)
    (h1 : 0 ≤ kd ∧ kd ≤ 127) (h2 : 0 ≤ sq ∧ sq ≤ 65535) (h3 : 0 ≤ t ∧ t ≤ 4294967295) (h4 : 0 ≤ ss ∧ ss ≤ 4294967295) (h5 : 0 ≤ pf ∧ pf ≤ 65535) (h6 : ∀ z ∈ cs, 0 ≤ z ∧ z ≤ 4294967295) :
    Fn Try.prog 16 #[.agg (rpR mrk kd sq t ss (.slice ao n c) ex pf dt pl pd).toArray] [] R (fun v L' R' => v = .string (txR mrk kd sq t ss cs ex pf dt pl pd) ∧ L' = [] ∧ R' = []) := by
  have hnn : n = cs.length := by rw [← hS.len]; simp
  subst hnn
  obtain ⟨x1, hx1⟩ : ∃ x, bi (decide (0 < pd)) 32 = x := ⟨_, rfl⟩
  obtain ⟨x2, hx2⟩ : ∃ x, bi ex 16 = x := ⟨_, rfl⟩
  obtain ⟨x3, hx3⟩ : ∃ x, bi mrk 128 = x := ⟨_, rfl⟩
  have o1 := bi_or (decide (0 < pd)) 32
  have o2 := bi_or ex 16
  have o3 := bi_or mrk 128
  rw [hx1] at o1
  rw [hx2] at o2
  rw [hx3] at o3
  have q1 := gFlag (decide (0 < pd)) 32 x1 hx1
  have q2 := gFlag ex 16 x2 hx2
  have q3 := gFlag mrk 128 x3 hx3
  have hA : 0 ≤ 128 + x1 + x2 + cs.length ∧ 128 + x1 + x2 + cs.length ≤ 255 := by omega
  have hB : 0 ≤ x3 + kd ∧ x3 + kd ≤ 255 := by omega
  unfold txR hdT
  rw [hx1, hx2, hx3, numS1 hA, numS1 hB, csT_take cs cs.length (Nat.le_refl _), List.take_length, ← pdB_end pd hpd]
  obtain ⟨A, hAe⟩ : ∃ A, 128 + x1 + x2 + (cs.length : Int) = A := ⟨_, rfl⟩
  obtain ⟨B, hBe⟩ : ∃ B, x3 + kd = B := ⟨_, rfl⟩
  rw [hAe] at hA ⊢
  rw [hBe] at hB ⊢
  have hW1 := fun g bl => wU8 g 0 bl 2 none none E0 (b1 A ++ b1 B) ⟨.inl rfl, .inl ⟨rfl, rfl, rfl⟩⟩ (by rw [ByteArray.size_append, b1_size]; omega) (by rw [ByteArray.size_append, b1_size, b1_size]; decide)
  simp only [E0_append] at hW1
  rw [show byO = fun bl c z => It.own 5 1 (some ⟨bl, 0, none⟩) z.size c (brows z) from rfl] at hW1
  have zAB : (b1 A ++ b1 B).size = 2 := by rw [ByteArray.size_append, b1_size, b1_size]
  simp only [brows_two hA hB, zAB] at hW1
  refine fn_intro Try.func16 rfl Try.ntmps16 rfl (fun E => ?_)
  (repeat (first | ((first | (apply wo_v; rfl) ); (· first | (apply pv_ev; rfl) )) | apply wo_nil | apply wc_seq | apply wc_region | (apply wo_box1; rfl; rfl; rfl; intro bx) | (apply wo_boxa; rfl; rfl; intro bx) | (apply wo_alloc; rfl; intro bx) ))
  obtain ⟨g, hg⟩ : ∃ g, g = bx := ⟨_, rfl⟩
  subst hg
  obtain ⟨bp, hbp⟩ : ∃ b, b = bx := ⟨_, rfl⟩
  subst hbp
  refine wc_own0 5 1 ?_
  have hW1 := hW1 g
  generalize hT1 : b1 A ++ b1 B = T1 at hW1 zAB ⊢
  refine wc_join0 (fun st' => ∃ (p' ao' : Option Addr) (c' : Nat), st' = ⟨[(1, .pointer (some ⟨bp, 0, none⟩)), (3, .pointer (some ⟨g, 0, none⟩))], wrH g p' ao' c' T1 ++ [rpI bp mrk kd sq t ss (.slice ao cs.length c) ex pf dt pl pd], R⟩ ∧ WOk g p' ao' c' T1) ?_ ?_
  · (refine wc_regM [0, 1, 2, 3, 4] (aslL [(3, [2]), (7, [3]), (16, [4]), (20, [1]), (21, [0, 1])]) (tblA g T1 A B x1 x2 x3) ([rpI bp mrk kd sq t ss (.slice ao cs.length c) ex pf dt pl pd]) (fm [(0, wrH g none none 0 E0), (1, []), (2, []), (3, []), (4, [])]) mixed (by kernel_rfl) (by kernel_rfl) (by decide) (aslL_ok (by decide)) (by (repeat (first | (apply prm_cons; (· (repeat (first | apply sel_here | apply sel_there)))) | apply List.Perm.nil )); done) ?_; (repeat (first | (apply HdM.val; rfl; rfl; (· first | apply gok_none ); (· first | (apply pv_ev; rfl) | (apply pv_fld; rfl) | (apply g_load; first | (apply pv_ld; rfl; (· (repeat (first | apply sel_here ))); rfl) ) )) )))
    (refine hm_eff (cs := [2]) rfl (by decide) rfl rfl (by first | exact gok_none | exact gok_run rfl rfl) (fun a ha => outc_mono (outc_call (F1 := _) (T := fun v M => v = .int .u8 x1 ∧ M = []) (q1) rfl (by (repeat (first | apply sub_nil )); done) (by first | exact fun _ h => h | (intro r hr; cases hr; done) | (simp; done) | exact fun _ h => List.mem_append_left _ h | (intro r hr; simp [hr]; done)) (by rintro v L' R' ⟨rfl, rfl, _⟩; exact ⟨_, ⟨rfl, rfl⟩, (by (repeat (first | (apply prm_cons; (· (repeat (first | apply sel_here )))) | apply List.Perm.nil )); done)⟩) a ha) (fun v M h => ⟨[[]], And.intro h.1 rfl, rfl, h.2⟩)) ⟨_, _, And.intro rfl rfl, rfl⟩ ?_; rintro v Ms ⟨rfl, rfl⟩ _; simp only [setls, setl, reduceIte, Nat.reduceEqDiff]; (repeat (first | (apply HdM.val; rfl; rfl; (· first | apply gok_none ); (· first | (apply pv_ev; rfl) | (apply pv_fld; rfl) | (apply g_load; first | (apply pv_ld; rfl; (· (repeat (first | apply sel_here ))); rfl) ) | (apply g_bin; first | (apply (a_or 4); rfl; rfl; infer_instance; rfl; omega) | (apply (a_or 5); rfl; rfl; infer_instance; rfl; omega) | (apply (a_or 6); rfl; rfl; infer_instance; rfl; omega) ) )) )))
    (refine hm_eff (cs := [3]) rfl (by decide) rfl rfl (by first | exact gok_none | exact gok_run rfl rfl) (fun a ha => outc_mono (outc_call (F1 := _) (T := fun v M => v = .int .u8 x2 ∧ M = []) (q2) rfl (by (repeat (first | apply sub_nil )); done) (by first | exact fun _ h => h | (intro r hr; cases hr; done) | (simp; done) | exact fun _ h => List.mem_append_left _ h | (intro r hr; simp [hr]; done)) (by rintro v L' R' ⟨rfl, rfl, _⟩; exact ⟨_, ⟨rfl, rfl⟩, (by (repeat (first | (apply prm_cons; (· (repeat (first | apply sel_here )))) | apply List.Perm.nil )); done)⟩) a ha) (fun v M h => ⟨[[]], And.intro h.1 rfl, rfl, h.2⟩)) ⟨_, _, And.intro rfl rfl, rfl⟩ ?_; rintro v Ms ⟨rfl, rfl⟩ _; simp only [setls, setl, reduceIte, Nat.reduceEqDiff]; (repeat (first | (apply HdM.val; rfl; rfl; (· first | apply gok_none ); (· first | (apply pv_ev; rfl) | (apply pv_fld; rfl) | (apply g_load; first | (apply pv_ld; rfl; (· (repeat (first | apply sel_here ))); rfl) ) | (apply g_bin; first | (apply (a_or 4); rfl; rfl; infer_instance; rfl; omega) | (apply (a_or 5); rfl; rfl; infer_instance; rfl; omega) ) | (apply g_bi; first | (apply pv_len_sl; rfl) ) | (apply g_conv; first | (apply a_conv; rfl; infer_instance; infer_instance; infer_instance; omega) ) )) )))
    (refine hm_eff (cs := [4]) rfl (by decide) rfl rfl (by first | exact gok_none | exact gok_run rfl rfl) (fun a ha => outc_mono (outc_call (F1 := _) (T := fun v M => v = .int .u8 x3 ∧ M = []) (q3) rfl (by (repeat (first | apply sub_nil )); done) (by first | exact fun _ h => h | (intro r hr; cases hr; done) | (simp; done) | exact fun _ h => List.mem_append_left _ h | (intro r hr; simp [hr]; done)) (by rintro v L' R' ⟨rfl, rfl, _⟩; exact ⟨_, ⟨rfl, rfl⟩, (by (repeat (first | (apply prm_cons; (· (repeat (first | apply sel_here )))) | apply List.Perm.nil )); done)⟩) a ha) (fun v M h => ⟨[[]], And.intro h.1 rfl, rfl, h.2⟩)) ⟨_, _, And.intro rfl rfl, rfl⟩ ?_; rintro v Ms ⟨rfl, rfl⟩ _; simp only [setls, setl, reduceIte, Nat.reduceEqDiff]; (repeat (first | (apply HdM.val; rfl; rfl; (· first | apply gok_none ); (· first | (apply pv_ev; rfl) | (apply pv_fld; rfl) | (apply g_load; first | (apply pv_ld; rfl; (· (repeat (first | apply sel_here ))); rfl) ) | (apply g_bin; first | (apply (a_or 4); rfl; rfl; infer_instance; rfl; omega) | (apply (a_or 5); rfl; rfl; infer_instance; rfl; omega) | (apply (a_or 6); rfl; rfl; infer_instance; rfl; omega) | (apply (a_or 7); rfl; rfl; infer_instance; rfl; omega) ) )) )))
    (refine hm_eff (cs := [1]) rfl (by decide) rfl rfl (by first | exact gok_none | exact gok_run rfl rfl) (fun a ha => outc_mono (outc_bsl (by (repeat (first | apply Rws'.nil | (apply Rws'.one; rfl; rfl; rfl) )); done) rfl rfl rfl a ha) (fun v M h => by obtain ⟨b, h1, h2⟩ := h; rw [hAe, hBe] at h2; exact ⟨[M], ⟨b, h1, congrArg (fun x => [x]) h2⟩, rfl, by simp⟩)) (⟨_, _, Exists.intro 0 (And.intro rfl rfl), rfl⟩) ?_; rintro v Ms ⟨b20, rfl, rfl⟩ _; simp only [setls, setl, reduceIte, Nat.reduceEqDiff]; (repeat (first | (apply HdM.val; rfl; rfl; (· first | fail ); (· first | fail )) )))
    (refine hm_eff (cs := [0, 1]) rfl (by decide) rfl rfl (by first | exact gok_none | exact gok_run rfl rfl) (fun a ha => outc_mono (outc_call (F1 := _) (T := fun v M => ∃ (p ao : Option Addr) (c : Nat), v = .pointer (some ⟨g, 0, none⟩) ∧ M = wrH g p ao c T1 ∧ WOk g p ao c T1) (hW1 b20) rfl (by (repeat (first | apply sub_nil )); done) (by first | exact fun _ h => h | (intro r hr; cases hr; done) | (simp; done) | exact fun _ h => List.mem_append_left _ h | (intro r hr; simp [hr]; done)) (by rintro v L' R' ⟨p', ao', c', rfl, rfl, _, hw'⟩; exact ⟨_, ⟨p', ao', c', rfl, rfl, hw'⟩, (by (repeat (first | (apply prm_cons; (· (repeat (first | apply sel_here )))) | apply List.Perm.nil )); done)⟩) a ha) (fun v M h => Exists.elim h fun p h => Exists.elim h fun ao h => Exists.elim h fun c h => ⟨[M, []], Exists.intro p (Exists.intro ao (Exists.intro c (And.intro h.1 (And.intro (congrArg (fun x => [x, []]) h.2.1) h.2.2)))), rfl, by simp⟩)) ((by obtain ⟨p, ao, c, h⟩ := WOk.ex g T1; exact ⟨_, _, Exists.intro p (Exists.intro ao (Exists.intro c (And.intro rfl (And.intro rfl h)))), rfl⟩)) ?_; rintro v Ms ⟨p1, ao1, c1, rfl, rfl, hw1⟩ _; simp only [setls, setl, reduceIte, Nat.reduceEqDiff]; (repeat (first | fail )))
    (refine HdM.nil ?_; intro H hH; simp only [Hp, fm, look, setl, List.flatMap_cons, List.flatMap_nil, reduceIte, Nat.reduceEqDiff, Option.getD_some, List.append_nil, List.cons_append, List.nil_append] at hH; subst hH)
    exact cut_end ⟨p1, ao1, c1, rfl, hw1⟩ (wk_mk (by (repeat (first | apply wkf_nil | (apply wkf_cons; rfl))); done) (by (repeat (first | apply sub_nil | (apply sub_cons; (· (repeat (first | apply sel_here | apply sel_there)))))); done) (by first | exact fun _ h => h | (intro r hr; cases hr; done) | (simp; done) | exact fun _ h => List.mem_append_left _ h | (intro r hr; simp [hr]; done)))
  rintro st' ⟨p1, ao1, c1, rfl, hw1⟩
  clear hW1 q1 q2 q3 hx1 hx2 hx3
  obtain ⟨T2, hT2⟩ : ∃ T2, T1 ++ numsS 2 [sq] = T2 := ⟨_, rfl⟩
  obtain ⟨T3, hT3⟩ : ∃ T3, T2 ++ numsS 4 [t, ss] = T3 := ⟨_, rfl⟩
  obtain ⟨T4, hT4⟩ : ∃ T4, T3 ++ numsS 4 cs = T4 := ⟨_, rfl⟩
  have z2 : T2.size = 4 := by rw [← hT2, ByteArray.size_append, numsS_size, zAB]; rfl
  have z3 : T3.size = 12 := by rw [← hT3, ByteArray.size_append, numsS_size, z2]; rfl
  have z4 : T4.size = 12 + 4 * cs.length := by rw [← hT4, ByteArray.size_append, numsS_size, z3]
  have hW2 := fun bl => wU16 g c1 bl 1 p1 ao1 T1 [sq] (by intro y hy; rcases List.mem_singleton.1 hy with rfl; exact h2) (by simp) hw1 (by omega)
  rw [hT2] at hW2
  have hW3 := fun c2 p2 ao2 hw2 bl => wU32 g c2 bl 2 p2 ao2 T2 [t, ss] (by intro y hy; simp only [List.mem_cons, List.not_mem_nil, or_false] at hy; rcases hy with rfl | rfl; exact h3; exact h4) (by simp) hw2 (by omega)
  rw [hT3] at hW3
  have hW4 := fun c2 p2 ao2 hw2 => wU32R g c2 p2 ao2 T3 cs ao cs.length c R hS h6 (by omega) hw2 (by omega)
  rw [hT4] at hW4
  (repeat (first | apply wc_seq ))
  refine wc_join0 (fun st' => ∃ (p' ao' : Option Addr) (c' : Nat), st' = ⟨[(1, .pointer (some ⟨bp, 0, none⟩)), (3, .pointer (some ⟨g, 0, none⟩))], wrH g p' ao' c' T4 ++ [rpI bp mrk kd sq t ss (.slice ao cs.length c) ex pf dt pl pd], R⟩ ∧ WOk g p' ao' c' T4) ?_ ?_
  · (refine wc_regM [0, 1, 2] (aslL [(2, [1]), (3, [0, 1]), (8, [2]), (9, [0, 2]), (12, [0])]) (tblB g sq t ss T2 T3 T4) ([rpI bp mrk kd sq t ss (.slice ao cs.length c) ex pf dt pl pd]) (fm [(0, wrH g p1 ao1 c1 T1), (1, []), (2, [])]) mixed (by kernel_rfl) (by kernel_rfl) (by decide) (aslL_ok (by decide)) (by (repeat (first | (apply prm_cons; (· (repeat (first | apply sel_here | apply sel_there)))) | apply List.Perm.nil )); done) ?_; (repeat (first | (apply HdM.val; rfl; rfl; (· first | apply gok_none ); (· first | (apply pv_ev; rfl) | (apply pv_fld; rfl) | (apply g_load; first | (apply pv_ld; rfl; (· (repeat (first | apply sel_here ))); rfl) ) )) )))
    (refine hm_eff (cs := [1]) rfl (by decide) rfl rfl (by first | exact gok_none | exact gok_run rfl rfl) (fun a ha => outc_mono (outc_bsl (by (repeat (first | apply Rws'.nil | (apply Rws'.one; rfl; rfl; rfl) )); done) rfl rfl rfl a ha) (fun v M h => by obtain ⟨b, h1, h2⟩ := h; exact ⟨[M], ⟨b, h1, congrArg (fun x => [x]) h2⟩, rfl, by simp⟩)) (⟨_, _, Exists.intro 0 (And.intro rfl rfl), rfl⟩) ?_; rintro v Ms ⟨b29, rfl, rfl⟩ _; simp only [setls, setl, reduceIte, Nat.reduceEqDiff]; (repeat (first | (apply HdM.val; rfl; rfl; (· first | fail ); (· first | fail )) )))
    (refine hm_eff (cs := [0, 1]) rfl (by decide) rfl rfl (by first | exact gok_none | exact gok_run rfl rfl) (fun a ha => outc_mono (outc_call (F1 := _) (T := fun v M => ∃ (p ao : Option Addr) (c : Nat), v = .pointer (some ⟨g, 0, none⟩) ∧ M = wrH g p ao c T2 ∧ WOk g p ao c T2) (hW2 b29) rfl (by (repeat (first | apply sub_nil )); done) (by first | exact fun _ h => h | (intro r hr; cases hr; done) | (simp; done) | exact fun _ h => List.mem_append_left _ h | (intro r hr; simp [hr]; done)) (by rintro v L' R' ⟨p', ao', c', rfl, rfl, _, hw'⟩; exact ⟨_, ⟨p', ao', c', rfl, rfl, hw'⟩, (by (repeat (first | (apply prm_cons; (· (repeat (first | apply sel_here )))) | apply List.Perm.nil )); done)⟩) a ha) (fun v M h => Exists.elim h fun p h => Exists.elim h fun ao h => Exists.elim h fun c h => ⟨[M, []], Exists.intro p (Exists.intro ao (Exists.intro c (And.intro h.1 (And.intro (congrArg (fun x => [x, []]) h.2.1) h.2.2)))), rfl, by simp⟩)) ((by obtain ⟨p, ao, c, h⟩ := WOk.ex g T2; exact ⟨_, _, Exists.intro p (Exists.intro ao (Exists.intro c (And.intro rfl (And.intro rfl h)))), rfl⟩)) ?_; rintro v Ms ⟨p2, ao2, c2, rfl, rfl, hw2⟩ _; simp only [setls, setl, reduceIte, Nat.reduceEqDiff]; (repeat (first | (apply HdM.val; rfl; rfl; (· first | apply gok_none ); (· first | (apply pv_ev; rfl) | (apply pv_fld; rfl) | (apply g_load; first | (apply pv_ld; rfl; (· (repeat (first | apply sel_here ))); rfl) ) )) )))
    (refine hm_eff (cs := [2]) rfl (by decide) rfl rfl (by first | exact gok_none | exact gok_run rfl rfl) (fun a ha => outc_mono (outc_bsl (by (repeat (first | apply Rws'.nil | (apply Rws'.one; rfl; rfl; rfl) )); done) rfl rfl rfl a ha) (fun v M h => by obtain ⟨b, h1, h2⟩ := h; exact ⟨[M], ⟨b, h1, congrArg (fun x => [x]) h2⟩, rfl, by simp⟩)) (⟨_, _, Exists.intro 0 (And.intro rfl rfl), rfl⟩) ?_; rintro v Ms ⟨b35, rfl, rfl⟩ _; simp only [setls, setl, reduceIte, Nat.reduceEqDiff]; (repeat (first | (apply HdM.val; rfl; rfl; (· first | fail ); (· first | fail )) )))
    (refine hm_eff (cs := [0, 2]) rfl (by decide) rfl rfl (by first | exact gok_none | exact gok_run rfl rfl) (fun a ha => outc_mono (outc_call (F1 := _) (T := fun v M => ∃ (p ao : Option Addr) (c : Nat), v = .pointer (some ⟨g, 0, none⟩) ∧ M = wrH g p ao c T3 ∧ WOk g p ao c T3) (hW3 c2 p2 ao2 hw2 b35) rfl (by (repeat (first | apply sub_nil )); done) (by first | exact fun _ h => h | (intro r hr; cases hr; done) | (simp; done) | exact fun _ h => List.mem_append_left _ h | (intro r hr; simp [hr]; done)) (by rintro v L' R' ⟨p', ao', c', rfl, rfl, _, hw'⟩; exact ⟨_, ⟨p', ao', c', rfl, rfl, hw'⟩, (by (repeat (first | (apply prm_cons; (· (repeat (first | apply sel_here )))) | apply List.Perm.nil )); done)⟩) a ha) (fun v M h => Exists.elim h fun p h => Exists.elim h fun ao h => Exists.elim h fun c h => ⟨[M, []], Exists.intro p (Exists.intro ao (Exists.intro c (And.intro h.1 (And.intro (congrArg (fun x => [x, []]) h.2.1) h.2.2)))), rfl, by simp⟩)) ((by obtain ⟨p, ao, c, h⟩ := WOk.ex g T3; exact ⟨_, _, Exists.intro p (Exists.intro ao (Exists.intro c (And.intro rfl (And.intro rfl h)))), rfl⟩)) ?_; rintro v Ms ⟨p3, ao3, c3, rfl, rfl, hw3⟩ _; simp only [setls, setl, reduceIte, Nat.reduceEqDiff]; (repeat (first | (apply HdM.val; rfl; rfl; (· first | apply gok_none ); (· first | (apply pv_ev; rfl) | (apply pv_fld; rfl) | (apply g_load; first | (apply pv_ld; rfl; (· (repeat (first | apply sel_here ))); rfl) ) )) )))
    (refine hm_eff (cs := [0]) rfl (by decide) rfl rfl (by first | exact gok_none | exact gok_run rfl rfl) (fun a ha => outc_mono (outc_call (F1 := _) (T := fun v M => ∃ (p ao : Option Addr) (c : Nat), v = .pointer (some ⟨g, 0, none⟩) ∧ M = wrH g p ao c T4 ∧ WOk g p ao c T4) (hW4 c3 p3 ao3 hw3) rfl (by (repeat (first | apply sub_nil )); done) (by first | exact fun _ h => h | (intro r hr; cases hr; done) | (simp; done) | exact fun _ h => List.mem_append_left _ h | (intro r hr; simp [hr]; done)) (by rintro v L' R' ⟨p', ao', c', rfl, rfl, _, hw'⟩; exact ⟨_, ⟨p', ao', c', rfl, rfl, hw'⟩, (by (repeat (first | (apply prm_cons; (· (repeat (first | apply sel_here )))) | apply List.Perm.nil )); done)⟩) a ha) (fun v M h => by obtain ⟨p, ao, c, h1, h2, h3⟩ := h; exact ⟨[M], ⟨p, ao, c, h1, congrArg (fun x => [x]) h2, h3⟩, rfl, by simp⟩)) ((by obtain ⟨p, ao, c, h⟩ := WOk.ex g T4; exact ⟨_, _, Exists.intro p (Exists.intro ao (Exists.intro c (And.intro rfl (And.intro rfl h)))), rfl⟩)) ?_; rintro v Ms ⟨p4, ao4, c4, rfl, rfl, hw4⟩ _; simp only [setls, setl, reduceIte, Nat.reduceEqDiff]; (repeat (first | fail )))
    (refine HdM.nil ?_; intro H hH; simp only [Hp, fm, look, setl, List.flatMap_cons, List.flatMap_nil, reduceIte, Nat.reduceEqDiff, Option.getD_some, List.append_nil, List.cons_append, List.nil_append] at hH; subst hH)
    exact cut_end ⟨p4, ao4, c4, rfl, hw4⟩ (wk_mk (by (repeat (first | apply wkf_nil | (apply wkf_cons; rfl))); done) (by (repeat (first | apply sub_nil | (apply sub_cons; (· (repeat (first | apply sel_here | apply sel_there)))))); done) (by first | exact fun _ h => h | (intro r hr; cases hr; done) | (simp; done) | exact fun _ h => List.mem_append_left _ h | (intro r hr; simp [hr]; done)))
  rintro st' ⟨p4, ao4, c4, rfl, hw4⟩
  clear hW2 hW3 hW4 hw1
  obtain ⟨T5, hT5⟩ : ∃ T5, T4 ++ (if ex = true then numS 2 pf ++ numS 2 (dt.size / 4 : Nat) ++ dt else E0) = T5 := ⟨_, rfl⟩
  have z5 : T5.size ≤ 200000 := by
    have e0 : E0.size = 0 := rfl
    rw [← hT5]
    cases ex
    · simp only [ByteArray.size_append, z4, Bool.false_eq_true, if_false, e0]; omega
    · simp only [ByteArray.size_append, z4, if_true, numS_size]; omega
  (repeat (first | ((first | (apply wo_v; rfl) ); (· first | (apply pv_ev; rfl) | (apply pv_fld; rfl) | (apply g_load; first | (apply pv_ld; rfl; (· (repeat (first | apply sel_here | apply sel_there))); rfl) ) )) | apply wo_nil | apply wc_seq | apply wc_region | (apply wc_true; rfl) | (apply wc_false; rfl) | (apply a_dec_t; rfl; (· first | assumption | omega)) | (apply a_dec_f; rfl; (· first | assumption | omega)) | (apply a_dec_t; rfl; (· first | (simp; done) | (simp; omega))) | (apply a_dec_f; rfl; (· first | (simp; done) | (simp; omega))) ))
  refine wc_join0 (fun st' => ∃ (p' ao' : Option Addr) (c' : Nat), st' = ⟨[(1, .pointer (some ⟨bp, 0, none⟩)), (3, .pointer (some ⟨g, 0, none⟩))], wrH g p' ao' c' T5 ++ [rpI bp mrk kd sq t ss (.slice ao cs.length c) ex pf dt pl pd], R⟩ ∧ WOk g p' ao' c' T5) ?_ ?_
  · cases ex with
    | false =>
      rw [if_neg (by simp), append_E0] at hT5
      subst hT5
      (repeat (first | apply wc_skip | (apply wc_true; rfl) | (apply wc_false; rfl) ))
      exact cut_end ⟨p4, ao4, c4, rfl, hw4⟩ (wk_mk (by (repeat (first | apply wkf_nil | (apply wkf_cons; rfl))); done) (by (repeat (first | apply sub_nil )); done) (by first | exact fun _ h => h | (intro r hr; cases hr; done) | (simp; done) | exact fun _ h => List.mem_append_left _ h | (intro r hr; simp [hr]; done)))
    | true =>
      rw [if_pos rfl] at hT5
      have hq : ((dt.size / 4 : Nat) : Int) = (dt.size : Int) / 4 := by omega
      obtain ⟨T6, hT6⟩ : ∃ T6, T4 ++ numsS 2 [pf, (dt.size : Int) / 4] = T6 := ⟨_, rfl⟩
      have z6 : T6.size = T4.size + 4 := by rw [← hT6, ByteArray.size_append, numsS_size]; rfl
      have hT7 : T6 ++ catS [dt] = T5 := by
        rw [← hT5, ← hT6, hq]
        show T4 ++ (numS 2 pf ++ (numS 2 ((dt.size : Int) / 4) ++ E0)) ++ (dt ++ E0) = _
        simp only [append_E0, ByteArray.append_assoc]
      have hW5 := fun bl => wU16 g c4 bl 2 p4 ao4 T4 [pf, (dt.size : Int) / 4] (by intro y hy; simp only [List.mem_cons, List.not_mem_nil, or_false] at hy; rcases hy with rfl | rfl; exact h5; omega) (by simp) hw4 (by omega)
      rw [hT6] at hW5
      have hW6 := fun c2 p2 ao2 hw2 bl => wPut g c2 bl 1 p2 ao2 T6 [dt] (by intro y hy; rcases List.mem_singleton.1 hy with rfl; omega) (by simp) hw2 (by omega)
      rw [hT7] at hW6
      (repeat (first | (apply wc_true; rfl) ))
      (refine wc_regM [0, 1, 2] (aslL [(7, [1]), (8, [0, 1]), (11, [2]), (12, [0, 2])]) (tblC5 g pf ((dt.size : Int) / 4) dt T6 T5) ([rpI bp mrk kd sq t ss (.slice ao cs.length c) true pf dt pl pd]) (fm [(0, wrH g p4 ao4 c4 T4), (1, []), (2, [])]) mixed (by kernel_rfl) (by kernel_rfl) (by decide) (aslL_ok (by decide)) (by (repeat (first | (apply prm_cons; (· (repeat (first | apply sel_here | apply sel_there)))) | apply List.Perm.nil )); done) ?_; (repeat (first | (apply HdM.val; rfl; rfl; (· first | apply gok_none ); (· first | (apply pv_ev; rfl) | (apply pv_fld; rfl) | (apply g_load; first | (apply pv_ld; rfl; (· (repeat (first | apply sel_here ))); rfl) ) | (apply g_bin; first | (apply a_quo; rfl; rfl; infer_instance; omega) ) | (apply g_bi; first | (apply pv_len_str; rfl) ) | (apply g_conv; first | (apply a_conv; rfl; infer_instance; infer_instance; infer_instance; omega) ) )) )))
      (refine hm_eff (cs := [1]) rfl (by decide) rfl rfl (by first | exact gok_none | exact gok_run rfl rfl) (fun a ha => outc_mono (outc_bsl (by (repeat (first | apply Rws'.nil | (apply Rws'.one; rfl; rfl; rfl) )); done) rfl rfl rfl a ha) (fun v M h => by obtain ⟨b, h1, h2⟩ := h; exact ⟨[M], ⟨b, h1, congrArg (fun x => [x]) h2⟩, rfl, by simp⟩)) (⟨_, _, Exists.intro 0 (And.intro rfl rfl), rfl⟩) ?_; rintro v Ms ⟨b49, rfl, rfl⟩ _; simp only [setls, setl, reduceIte, Nat.reduceEqDiff]; (repeat (first | (apply HdM.val; rfl; rfl; (· first | fail ); (· first | fail )) )))
      (refine hm_eff (cs := [0, 1]) rfl (by decide) rfl rfl (by first | exact gok_none | exact gok_run rfl rfl) (fun a ha => outc_mono (outc_call (F1 := _) (T := fun v M => ∃ (p ao : Option Addr) (c : Nat), v = .pointer (some ⟨g, 0, none⟩) ∧ M = wrH g p ao c T6 ∧ WOk g p ao c T6) (hW5 b49) rfl (by (repeat (first | apply sub_nil )); done) (by first | exact fun _ h => h | (intro r hr; cases hr; done) | (simp; done) | exact fun _ h => List.mem_append_left _ h | (intro r hr; simp [hr]; done)) (by rintro v L' R' ⟨p', ao', c', rfl, rfl, _, hw'⟩; exact ⟨_, ⟨p', ao', c', rfl, rfl, hw'⟩, (by (repeat (first | (apply prm_cons; (· (repeat (first | apply sel_here )))) | apply List.Perm.nil )); done)⟩) a ha) (fun v M h => Exists.elim h fun p h => Exists.elim h fun ao h => Exists.elim h fun c h => ⟨[M, []], Exists.intro p (Exists.intro ao (Exists.intro c (And.intro h.1 (And.intro (congrArg (fun x => [x, []]) h.2.1) h.2.2)))), rfl, by simp⟩)) ((by obtain ⟨p, ao, c, h⟩ := WOk.ex g T6; exact ⟨_, _, Exists.intro p (Exists.intro ao (Exists.intro c (And.intro rfl (And.intro rfl h)))), rfl⟩)) ?_; rintro v Ms ⟨p5, ao5, c5, rfl, rfl, hw5⟩ _; simp only [setls, setl, reduceIte, Nat.reduceEqDiff]; (repeat (first | (apply HdM.val; rfl; rfl; (· first | apply gok_none ); (· first | (apply pv_ev; rfl) | (apply pv_fld; rfl) | (apply g_load; first | (apply pv_ld; rfl; (· (repeat (first | apply sel_here ))); rfl) ) )) )))
      (refine hm_eff (cs := [2]) rfl (by decide) rfl rfl (by first | exact gok_none | exact gok_run rfl rfl) (fun a ha => outc_mono (outc_bsl (by (repeat (first | apply Rws'.nil | (apply Rws'.one; rfl; rfl; rfl) )); done) rfl rfl rfl a ha) (fun v M h => by obtain ⟨b, h1, h2⟩ := h; exact ⟨[M], ⟨b, h1, congrArg (fun x => [x]) h2⟩, rfl, by simp⟩)) (⟨_, _, Exists.intro 0 (And.intro rfl rfl), rfl⟩) ?_; rintro v Ms ⟨b53, rfl, rfl⟩ _; simp only [setls, setl, reduceIte, Nat.reduceEqDiff]; (repeat (first | (apply HdM.val; rfl; rfl; (· first | fail ); (· first | fail )) )))
      (refine hm_eff (cs := [0, 2]) rfl (by decide) rfl rfl (by first | exact gok_none | exact gok_run rfl rfl) (fun a ha => outc_mono (outc_call (F1 := _) (T := fun v M => ∃ (p ao : Option Addr) (c : Nat), v = .pointer (some ⟨g, 0, none⟩) ∧ M = wrH g p ao c T5 ∧ WOk g p ao c T5) (hW6 c5 p5 ao5 hw5 b53) rfl (by (repeat (first | apply sub_nil )); done) (by first | exact fun _ h => h | (intro r hr; cases hr; done) | (simp; done) | exact fun _ h => List.mem_append_left _ h | (intro r hr; simp [hr]; done)) (by rintro v L' R' ⟨p', ao', c', rfl, rfl, _, hw'⟩; exact ⟨_, ⟨p', ao', c', rfl, rfl, hw'⟩, (by (repeat (first | (apply prm_cons; (· (repeat (first | apply sel_here )))) | apply List.Perm.nil )); done)⟩) a ha) (fun v M h => Exists.elim h fun p h => Exists.elim h fun ao h => Exists.elim h fun c h => ⟨[M, []], Exists.intro p (Exists.intro ao (Exists.intro c (And.intro h.1 (And.intro (congrArg (fun x => [x, []]) h.2.1) h.2.2)))), rfl, by simp⟩)) ((by obtain ⟨p, ao, c, h⟩ := WOk.ex g T5; exact ⟨_, _, Exists.intro p (Exists.intro ao (Exists.intro c (And.intro rfl (And.intro rfl h)))), rfl⟩)) ?_; rintro v Ms ⟨p6, ao6, c6, rfl, rfl, hw6⟩ _; simp only [setls, setl, reduceIte, Nat.reduceEqDiff]; (repeat (first | fail )))
      (refine HdM.nil ?_; intro H hH; simp only [Hp, fm, look, setl, List.flatMap_cons, List.flatMap_nil, reduceIte, Nat.reduceEqDiff, Option.getD_some, List.append_nil, List.cons_append, List.nil_append] at hH; subst hH)
      (repeat (first | fail ))
      exact cut_end ⟨p6, ao6, c6, rfl, hw6⟩ (wk_mk (by (repeat (first | apply wkf_nil | (apply wkf_cons; rfl))); done) (by (repeat (first | apply sub_nil | (apply sub_cons; (· (repeat (first | apply sel_here | apply sel_there)))))); done) (by first | exact fun _ h => h | (intro r hr; cases hr; done) | (simp; done) | exact fun _ h => List.mem_append_left _ h | (intro r hr; simp [hr]; done)))
  rintro st' ⟨p5, ao5, c5, rfl, hw5⟩
  obtain ⟨T6, hT6⟩ : ∃ T6, T5 ++ catS [pl] = T6 := ⟨_, rfl⟩
  have hW6 := fun bl => wPut g c5 bl 1 p5 ao5 T5 [pl] (by intro y hy; rcases List.mem_singleton.1 hy with rfl; omega) (by simp) hw5 (by omega)
  rw [hT6] at hW6
  have z6 : T6.size ≤ 400000 := by
    rw [← hT6, ByteArray.size_append]
    have : (catS [pl]).size = pl.size := congrArg ByteArray.size (append_E0 pl)
    omega
  (repeat (first | ((first | (apply wo_v; rfl) ); (· first | (apply pv_ev; rfl) | (apply pv_fld; rfl) | (apply g_load; first | (apply pv_ld; rfl; (· (repeat (first | apply sel_here | apply sel_there))); rfl) ) )) | apply wc_seq | apply wc_region | (apply wo_bsl; (· (repeat (first | apply Rws'.nil | (apply Rws'.one; rfl; rfl; rfl) ))); rfl; rfl; rfl; rfl; intro bx) ))
  (refine wo_call (hW6 _) rfl (by (repeat (first | apply sub_nil | (apply sub_cons; (· (repeat (first | apply sel_here | apply sel_there)))))); done) (by first | exact fun _ h => h | (intro r hr; cases hr; done) | (simp; done) | exact fun _ h => List.mem_append_left _ h | (intro r hr; simp [hr]; done)) rfl ?_; rintro v L' R' ⟨p6, ao6, c6, rfl, rfl, rfl, hw6⟩ H' hH RR hR; simp only [List.cons_append, List.nil_append] at hH hR; subst hH; have hR := hR.symm; subst hR)
  (repeat (first | ((first | (apply wo_v; rfl) ); (· first | (apply pv_ev; rfl) | (apply pv_fld; rfl) | (apply g_load; first | (apply pv_ld; rfl; (· (repeat (first | apply sel_here | apply sel_there))); rfl) ) )) | apply wo_nil | apply wc_seq | apply wc_region ))
  have hfin : T1 ++ (numS 2 sq ++ numS 4 t ++ numS 4 ss) ++ numsS 4 cs ++ (if ex = true then numS 2 pf ++ numS 2 (dt.size / 4 : Nat) ++ dt else E0) ++ pl = T6 := by
    rw [← hT6, ← hT5, ← hT4, ← hT3, ← hT2]
    show _ = T1 ++ (numS 2 sq ++ E0) ++ (numS 4 t ++ (numS 4 ss ++ E0)) ++ numsS 4 cs ++ _ ++ (pl ++ E0)
    simp only [append_E0, ByteArray.append_assoc]
  rw [hfin]
  refine wc_block ?_
  refine wc_loop' (fun q st => ∃ (i : Nat) (p' ao' : Option Addr) (c' : Nat), q = pd.toNat - i ∧ (i : Int) ≤ pd ∧ st = ⟨[(1, .pointer (some ⟨bp, 0, none⟩)), (3, .pointer (some ⟨g, 0, none⟩)), (60, .int .i64 pd), (61, .int .i64 i)], wrH g p' ao' c' (T6 ++ pdB pd i) ++ [rpI bp mrk kd sq t ss (.slice ao cs.length c) ex pf dt pl pd], R⟩ ∧ WOk g p' ao' c' (T6 ++ pdB pd i)) ⟨0, p6, ao6, c6, rfl, hpd.1, by rw [pdB, append_E0], by rw [pdB, append_E0]; exact hw6⟩ (wk_mk (by (repeat (first | apply wkf_nil | (apply wkf_cons; rfl))); done) (by (repeat (first | apply sub_nil )); done) (by first | exact fun _ h => h | (intro r hr; cases hr; done) | (simp; done) | exact fun _ h => List.mem_append_left _ h | (intro r hr; simp [hr]; done))) ?_
  clear hw6 p6 ao6 c6
  rintro q st ⟨i, p6, ao6, c6, rfl, hi, rfl, hw6⟩
  by_cases hlt : (i : Int) < pd
  · obtain ⟨y, hy⟩ : ∃ y : Int, (if (i : Int) = pd - 1 then pd else 0) = y := ⟨_, rfl⟩
    have hq := gFlag (decide ((i : Int) = pd - 1)) pd y (by rw [← hy]; simp)
    have hyb : 0 ≤ y ∧ y ≤ 255 := by rw [← hy]; split <;> omega
    have hnx : T6 ++ pdB pd (i + 1) = (T6 ++ pdB pd i) ++ b1 y := by rw [pdB, hy, ByteArray.append_assoc]
    have hz8 : (T6 ++ pdB pd i).size ≤ 500000 := by rw [ByteArray.size_append, pdB_size]; omega
    generalize T6 ++ pdB pd i = T7 at hw6 hnx hz8 ⊢
    have hW7 := fun bl => wU8 g c6 bl 1 p6 ao6 T7 (b1 y) hw6 (by rw [b1_size]; omega) (by rw [b1_size]; omega)
    simp only [b1_size] at hW7
    rw [← hnx] at hW7
    (repeat (first | ((first | (apply wo_v; rfl) ); (· first | (apply pv_ev; rfl) )) | apply wo_nil | apply wc_seq | apply wc_region | apply wc_skip | (apply wc_true; rfl) | (apply wc_false; rfl) | (apply a_dec_t; rfl; (· first | assumption | omega)) ))
    refine wc_block ?_
    (repeat (first | ((first | (apply wo_v; rfl) ); (· first | (apply pv_ev; rfl) | (apply pv_fld; rfl) | (apply g_load; first | (apply pv_ld; rfl; (· (repeat (first | apply sel_here | apply sel_there))); rfl) ) | (apply g_bin; first | (apply a_sub; rfl; rfl; infer_instance; omega) ) | (apply g_conv; first | (apply a_conv; rfl; infer_instance; infer_instance; infer_instance; omega) ) )) | apply wo_nil | apply wc_seq | apply wc_region ))
    (refine wo_call (hq) rfl (by (repeat (first | apply sub_nil )); done) (by first | exact fun _ h => h | (intro r hr; cases hr; done) | (simp; done) | exact fun _ h => List.mem_append_left _ h | (intro r hr; simp [hr]; done)) rfl ?_; rintro v L' R' ⟨rfl, rfl, rfl⟩ H' hH RR hR; simp only [List.cons_append, List.nil_append] at hH hR; subst hH; have hR := hR.symm; subst hR)
    (repeat (first | ((first | (apply wo_v; rfl) ); (· first | (apply pv_ev; rfl) )) | (apply wo_bsl; (· (repeat (first | apply Rws'.nil | (apply Rws'.one; rfl; rfl; rfl) ))); rfl; rfl; rfl; rfl; intro bx) ))
    rw [brows_one hyb]
    (refine wo_call (hW7 _) rfl (by (repeat (first | apply sub_nil | (apply sub_cons; (· (repeat (first | apply sel_here | apply sel_there)))))); done) (by first | exact fun _ h => h | (intro r hr; cases hr; done) | (simp; done) | exact fun _ h => List.mem_append_left _ h | (intro r hr; simp [hr]; done)) rfl ?_; rintro v L' R' ⟨p7, ao7, c7, rfl, rfl, rfl, hw7⟩ H' hH RR hR; simp only [List.cons_append, List.nil_append] at hH hR; subst hH; have hR := hR.symm; subst hR)
    (repeat (first | ((first | (apply wo_v; rfl) ); (· first | (apply pv_ev; rfl) | (apply g_bin; first | (apply a_add; rfl; rfl; infer_instance; omega) ) )) | apply wo_nil | apply wc_region ))
    exact loop_end ⟨i + 1, p7, ao7, c7, rfl, by omega, rfl, hw7⟩ (by omega) (wk_mk (by (repeat (first | apply wkf_nil | (apply wkf_cons; rfl))); done) (by (repeat (first | apply sub_nil )); done) (by first | exact fun _ h => h | (intro r hr; cases hr; done) | (simp; done) | exact fun _ h => List.mem_append_left _ h | (intro r hr; simp [hr]; done)))
  · have e : pd.toNat = i := by omega
    rw [e]
    (repeat (first | ((first | (apply wo_v; rfl) ); (· first | (apply pv_ev; rfl) )) | apply wo_nil | apply wc_seq | apply wc_region | (apply wc_exit; rfl) | (apply wc_true; rfl) | (apply wc_false; rfl) | (apply a_dec_t; rfl; (· first | assumption | omega)) | (apply a_dec_f; rfl; (· first | assumption | omega)) ))
    (refine wo_call (wText g c6 p6 ao6 _ hw6) rfl (by (repeat (first | apply sub_nil )); done) (by first | exact fun _ h => h | (intro r hr; cases hr; done) | (simp; done) | exact fun _ h => List.mem_append_left _ h | (intro r hr; simp [hr]; done)) rfl ?_; rintro v L' R' ⟨rfl, rfl, rfl⟩ H' hH RR hR; simp only [List.cons_append, List.nil_append] at hH hR; subst hH; have hR := hR.symm; subst hR)
    (repeat (first | ((first | (apply wo_v; rfl) ); (· first | (apply pv_ev; rfl) )) | apply wo_nil | apply wc_ret ))
    exact ret1 rfl rfl ⟨rfl, rfl, rfl⟩ ((by (repeat (first | apply sub_nil )); done) : List.Perm _ ([] ++ _)) (by first | exact fun _ h => h | (intro r hr; cases hr; done) | (simp; done) | exact fun _ h => List.mem_append_left _ h | (intro r hr; simp [hr]; done))
end Go.Proofs.Ytlhlidmhlhodiaa

/-
  Package rtp: plain laws of a packet's bytes.
-/
namespace Go.Proofs.Ytlhlidmhlhodiaa
set_option linter.unusedSimpArgs false
set_option linter.unusedVariables false
open Go.RowKit
set_option maxRecDepth 100000

theorem ext_all (s : ByteArray) (k : Nat) (h : k ≤ s.size) : s.extract 0 k ++ s.extract k s.size = s := by
  apply ByteArray.ext
  simp [ByteArray.data_extract]
theorem rdB_ok {s b r : ByteArray} {n : Int} (h : rdB s 0 n = (b, r, 0)) : s = b ++ r ∧ n = (b.size : Int) := by
  unfold rdB at h
  rw [if_neg (by simp)] at h
  split at h
  · cases h
  · split at h
    · cases h
    · rename_i h1 h2
      have e1 : s.extract 0 n.toNat = b := congrArg (fun x => x.1) h
      have e2 : s.extract n.toNat s.size = r := congrArg (fun x => x.2.1) h
      refine ⟨?_, ?_⟩
      · rw [← e1, ← e2, ext_all s n.toNat (by omega)]
      · rw [← e1, ByteArray.size_extract]; omega
attribute [local irreducible] ByteArray.extract
theorem last_split {k : Nat} {b : ByteArray} (h : b.size = k + 1) : ∃ b' x, b = b' ++ b1 x ∧ 0 ≤ x ∧ x ≤ 255 ∧ b'.size = k := by
  have e : b.data.toList.length = k + 1 := by simpa using h
  obtain ⟨l, u, hl⟩ : ∃ l u, b.data.toList = l ++ [u] := ⟨b.data.toList.dropLast, b.data.toList.getLast (by intro h0; rw [h0] at e; cases e), (List.dropLast_concat_getLast _).symm⟩
  refine ⟨⟨l.toArray⟩, (u.toNat : Int), ?_, by omega, by have := u.toNat_lt; omega, ?_⟩
  · have : b1 (u.toNat : Int) = ⟨#[u]⟩ := by simp [b1]
    rw [this]
    apply ByteArray.ext
    apply Array.toList_inj.1
    simp [hl]
  · rw [hl, List.length_append] at e
    simp only [List.length_cons, List.length_nil] at e
    show l.toArray.size = k
    simp; omega
theorem num_bytes : ∀ (k : Nat) (b : ByteArray), b.size = k → numS k (valK b k) = b
  | 0, b, h => (size_zero h).symm
  | k + 1, b, h => by
    obtain ⟨b', x, rfl, h1, h2, h3⟩ := last_split h
    have e := valK_b1 b' ⟨h1, h2⟩
    rw [h3] at e
    rw [e]
    show numS k ((valK b' k * 256 + x) / 256) ++ b1 ((valK b' k * 256 + x) % 256) = _
    rw [show (valK b' k * 256 + x) / 256 = valK b' k by omega, show (valK b' k * 256 + x) % 256 = x by omega, num_bytes k b' h3]
theorem val_num1 {x : Int} (h : 0 ≤ x ∧ x ≤ 255) : valK (numS 1 x) 1 = x := by rw [numS1 h]; exact val_b1 h
/-- what is read stands in front -/
theorem tK_ok {k : Nat} {s r : ByteArray} {x : Int} (h : tK k (s, 0) = (x, r, 0)) : s = numS k x ++ r ∧ valK (numS k x) k = x := by
  unfold tK at h
  rcases hq : rdB s 0 k with ⟨b, r2, e2⟩
  dsimp only at h
  rw [hq] at h
  dsimp only at h
  have e1 : valK b b.size = x := congrArg (fun x => x.1) h
  have e3 : r2 = r := congrArg (fun x => x.2.1) h
  have e4 : e2 = 0 := congrArg (fun x => x.2.2) h
  subst e3 e4
  obtain ⟨g1, g2⟩ := rdB_ok hq
  have hk : b.size = k := by omega
  rw [hk] at e1
  subst e1
  rw [num_bytes k b hk]
  exact ⟨g1, rfl⟩
theorem tK_frontN (k : Nat) {x : Int} (z : ByteArray) (hv : valK (numS k x) k = x) : tK k (numS k x ++ z, 0) = (x, z, 0) := by
  unfold tK
  dsimp only
  rw [rdB_front (numS k x) z k (by rw [numS_size])]
  dsimp only
  rw [numS_size, hv]
theorem tK_front1 {x : Int} (h : 0 ≤ x ∧ x ≤ 255) (z : ByteArray) : tK 1 (numS 1 x ++ z, 0) = (x, z, 0) := tK_frontN 1 z (val_num1 h)
theorem tK_front2 {x : Int} (h : 0 ≤ x ∧ x ≤ 65535) (z : ByteArray) : tK 2 (numS 2 x ++ z, 0) = (x, z, 0) := tK_frontN 2 z (val_num2 h)
theorem tK_front4 {x : Int} (h : 0 ≤ x ∧ x ≤ 4294967295) (z : ByteArray) : tK 4 (numS 4 x ++ z, 0) = (x, z, 0) := tK_frontN 4 z (val_num4 h)
theorem tK_more {k : Nat} {s r z : ByteArray} {x : Int} (h : tK k (s, 0) = (x, r, 0)) : tK k (s ++ z, 0) = (x, r ++ z, 0) := by
  obtain ⟨h1, h2⟩ := tK_ok h
  rw [h1, ByteArray.append_assoc]
  exact tK_frontN k _ h2
theorem tK_z {k : Int} {r : Rs} (h : (tK k r).2.2 = 0) : r.2 = 0 := by
  by_cases h0 : r.2 = 0
  · exact h0
  · rw [tK_err h0] at h; exact h
theorem tK_01 {k : Int} {r : Rs} (hk : 0 ≤ k) (h : r.2 = 0 ∨ r.2 = 1) : (tK k r).2.2 = 0 ∨ (tK k r).2.2 = 1 := by
  unfold tK rdB
  dsimp only
  rcases h with h | h
  · rw [if_neg (by simp [h]), if_neg (by omega)]
    split
    · exact .inr rfl
    · exact .inl rfl
  · rw [if_pos (by simp [h])]; exact .inr h
theorem csN_front (cs : List Int) (h6 : ∀ z ∈ cs, 0 ≤ z ∧ z ≤ 4294967295) : ∀ (i : Nat) (z : ByteArray), i ≤ cs.length → csN (numsS 4 (cs.take i) ++ z, 0) i = (cs.take i, z, 0)
  | 0, z, _ => by rw [List.take_zero]; show ([], (E0 ++ z, 0)) = _; rw [E0_append]
  | i + 1, z, h => by
    have he := List.getElem?_eq_getElem (show i < cs.length by omega)
    rw [numsS_take he, ByteArray.append_assoc, csN, csN_front cs h6 i _ (by omega)]
    dsimp only
    rw [tK_front4 (h6 _ (List.getElem_mem _)), List.take_add_one, he]
    rfl
theorem csN_z {r : Rs} : ∀ {n : Nat}, (csN r n).2.2 = 0 → r.2 = 0
  | 0, h => h
  | n + 1, h => by rw [csN] at h; exact csN_z (tK_z h)
theorem csN_01 {r : Rs} (h : r.2 = 0 ∨ r.2 = 1) : ∀ n : Nat, (csN r n).2.2 = 0 ∨ (csN r n).2.2 = 1
  | 0 => h
  | n + 1 => by rw [csN]; exact tK_01 (by omega) (csN_01 h n)
theorem csN_ok {s : ByteArray} : ∀ {n : Nat} {cs : List Int} {r : ByteArray}, csN (s, 0) n = (cs, r, 0) → s = numsS 4 cs ++ r ∧ cs.length = n ∧ ∀ z ∈ cs, 0 ≤ z ∧ z ≤ 4294967295
  | 0, cs, r, h => by
    have e1 : ([] : List Int) = cs := congrArg (fun x => x.1) h
    have e2 : s = r := congrArg (fun x => x.2.1) h
    subst e1 e2
    exact ⟨(E0_append _).symm, rfl, (fun z hz => by cases hz)⟩
  | n + 1, cs, r, h => by
    rw [csN] at h
    have hz : (csN (s, 0) n).2.2 = 0 := tK_z (congrArg (fun x => x.2.2) h)
    rcases hq : csN (s, 0) n with ⟨c2, r2, e2⟩
    rw [hq] at h hz
    dsimp only at h hz
    subst hz
    obtain ⟨g1, g2, g3⟩ := csN_ok hq
    have hb := tK4_b (r2, 0)
    rcases hq2 : tK 4 (r2, 0) with ⟨x, r3, e3⟩
    rw [hq2] at h hb
    dsimp only at h hb
    have e1 : c2 ++ [x] = cs := congrArg (fun x => x.1) h
    have e4 : r3 = r := congrArg (fun x => x.2.1) h
    have e5 : e3 = 0 := congrArg (fun x => x.2.2) h
    subst e1 e4 e5
    obtain ⟨g4, _⟩ := tK_ok (k := 4) hq2
    refine ⟨?_, by simp [g2], fun z hz => ?_⟩
    · rw [g1, g4, numsS_append, numsS_one, ByteArray.append_assoc]
    · rcases List.mem_append.1 hz with hz | hz
      · exact g3 z hz
      · rcases List.mem_singleton.1 hz with rfl; exact hb
theorem csN_more {s z : ByteArray} {n : Nat} {cs : List Int} {r : ByteArray} (h : csN (s, 0) n = (cs, r, 0)) : csN (s ++ z, 0) n = (cs, r ++ z, 0) := by
  obtain ⟨h1, h2, h3⟩ := csN_ok h
  have := csN_front cs h3 n (r ++ z) (by omega)
  rw [← h2, List.take_length] at this
  rw [h1, ByteArray.append_assoc, ← h2]; exact this
def exT (b : Bool) (pf : Int) (dt : ByteArray) : ByteArray := if b = true then numS 2 pf ++ numS 2 (dt.size / 4 : Nat) ++ dt else E0
theorem exR_front {b : Bool} {pf : Int} {dt : ByteArray} (h : b = true → 0 ≤ pf ∧ pf ≤ 65535 ∧ dt.size % 4 = 0 ∧ dt.size / 4 ≤ 65535) (h0 : b = false → pf = 0 ∧ dt = E0) (z : ByteArray) : exR b (exT b pf dt ++ z, 0) = (pf, dt, z, 0) := by
  cases b with
  | false =>
    obtain ⟨rfl, rfl⟩ := h0 rfl
    unfold exR exT
    simp only [Bool.false_eq_true, if_false, E0_append]
    rfl
  | true =>
    obtain ⟨h1, h2, h3, h4⟩ := h rfl
    unfold exR exT
    rw [if_pos rfl, if_pos rfl, ByteArray.append_assoc, ByteArray.append_assoc, tK_front2 ⟨h1, h2⟩]
    dsimp only
    rw [tK_front2 (x := ((dt.size / 4 : Nat) : Int)) (by omega)]
    dsimp only
    rw [rdB_front dt z _ (by omega)]
theorem exR_z {b : Bool} {r : Rs} (h : (exR b r).2.2.2 = 0) : r.2 = 0 := by
  by_cases h0 : r.2 = 0
  · exact h0
  · rw [exR_err h0] at h; exact h
theorem exR_ok {b : Bool} {s r : ByteArray} {pf : Int} {dt : ByteArray} (h : exR b (s, 0) = (pf, dt, r, 0)) : s = exT b pf dt ++ r ∧ (b = true → 0 ≤ pf ∧ pf ≤ 65535 ∧ dt.size % 4 = 0 ∧ dt.size / 4 ≤ 65535) ∧ (b = false → pf = 0 ∧ dt = E0) := by
  cases b with
  | false =>
    unfold exR at h
    rw [if_neg (by simp)] at h
    have e1 : (0 : Int) = pf := congrArg (fun x => x.1) h
    have e2 : ByteArray.empty = dt := congrArg (fun x => x.2.1) h
    have e3 : s = r := congrArg (fun x => x.2.2.1) h
    subst e1 e2 e3
    exact ⟨(E0_append _).symm, (fun h => by cases h), (fun _ => ⟨rfl, rfl⟩)⟩
  | true =>
    unfold exR at h
    rw [if_pos rfl] at h
    have v1 := tK2_b (s, 0)
    rcases q1 : tK 2 (s, 0) with ⟨p, r1, e1⟩
    rw [q1] at h v1
    dsimp only at h v1
    have v2 := tK2_b (r1, e1)
    rcases q2 : tK 2 (r1, e1) with ⟨l, r2, e2⟩
    rw [q2] at h v2
    dsimp only at h v2
    rcases q3 : rdB r2 e2 (4 * l) with ⟨d, r3, e3⟩
    rw [q3] at h
    dsimp only at h
    have g1 : p = pf := congrArg (fun x => x.1) h
    have g2 : d = dt := congrArg (fun x => x.2.1) h
    have g3 : r3 = r := congrArg (fun x => x.2.2.1) h
    have g4 : e3 = 0 := congrArg (fun x => x.2.2.2) h
    subst g1 g2 g3 g4
    have z2 : e2 = 0 := by
      by_cases h0 : e2 = 0
      · exact h0
      · unfold rdB at q3; rw [if_pos h0] at q3; exact congrArg (fun x => x.2.2) q3
    subst z2
    have z1 : e1 = 0 := tK_z (k := 2) (r := (r1, e1)) (by rw [q2])
    subst z1
    obtain ⟨t1, _⟩ := tK_ok (k := 2) q1
    obtain ⟨t2, _⟩ := tK_ok (k := 2) q2
    obtain ⟨t3, t4⟩ := rdB_ok q3
    have t5 : ((d.size / 4 : Nat) : Int) = l := by omega
    refine ⟨?_, (fun _ => ⟨v1.1, v1.2, by omega, by omega⟩), (fun h => by cases h)⟩
    unfold exT
    rw [if_pos rfl, t5, ByteArray.append_assoc, ByteArray.append_assoc, ← t3, ← t2, ← t1]
theorem exR_more {b : Bool} {s r z : ByteArray} {pf : Int} {dt : ByteArray} (h : exR b (s, 0) = (pf, dt, r, 0)) : exR b (s ++ z, 0) = (pf, dt, r ++ z, 0) := by
  obtain ⟨h1, h2, h3⟩ := exR_ok h
  rw [h1, ByteArray.append_assoc]
  exact exR_front h2 h3 _
theorem exR_01 {b : Bool} {r : Rs} (h : r.2 = 0 ∨ r.2 = 1) : (exR b r).2.2.2 = 0 ∨ (exR b r).2.2.2 = 1 := by
  unfold exR
  split
  · dsimp only
    have h2 := tK_01 (k := 2) (by omega) (tK_01 (k := 2) (by omega) h)
    have v := tK2_b (tK 2 r).2
    unfold rdB
    rcases h2 with h2 | h2
    · rw [if_neg (by simp [h2]), if_neg (by omega)]
      split
      · exact .inr rfl
      · exact .inl rfl
    · rw [if_pos (by simp [h2])]; exact .inr h2
  · exact h
end Go.Proofs.Ytlhlidmhlhodiaa

/-
  Package rtp: what is written is read, and what is read is written.
-/
namespace Go.Proofs.Ytlhlidmhlhodiaa
set_option linter.unusedSimpArgs false
set_option linter.unusedVariables false
open Go.RowKit
set_option maxRecDepth 100000
attribute [local irreducible] ByteArray.extract

abbrev txP (p : Rp) : ByteArray := txR p.mrk p.kd p.sq p.t p.ss p.cs p.ex p.pf p.dt p.pl p.pd
abbrev ckP (p : Rp) : Int := chkR p.kd p.cs.length p.ex p.pf p.dt p.pl p.pd
structure okR (p : Rp) : Prop where
  kd : 0 ≤ p.kd ∧ p.kd ≤ 255
  sq : 0 ≤ p.sq ∧ p.sq ≤ 65535
  t : 0 ≤ p.t ∧ p.t ≤ 4294967295
  ss : 0 ≤ p.ss ∧ p.ss ≤ 4294967295
  pf : 0 ≤ p.pf ∧ p.pf ≤ 65535
  cs : ∀ z ∈ p.cs, 0 ≤ z ∧ z ≤ 4294967295
structure Ck (p : Rp) : Prop where
  kd : p.kd ≤ 127
  pd : 0 ≤ p.pd ∧ p.pd ≤ 255
  cs : p.cs.length ≤ 15
  dt : p.dt.size % 4 = 0
  ex : p.ex = false → p.pf = 0 ∧ p.dt = E0
  len : lenM p.cs.length p.ex p.dt p.pl p.pd ≤ 1500
theorem ck_iff {p : Rp} : ckP p = 0 ↔ Ck p := by
  unfold ckP chkR
  constructor
  · intro h
    split at h
    · cases h
    · split at h
      · cases h
      · split at h
        · cases h
        · split at h
          · cases h
          · rename_i h1 h2 h3 h4
            refine ⟨by omega, by omega, by omega, ?_, ?_, by omega⟩
            · exact Classical.not_not.1 fun h => h3 (.inl h)
            · intro hx
              refine ⟨Classical.not_not.1 fun h => h3 (.inr ⟨hx, .inl h⟩), Classical.not_not.1 fun h => h3 (.inr ⟨hx, .inr h⟩)⟩
  · intro h
    rw [if_neg (by have := h.kd; have := h.pd; omega), if_neg (by have := h.cs; omega), if_neg, if_neg (by have := h.len; omega)]
    rintro (h1 | ⟨h1, h2 | h2⟩)
    · exact h1 h.dt
    · exact h2 (h.ex h1).1
    · exact h2 (h.ex h1).2
def fA (pd : Int) (ex : Bool) (n : Nat) : Int := 128 + bi (decide (0 < pd)) 32 + bi ex 16 + n
def tlR (pd : Int) : ByteArray := if 0 < pd then zrT (pd.toNat - 1) ++ numS 1 pd else E0
theorem tlR_size {pd : Int} (h : 0 ≤ pd) : (tlR pd).size = pd.toNat := by
  unfold tlR
  split
  · rw [ByteArray.size_append, zrT_size, numS_size]; omega
  · have : pd.toNat = 0 := by omega
    rw [this]; rfl
/-- the head's bytes ahead of what follows -/
def hdZ (p : Rp) (z : ByteArray) : ByteArray := numS 1 (fA p.pd p.ex p.cs.length) ++ (numS 1 (bi p.mrk 128 + p.kd) ++ (numS 2 p.sq ++ (numS 4 p.t ++ (numS 4 p.ss ++ (numsS 4 p.cs ++ (exT p.ex p.pf p.dt ++ z))))))
theorem hdZ_app (p : Rp) (y z : ByteArray) : hdZ p (y ++ z) = hdZ p y ++ z := by simp only [hdZ, ByteArray.append_assoc]
theorem hdZ_E (p : Rp) (z : ByteArray) : hdZ p z = hdZ p E0 ++ z := by rw [← hdZ_app, E0_append]
theorem exT_size (b : Bool) (pf : Int) (dt : ByteArray) : (exT b pf dt).size = if b = true then 4 + dt.size else 0 := by
  unfold exT
  cases b
  · rfl
  · simp only [if_true, ByteArray.size_append, numS_size]
theorem hdZ_size (p : Rp) (z : ByteArray) : (hdZ p z).size = 12 + 4 * p.cs.length + (if p.ex = true then 4 + p.dt.size else 0) + z.size := by
  simp only [hdZ, ByteArray.size_append, numS_size, numsS_size, exT_size]; omega
theorem txP_hd (p : Rp) : txP p = hdZ p (p.pl ++ tlR p.pd) := by
  unfold txP txR hdT hdZ fA tlR exT
  rw [csT_take p.cs _ (Nat.le_refl _), List.take_length]
  simp only [ByteArray.append_assoc]
def Parts (s : ByteArray) (a b sq t ss : Int) (cs : List Int) (pf : Int) (dt r : ByteArray) : Prop :=
  ∃ r1 r2 r3 r4 r5 r6, tK 1 (s, 0) = (a, r1, 0) ∧ tK 1 (r1, 0) = (b, r2, 0) ∧ tK 2 (r2, 0) = (sq, r3, 0) ∧ tK 4 (r3, 0) = (t, r4, 0) ∧ tK 4 (r4, 0) = (ss, r5, 0) ∧ csN (r5, 0) (a % 16).toNat = (cs, r6, 0) ∧ exR (decide (a / 16 % 2 = 1)) (r6, 0) = (pf, dt, r, 0)
theorem Parts.more {s : ByteArray} {a b sq t ss : Int} {cs : List Int} {pf : Int} {dt r : ByteArray} (h : Parts s a b sq t ss cs pf dt r) (z : ByteArray) : Parts (s ++ z) a b sq t ss cs pf dt (r ++ z) := by
  obtain ⟨r1, r2, r3, r4, r5, r6, h1, h2, h3, h4, h5, h6, h7⟩ := h
  exact ⟨r1 ++ z, r2 ++ z, r3 ++ z, r4 ++ z, r5 ++ z, r6 ++ z, tK_more (k := 1) h1, tK_more (k := 1) h2, tK_more (k := 2) h3, tK_more (k := 4) h4, tK_more (k := 4) h5, csN_more h6, exR_more h7⟩
theorem Parts.prR {s : ByteArray} {a b sq t ss : Int} {cs : List Int} {pf : Int} {dt r : ByteArray} (h : Parts s a b sq t ss cs pf dt r) (hs : s.size ≤ 1500) (ha : a / 64 = 2) :
    prR s = enR ⟨decide (127 < b), b % 128, sq, t, ss, cs, decide (a / 16 % 2 = 1), pf, dt, ByteArray.empty, 0⟩ (decide (a / 32 % 2 = 1)) (r, 0) := by
  obtain ⟨r1, r2, r3, r4, r5, r6, h1, h2, h3, h4, h5, h6, h7⟩ := h
  unfold Go.Proofs.Ytlhlidmhlhodiaa.prR
  rw [if_neg (by omega)]
  dsimp only
  rw [h1]; dsimp only
  rw [h2]; dsimp only
  rw [if_neg (fun h => h.2 ha), h3]; dsimp only
  rw [h4]; dsimp only
  rw [h5]; dsimp only
  rw [h6]; dsimp only
  rw [h7]
theorem Parts.bytes {s : ByteArray} {a b sq t ss : Int} {cs : List Int} {pf : Int} {dt r : ByteArray} (h : Parts s a b sq t ss cs pf dt r) :
    s = numS 1 a ++ (numS 1 b ++ (numS 2 sq ++ (numS 4 t ++ (numS 4 ss ++ (numsS 4 cs ++ (exT (decide (a / 16 % 2 = 1)) pf dt ++ r)))))) ∧ (0 ≤ a ∧ a ≤ 255) ∧ (0 ≤ b ∧ b ≤ 255) ∧ (0 ≤ sq ∧ sq ≤ 65535) ∧ (0 ≤ t ∧ t ≤ 4294967295) ∧ (0 ≤ ss ∧ ss ≤ 4294967295) ∧
      cs.length = (a % 16).toNat ∧ (∀ z ∈ cs, 0 ≤ z ∧ z ≤ 4294967295) ∧ (decide (a / 16 % 2 = 1) = true → 0 ≤ pf ∧ pf ≤ 65535 ∧ dt.size % 4 = 0 ∧ dt.size / 4 ≤ 65535) ∧ (decide (a / 16 % 2 = 1) = false → pf = 0 ∧ dt = E0) := by
  obtain ⟨r1, r2, r3, r4, r5, r6, h1, h2, h3, h4, h5, h6, h7⟩ := h
  have b1' := t1_b (s, 0)
  have b2' := t1_b (r1, 0)
  have b3 := tK2_b (r2, 0)
  have b4 := tK4_b (r3, 0)
  have b5 := tK4_b (r4, 0)
  rw [show t1 (s, 0) = tK 1 (s, 0) from rfl, h1] at b1'
  rw [show t1 (r1, 0) = tK 1 (r1, 0) from rfl, h2] at b2'
  rw [h3] at b3
  rw [h4] at b4
  rw [h5] at b5
  have g1 := (tK_ok (k := 1) h1).1
  have g2 := (tK_ok (k := 1) h2).1
  have g3 := (tK_ok (k := 2) h3).1
  have g4 := (tK_ok (k := 4) h4).1
  have g5 := (tK_ok (k := 4) h5).1
  obtain ⟨g6, g7, g8⟩ := csN_ok h6
  obtain ⟨g9, g10, g11⟩ := exR_ok h7
  exact ⟨by rw [← g9, ← g6, ← g5, ← g4, ← g3, ← g2, ← g1], b1', b2', b3, b4, b5, g7, g8, g10, g11⟩
theorem parts_hd {p : Rp} (hr : okR p) (hk : p.kd ≤ 127) (hc : p.cs.length ≤ 15) (hd : p.dt.size % 4 = 0 ∧ p.dt.size / 4 ≤ 65535) (he : p.ex = false → p.pf = 0 ∧ p.dt = E0) (z : ByteArray) :
    Parts (hdZ p z) (fA p.pd p.ex p.cs.length) (bi p.mrk 128 + p.kd) p.sq p.t p.ss p.cs p.pf p.dt z := by
  have o1 := bi_or (decide (0 < p.pd)) 32
  have o2 := bi_or p.ex 16
  have o3 := bi_or p.mrk 128
  have hk0 := hr.kd
  have e16 : (fA p.pd p.ex p.cs.length % 16).toNat = p.cs.length := by unfold fA; omega
  have eex : decide (fA p.pd p.ex p.cs.length / 16 % 2 = 1) = p.ex := by
    unfold fA
    have o1' := o1
    generalize bi (decide (0 < p.pd)) 32 = y at o1' ⊢
    cases h : p.ex
    · rw [decide_eq_false_iff_not]; simp only [bi, Bool.false_eq_true, if_false]; omega
    · rw [decide_eq_true_eq]; simp only [bi, if_true]; omega
  refine ⟨_, _, _, _, _, exT p.ex p.pf p.dt ++ z, tK_front1 (by unfold fA; omega) _, tK_front1 (by omega) _, tK_front2 hr.sq _, tK_front4 hr.t _, tK_front4 hr.ss _, ?_, ?_⟩
  · rw [e16]
    have := csN_front p.cs hr.cs p.cs.length (exT p.ex p.pf p.dt ++ z) (Nat.le_refl _)
    rwa [List.take_length] at this
  · rw [eex]; exact exR_front (fun _ => ⟨hr.pf.1, hr.pf.2, hd.1, hd.2⟩) he z
theorem fA_bits (pd : Int) (ex : Bool) (n : Nat) (h : n ≤ 15) : fA pd ex n / 64 = 2 ∧ decide (fA pd ex n / 16 % 2 = 1) = ex ∧ decide (fA pd ex n / 32 % 2 = 1) = decide (0 < pd) := by
  have o1 := bi_or (decide (0 < pd)) 32
  have o2 := bi_or ex 16
  refine ⟨by unfold fA; omega, ?_, ?_⟩
  · unfold fA
    generalize bi (decide (0 < pd)) 32 = y at o1 ⊢
    cases ex
    · rw [decide_eq_false_iff_not]; simp only [bi, Bool.false_eq_true, if_false]; omega
    · rw [decide_eq_true_eq]; simp only [bi, if_true]; omega
  · unfold fA
    generalize bi ex 16 = y at o2 ⊢
    cases decide (0 < pd)
    · rw [decide_eq_false_iff_not]; simp only [bi, Bool.false_eq_true, if_false]; omega
    · rw [decide_eq_true_eq]; simp only [bi, if_true]; omega
theorem enR_ok (p : Rp) (pa : Bool) (r : ByteArray) : enR p pa (r, 0) = if pa = true then (if (padM r).2 ≠ 0 then (Rp0, (padM r).2) else ({ p with pl := r.extract 0 ((r.size : Int) - (padM r).1).toNat, pd := (padM r).1 }, 0)) else ({ p with pl := r }, 0) := by
  have e : rdB r 0 r.size = (r, E0, 0) := by
    have := rdB_front r E0 r.size rfl
    rwa [append_E0] at this
  unfold enR
  dsimp only
  rw [e]
  dsimp only
  rw [if_neg (by simp)]
theorem padM_tl {pd : Int} (h : 0 < pd ∧ pd ≤ 255) (pl : ByteArray) : padM (pl ++ tlR pd) = (pd, 0) := by
  have e : pl ++ tlR pd = (pl ++ zrT (pd.toNat - 1)) ++ b1 pd := by
    unfold tlR; rw [if_pos h.1, numS1 (by omega), ByteArray.append_assoc]
  have hz : (pl ++ tlR pd).size = (pl ++ zrT (pd.toNat - 1)).size + 1 := by rw [e, ByteArray.size_append, b1_size]
  have hz2 : (pl ++ tlR pd).size = pl.size + pd.toNat := by rw [ByteArray.size_append, tlR_size (by omega)]
  have hl : sb (pl ++ tlR pd) ((pl ++ tlR pd).size - 1) = pd := by
    rw [hz, Nat.add_sub_cancel, e]; exact sb_last _ (by omega)
  unfold padM
  rw [if_neg (fun h0 => by rw [h0] at hz; cases hz), hl, if_neg (by omega), if_neg (by rw [hz2]; omega)]
theorem Rp_eta {p : Rp} {b ex' : Bool} {k : Int} (h1 : b = p.mrk) (h2 : k = p.kd) (h3 : ex' = p.ex) : (⟨b, k, p.sq, p.t, p.ss, p.cs, ex', p.pf, p.dt, p.pl, p.pd⟩ : Rp) = p := by subst h1 h2 h3; rfl
theorem mk_bits (mrk : Bool) {kd : Int} (h : 0 ≤ kd ∧ kd ≤ 127) : decide (127 < bi mrk 128 + kd) = mrk ∧ (bi mrk 128 + kd) % 128 = kd := by
  cases mrk
  · refine ⟨?_, ?_⟩
    · rw [decide_eq_false_iff_not]; simp only [bi, Bool.false_eq_true, if_false]; omega
    · simp only [bi, Bool.false_eq_true, if_false]; omega
  · refine ⟨?_, ?_⟩
    · rw [decide_eq_true_eq]; simp only [bi, if_true]; omega
    · simp only [bi, if_true]; omega
theorem txP_size {p : Rp} (hc : Ck p) : ((txP p).size : Int) = lenM p.cs.length p.ex p.dt p.pl p.pd := txR_size _ _ _ _ _ _ _ _ _ _ _ hc.pd.1
theorem ck_dt {p : Rp} (hc : Ck p) : p.dt.size / 4 ≤ 65535 := by
  have h := hc.len
  unfold lenM at h
  have := hc.pd
  cases hx : p.ex
  · rw [(hc.ex hx).2]; decide
  · rw [hx, if_pos rfl] at h; omega
theorem ck_dt2 {p : Rp} (hc : Ck p) : p.dt.size ≤ 1500 := by
  have h := hc.len
  unfold lenM at h
  have := hc.pd
  cases hx : p.ex
  · rw [(hc.ex hx).2]; decide
  · rw [hx, if_pos rfl] at h; omega
/-- what is written is read -/
theorem prR_txP {p : Rp} (hr : okR p) (hc : Ck p) : prR (txP p) = (p, 0) := by
  have hz := txP_size hc
  have hl := hc.len
  have hpt := parts_hd hr hc.kd hc.cs ⟨hc.dt, ck_dt hc⟩ hc.ex (p.pl ++ tlR p.pd)
  rw [← txP_hd] at hpt
  obtain ⟨f1, f2, f3⟩ := fA_bits p.pd p.ex p.cs.length hc.cs
  obtain ⟨m1, m2⟩ := mk_bits p.mrk (kd := p.kd) ⟨hr.kd.1, hc.kd⟩
  rw [hpt.prR (by omega) f1, enR_ok, f2, f3, m1, m2]
  by_cases h0 : 0 < p.pd
  · rw [if_pos (by simpa using h0), padM_tl ⟨h0, hc.pd.2⟩, if_neg (by simp)]
    dsimp only
    have e : ((p.pl ++ tlR p.pd).size - p.pd : Int).toNat = p.pl.size := by rw [ByteArray.size_append, tlR_size hc.pd.1]; omega
    rw [e, ext_head2]
  · rw [if_neg (by simpa using h0)]
    have e : tlR p.pd = E0 := by unfold tlR; rw [if_neg h0]
    have e0 : p.pd = 0 := by have := hc.pd; omega
    rw [e, append_E0]
    conv => rhs; rw [← Rp_eta (p := p) rfl rfl rfl]
    rw [e0]
end Go.Proofs.Ytlhlidmhlhodiaa

/-
  Package rtp: what is read is written; beginnings of packets.
-/
namespace Go.Proofs.Ytlhlidmhlhodiaa
set_option linter.unusedSimpArgs false
set_option linter.unusedVariables false
open Go.RowKit
set_option maxRecDepth 100000
attribute [local irreducible] ByteArray.extract

def hdS (s : ByteArray) : Rs :=
  let x := tK 1 (s, 0)
  let c := csN (tK 4 (tK 4 (tK 2 (tK 1 x.2).2).2).2).2 (x.1 % 16).toNat
  (exR (decide (x.1 / 16 % 2 = 1)) c.2).2.2
theorem hdS_01 (s : ByteArray) : (hdS s).2 = 0 ∨ (hdS s).2 = 1 :=
  exR_01 (csN_01 (tK_01 (by omega) (tK_01 (by omega) (tK_01 (by omega) (tK_01 (by omega) (tK_01 (by omega) (.inl rfl)))))) _)
theorem hdS_parts {s : ByteArray} (h : (hdS s).2 = 0) : ∃ a b sq t ss cs pf dt, Parts s a b sq t ss cs pf dt (hdS s).1 := by
  unfold hdS at h ⊢
  dsimp only at h ⊢
  have z6 := exR_z h
  have z5 := csN_z z6
  have z4 := tK_z z5
  have z3 := tK_z z4
  have z2 := tK_z z3
  have z1 := tK_z z2
  rcases h1 : tK 1 (s, 0) with ⟨a, r1, e1⟩
  rw [h1] at h z6 z5 z4 z3 z2 z1
  dsimp only at h z6 z5 z4 z3 z2 z1
  subst z1
  rcases h2 : tK 1 (r1, 0) with ⟨b, r2, e2⟩
  rw [h2] at h z6 z5 z4 z3 z2
  dsimp only at h z6 z5 z4 z3 z2
  subst z2
  rcases h3 : tK 2 (r2, 0) with ⟨sq, r3, e3⟩
  rw [h3] at h z6 z5 z4 z3
  dsimp only at h z6 z5 z4 z3
  subst z3
  rcases h4 : tK 4 (r3, 0) with ⟨t, r4, e4⟩
  rw [h4] at h z6 z5 z4
  dsimp only at h z6 z5 z4
  subst z4
  rcases h5 : tK 4 (r4, 0) with ⟨ss, r5, e5⟩
  rw [h5] at h z6 z5
  dsimp only at h z6 z5
  subst z5
  rcases h6 : csN (r5, 0) (a % 16).toNat with ⟨cs, r6, e6⟩
  rw [h6] at h z6
  dsimp only at h z6
  subst z6
  rcases h7 : exR (decide (a / 16 % 2 = 1)) (r6, 0) with ⟨pf, dt, r, e7⟩
  rw [h7] at h
  dsimp only at h
  subst h
  refine ⟨a, b, sq, t, ss, cs, pf, dt, r1, r2, r3, r4, r5, r6, h1, h2, h3, h4, h5, h6, ?_⟩
  simp only [h2, h3, h4, h5, h6, h7]
theorem parts_hdS {s : ByteArray} {a b sq t ss : Int} {cs : List Int} {pf : Int} {dt r : ByteArray} (h : Parts s a b sq t ss cs pf dt r) : hdS s = (r, 0) := by
  obtain ⟨r1, r2, r3, r4, r5, r6, h1, h2, h3, h4, h5, h6, h7⟩ := h
  unfold hdS
  simp only [h1, h2, h3, h4, h5, h6, h7]
theorem prR_err {s : ByteArray} (hs : s.size ≤ 1500) (h2 : (tK 1 (tK 1 (s, 0)).2).2.2 = 0 → (tK 1 (s, 0)).1 / 64 = 2) (h : (hdS s).2 ≠ 0) : prR s = (Rp0, (hdS s).2) := by
  have e : prR s = enR ⟨decide (127 < (tK 1 (tK 1 (s, 0)).2).1), (tK 1 (tK 1 (s, 0)).2).1 % 128, (tK 2 (tK 1 (tK 1 (s, 0)).2).2).1, (tK 4 (tK 2 (tK 1 (tK 1 (s, 0)).2).2).2).1, (tK 4 (tK 4 (tK 2 (tK 1 (tK 1 (s, 0)).2).2).2).2).1, (csN (tK 4 (tK 4 (tK 2 (tK 1 (tK 1 (s, 0)).2).2).2).2).2 ((tK 1 (s, 0)).1 % 16).toNat).1, decide ((tK 1 (s, 0)).1 / 16 % 2 = 1), (exR (decide ((tK 1 (s, 0)).1 / 16 % 2 = 1)) (csN (tK 4 (tK 4 (tK 2 (tK 1 (tK 1 (s, 0)).2).2).2).2).2 ((tK 1 (s, 0)).1 % 16).toNat).2).1, (exR (decide ((tK 1 (s, 0)).1 / 16 % 2 = 1)) (csN (tK 4 (tK 4 (tK 2 (tK 1 (tK 1 (s, 0)).2).2).2).2).2 ((tK 1 (s, 0)).1 % 16).toNat).2).2.1, ByteArray.empty, 0⟩ (decide ((tK 1 (s, 0)).1 / 32 % 2 = 1)) (hdS s) := by
    unfold prR
    rw [if_neg (by omega)]
    dsimp only
    rw [if_neg (fun h => h.2 (h2 h.1))]
    rfl
  rw [e]
  generalize hdS s = r at h
  unfold enR
  have e2 : (rdB r.1 r.2 r.1.size).2.2 = r.2 := by unfold rdB; rw [if_pos h]
  rw [if_pos (by rw [e2]; exact h), e2]
/-- a beginning that ends ahead of the payload -/
theorem prR_cut {p : Rp} (hr : okR p) (hc : Ck p) {s z : ByteArray} (h : s ++ z = txP p) (hs : s.size < (hdZ p E0).size) : prR s = (Rp0, 1) := by
  have hz := txP_size hc
  have hl := hc.len
  have hpt := parts_hd hr hc.kd hc.cs ⟨hc.dt, ck_dt hc⟩ hc.ex (p.pl ++ tlR p.pd)
  rw [← txP_hd] at hpt
  obtain ⟨f1, _, _⟩ := fA_bits p.pd p.ex p.cs.length hc.cs
  have hle : s.size ≤ 1500 := by rw [← h, ByteArray.size_append] at hz; omega
  have hne : (hdS s).2 ≠ 0 := fun h0 => by
    obtain ⟨a, b, sq, t, ss, cs, pf, dt, hp⟩ := hdS_parts h0
    have h1 := parts_hdS (hp.more z)
    rw [h, parts_hdS hpt] at h1
    have h2 : p.pl ++ tlR p.pd = (hdS s).1 ++ z := congrArg (fun x => x.1) h1
    have h3 := congrArg ByteArray.size h2
    have h4 := congrArg ByteArray.size h
    rw [txP_hd, hdZ_E] at h4
    simp only [ByteArray.size_append] at h3 h4
    omega
  have e1 : (hdS s).2 = 1 := (hdS_01 s).resolve_left hne
  rw [prR_err hle (fun h2 => ?_) hne, e1]
  have z1 := tK_z h2
  obtain ⟨r1, _, _, _, _, _, k1, _⟩ := hpt
  have k2 : tK 1 (s, 0) = ((tK 1 (s, 0)).1, (tK 1 (s, 0)).2.1, 0) := by
    exact Prod.ext rfl (Prod.ext rfl z1)
  have k3 := tK_more (k := 1) (z := z) k2
  rw [h] at k3
  have k4 := k1.symm.trans k3
  have k5 : fA p.pd p.ex p.cs.length = (tK 1 (s, 0)).1 := congrArg (fun x => x.1) k4
  rw [← k5]; exact f1
theorem pad_ok {r : ByteArray} (h : (padM r).2 = 0) : 0 < (padM r).1 ∧ (padM r).1 ≤ 255 ∧ (padM r).1 ≤ r.size := by
  have hb := sb_b r (r.size - 1)
  unfold padM at h ⊢
  split
  · rename_i h0; rw [if_pos h0] at h; cases h
  · rename_i h0
    rw [if_neg h0] at h
    split
    · rename_i h1; rw [if_pos h1] at h; cases h
    · rename_i h1
      rw [if_neg h1] at h
      split
      · rename_i h2; rw [if_pos h2] at h; cases h
      · dsimp only; omega
theorem lenM_hd (p : Rp) (hp : 0 ≤ p.pd) : lenM p.cs.length p.ex p.dt p.pl p.pd = ((hdZ p (p.pl ++ tlR p.pd)).size : Int) := by
  rw [hdZ_size, ByteArray.size_append, tlR_size hp]
  unfold lenM
  cases p.ex
  · simp only [Bool.false_eq_true, if_false]; omega
  · simp only [if_true]; omega
/-- what is read is written -/
theorem prR_back {s : ByteArray} {p : Rp} (h : prR s = (p, 0)) : okR p ∧ Ck p ∧ lenM p.cs.length p.ex p.dt p.pl p.pd = s.size ∧ (txP p).extract 0 (s.size - p.pd.toNat) = s.extract 0 (s.size - p.pd.toNat) := by
  have hs : s.size ≤ 1500 := by
    rcases Nat.lt_or_ge 1500 s.size with h1 | h1
    · unfold prR at h; rw [if_pos h1] at h
      exact absurd (congrArg (fun x => x.2) h) (by simp)
    · exact h1
  have h2 : (tK 1 (tK 1 (s, 0)).2).2.2 = 0 → (tK 1 (s, 0)).1 / 64 = 2 := fun h2 => Classical.not_not.1 fun hn => by
    unfold prR at h; rw [if_neg (by omega)] at h; dsimp only at h
    rw [if_pos ⟨h2, hn⟩] at h
    exact absurd (congrArg (fun x => x.2) h) (by simp)
  have h3 : (hdS s).2 = 0 := Classical.not_not.1 fun hn => by
    rw [prR_err hs h2 hn] at h
    exact hn (congrArg (fun x => x.2) h)
  obtain ⟨a, b, sq, t, ss, cs, pf, dt, hp⟩ := hdS_parts h3
  generalize (hdS s).1 = r at hp
  have ha : a / 64 = 2 := by
    obtain ⟨r1, r2, _, _, _, _, k1, k2, _⟩ := hp
    rw [k1] at h2; dsimp only at h2
    rw [k2] at h2; exact h2 rfl
  rw [hp.prR hs ha, enR_ok] at h
  obtain ⟨hb, ha2, hb2, hsq, ht, hss, hcn, hcs, hex1, hex0⟩ := hp.bytes
  have hpf : 0 ≤ pf ∧ pf ≤ 65535 := by
    cases hx : decide (a / 16 % 2 = 1)
    · rw [(hex0 hx).1]; omega
    · exact ⟨(hex1 hx).1, (hex1 hx).2.1⟩
  have hd4 : dt.size % 4 = 0 := by
    cases hx : decide (a / 16 % 2 = 1)
    · rw [(hex0 hx).2]; rfl
    · exact (hex1 hx).2.2.1
  have m1 : bi (decide (127 < b)) 128 + b % 128 = b := by
    by_cases hb' : 127 < b
    · rw [decide_eq_true hb']; simp only [bi, if_true]; omega
    · rw [decide_eq_false hb']; simp only [bi, Bool.false_eq_true, if_false]; omega
  have fin : ∀ (pl tail : ByteArray) (pd : Int), r = pl ++ tail → 0 ≤ pd ∧ pd ≤ 255 → tail.size = pd.toNat → decide (a / 32 % 2 = 1) = decide (0 < pd) →
      p = ⟨decide (127 < b), b % 128, sq, t, ss, cs, decide (a / 16 % 2 = 1), pf, dt, pl, pd⟩ →
      okR p ∧ Ck p ∧ lenM p.cs.length p.ex p.dt p.pl p.pd = s.size ∧ (txP p).extract 0 (s.size - p.pd.toNat) = s.extract 0 (s.size - p.pd.toNat) := by
    intro pl tail pd hrr hpd htl h32 hpe
    have f1 : fA pd (decide (a / 16 % 2 = 1)) cs.length = a := by
      unfold fA
      rw [← h32]
      by_cases c1 : a / 32 % 2 = 1 <;> by_cases c2 : a / 16 % 2 = 1
      · rw [decide_eq_true c1, decide_eq_true c2]; simp only [bi, if_true]; omega
      · rw [decide_eq_true c1, decide_eq_false c2]; simp only [bi, if_true, Bool.false_eq_true, if_false]; omega
      · rw [decide_eq_false c1, decide_eq_true c2]; simp only [bi, if_true, Bool.false_eq_true, if_false]; omega
      · rw [decide_eq_false c1, decide_eq_false c2]; simp only [bi, Bool.false_eq_true, if_false]; omega
    have hsb : s = hdZ p (pl ++ tail) := by
      rw [hb, hrr, hpe]
      unfold hdZ
      dsimp only
      rw [f1, m1]
    have ep : p.pd = pd := by rw [hpe]
    have epl : p.pl = pl := by rw [hpe]
    have esz : (hdZ p (pl ++ tail)).size = (hdZ p (p.pl ++ tlR p.pd)).size := by
      rw [hdZ_size, hdZ_size, ByteArray.size_append, ByteArray.size_append, htl, ep, tlR_size hpd.1, epl]
    have elen : lenM p.cs.length p.ex p.dt p.pl p.pd = s.size := by
      rw [lenM_hd p (by rw [ep]; exact hpd.1), ← esz, ← hsb]
    refine ⟨?_, ?_, elen, ?_⟩
    · rw [hpe]
      exact ⟨by dsimp only; omega, hsq, ht, hss, hpf, hcs⟩
    · refine ⟨by rw [hpe]; dsimp only; omega, by rw [ep]; exact hpd, by rw [hpe]; dsimp only; omega, by rw [hpe]; exact hd4, ?_, by rw [elen]; omega⟩
      rw [hpe]; exact hex0
    · have e1 : hdZ p (pl ++ tail) = hdZ p pl ++ tail := hdZ_app p pl tail
      have e2 : txP p = hdZ p pl ++ tlR pd := by rw [txP_hd, ep, epl]; exact hdZ_app p pl _
      have e3 : s.size - p.pd.toNat = (hdZ p pl).size := by rw [hsb, e1, ByteArray.size_append, htl, ep]; omega
      rw [e3, e2, hsb, e1, ext_head2, ext_head2]
  by_cases h32 : a / 32 % 2 = 1
  · rw [if_pos (by simpa using h32)] at h
    by_cases hpe : (padM r).2 = 0
    · obtain ⟨p1, p2, p3⟩ := pad_ok hpe
      rw [if_neg (by simp [hpe])] at h
      refine fin (r.extract 0 ((r.size : Int) - (padM r).1).toNat) (r.extract ((r.size : Int) - (padM r).1).toNat r.size) (padM r).1 (ext_all r _ (by omega)).symm ⟨by omega, p2⟩ ?_ ?_ (congrArg (fun x => x.1) h).symm
      · rw [ByteArray.size_extract]; omega
      · rw [decide_eq_true h32, decide_eq_true p1]
    · rw [if_pos hpe] at h
      exact absurd (congrArg (fun x => x.2) h) hpe
  · rw [if_neg (by simpa using h32)] at h
    refine fin r E0 0 (append_E0 r).symm (by omega) rfl ?_ (congrArg (fun x => x.1) h).symm
    rw [decide_eq_false h32]; rfl
theorem prR_Rp0 {s : ByteArray} (h : (prR s).2 ≠ 0) : (prR s).1 = Rp0 := by
  unfold prR at h ⊢
  split
  · rfl
  · rename_i h1
    rw [if_neg h1] at h
    dsimp only at h ⊢
    split
    · rfl
    · rename_i h2
      rw [if_neg h2] at h
      unfold enR at h ⊢
      split
      · rfl
      · rename_i h3
        rw [if_neg h3] at h
        split
        · rename_i h4
          rw [if_pos h4] at h
          split
          · rfl
          · rename_i h5; rw [if_neg h5] at h; exact absurd rfl h
        · rename_i h4; rw [if_neg h4] at h; exact absurd rfl h
end Go.Proofs.Ytlhlidmhlhodiaa

/-
  Layer 4, plain: descriptors.
-/
namespace Go.Proofs.Ytlhlidmhlhodiaa
set_option linter.unusedSimpArgs false
set_option linter.unusedVariables false
open Go.RowKit
attribute [local irreducible] ByteArray.extract

structure Dc where
  nr : Bool
  st : Bool
  pt : Int
  pic : Int
  wd : Bool
  lv : Int
  ly : Int
  sy : Bool
  ky : Int
  deriving DecidableEq
def Dc0 : Dc := ⟨false, false, 0, 0, false, 0, 0, false, 0⟩
def sFl (a : Int) (r : Rs) : Int × Rs := if 127 < a then t1 r else (0, r)
def sPic (f : Int) (r : Rs) : Int × Bool × Rs :=
  if f / 128 % 2 = 1 then (if 127 < (t1 r).1 then ((t1 r).1 % 128 * 256 + (t1 (t1 r).2).1, true, (t1 (t1 r).2).2) else ((t1 r).1, false, (t1 r).2)) else (-1, false, r)
def sLv (f : Int) (r : Rs) : Int × Rs := if f / 64 % 2 = 1 then t1 r else (-1, r)
def sLast (f : Int) (r : Rs) : Int × Bool × Int × Rs :=
  if 0 < f / 16 % 4 then (if f / 32 % 2 = 1 then (t1 r).1 / 64 else -1, decide (f / 32 % 2 = 1) && decide ((t1 r).1 / 32 % 2 = 1), if f / 16 % 2 = 1 then (t1 r).1 % 32 else -1, (t1 r).2) else (-1, false, -1, r)
def mkD (a : Int) (p : Int × Bool × Rs) (l : Int × Rs) (q : Int × Bool × Int × Rs) : Dc × ByteArray × Int :=
  if q.2.2.2.2 ≠ 0 then (Dc0, E0, q.2.2.2.2) else (⟨decide (a / 32 % 2 = 1), decide (a / 16 % 2 = 1), a % 8, p.1, p.2.1, l.1, q.1, q.2.1, q.2.2.1⟩, q.2.2.2.1, 0)
def prs (s : ByteArray) : Dc × ByteArray × Int :=
  let a := t1 (s, 0)
  let f := sFl a.1 a.2
  let p := sPic f.1 f.2
  let l := sLv f.1 p.2.2
  mkD a.1 p l (sLast f.1 l.2)
/-- which descriptors are valid -/
def okA (d : Dc) : Prop := 0 ≤ d.pt ∧ d.pt ≤ 7 ∧ -1 ≤ d.pic ∧ d.pic ≤ 32767 ∧ -1 ≤ d.lv ∧ d.lv ≤ 255 ∧ -1 ≤ d.ly ∧ d.ly ≤ 3 ∧ -1 ≤ d.ky ∧ d.ky ≤ 31
def okF (d : Dc) : Prop := ¬ (d.pic < 0 ∧ d.wd = true) ∧ ¬ (127 < d.pic ∧ d.wd = false) ∧ ¬ (d.ly < 0 ∧ d.sy = true)
instance (d : Dc) : Decidable (okA d) := inferInstanceAs (Decidable (_ ∧ _))
instance (d : Dc) : Decidable (okF d) := inferInstanceAs (Decidable (_ ∧ _))
def chk (d : Dc) : Int := if ¬ okA d then 5 else if ¬ okF d then 2 else 0
def bt (c : Bool) (n : Int) : Int := if c = true then n else 0
def fls (d : Dc) : Int := bt (decide (0 ≤ d.pic)) 128 + bt (decide (0 ≤ d.lv)) 64 + bt (decide (0 ≤ d.ly)) 32 + bt (decide (0 ≤ d.ky)) 16
def moreB (d : Dc) : Bool := decide (0 ≤ d.pic) || decide (0 ≤ d.lv) || decide (0 ≤ d.ly) || decide (0 ≤ d.ky)
def tPic (d : Dc) : ByteArray := if 0 ≤ d.pic then (if d.wd = true then numS 2 (d.pic + 32768) else b1 (d.pic % 128)) else E0
def tLv (d : Dc) : ByteArray := if 0 ≤ d.lv then b1 d.lv else E0
def tLast (d : Dc) : ByteArray := if 0 ≤ d.ly ∨ 0 ≤ d.ky then b1 (max d.ly 0 * 64 + bt d.sy 32 + max d.ky 0) else E0
def txt (d : Dc) : ByteArray := b1 (bt (moreB d) 128 + bt d.nr 32 + bt d.st 16 + d.pt) ++ (if moreB d = true then b1 (fls d) ++ (tPic d ++ (tLv d ++ tLast d)) else E0)
theorem bt_or (c : Bool) (n : Int) : bt c n = 0 ∨ bt c n = n := by cases c <;> simp [bt]
theorem bt_t (n : Int) : bt true n = n := rfl
theorem bt_f (n : Int) : bt false n = 0 := rfl
theorem fls_b (d : Dc) : 0 ≤ fls d ∧ fls d ≤ 240 := by
  unfold fls
  have h1 := bt_or (decide (0 ≤ d.pic)) 128
  have h2 := bt_or (decide (0 ≤ d.lv)) 64
  have h3 := bt_or (decide (0 ≤ d.ly)) 32
  have h4 := bt_or (decide (0 ≤ d.ky)) 16
  omega
theorem fls_more (d : Dc) : moreB d = decide (fls d ≠ 0) := by
  unfold moreB fls
  by_cases h1 : 0 ≤ d.pic <;> by_cases h2 : 0 ≤ d.lv <;> by_cases h3 : 0 ≤ d.ly <;> by_cases h4 : 0 ≤ d.ky <;> simp [h1, h2, h3, h4, bt]
theorem fls_bits (d : Dc) : fls d / 128 % 2 = bt (decide (0 ≤ d.pic)) 1 ∧ fls d / 64 % 2 = bt (decide (0 ≤ d.lv)) 1 ∧ fls d / 32 % 2 = bt (decide (0 ≤ d.ly)) 1 ∧ fls d / 16 % 2 = bt (decide (0 ≤ d.ky)) 1 ∧ fls d / 16 % 4 = bt (decide (0 ≤ d.ly)) 2 + bt (decide (0 ≤ d.ky)) 1 := by
  unfold fls
  by_cases h1 : 0 ≤ d.pic <;> by_cases h2 : 0 ≤ d.lv <;> by_cases h3 : 0 ≤ d.ly <;> by_cases h4 : 0 ≤ d.ky <;> simp [h1, h2, h3, h4, bt]
theorem E0_app (z : ByteArray) : E0 ++ z = z := E0_append z
/-- each part is read back -/
theorem sPic_txt {d : Dc} (ha : okA d) (hf : okF d) (z : ByteArray) : sPic (fls d) (tPic d ++ z, 0) = (d.pic, d.wd, z, 0) := by
  obtain ⟨h1, h2, h3, h4, h5, h6, h7, h8, h9, h10⟩ := ha
  obtain ⟨g1, g2, g3⟩ := hf
  unfold sPic tPic
  rw [(fls_bits d).1]
  by_cases hp : 0 ≤ d.pic
  · rw [if_pos (by simp [hp, bt]), if_pos hp]
    by_cases hw : d.wd = true
    · rw [if_pos hw]
      have e : numS 2 (d.pic + 32768) = b1 (128 + d.pic / 256) ++ b1 (d.pic % 256) := by
        simp only [numS]
        rw [show (d.pic + 32768) / 256 % 256 = 128 + d.pic / 256 by omega, show (d.pic + 32768) % 256 = d.pic % 256 by omega, E0_append]
      rw [e, ByteArray.append_assoc, t1_front (by omega), if_pos (by simp only; omega)]
      simp only
      rw [t1_front (by omega), hw, show (128 + d.pic / 256) % 128 * 256 + d.pic % 256 = d.pic by omega]
    · have hw' : d.wd = false := by simpa using hw
      rw [if_neg hw]
      have hle : d.pic ≤ 127 := by
        rcases Int.lt_or_le 127 d.pic with h | h
        · exact absurd ⟨h, hw'⟩ g2
        · exact h
      rw [t1_front (by omega), if_neg (by simp only; omega), hw', show d.pic % 128 = d.pic by omega]
  · have hw : d.wd = false := by
      cases h : d.wd with
      | false => rfl
      | true => exact absurd ⟨by omega, h⟩ g1
    rw [if_neg (by simp [hp, bt]), if_neg hp, hw, E0_append, show d.pic = -1 by omega]
theorem sLv_txt {d : Dc} (ha : okA d) (z : ByteArray) : sLv (fls d) (tLv d ++ z, 0) = (d.lv, z, 0) := by
  obtain ⟨h1, h2, h3, h4, h5, h6, h7, h8, h9, h10⟩ := ha
  unfold sLv tLv
  rw [(fls_bits d).2.1]
  by_cases hp : 0 ≤ d.lv
  · rw [if_pos (by simp [hp, bt]), if_pos hp, t1_front (by omega)]
  · rw [if_neg (by simp [hp, bt]), if_neg hp, E0_append, show d.lv = -1 by omega]
theorem sLast_txt {d : Dc} (ha : okA d) (hf : okF d) (z : ByteArray) : sLast (fls d) (tLast d ++ z, 0) = (d.ly, d.sy, d.ky, z, 0) := by
  obtain ⟨h1, h2, h3, h4, h5, h6, h7, h8, h9, h10⟩ := ha
  obtain ⟨g1, g2, g3⟩ := hf
  obtain ⟨_, _, e3, e4, e5⟩ := fls_bits d
  unfold sLast tLast
  rw [e3, e4, e5]
  by_cases h : 0 ≤ d.ly ∨ 0 ≤ d.ky
  · have hb := bt_or d.sy 32
    rw [if_pos (by rcases h with h | h <;> (simp only [h, decide_true, bt_t]; have := bt_or (decide (0 ≤ d.ly)) 2; have := bt_or (decide (0 ≤ d.ky)) 1; omega)), if_pos h, t1_front (by omega)]
    simp only
    by_cases hl : 0 ≤ d.ly
    · have e1 : (max d.ly 0 * 64 + bt d.sy 32 + max d.ky 0) / 64 = d.ly := by omega
      have e2 : (max d.ly 0 * 64 + bt d.sy 32 + max d.ky 0) / 32 % 2 = bt d.sy 1 := by
        cases d.sy <;> simp only [bt_t, bt_f] <;> omega
      rw [e1, e2]
      have e6 : (if bt (decide (0 ≤ d.ky)) 1 = 1 then (max d.ly 0 * 64 + bt d.sy 32 + max d.ky 0) % 32 else -1) = d.ky := by
        by_cases hk : 0 ≤ d.ky
        · simp only [hk, decide_true, bt_t, if_true]; omega
        · simp only [hk, decide_false, bt_f]; rw [if_neg (by omega)]; omega
      rw [e6]
      simp only [hl, decide_true, bt_t, if_true, Bool.true_and]
      cases d.sy <;> simp [bt]
    · have hs : d.sy = false := by
        cases h' : d.sy with
        | false => rfl
        | true => exact absurd ⟨by omega, h'⟩ g3
      have hk : 0 ≤ d.ky := by omega
      simp only [hl, hk, hs, decide_true, decide_false, bt_t, bt_f, if_true, Bool.false_and]
      rw [if_neg (by omega), show max d.ly 0 * 64 + 0 + max d.ky 0 = d.ky by omega, show d.ky % 32 = d.ky by omega, show d.ly = -1 by omega]
      simp
  · have hl : ¬ 0 ≤ d.ly := fun h' => h (.inl h')
    have hk : ¬ 0 ≤ d.ky := fun h' => h (.inr h')
    have hs : d.sy = false := by
      cases h' : d.sy with
      | false => rfl
      | true => exact absurd ⟨by omega, h'⟩ g3
    rw [if_neg (by simp [hl, hk, bt]), if_neg h, E0_append, hs, show d.ly = -1 by omega, show d.ky = -1 by omega]
theorem first_b (d : Dc) (ha : okA d) : 0 ≤ bt (moreB d) 128 + bt d.nr 32 + bt d.st 16 + d.pt ∧ bt (moreB d) 128 + bt d.nr 32 + bt d.st 16 + d.pt ≤ 255 := by
  obtain ⟨h1, h2, _⟩ := ha
  have := bt_or (moreB d) 128; have := bt_or d.nr 32; have := bt_or d.st 16
  omega
/-- a valid descriptor's bytes are read back -/
theorem prs_txt {d : Dc} (ha : okA d) (hf : okF d) (z : ByteArray) : prs (txt d ++ z) = (d, z, 0) := by
  have hb := first_b d ha
  have h1 := ha.1
  have h2 := ha.2.1
  unfold prs txt
  rw [ByteArray.append_assoc, t1_front hb]
  obtain ⟨x, hx⟩ : ∃ x, bt (moreB d) 128 + bt d.nr 32 + bt d.st 16 + d.pt = x := ⟨_, rfl⟩
  have e1 : decide (x / 32 % 2 = 1) = d.nr := by
    have f1 : x / 32 % 2 = bt d.nr 1 := by
      subst hx
      have := bt_or (moreB d) 128; have := bt_or d.st 16; have := bt_or d.nr 1
      have h' : bt d.nr 32 = 32 * bt d.nr 1 := by cases d.nr <;> rfl
      omega
    rw [f1]; cases d.nr <;> rfl
  have e2 : decide (x / 16 % 2 = 1) = d.st := by
    have f1 : x / 16 % 2 = bt d.st 1 := by
      subst hx
      have := bt_or (moreB d) 128; have := bt_or d.nr 32; have := bt_or d.st 1
      have h' : bt d.st 16 = 16 * bt d.st 1 := by cases d.st <;> rfl
      omega
    rw [f1]; cases d.st <;> rfl
  have e3 : x % 8 = d.pt := by
    subst hx
    have := bt_or (moreB d) 128; have := bt_or d.nr 32; have := bt_or d.st 16
    omega
  have e4 : (127 < x) ↔ moreB d = true := by
    subst hx
    have := bt_or d.nr 32; have := bt_or d.st 16
    cases moreB d <;> simp only [bt_t, bt_f] <;> simp <;> omega
  rw [hx]
  simp only
  have hmain : ∀ r, sFl x ((if moreB d = true then b1 (fls d) ++ (tPic d ++ (tLv d ++ tLast d)) else E0) ++ z, 0) = r → r = (fls d, tPic d ++ (tLv d ++ (tLast d ++ z)), 0) := by
    intro r hr
    subst hr
    unfold sFl
    by_cases hm : moreB d = true
    · have := fls_b d
      rw [if_pos (e4.2 hm), if_pos hm, ByteArray.append_assoc, t1_front (by omega), ByteArray.append_assoc, ByteArray.append_assoc]
    · have hz : fls d = 0 := by
        have := fls_more d
        by_cases h0 : fls d = 0
        · exact h0
        · rw [this] at hm; simp [h0] at hm
      rw [if_neg (fun h => hm (e4.1 h)), if_neg hm, hz]
      have hb2 := fls_bits d
      rw [hz] at hb2
      obtain ⟨f1, f2, f3, f4, _⟩ := hb2
      have g1 : ¬ 0 ≤ d.pic := fun h => by simp [h, bt] at f1
      have g2 : ¬ 0 ≤ d.lv := fun h => by simp [h, bt] at f2
      have g3 : ¬ 0 ≤ d.ly := fun h => by simp [h, bt] at f3
      have g4 : ¬ 0 ≤ d.ky := fun h => by simp [h, bt] at f4
      unfold tPic tLv tLast
      rw [if_neg g1, if_neg g2, if_neg (by omega)]
      simp only [E0_append]
  rw [hmain _ rfl]
  simp only
  rw [sPic_txt ha hf]
  simp only
  rw [sLv_txt ha]
  simp only
  rw [sLast_txt ha hf]
  unfold mkD
  simp only
  rw [if_neg (by simp), e1, e2, e3]
end Go.Proofs.Ytlhlidmhlhodiaa

/-
  Layer 4, plain: what is read is valid; a beginning is none.
-/
namespace Go.Proofs.Ytlhlidmhlhodiaa
set_option linter.unusedSimpArgs false
set_option linter.unusedVariables false
open Go.RowKit
attribute [local irreducible] ByteArray.extract

theorem t1_back {r : Rs} (h : (t1 r).2.2 = 0) : r.2 = 0 ∧ (t1 r).2.1.size + 1 = r.1.size := by
  obtain ⟨h1, h2⟩ := t1_ok h
  refine ⟨h1, ?_⟩
  have := congrArg ByteArray.size h2
  rw [ByteArray.size_append, b1_size] at this
  omega
theorem t1_ext {s z : ByteArray} (h : (t1 (s, 0)).2.2 = 0) : t1 (s ++ z, 0) = ((t1 (s, 0)).1, (t1 (s, 0)).2.1 ++ z, 0) := t1_more (Prod.ext rfl (Prod.ext rfl h))
theorem t1_01 {r : Rs} (h : r.2 = 0 ∨ r.2 = 1) : (t1 r).2.2 = 0 ∨ (t1 r).2.2 = 1 := by
  rcases h with h | h
  · exact t1_e r h
  · right; rw [t1_err (by omega)]; exact h
theorem rs_eta {r : Rs} (h : r.2 = 0) : (r.1, (0 : Int)) = r := by rw [← h]
def bx1 (c : Prop) [Decidable c] : Nat := if c then 1 else 0
/-! the flags' byte -/
theorem sFl_b (a : Int) (r : Rs) : 0 ≤ (sFl a r).1 ∧ (sFl a r).1 ≤ 255 := by
  unfold sFl; split
  · exact t1_b r
  · simp
theorem sFl_back {a : Int} {r : Rs} (h : (sFl a r).2.2 = 0) : r.2 = 0 ∧ (sFl a r).2.1.size + bx1 (127 < a) = r.1.size := by
  unfold sFl bx1 at *
  split
  · rename_i hc; rw [if_pos hc] at h; exact t1_back h
  · rename_i hc; rw [if_neg hc] at h; exact ⟨h, rfl⟩
theorem sFl_ext {a : Int} {s z : ByteArray} (h : (sFl a (s, 0)).2.2 = 0) : sFl a (s ++ z, 0) = ((sFl a (s, 0)).1, (sFl a (s, 0)).2.1 ++ z, 0) := by
  unfold sFl at *
  split
  · rename_i hc; rw [if_pos hc] at h; exact t1_ext h
  · rfl
theorem sFl_01 {a : Int} {r : Rs} (h : r.2 = 0 ∨ r.2 = 1) : (sFl a r).2.2 = 0 ∨ (sFl a r).2.2 = 1 := by
  unfold sFl; split
  · exact t1_01 h
  · exact h
/-! the picture's number -/
theorem sPic_v (f : Int) (r : Rs) : (f / 128 % 2 = 1 ∧ 0 ≤ (sPic f r).1 ∧ (sPic f r).1 ≤ 32767 ∧ ((sPic f r).2.1 = false → (sPic f r).1 ≤ 127)) ∨ (f / 128 % 2 ≠ 1 ∧ (sPic f r).1 = -1 ∧ (sPic f r).2.1 = false) := by
  unfold sPic
  have h1 := t1_b r
  have h2 := t1_b (t1 r).2
  by_cases hc : f / 128 % 2 = 1
  · refine .inl ⟨hc, ?_⟩
    rw [if_pos hc]
    split
    · simp only; refine ⟨by omega, by omega, fun h => by cases h⟩
    · simp only; refine ⟨by omega, by omega, fun _ => by omega⟩
  · exact .inr ⟨hc, by rw [if_neg hc], by rw [if_neg hc]⟩
theorem sPic_back {f : Int} {r : Rs} (h : (sPic f r).2.2.2 = 0) : r.2 = 0 ∧ (sPic f r).2.2.1.size + (if f / 128 % 2 = 1 then (if (sPic f r).2.1 = true then 2 else 1) else 0) = r.1.size := by
  unfold sPic at *
  by_cases hc : f / 128 % 2 = 1
  · rw [if_pos hc] at h ⊢
    rw [if_pos hc]
    by_cases hn : 127 < (t1 r).1
    · rw [if_pos hn] at h ⊢
      obtain ⟨h1, h2⟩ := t1_back (r := (t1 r).2) h
      obtain ⟨h3, h4⟩ := t1_back (r := r) h1
      refine ⟨h3, ?_⟩
      simp only [if_true]; omega
    · rw [if_neg hn] at h ⊢
      obtain ⟨h3, h4⟩ := t1_back (r := r) h
      exact ⟨h3, h4⟩
  · rw [if_neg hc] at h ⊢
    rw [if_neg hc]
    exact ⟨h, rfl⟩
theorem sPic_ext {f : Int} {s z : ByteArray} (h : (sPic f (s, 0)).2.2.2 = 0) : sPic f (s ++ z, 0) = ((sPic f (s, 0)).1, (sPic f (s, 0)).2.1, (sPic f (s, 0)).2.2.1 ++ z, 0) := by
  unfold sPic at *
  by_cases hc : f / 128 % 2 = 1
  · rw [if_pos hc] at h
    rw [if_pos hc, if_pos hc]
    by_cases hn : 127 < (t1 (s, 0)).1
    · rw [if_pos hn] at h
      obtain ⟨h1, _⟩ := t1_back (r := (t1 (s, 0)).2) h
      have e1 := t1_ext (z := z) h1
      have e2 := t1_ext (s := (t1 (s, 0)).2.1) (z := z) (by rw [rs_eta h1]; exact h)
      rw [rs_eta h1] at e2
      rw [e1, if_pos hn, if_pos hn]
      simp only
      rw [e2]
    · rw [if_neg hn] at h
      have e1 := t1_ext (z := z) h
      rw [e1, if_neg hn, if_neg hn]
  · rw [if_neg hc, if_neg hc]
theorem sPic_01 {f : Int} {r : Rs} (h : r.2 = 0 ∨ r.2 = 1) : (sPic f r).2.2.2 = 0 ∨ (sPic f r).2.2.2 = 1 := by
  unfold sPic
  split
  · split
    · exact t1_01 (t1_01 h)
    · exact t1_01 h
  · exact h
/-! the level's -/
theorem sLv_v (f : Int) (r : Rs) : (f / 64 % 2 = 1 ∧ 0 ≤ (sLv f r).1 ∧ (sLv f r).1 ≤ 255) ∨ (f / 64 % 2 ≠ 1 ∧ (sLv f r).1 = -1) := by
  unfold sLv
  by_cases hc : f / 64 % 2 = 1
  · exact .inl ⟨hc, by rw [if_pos hc]; exact t1_b r⟩
  · exact .inr ⟨hc, by rw [if_neg hc]⟩
theorem sLv_back {f : Int} {r : Rs} (h : (sLv f r).2.2 = 0) : r.2 = 0 ∧ (sLv f r).2.1.size + bx1 (f / 64 % 2 = 1) = r.1.size := by
  unfold sLv bx1 at *
  split
  · rename_i hc; rw [if_pos hc] at h; exact t1_back h
  · rename_i hc; rw [if_neg hc] at h; exact ⟨h, rfl⟩
theorem sLv_ext {f : Int} {s z : ByteArray} (h : (sLv f (s, 0)).2.2 = 0) : sLv f (s ++ z, 0) = ((sLv f (s, 0)).1, (sLv f (s, 0)).2.1 ++ z, 0) := by
  unfold sLv at *
  split
  · rename_i hc; rw [if_pos hc] at h; exact t1_ext h
  · rfl
theorem sLv_01 {f : Int} {r : Rs} (h : r.2 = 0 ∨ r.2 = 1) : (sLv f r).2.2 = 0 ∨ (sLv f r).2.2 = 1 := by
  unfold sLv; split
  · exact t1_01 h
  · exact h
/-! the rest -/
theorem sLast_v (f : Int) (r : Rs) : -1 ≤ (sLast f r).1 ∧ (sLast f r).1 ≤ 3 ∧ -1 ≤ (sLast f r).2.2.1 ∧ (sLast f r).2.2.1 ≤ 31 ∧ ((sLast f r).1 < 0 → (sLast f r).2.1 = false) ∧ (0 ≤ (sLast f r).1 ∨ 0 ≤ (sLast f r).2.2.1 → 0 < f / 16 % 4) ∧ (0 ≤ (sLast f r).1 → f / 32 % 2 = 1) ∧ (0 ≤ (sLast f r).2.2.1 → f / 16 % 2 = 1) := by
  unfold sLast
  have h1 := t1_b r
  by_cases hc : 0 < f / 16 % 4
  · rw [if_pos hc]
    simp only
    by_cases h2 : f / 32 % 2 = 1 <;> by_cases h3 : f / 16 % 2 = 1
    · rw [if_pos h2, if_pos h3]; exact ⟨by omega, by omega, by omega, by omega, fun h => by omega, fun _ => hc, fun _ => h2, fun _ => h3⟩
    · rw [if_pos h2, if_neg h3]; exact ⟨by omega, by omega, by omega, by omega, fun h => by omega, fun _ => hc, fun _ => h2, fun h => by omega⟩
    · rw [if_neg h2, if_pos h3]; exact ⟨by omega, by omega, by omega, by omega, fun _ => by simp [h2], fun _ => hc, fun h => by omega, fun _ => h3⟩
    · omega
  · rw [if_neg hc]; exact ⟨by simp, by simp, by simp, by simp, fun _ => rfl, fun h => by simp at h, fun h => by simp at h, fun h => by simp at h⟩
theorem sLast_back {f : Int} {r : Rs} (h : (sLast f r).2.2.2.2 = 0) : r.2 = 0 ∧ (sLast f r).2.2.2.1.size + bx1 (0 < f / 16 % 4) = r.1.size := by
  unfold sLast bx1 at *
  by_cases hc : 0 < f / 16 % 4
  · rw [if_pos hc] at h
    rw [if_pos hc, if_pos hc]; exact t1_back h
  · rw [if_neg hc] at h
    rw [if_neg hc, if_neg hc]; exact ⟨h, rfl⟩
theorem sLast_ext {f : Int} {s z : ByteArray} (h : (sLast f (s, 0)).2.2.2.2 = 0) : sLast f (s ++ z, 0) = ((sLast f (s, 0)).1, (sLast f (s, 0)).2.1, (sLast f (s, 0)).2.2.1, (sLast f (s, 0)).2.2.2.1 ++ z, 0) := by
  unfold sLast at *
  by_cases hc : 0 < f / 16 % 4
  · rw [if_pos hc] at h
    have e1 := t1_ext (z := z) h
    rw [if_pos hc, if_pos hc, e1]
  · rw [if_neg hc, if_neg hc]
theorem sLast_01 {f : Int} {r : Rs} (h : r.2 = 0 ∨ r.2 = 1) : (sLast f r).2.2.2.2 = 0 ∨ (sLast f r).2.2.2.2 = 1 := by
  unfold sLast; split
  · exact t1_01 h
  · exact h
/-! all -/
theorem prs_e (s : ByteArray) : ((prs s).2.2 = 0) ∨ (prs s = (Dc0, E0, 1)) := by
  unfold prs mkD
  simp only
  split
  · rename_i h
    have h1 : (t1 (s, 0)).2.2 = 0 ∨ (t1 (s, 0)).2.2 = 1 := t1_01 (.inl rfl)
    rcases sLast_01 (f := (sFl (t1 (s, 0)).1 (t1 (s, 0)).2).1) (sLv_01 (f := (sFl (t1 (s, 0)).1 (t1 (s, 0)).2).1) (sPic_01 (f := (sFl (t1 (s, 0)).1 (t1 (s, 0)).2).1) (sFl_01 (a := (t1 (s, 0)).1) h1))) with h2 | h2
    · exact absurd h2 h
    · right; rw [h2]
  · exact .inl rfl
theorem prs_back {s : ByteArray} (h : (prs s).2.2 = 0) :
    (t1 (s, 0)).2.2 = 0 ∧ (sFl (t1 (s, 0)).1 (t1 (s, 0)).2).2.2 = 0 ∧ (sPic (sFl (t1 (s, 0)).1 (t1 (s, 0)).2).1 (sFl (t1 (s, 0)).1 (t1 (s, 0)).2).2).2.2.2 = 0
    ∧ (sLv (sFl (t1 (s, 0)).1 (t1 (s, 0)).2).1 (sPic (sFl (t1 (s, 0)).1 (t1 (s, 0)).2).1 (sFl (t1 (s, 0)).1 (t1 (s, 0)).2).2).2.2).2.2 = 0
    ∧ (sLast (sFl (t1 (s, 0)).1 (t1 (s, 0)).2).1 (sLv (sFl (t1 (s, 0)).1 (t1 (s, 0)).2).1 (sPic (sFl (t1 (s, 0)).1 (t1 (s, 0)).2).1 (sFl (t1 (s, 0)).1 (t1 (s, 0)).2).2).2.2).2).2.2.2.2 = 0 := by
  unfold prs mkD at h
  simp only at h
  split at h
  · rename_i h2; exact absurd h h2
  · rename_i h2
    have h5 := Classical.not_not.1 h2
    have h4 := (sLast_back h5).1
    have h3 := (sLv_back h4).1
    have h2' := (sPic_back h3).1
    have h1 := (sFl_back h2').1
    exact ⟨h1, h2', h3, h4, h5⟩
theorem prs_eq {s : ByteArray} {a : Int} {r1 r2 r3 r4 r5 : ByteArray} {f p : Int} {w : Bool} {l y k : Int} {sy : Bool} (h1 : t1 (s, 0) = (a, r1, 0)) (h2 : sFl a (r1, 0) = (f, r2, 0)) (h3 : sPic f (r2, 0) = (p, w, r3, 0)) (h4 : sLv f (r3, 0) = (l, r4, 0)) (h5 : sLast f (r4, 0) = (y, sy, k, r5, 0)) :
    prs s = (⟨decide (a / 32 % 2 = 1), decide (a / 16 % 2 = 1), a % 8, p, w, l, y, sy, k⟩, r5, 0) := by
  unfold prs
  rw [h1]; simp only; rw [h2]; simp only; rw [h3]; simp only; rw [h4]; simp only; rw [h5]
  unfold mkD; simp
theorem prs_parts {s : ByteArray} (h : (prs s).2.2 = 0) : ∃ a r1 f r2 p w r3 l r4 y sy k r5, t1 (s, 0) = (a, r1, 0) ∧ sFl a (r1, 0) = (f, r2, 0) ∧ sPic f (r2, 0) = (p, w, r3, 0) ∧ sLv f (r3, 0) = (l, r4, 0) ∧ sLast f (r4, 0) = (y, sy, k, r5, 0) := by
  obtain ⟨h1, h2, h3, h4, h5⟩ := prs_back h
  generalize e1 : t1 (s, 0) = x1 at *
  obtain ⟨a, r1, z1⟩ := x1
  simp only at h1; subst h1
  simp only at *
  generalize e2 : sFl a (r1, 0) = x2 at *
  obtain ⟨f, r2, z2⟩ := x2
  simp only at h2; subst h2
  simp only at *
  generalize e3 : sPic f (r2, 0) = x3 at *
  obtain ⟨p, w, r3, z3⟩ := x3
  simp only at h3; subst h3
  simp only at *
  generalize e4 : sLv f (r3, 0) = x4 at *
  obtain ⟨l, r4, z4⟩ := x4
  simp only at h4; subst h4
  simp only at *
  generalize e5 : sLast f (r4, 0) = x5 at *
  obtain ⟨y, sy, k, r5, z5⟩ := x5
  simp only at h5; subst h5
  exact ⟨a, r1, f, r2, p, w, r3, l, r4, y, sy, k, r5, rfl, e2, e3, e4, e5⟩
theorem prs_ext {s z : ByteArray} (h : (prs s).2.2 = 0) : prs (s ++ z) = ((prs s).1, (prs s).2.1 ++ z, 0) := by
  obtain ⟨a, r1, f, r2, p, w, r3, l, r4, y, sy, k, r5, h1, h2, h3, h4, h5⟩ := prs_parts h
  rw [prs_eq h1 h2 h3 h4 h5]
  have g1 := t1_ext (z := z) (show (t1 (s, 0)).2.2 = 0 by rw [h1])
  have g2 := sFl_ext (z := z) (show (sFl a (r1, 0)).2.2 = 0 by rw [h2])
  have g3 := sPic_ext (z := z) (show (sPic f (r2, 0)).2.2.2 = 0 by rw [h3])
  have g4 := sLv_ext (z := z) (show (sLv f (r3, 0)).2.2 = 0 by rw [h4])
  have g5 := sLast_ext (z := z) (show (sLast f (r4, 0)).2.2.2.2 = 0 by rw [h5])
  rw [h1] at g1; rw [h2] at g2; rw [h3] at g3; rw [h4] at g4; rw [h5] at g5
  exact prs_eq g1 g2 g3 g4 g5
theorem tPic_size (d : Dc) : (tPic d).size = if 0 ≤ d.pic then (if d.wd = true then 2 else 1) else 0 := by
  unfold tPic
  split
  · split
    · exact numS_size 2 _
    · rfl
  · rfl
theorem prs_ok {s : ByteArray} (h : (prs s).2.2 = 0) : okA (prs s).1 ∧ okF (prs s).1 ∧ (txt (prs s).1).size + (prs s).2.1.size ≤ s.size := by
  obtain ⟨a, r1, f, r2, p, w, r3, l, r4, y, sy, k, r5, h1, h2, h3, h4, h5⟩ := prs_parts h
  rw [prs_eq h1 h2 h3 h4 h5]
  have ha := t1_b (s, 0)
  have b1' := t1_back (r := (s, 0)) (by rw [h1])
  have b2 := sFl_back (a := a) (r := (r1, 0)) (by rw [h2])
  have b3 := sPic_back (f := f) (r := (r2, 0)) (by rw [h3])
  have b4 := sLv_back (f := f) (r := (r3, 0)) (by rw [h4])
  have b5 := sLast_back (f := f) (r := (r4, 0)) (by rw [h5])
  have v3 := sPic_v f (r2, 0)
  have v4 := sLv_v f (r3, 0)
  have v5 := sLast_v f (r4, 0)
  have hf0 : ¬ 127 < a → f = 0 := fun hn => by unfold sFl at h2; rw [if_neg hn] at h2; exact (Prod.ext_iff.1 h2).1.symm
  rw [h1] at ha b1'; rw [h2] at b2; rw [h3] at b3 v3; rw [h4] at b4 v4; rw [h5] at b5 v5
  simp only [bx1] at *
  obtain ⟨v51, v52, v53, v54, v55, v56, v57, v58⟩ := v5
  refine ⟨⟨by simp only; omega, by simp only; omega, by simp only; omega, by simp only; omega, by simp only; omega, by simp only; omega, v51, v52, v53, v54⟩, ⟨?_, ?_, ?_⟩, ?_⟩
  · rintro ⟨g1, g2⟩; simp only at g1 g2
    rcases v3 with v3 | v3
    · omega
    · rw [v3.2.2] at g2; cases g2
  · rintro ⟨g1, g2⟩; simp only at g1 g2
    rcases v3 with v3 | v3
    · have := v3.2.2.2 g2; omega
    · omega
  · rintro ⟨g1, g2⟩; simp only at g1 g2
    rw [v55 g1] at g2; cases g2
  · unfold txt
    rw [ByteArray.size_append, b1_size]
    by_cases hm : moreB ⟨decide (a / 32 % 2 = 1), decide (a / 16 % 2 = 1), a % 8, p, w, l, y, sy, k⟩ = true
    · rw [if_pos hm, ByteArray.size_append, ByteArray.size_append, ByteArray.size_append, b1_size, tPic_size]
      have h127 : 127 < a := by
        by_cases h : 127 < a
        · exact h
        · exfalso
          have := hf0 h; subst this
          unfold moreB at hm
          simp only [Bool.or_eq_true, decide_eq_true_eq] at hm
          omega
      have l1 : (tLv ⟨decide (a / 32 % 2 = 1), decide (a / 16 % 2 = 1), a % 8, p, w, l, y, sy, k⟩).size = if 0 ≤ l then 1 else 0 := by unfold tLv; split <;> rfl
      have l2 : (tLast ⟨decide (a / 32 % 2 = 1), decide (a / 16 % 2 = 1), a % 8, p, w, l, y, sy, k⟩).size = if 0 ≤ y ∨ 0 ≤ k then 1 else 0 := by unfold tLast; split <;> rfl
      rw [l1, l2]
      simp only
      rw [if_pos h127] at b2
      have q3 : (if 0 ≤ p then (if w = true then 2 else 1) else 0) + r3.size ≤ r2.size := by
        rcases v3 with v3 | v3
        · rw [if_pos v3.1] at b3; rw [if_pos v3.2.1]; omega
        · rw [if_neg v3.1] at b3; rw [if_neg (by omega)]; omega
      have q4 : (if 0 ≤ l then 1 else 0) + r4.size ≤ r3.size := by
        rcases v4 with v4 | v4
        · rw [if_pos v4.1] at b4; rw [if_pos v4.2.1]; omega
        · rw [if_neg v4.1] at b4; rw [if_neg (by omega)]; omega
      have q5 : (if 0 ≤ y ∨ 0 ≤ k then 1 else 0) + r5.size ≤ r4.size := by
        by_cases h : 0 ≤ y ∨ 0 ≤ k
        · rw [if_pos (v56 h)] at b5; rw [if_pos h]; omega
        · rw [if_neg h]; split at b5 <;> omega
      omega
    · rw [if_neg hm]
      have : E0.size = 0 := rfl
      rw [this]
      have e2 : r2.size ≤ r1.size := by have := b2.2; split at this <;> omega
      have e3 : r3.size ≤ r2.size := by omega
      have e4 : r4.size ≤ r3.size := by have := b4.2; split at this <;> omega
      have e5 : r5.size ≤ r4.size := by have := b5.2; split at this <;> omega
      omega
/-- a beginning of a valid descriptor's bytes is none -/
theorem prs_cut {d : Dc} (ha : okA d) (hf : okF d) {s z : ByteArray} (h : s ++ z = txt d) (hz : 0 < z.size) : prs s = (Dc0, E0, 1) := by
  rcases prs_e s with h1 | h1
  · exfalso
    have h2 := prs_ext (z := z) h1
    have h3 := prs_txt ha hf E0
    rw [append_E0, ← h, h2] at h3
    have h4 := congrArg (fun x => x.2.1.size) h3
    simp only at h4
    rw [ByteArray.size_append] at h4
    have : E0.size = 0 := rfl
    omega
  · exact h1
end Go.Proofs.Ytlhlidmhlhodiaa

/-
  Layer 4: the program's functions.
-/
namespace Go.Proofs.Ytlhlidmhlhodiaa
set_option linter.unusedSimpArgs false
set_option linter.unusedVariables false
set_option linter.unusedSimpArgs false
set_option linter.unusedVariables false
open Go.RowKit
attribute [local irreducible] Pv WO WC Fn
attribute [local irreducible] ByteArray.extract
set_option maxRecDepth 100000

abbrev dT : TypeId := 23
instance : TEq Try.prog 23 [.b, .b, .i .i64, .i .i64, .b, .i .i64, .i .i64, .b, .i .i64] := ⟨by kernel_rfl⟩
abbrev dL (nr st : Bool) (pt pic : Int) (wd : Bool) (lv ly : Int) (sy : Bool) (ky : Int) : List Value := [.bool nr, .bool st, .int .i64 pt, .int .i64 pic, .bool wd, .int .i64 lv, .int .i64 ly, .bool sy, .int .i64 ky]
abbrev dv (d : Dc) : List Value := dL d.nr d.st d.pt d.pic d.wd d.lv d.ly d.sy d.ky
abbrev dO (h : Nat) (nr st : Bool) (pt pic : Int) (wd : Bool) (lv ly : Int) (sy : Bool) (ky : Int) : It := .ob h (.cells (dL nr st pt pic wd lv ly sy ky).toArray dT (0, 0))
theorem rdU8 (g : Nat) (r : Rs) (hs : r.1.size ≤ 1099511627776) : Fn Try.prog 63 #[.pointer (some ⟨g, 0, none⟩)] [rdO g r.1 r.2] []
    (fun v L' R' => v = .int .u8 (t1 r).1 ∧ L' = [rdO g (t1 r).2.1 (t1 r).2.2] ∧ R' = []) := octU8 g r.1 _ _ r.2 _ hs rfl
theorem vBit (c : Bool) (b x : Int) (h : bt c b = x) : Fn Try.prog 58 #[.bool c, .int .u8 b] [] [] (fun v L' R' => v = .int .u8 x ∧ L' = [] ∧ R' = []) := by
  subst h
  cases c
  all_goals
    refine fn_intro Try.func58 rfl Try.ntmps58 rfl (fun E => ?_)
    (repeat (first | ((first | (apply wo_v; rfl) ); (· first | (apply pv_ev; rfl) )) | apply wo_nil | apply wc_seq | apply wc_region | apply wc_skip | apply wc_ret | (apply wc_true; rfl) | (apply wc_false; rfl) ))
    exact ret1 rfl rfl ⟨rfl, rfl, rfl⟩ ((by (repeat (first | apply sub_nil )); done) : List.Perm _ ([] ++ _)) (by first | exact fun _ h => h | (intro r hr; cases hr; done) | (simp; done) | exact fun _ h => List.mem_append_left _ h | (intro r hr; simp [hr]; done))
theorem vIn (n m : Int) : Fn Try.prog 56 #[.int .i64 n, .int .i64 m] [] [] (fun v L' R' => v = .bool (decide (-1 ≤ n ∧ n ≤ m)) ∧ L' = [] ∧ R' = []) := by
  by_cases h1 : -1 ≤ n
  · by_cases h2 : n ≤ m
    · rw [show decide (-1 ≤ n ∧ n ≤ m) = true by simp [h1, h2]]
      refine fn_intro Try.func56 rfl Try.ntmps56 rfl (fun E => ?_)
      (repeat (first | ((first | (apply wo_v; rfl) ); (· first | (apply pv_ev; rfl) | (apply g_pick; first | (apply pv_pick_t; rfl; rfl) ) )) | apply wo_nil | apply wc_seq | apply wc_region | apply wc_ret | (apply wo_run; rfl; rfl) | (apply wo_skip; rfl; rfl; rfl; rfl) | (apply wo_skip_u; rfl; rfl; rfl) | (apply a_gt; rfl; rfl; (· first | assumption | omega)) ))
      exact ret1 rfl rfl ⟨by simp [h2], rfl, rfl⟩ ((by (repeat (first | apply sub_nil )); done) : List.Perm _ ([] ++ _)) (by first | exact fun _ h => h | (intro r hr; cases hr; done) | (simp; done) | exact fun _ h => List.mem_append_left _ h | (intro r hr; simp [hr]; done))
    · rw [show decide (-1 ≤ n ∧ n ≤ m) = false by simp [h2]]
      refine fn_intro Try.func56 rfl Try.ntmps56 rfl (fun E => ?_)
      (repeat (first | ((first | (apply wo_v; rfl) ); (· first | (apply pv_ev; rfl) | (apply g_pick; first | (apply pv_pick_t; rfl; rfl) ) )) | apply wo_nil | apply wc_seq | apply wc_region | apply wc_ret | (apply wo_run; rfl; rfl) | (apply wo_skip; rfl; rfl; rfl; rfl) | (apply wo_skip_u; rfl; rfl; rfl) | (apply a_gt; rfl; rfl; (· first | assumption | omega)) ))
      exact ret1 rfl rfl ⟨by simp [h2], rfl, rfl⟩ ((by (repeat (first | apply sub_nil )); done) : List.Perm _ ([] ++ _)) (by first | exact fun _ h => h | (intro r hr; cases hr; done) | (simp; done) | exact fun _ h => List.mem_append_left _ h | (intro r hr; simp [hr]; done))
  · rw [show decide (-1 ≤ n ∧ n ≤ m) = false by simp [h1]]
    refine fn_intro Try.func56 rfl Try.ntmps56 rfl (fun E => ?_)
    (repeat (first | ((first | (apply wo_v; rfl) ); (· first | (apply pv_ev; rfl) | (apply g_pick; first | (apply pv_pick_t; rfl; rfl) | (apply pv_pick_f; rfl; rfl)) )) | apply wo_nil | apply wc_seq | apply wc_region | apply wc_ret | (apply wo_run; rfl; rfl) | (apply wo_skip; rfl; rfl; rfl; rfl) | (apply wo_skip_u; rfl; rfl; rfl) | (apply a_gt; rfl; rfl; (· first | assumption | omega)) | (apply a_gf; rfl; rfl; (· first | assumption | omega)) ))
    exact ret1 rfl rfl ⟨rfl, rfl, rfl⟩ ((by (repeat (first | apply sub_nil )); done) : List.Perm _ ([] ++ _)) (by first | exact fun _ h => h | (intro r hr; cases hr; done) | (simp; done) | exact fun _ h => List.mem_append_left _ h | (intro r hr; simp [hr]; done))
theorem vMore (nr st : Bool) (pt pic : Int) (wd : Bool) (lv ly : Int) (sy : Bool) (ky : Int) (b : Bool) (hb : moreB ⟨nr, st, pt, pic, wd, lv, ly, sy, ky⟩ = b) :
    Fn Try.prog 59 #[.agg (dL nr st pt pic wd lv ly sy ky).toArray] [] [] (fun v L' R' => v = .bool b ∧ L' = [] ∧ R' = []) := by
  subst hb
  unfold moreB
  by_cases h1 : 0 ≤ pic
  · refine fn_intro Try.func59 rfl Try.ntmps59 rfl (fun E => ?_)
    (repeat (first | ((first | (apply wo_v; rfl) ); (· first | (apply pv_ev; rfl) | (apply pv_fld; rfl) | (apply g_load; first | (apply pv_ld; rfl; (· (repeat (first | apply sel_here ))); rfl) ) | (apply g_pick; first | (apply pv_pick_t; rfl; rfl) ) )) | apply wo_nil | apply wc_seq | apply wc_region | apply wc_ret | (apply wo_run; rfl; rfl) | (apply wo_skip; rfl; rfl; rfl; rfl) | (apply wo_skip_u; rfl; rfl; rfl) | (apply a_gt; rfl; rfl; (· first | assumption | omega)) | (apply wo_box1; rfl; rfl; rfl; intro bx) | (apply wo_boxa; rfl; rfl; intro bx) ))
    exact ret1 rfl rfl ⟨by simp [h1], rfl, rfl⟩ ((by (repeat (first | apply sub_nil )); done) : List.Perm _ ([] ++ _)) (by first | exact fun _ h => h | (intro r hr; cases hr; done) | (simp; done) | exact fun _ h => List.mem_append_left _ h | (intro r hr; simp [hr]; done))
  by_cases h2 : 0 ≤ lv
  · refine fn_intro Try.func59 rfl Try.ntmps59 rfl (fun E => ?_)
    (repeat (first | ((first | (apply wo_v; rfl) ); (· first | (apply pv_ev; rfl) | (apply pv_fld; rfl) | (apply g_load; first | (apply pv_ld; rfl; (· (repeat (first | apply sel_here ))); rfl) ) | (apply g_pick; first | (apply pv_pick_t; rfl; rfl) | (apply pv_pick_f; rfl; rfl)) )) | apply wo_nil | apply wc_seq | apply wc_region | apply wc_ret | (apply wo_run; rfl; rfl) | (apply wo_skip; rfl; rfl; rfl; rfl) | (apply wo_skip_u; rfl; rfl; rfl) | (apply a_gt; rfl; rfl; (· first | assumption | omega)) | (apply a_gf; rfl; rfl; (· first | assumption | omega)) | (apply wo_box1; rfl; rfl; rfl; intro bx) | (apply wo_boxa; rfl; rfl; intro bx) ))
    exact ret1 rfl rfl ⟨by simp [h2], rfl, rfl⟩ ((by (repeat (first | apply sub_nil )); done) : List.Perm _ ([] ++ _)) (by first | exact fun _ h => h | (intro r hr; cases hr; done) | (simp; done) | exact fun _ h => List.mem_append_left _ h | (intro r hr; simp [hr]; done))
  by_cases h3 : 0 ≤ ly
  · refine fn_intro Try.func59 rfl Try.ntmps59 rfl (fun E => ?_)
    (repeat (first | ((first | (apply wo_v; rfl) ); (· first | (apply pv_ev; rfl) | (apply pv_fld; rfl) | (apply g_load; first | (apply pv_ld; rfl; (· (repeat (first | apply sel_here ))); rfl) ) | (apply g_pick; first | (apply pv_pick_t; rfl; rfl) | (apply pv_pick_f; rfl; rfl)) )) | apply wo_nil | apply wc_seq | apply wc_region | apply wc_ret | (apply wo_run; rfl; rfl) | (apply wo_skip; rfl; rfl; rfl; rfl) | (apply wo_skip_u; rfl; rfl; rfl) | (apply a_gt; rfl; rfl; (· first | assumption | omega)) | (apply a_gf; rfl; rfl; (· first | assumption | omega)) | (apply wo_box1; rfl; rfl; rfl; intro bx) | (apply wo_boxa; rfl; rfl; intro bx) ))
    exact ret1 rfl rfl ⟨by simp [h3], rfl, rfl⟩ ((by (repeat (first | apply sub_nil )); done) : List.Perm _ ([] ++ _)) (by first | exact fun _ h => h | (intro r hr; cases hr; done) | (simp; done) | exact fun _ h => List.mem_append_left _ h | (intro r hr; simp [hr]; done))
  · refine fn_intro Try.func59 rfl Try.ntmps59 rfl (fun E => ?_)
    (repeat (first | ((first | (apply wo_v; rfl) ); (· first | (apply pv_ev; rfl) | (apply pv_fld; rfl) | (apply g_load; first | (apply pv_ld; rfl; (· (repeat (first | apply sel_here ))); rfl) ) | (apply g_pick; first | (apply pv_pick_t; rfl; rfl) | (apply pv_pick_f; rfl; rfl)) )) | apply wo_nil | apply wc_seq | apply wc_region | apply wc_ret | (apply wo_run; rfl; rfl) | (apply wo_skip; rfl; rfl; rfl; rfl) | (apply wo_skip_u; rfl; rfl; rfl) | (apply a_gt; rfl; rfl; (· first | assumption | omega)) | (apply a_gf; rfl; rfl; (· first | assumption | omega)) | (apply wo_box1; rfl; rfl; rfl; intro bx) | (apply wo_boxa; rfl; rfl; intro bx) ))
    exact ret1 rfl rfl ⟨by simp [h1, h2, h3], rfl, rfl⟩ ((by (repeat (first | apply sub_nil )); done) : List.Perm _ ([] ++ _)) (by first | exact fun _ h => h | (intro r hr; cases hr; done) | (simp; done) | exact fun _ h => List.mem_append_left _ h | (intro r hr; simp [hr]; done))
theorem vPlain : Fn Try.prog 39 #[] [] [] (fun v L' R' => v = .agg (dL false false 0 (-1) false (-1) (-1) false (-1)).toArray ∧ L' = [] ∧ R' = []) := by
  refine fn_intro Try.func39 rfl Try.ntmps39 rfl (fun E => ?_)
  (repeat (first | ((first | (apply wo_v; rfl) ); (· first | (apply pv_ev; rfl) | (apply g_build; apply pv_build; (· (repeat (first | apply Bld.nil | (apply Bld.one; rfl; rfl; (· (repeat (first | apply SetAt.here | apply SetAt.there)))) )))) )) | apply wo_nil | apply wc_seq | apply wc_region | apply wc_ret | (apply wo_alloc; rfl; intro bx) | (apply wo_sta; rfl; rfl; rfl; rfl; (· (repeat (first | apply sel_here ))); (· (repeat (first | apply LayAt.nil | apply LayAt.here ))); rfl) ))
  exact retv rfl (by (repeat (first | apply RV.nil | (apply RV.agg; rfl; (· (repeat (first | apply sel_here ))); infer_instance; (· (repeat (first | apply Cut.here0 | apply Cut.here )))) )); done) (⟨rfl, rfl, rfl⟩) (by (repeat (first | apply sub_nil )); done) (by first | exact fun _ h => h | (intro r hr; cases hr; done) | (simp; done) | exact fun _ h => List.mem_append_left _ h | (intro r hr; simp [hr]; done))
theorem vPicture (h g : Nat) (nr st : Bool) (pt pic : Int) (wd : Bool) (lv ly : Int) (sy : Bool) (ky : Int) (f : Int) (hf : f / 128 % 2 = 1) (r : Rs) (hs : r.1.size ≤ 1099511627776) :
    Fn Try.prog 74 #[.pointer (some ⟨h, 0, none⟩), .pointer (some ⟨g, 0, none⟩)] [dO h nr st pt pic wd lv ly sy ky, rdO g r.1 r.2] []
      (fun v L' R' => v = .tuple #[] ∧ L' = [dO h nr st pt (sPic f r).1 (sPic f r).2.1 lv ly sy ky, rdO g (sPic f r).2.2.1 (sPic f r).2.2.2] ∧ R' = []) := by
  have hb := t1_b r
  have hs1 := t1_size r
  have hb2 := t1_b (t1 r).2
  by_cases hn : 127 < (t1 r).1
  · rw [show sPic f r = ((t1 r).1 % 128 * 256 + (t1 (t1 r).2).1, true, (t1 (t1 r).2).2) by unfold sPic; rw [if_pos hf, if_pos hn]]
    have q := rdU8 g r hs
    have q2 := rdU8 g (t1 r).2 (by omega)
    have e127 := and_127 (t1 r).1
    generalize t1 r = x1 at *
    generalize t1 x1.2 = x2 at *
    refine fn_intro Try.func74 rfl Try.ntmps74 rfl (fun E => ?_)
    (repeat (first | ((first | (apply wo_v; rfl) ); (· first | (apply pv_ev; rfl) )) | apply wc_seq | apply wc_region ))
    (refine wo_call (q) rfl (by (repeat (first | apply sub_nil | (apply sub_cons; (· (repeat (first | apply sel_here | apply sel_there)))))); done) (by first | exact fun _ h => h | (intro r hr; cases hr; done) | (simp; done) | exact fun _ h => List.mem_append_left _ h | (intro r hr; simp [hr]; done)) rfl ?_; rintro v L' R' ⟨rfl, rfl, rfl⟩ H' hH RR hR; simp only [List.cons_append, List.nil_append] at hH hR; subst hH; have hR := hR.symm; subst hR)
    (repeat (first | ((first | (apply wo_v; rfl) ); (· first | (apply pv_ev; rfl) | (apply pv_fld; rfl) | (apply g_load; first | (apply pv_ld; rfl; (· (repeat (first | apply sel_here ))); rfl) ) | (apply g_bin; first | (apply pv_and; rfl; rfl) | (apply a_shl; rfl; rfl; rfl; omega; rfl; infer_instance; omega) ) | (apply g_conv; first | (apply a_conv; rfl; infer_instance; infer_instance; infer_instance; omega) ) )) | apply wo_nil | apply wc_seq | apply wc_region | (apply wc_true; rfl) | (apply wc_false; rfl) | (apply a_dec_t; rfl; (· first | assumption | omega)) | (apply wo_st; rfl; rfl; rfl; (· (repeat (first | apply sel_here | apply sel_there))); (· (repeat (first | apply SetAt.here | apply SetAt.there))); rfl) ))
    rw [e127]
    (repeat (first | ((first | (apply wo_v; rfl) ); (· first | (apply pv_ev; rfl) )) ))
    (refine wo_call (q2) rfl (by (repeat (first | apply sub_nil | (apply sub_cons; (· (repeat (first | apply sel_here | apply sel_there)))))); done) (by first | exact fun _ h => h | (intro r hr; cases hr; done) | (simp; done) | exact fun _ h => List.mem_append_left _ h | (intro r hr; simp [hr]; done)) rfl ?_; rintro v L' R' ⟨rfl, rfl, rfl⟩ H' hH RR hR; simp only [List.cons_append, List.nil_append] at hH hR; subst hH; have hR := hR.symm; subst hR)
    rw [decide_eq_true hn]
    (repeat (first | ((first | (apply wo_v; rfl) ); (· first | (apply pv_ev; rfl) | (apply pv_fld; rfl) | (apply g_bin; first | (apply (a_or 4); rfl; rfl; infer_instance; rfl; omega) | (apply (a_or 5); rfl; rfl; infer_instance; rfl; omega) | (apply (a_or 6); rfl; rfl; infer_instance; rfl; omega) | (apply (a_or 7); rfl; rfl; infer_instance; rfl; omega) | (apply (a_or 8); rfl; rfl; infer_instance; rfl; omega) ) | (apply g_conv; first | (apply a_conv; rfl; infer_instance; infer_instance; infer_instance; omega) ) )) | apply wo_nil | apply wc_region | (apply wo_st; rfl; rfl; rfl; (· (repeat (first | apply sel_here | apply sel_there))); (· (repeat (first | apply SetAt.here | apply SetAt.there))); rfl) ))
    exact ret0 rfl ⟨rfl, rfl, rfl⟩ (by (repeat (first | apply sub_nil )); done) (by first | exact fun _ h => h | (intro r hr; cases hr; done) | (simp; done) | exact fun _ h => List.mem_append_left _ h | (intro r hr; simp [hr]; done))
  · rw [show sPic f r = ((t1 r).1, false, (t1 r).2) by unfold sPic; rw [if_pos hf, if_neg hn]]
    have q := rdU8 g r hs
    generalize t1 r = x1 at *
    refine fn_intro Try.func74 rfl Try.ntmps74 rfl (fun E => ?_)
    (repeat (first | ((first | (apply wo_v; rfl) ); (· first | (apply pv_ev; rfl) )) | apply wc_seq | apply wc_region ))
    (refine wo_call (q) rfl (by (repeat (first | apply sub_nil | (apply sub_cons; (· (repeat (first | apply sel_here | apply sel_there)))))); done) (by first | exact fun _ h => h | (intro r hr; cases hr; done) | (simp; done) | exact fun _ h => List.mem_append_left _ h | (intro r hr; simp [hr]; done)) rfl ?_; rintro v L' R' ⟨rfl, rfl, rfl⟩ H' hH RR hR; simp only [List.cons_append, List.nil_append] at hH hR; subst hH; have hR := hR.symm; subst hR)
    (repeat (first | ((first | (apply wo_v; rfl) ); (· first | (apply pv_ev; rfl) | (apply pv_fld; rfl) | (apply g_load; first | (apply pv_ld; rfl; (· (repeat (first | apply sel_here ))); rfl) ) | (apply g_conv; first | (apply a_conv; rfl; infer_instance; infer_instance; infer_instance; omega) ) )) | apply wo_nil | apply wc_seq | apply wc_region | apply wc_skip | (apply wc_true; rfl) | (apply wc_false; rfl) | (apply a_dec_t; rfl; (· first | assumption | omega)) | (apply a_dec_f; rfl; (· first | assumption | omega)) | (apply wo_st; rfl; rfl; rfl; (· (repeat (first | apply sel_here | apply sel_there))); (· (repeat (first | apply SetAt.here | apply SetAt.there))); rfl) ))
    rw [decide_eq_false hn]
    exact ret0 rfl ⟨rfl, rfl, rfl⟩ (by (repeat (first | apply sub_nil )); done) (by first | exact fun _ h => h | (intro r hr; cases hr; done) | (simp; done) | exact fun _ h => List.mem_append_left _ h | (intro r hr; simp [hr]; done))
theorem rest0 (s : ByteArray) : (rdB s 0 s.size).1 = s := by
  have := rdB_front s E0 s.size rfl
  rw [append_E0] at this
  rw [this]
theorem sFl_size (a : Int) (r : Rs) : (sFl a r).2.1.size ≤ r.1.size := by
  unfold sFl; split
  · exact t1_size r
  · exact Nat.le_refl _
theorem sPic_size (f : Int) (r : Rs) : (sPic f r).2.2.1.size ≤ r.1.size := by
  unfold sPic
  have h1 := t1_size r
  have h2 := t1_size (t1 r).2
  split
  · split
    · simp only; omega
    · exact h1
  · exact Nat.le_refl _
theorem sLv_size (f : Int) (r : Rs) : (sLv f r).2.1.size ≤ r.1.size := by
  unfold sLv; split
  · exact t1_size r
  · exact Nat.le_refl _
theorem sLast_size (f : Int) (r : Rs) : (sLast f r).2.2.2.1.size ≤ r.1.size := by
  unfold sLast; split
  · exact t1_size r
  · exact Nat.le_refl _
abbrev tblV (g z : Nat) (s : ByteArray) (r2 : Rs) (new : It) : Nat → List (List It) → Value → List (List It) → Prop := fun k Ls v Ms =>
  if k = 2 then v = .string s ∧ Ms = [[rdO g r2.1 r2.2]] else v = undef ∧ Ms = [[new]]
set_option maxHeartbeats 64000000 in
theorem vParse (s : ByteArray) (hs : s.size ≤ 1099511627776) : Fn Try.prog 17 #[.string s] [] []
    (fun v L' R' => v = .tuple #[.agg (dv (prs s).1).toArray, .string (prs s).2.1, .int .i64 (prs s).2.2] ∧ L' = [] ∧ R' = []) := by
  obtain ⟨x, hx⟩ : ∃ x, t1 (s, 0) = x := ⟨_, rfl⟩
  have hxb := t1_b (s, 0)
  have hxs := t1_size (s, 0)
  have q1 := fun g => rdU8 g (s, 0) hs
  rw [hx] at hxb hxs q1
  obtain ⟨f, hf⟩ : ∃ f, sFl x.1 x.2 = f := ⟨_, rfl⟩
  have hfb := sFl_b x.1 x.2
  have hfs := sFl_size x.1 x.2
  rw [hf] at hfb hfs
  obtain ⟨p, hp⟩ : ∃ p, sPic f.1 f.2 = p := ⟨_, rfl⟩
  have hps := sPic_size f.1 f.2
  rw [hp] at hps
  obtain ⟨l, hl⟩ : ∃ l, sLv f.1 p.2.2 = l := ⟨_, rfl⟩
  have hls := sLv_size f.1 p.2.2
  rw [hl] at hls
  obtain ⟨q, hq⟩ : ∃ q, sLast f.1 l.2 = q := ⟨_, rfl⟩
  have hqs := sLast_size f.1 l.2
  rw [hq] at hqs
  have hprs : prs s = mkD x.1 p l q := by unfold prs; simp only; rw [hx, hf, hp, hl, hq]
  rw [hprs]
  clear hprs
  dsimp only at hxs
  have e32 : decide (0 < bits .and .u8 x.1 32) = decide (x.1 / 32 % 2 = 1) := by rw [and8_32 hxb]; exact decide_eq_decide.2 (by omega)
  have e16 : decide (0 < bits .and .u8 x.1 16) = decide (x.1 / 16 % 2 = 1) := by rw [and8_16 hxb]; exact decide_eq_decide.2 (by omega)
  have e7 := and8_7 hxb
  obtain ⟨a, r1⟩ := x
  dsimp only at hxb hxs q1 hf hfb hfs e32 e16 e7
  refine fn_intro Try.func17 rfl Try.ntmps17 rfl (fun E => ?_)
  (repeat (first | ((first | (apply wo_v; rfl) ); (· first | (apply pv_ev; rfl) )) | apply wo_nil | apply wc_seq | apply wc_region | (apply wo_alloc; rfl; intro bx) ))
  (refine wo_call (octRead s) rfl (by (repeat (first | apply sub_nil )); done) (by first | exact fun _ h => h | (intro r hr; cases hr; done) | (simp; done) | exact fun _ h => List.mem_append_left _ h | (intro r hr; simp [hr]; done)) rfl ?_; rintro v L' R' ⟨g, rfl, rfl, rfl⟩ H' hH RR hR; simp only [List.cons_append, List.nil_append] at hH hR; subst hH; have hR := hR.symm; subst hR)
  (repeat (first | ((first | (apply wo_v; rfl) ); (· first | (apply pv_ev; rfl) )) | apply wo_nil | apply wc_seq | apply wc_region ))
  (refine wo_call (q1 g) rfl (by (repeat (first | apply sub_nil )); done) (by first | exact fun _ h => h | (intro r hr; cases hr; done) | (simp; done) | exact fun _ h => List.mem_append_left _ h | (intro r hr; simp [hr]; done)) rfl ?_; rintro v L' R' ⟨rfl, rfl, rfl⟩ H' hH RR hR; simp only [List.cons_append, List.nil_append] at hH hR; subst hH; have hR := hR.symm; subst hR)
  (repeat (first | ((first | (apply wo_v; rfl) ); (· first | (apply pv_ev; rfl) )) | apply wo_nil | apply wc_seq | apply wc_region ))
  obtain ⟨z, hz⟩ : ∃ z, z = bx := ⟨_, rfl⟩
  subst hz
  (refine wo_call (vPlain) rfl (by (repeat (first | apply sub_nil )); done) (by first | exact fun _ h => h | (intro r hr; cases hr; done) | (simp; done) | exact fun _ h => List.mem_append_left _ h | (intro r hr; simp [hr]; done)) rfl ?_; rintro v L' R' ⟨rfl, rfl, rfl⟩ H' hH RR hR; simp only [List.cons_append, List.nil_append] at hH hR; subst hH; have hR := hR.symm; subst hR)
  (repeat (first | ((first | (apply wo_v; rfl) ); (· first | (apply pv_ev; rfl) | (apply pv_fld; rfl) | (apply g_bin; first | (apply pv_and; rfl; rfl) ) | (apply g_conv; first | (apply a_conv; rfl; infer_instance; infer_instance; infer_instance; omega) ) )) | apply wo_nil | apply wc_seq | apply wc_region | (apply wc_true; rfl) | (apply wc_false; rfl) | (apply a_dec_t; rfl; (· first | assumption | omega)) | (apply a_dec_f; rfl; (· first | assumption | omega)) | (apply a_dec_t; rfl; (· first | (simp; done) | (simp; omega))) | (apply a_dec_f; rfl; (· first | (simp; done) | (simp; omega))) | (apply wo_st; rfl; rfl; rfl; (· (repeat (first | apply sel_here ))); (· (repeat (first | apply SetAt.here | apply SetAt.there))); rfl) | (apply wo_alloc; rfl; intro bx) | (apply wo_sta; rfl; rfl; rfl; rfl; (· (repeat (first | apply sel_here ))); (· (repeat (first | apply LayAt.nil | apply LayAt.here ))); rfl) ))
  obtain ⟨h, hh⟩ : ∃ h, h = bx := ⟨_, rfl⟩
  subst hh
  rw [e7]
  (repeat (first | (apply wc_true; rfl) | (apply wc_false; rfl) | (apply a_dec_t; rfl; (· first | assumption | omega)) | (apply a_dec_f; rfl; (· first | assumption | omega)) | (apply a_dec_t; rfl; (· first | (simp; done) | (simp; omega))) | (apply a_dec_f; rfl; (· first | (simp; done) | (simp; omega))) ))
  rw [e32, e16]
  generalize hnr : decide (a / 32 % 2 = 1) = nr, hst : decide (a / 16 % 2 = 1) = st
  refine wc_join0 (fun st' => st' = ⟨[(2, .pointer (some ⟨z, 0, none⟩)), (5, .pointer (some ⟨g, 0, none⟩)), (6, .int .u8 a), (7, .pointer (some ⟨h, 0, none⟩)), (8, .int .u8 f.1)], [dO z false false 0 0 false 0 0 false 0, dO h nr st (a % 8) (-1) false (-1) (-1) false (-1), rdO g f.2.1 f.2.2], []⟩) ?_ ?_
  · by_cases hc : 127 < a
    · have e : f = t1 r1 := by rw [← hf]; unfold sFl; rw [if_pos hc]
      have qu := rdU8 g r1 (by omega)
      rw [← e] at qu
      (repeat (first | ((first | (apply wo_v; rfl) ); (· first | (apply pv_ev; rfl) )) | apply wc_region | (apply wc_true; rfl) | (apply wc_false; rfl) | (apply a_dec_t; rfl; (· first | assumption | omega)) ))
      (refine wo_call (qu) rfl (by (repeat (first | apply sub_nil | (apply sub_cons; (· (repeat (first | apply sel_here | apply sel_there)))))); done) (by first | exact fun _ h => h | (intro r hr; cases hr; done) | (simp; done) | exact fun _ h => List.mem_append_left _ h | (intro r hr; simp [hr]; done)) rfl ?_; rintro v L' R' ⟨rfl, rfl, rfl⟩ H' hH RR hR; simp only [List.cons_append, List.nil_append] at hH hR; subst hH; have hR := hR.symm; subst hR)
      (repeat (first | ((first | (apply wo_v; rfl) ); (· first | (apply pv_ev; rfl) )) | apply wo_nil ))
      exact cut_end rfl (wk_mk (by (repeat (first | apply wkf_nil | (apply wkf_cons; rfl))); done) (by (repeat (first | apply sub_nil | (apply sub_cons; (· (repeat (first | apply sel_here | apply sel_there)))))); done) (by first | exact fun _ h => h | (intro r hr; cases hr; done) | (simp; done) | exact fun _ h => List.mem_append_left _ h | (intro r hr; simp [hr]; done)))
    · have e : f = (0, r1) := by rw [← hf]; unfold sFl; rw [if_neg hc]
      rw [e]
      (repeat (first | apply wc_skip | (apply wc_true; rfl) | (apply wc_false; rfl) | (apply a_dec_t; rfl; (· first | assumption | omega)) | (apply a_dec_f; rfl; (· first | assumption | omega)) ))
      exact cut_end rfl (wk_mk (by (repeat (first | apply wkf_nil | (apply wkf_cons; rfl))); done) (by (repeat (first | apply sub_nil | (apply sub_cons; (· (repeat (first | apply sel_here | apply sel_there)))))); done) (by first | exact fun _ h => h | (intro r hr; cases hr; done) | (simp; done) | exact fun _ h => List.mem_append_left _ h | (intro r hr; simp [hr]; done)))
  rintro st' rfl
  clear hf e32 e16 e7 q1 hx
  have e128 := and8_128 hfb
  have e64 := and8_64 hfb
  have e48 := and8_48 hfb
  have e32 := and8_32 hfb
  have e16 := and8_16 hfb
  obtain ⟨fl, r2⟩ := f
  dsimp only at hfb hfs hp hps hl hq e128 e64 e48 e32 e16
  (repeat (first | ((first | (apply wo_v; rfl) ); (· first | (apply pv_ev; rfl) | (apply g_bin; first | (apply pv_and; rfl; rfl) ) )) | apply wo_nil | apply wc_seq | apply wc_region | (apply wc_true; rfl) | (apply wc_false; rfl) | (apply a_dec_t; rfl; (· first | assumption | omega)) | (apply a_dec_f; rfl; (· first | assumption | omega)) | (apply a_dec_t; rfl; (· first | (simp; done) | (simp; omega))) | (apply a_dec_f; rfl; (· first | (simp; done) | (simp; omega))) ))
  refine wc_join0 (fun st' => st' = ⟨[(2, .pointer (some ⟨z, 0, none⟩)), (5, .pointer (some ⟨g, 0, none⟩)), (6, .int .u8 a), (7, .pointer (some ⟨h, 0, none⟩)), (8, .int .u8 fl)], [dO z false false 0 0 false 0 0 false 0, dO h nr st (a % 8) p.1 p.2.1 (-1) (-1) false (-1), rdO g p.2.2.1 p.2.2.2], []⟩) ?_ ?_
  · by_cases hc : fl / 128 % 2 = 1
    · have qp := vPicture h g nr st (a % 8) (-1) false (-1) (-1) false (-1) fl hc r2 (by omega)
      rw [hp] at qp
      (repeat (first | ((first | (apply wo_v; rfl) ); (· first | (apply pv_ev; rfl) )) | apply wc_region | (apply wc_true; rfl) | (apply wc_false; rfl) | (apply a_dec_t; rfl; (· first | assumption | omega)) | (apply a_dec_f; rfl; (· first | assumption | omega)) | (apply a_dec_t; rfl; (· first | (simp; done) | (simp; omega))) ))
      (refine wo_call (qp) rfl (by (repeat (first | apply sub_nil | (apply sub_cons; (· (repeat (first | apply sel_here | apply sel_there)))))); done) (by first | exact fun _ h => h | (intro r hr; cases hr; done) | (simp; done) | exact fun _ h => List.mem_append_left _ h | (intro r hr; simp [hr]; done)) rfl ?_; rintro v L' R' ⟨rfl, rfl, rfl⟩ H' hH RR hR; simp only [List.cons_append, List.nil_append] at hH hR; subst hH; have hR := hR.symm; subst hR)
      (repeat (first | apply wo_nil ))
      exact cut_end rfl (wk_mk (by (repeat (first | apply wkf_nil | (apply wkf_cons; rfl))); done) (by (repeat (first | apply sub_nil | (apply sub_cons; (· (repeat (first | apply sel_here | apply sel_there)))))); done) (by first | exact fun _ h => h | (intro r hr; cases hr; done) | (simp; done) | exact fun _ h => List.mem_append_left _ h | (intro r hr; simp [hr]; done)))
    · have e : p = (-1, false, r2) := by rw [← hp]; unfold sPic; rw [if_neg hc]
      rw [e]
      (repeat (first | apply wc_skip | (apply wc_true; rfl) | (apply wc_false; rfl) | (apply a_dec_t; rfl; (· first | assumption | omega)) | (apply a_dec_f; rfl; (· first | assumption | omega)) | (apply a_dec_t; rfl; (· first | (simp; done) | (simp; omega))) | (apply a_dec_f; rfl; (· first | (simp; done) | (simp; omega))) ))
      exact cut_end rfl (wk_mk (by (repeat (first | apply wkf_nil | (apply wkf_cons; rfl))); done) (by (repeat (first | apply sub_nil )); done) (by first | exact fun _ h => h | (intro r hr; cases hr; done) | (simp; done) | exact fun _ h => List.mem_append_left _ h | (intro r hr; simp [hr]; done)))
  rintro st' rfl
  clear hp e128
  obtain ⟨pc, w, r3⟩ := p
  dsimp only at hps hl hls
  (repeat (first | ((first | (apply wo_v; rfl) ); (· first | (apply pv_ev; rfl) | (apply g_bin; first | (apply pv_and; rfl; rfl) ) )) | apply wo_nil | apply wc_seq | apply wc_region | (apply wc_true; rfl) | (apply wc_false; rfl) | (apply a_dec_t; rfl; (· first | assumption | omega)) | (apply a_dec_f; rfl; (· first | assumption | omega)) | (apply a_dec_t; rfl; (· first | (simp; done) | (simp; omega))) | (apply a_dec_f; rfl; (· first | (simp; done) | (simp; omega))) ))
  refine wc_join0 (fun st' => st' = ⟨[(2, .pointer (some ⟨z, 0, none⟩)), (5, .pointer (some ⟨g, 0, none⟩)), (6, .int .u8 a), (7, .pointer (some ⟨h, 0, none⟩)), (8, .int .u8 fl)], [dO z false false 0 0 false 0 0 false 0, dO h nr st (a % 8) pc w l.1 (-1) false (-1), rdO g l.2.1 l.2.2], []⟩) ?_ ?_
  · by_cases hc : fl / 64 % 2 = 1
    · have e : l = t1 r3 := by rw [← hl]; unfold sLv; rw [if_pos hc]
      have qu := rdU8 g r3 (by omega)
      have hlb := t1_b r3
      rw [← e] at qu hlb
      (repeat (first | ((first | (apply wo_v; rfl) ); (· first | (apply pv_ev; rfl) )) | apply wc_region | (apply wc_true; rfl) | (apply wc_false; rfl) | (apply a_dec_t; rfl; (· first | assumption | omega)) ))
      (refine wo_call (qu) rfl (by (repeat (first | apply sub_nil | (apply sub_cons; (· (repeat (first | apply sel_here | apply sel_there)))))); done) (by first | exact fun _ h => h | (intro r hr; cases hr; done) | (simp; done) | exact fun _ h => List.mem_append_left _ h | (intro r hr; simp [hr]; done)) rfl ?_; rintro v L' R' ⟨rfl, rfl, rfl⟩ H' hH RR hR; simp only [List.cons_append, List.nil_append] at hH hR; subst hH; have hR := hR.symm; subst hR)
      (repeat (first | ((first | (apply wo_v; rfl) ); (· first | (apply pv_ev; rfl) | (apply pv_fld; rfl) | (apply g_conv; first | (apply a_conv; rfl; infer_instance; infer_instance; infer_instance; omega) ) )) | apply wo_nil | (apply wo_st; rfl; rfl; rfl; (· (repeat (first | apply sel_here | apply sel_there))); (· (repeat (first | apply SetAt.here | apply SetAt.there))); rfl) ))
      exact cut_end rfl (wk_mk (by (repeat (first | apply wkf_nil | (apply wkf_cons; rfl))); done) (by (repeat (first | apply sub_nil | (apply sub_cons; (· (repeat (first | apply sel_here | apply sel_there)))))); done) (by first | exact fun _ h => h | (intro r hr; cases hr; done) | (simp; done) | exact fun _ h => List.mem_append_left _ h | (intro r hr; simp [hr]; done)))
    · have e : l = (-1, r3) := by rw [← hl]; unfold sLv; rw [if_neg hc]
      rw [e]
      (repeat (first | apply wc_skip | (apply wc_true; rfl) | (apply wc_false; rfl) | (apply a_dec_t; rfl; (· first | assumption | omega)) | (apply a_dec_f; rfl; (· first | assumption | omega)) ))
      exact cut_end rfl (wk_mk (by (repeat (first | apply wkf_nil | (apply wkf_cons; rfl))); done) (by (repeat (first | apply sub_nil )); done) (by first | exact fun _ h => h | (intro r hr; cases hr; done) | (simp; done) | exact fun _ h => List.mem_append_left _ h | (intro r hr; simp [hr]; done)))
  rintro st' rfl
  clear hl e64
  obtain ⟨lv, r4⟩ := l
  dsimp only at hls hq hqs
  (repeat (first | ((first | (apply wo_v; rfl) ); (· first | (apply pv_ev; rfl) | (apply g_bin; first | (apply pv_and; rfl; rfl) ) )) | apply wo_nil | apply wc_seq | apply wc_region | (apply wc_true; rfl) | (apply wc_false; rfl) | (apply a_dec_t; rfl; (· first | assumption | omega)) | (apply a_dec_f; rfl; (· first | assumption | omega)) | (apply a_dec_t; rfl; (· first | (simp; done) | (simp; omega))) | (apply a_dec_f; rfl; (· first | (simp; done) | (simp; omega))) ))
  refine wc_join0 (fun st' => st' = ⟨[(2, .pointer (some ⟨z, 0, none⟩)), (5, .pointer (some ⟨g, 0, none⟩)), (6, .int .u8 a), (7, .pointer (some ⟨h, 0, none⟩))], [dO z false false 0 0 false 0 0 false 0, dO h nr st (a % 8) pc w lv q.1 q.2.1 q.2.2.1, rdO g q.2.2.2.1 q.2.2.2.2], []⟩) ?_ ?_
  · by_cases hc : 0 < fl / 16 % 4
    · have e : q = (if fl / 32 % 2 = 1 then (t1 r4).1 / 64 else -1, decide (fl / 32 % 2 = 1) && decide ((t1 r4).1 / 32 % 2 = 1), if fl / 16 % 2 = 1 then (t1 r4).1 % 32 else -1, (t1 r4).2) := by rw [← hq]; unfold sLast; rw [if_pos hc]
      have qu := rdU8 g r4 (by omega)
      have hcb := t1_b r4
      rw [e]
      generalize t1 r4 = y at qu hcb ⊢
      obtain ⟨c, r5⟩ := y
      dsimp only at qu hcb
      have e31 := and8_31 hcb
      have ec : decide (0 < bits .and .u8 c 32) = decide (c / 32 % 2 = 1) := by rw [and8_32 hcb]; exact decide_eq_decide.2 (by omega)
      (repeat (first | ((first | (apply wo_v; rfl) ); (· first | (apply pv_ev; rfl) )) | apply wc_seq | apply wc_region | (apply wc_true; rfl) | (apply wc_false; rfl) | (apply a_dec_t; rfl; (· first | assumption | omega)) ))
      (refine wo_call (qu) rfl (by (repeat (first | apply sub_nil | (apply sub_cons; (· (repeat (first | apply sel_here | apply sel_there)))))); done) (by first | exact fun _ h => h | (intro r hr; cases hr; done) | (simp; done) | exact fun _ h => List.mem_append_left _ h | (intro r hr; simp [hr]; done)) rfl ?_; rintro v L' R' ⟨rfl, rfl, rfl⟩ H' hH RR hR; simp only [List.cons_append, List.nil_append] at hH hR; subst hH; have hR := hR.symm; subst hR)
      (repeat (first | ((first | (apply wo_v; rfl) ); (· first | (apply pv_ev; rfl) | (apply g_bin; first | (apply pv_and; rfl; rfl) ) )) | apply wo_nil | apply wc_seq | apply wc_region | (apply wc_true; rfl) | (apply wc_false; rfl) | (apply a_dec_t; rfl; (· first | assumption | omega)) | (apply a_dec_f; rfl; (· first | assumption | omega)) | (apply a_dec_t; rfl; (· first | (simp; done) | (simp; omega))) | (apply a_dec_f; rfl; (· first | (simp; done) | (simp; omega))) ))
      by_cases h1 : fl / 32 % 2 = 1 <;> by_cases h2 : fl / 16 % 2 = 1
      · rw [if_pos h1, if_pos h2, decide_eq_true h1]
        (repeat (first | ((first | (apply wo_v; rfl) ); (· first | (apply pv_ev; rfl) | (apply pv_fld; rfl) | (apply g_bin; first | (apply pv_and; rfl; rfl) | (apply a_shr; rfl; rfl; rfl; omega; rfl) ) | (apply g_conv; first | (apply a_conv; rfl; infer_instance; infer_instance; infer_instance; omega) ) )) | apply wo_nil | apply wc_seq | apply wc_region | (apply wc_true; rfl) | (apply wc_false; rfl) | (apply a_dec_t; rfl; (· first | assumption | omega)) | (apply wo_st; rfl; rfl; rfl; (· (repeat (first | apply sel_here | apply sel_there))); (· (repeat (first | apply SetAt.here | apply SetAt.there))); rfl) ))
        rw [e31]
        (repeat (first | fail ))
        rw [ec]
        exact cut_end rfl (wk_mk (by (repeat (first | apply wkf_nil | (apply wkf_cons; rfl))); done) (by (repeat (first | apply sub_nil | (apply sub_cons; (· (repeat (first | apply sel_here | apply sel_there)))))); done) (by first | exact fun _ h => h | (intro r hr; cases hr; done) | (simp; done) | exact fun _ h => List.mem_append_left _ h | (intro r hr; simp [hr]; done)))
      · rw [if_pos h1, if_neg h2, decide_eq_true h1]
        (repeat (first | ((first | (apply wo_v; rfl) ); (· first | (apply pv_ev; rfl) | (apply pv_fld; rfl) | (apply g_bin; first | (apply pv_and; rfl; rfl) | (apply a_shr; rfl; rfl; rfl; omega; rfl) ) | (apply g_conv; first | (apply a_conv; rfl; infer_instance; infer_instance; infer_instance; omega) ) )) | apply wo_nil | apply wc_seq | apply wc_region | apply wc_skip | (apply wc_true; rfl) | (apply wc_false; rfl) | (apply a_dec_t; rfl; (· first | assumption | omega)) | (apply a_dec_f; rfl; (· first | assumption | omega)) | (apply wo_st; rfl; rfl; rfl; (· (repeat (first | apply sel_here | apply sel_there))); (· (repeat (first | apply SetAt.here | apply SetAt.there))); rfl) ))
        rw [ec]
        exact cut_end rfl (wk_mk (by (repeat (first | apply wkf_nil | (apply wkf_cons; rfl))); done) (by (repeat (first | apply sub_nil | (apply sub_cons; (· (repeat (first | apply sel_here | apply sel_there)))))); done) (by first | exact fun _ h => h | (intro r hr; cases hr; done) | (simp; done) | exact fun _ h => List.mem_append_left _ h | (intro r hr; simp [hr]; done)))
      · rw [if_neg h1, if_pos h2, decide_eq_false h1]
        (repeat (first | ((first | (apply wo_v; rfl) ); (· first | (apply pv_ev; rfl) | (apply pv_fld; rfl) | (apply g_bin; first | (apply pv_and; rfl; rfl) ) | (apply g_conv; first | (apply a_conv; rfl; infer_instance; infer_instance; infer_instance; omega) ) )) | apply wo_nil | apply wc_seq | apply wc_region | apply wc_skip | (apply wc_true; rfl) | (apply wc_false; rfl) | (apply a_dec_t; rfl; (· first | assumption | omega)) | (apply a_dec_f; rfl; (· first | assumption | omega)) | (apply wo_st; rfl; rfl; rfl; (· (repeat (first | apply sel_here | apply sel_there))); (· (repeat (first | apply SetAt.here | apply SetAt.there))); rfl) ))
        rw [e31]
        (repeat (first | fail ))
        exact cut_end rfl (wk_mk (by (repeat (first | apply wkf_nil | (apply wkf_cons; rfl))); done) (by (repeat (first | apply sub_nil | (apply sub_cons; (· (repeat (first | apply sel_here | apply sel_there)))))); done) (by first | exact fun _ h => h | (intro r hr; cases hr; done) | (simp; done) | exact fun _ h => List.mem_append_left _ h | (intro r hr; simp [hr]; done)))
      · omega
    · have e : q = (-1, false, -1, r4) := by rw [← hq]; unfold sLast; rw [if_neg hc]
      rw [e]
      (repeat (first | apply wc_skip | (apply wc_true; rfl) | (apply wc_false; rfl) | (apply a_dec_t; rfl; (· first | assumption | omega)) | (apply a_dec_f; rfl; (· first | assumption | omega)) ))
      exact cut_end rfl (wk_mk (by (repeat (first | apply wkf_nil | (apply wkf_cons; rfl))); done) (by (repeat (first | apply sub_nil )); done) (by first | exact fun _ h => h | (intro r hr; cases hr; done) | (simp; done) | exact fun _ h => List.mem_append_left _ h | (intro r hr; simp [hr]; done)))
  rintro st' rfl
  clear hq e48 e32 e16
  obtain ⟨ly, sy, ky, s6, e6⟩ := q
  dsimp only at hqs
  (repeat (first | ((first | (apply wo_v; rfl) ); (· first | (apply pv_ev; rfl) )) | apply wc_seq | apply wc_region ))
  (refine wo_call (octErr g s6 e6) rfl (by (repeat (first | apply sub_nil | (apply sub_cons; (· (repeat (first | apply sel_here | apply sel_there)))))); done) (by first | exact fun _ h => h | (intro r hr; cases hr; done) | (simp; done) | exact fun _ h => List.mem_append_left _ h | (intro r hr; simp [hr]; done)) rfl ?_; rintro v L' R' ⟨rfl, rfl, rfl⟩ H' hH RR hR; simp only [List.cons_append, List.nil_append] at hH hR; subst hH; have hR := hR.symm; subst hR)
  by_cases he : e6 ≠ 0
  · rw [show mkD a (pc, w, r3) (lv, r4) (ly, sy, ky, s6, e6) = (Dc0, E0, e6) from if_pos he]
    (repeat (first | ((first | (apply wo_v; rfl) ); (· first | (apply pv_ev; rfl) | (apply g_build; apply pv_build; (· (repeat (first | apply Bld.nil )))) )) | apply wo_nil | apply wc_seq | apply wc_region | apply wc_ret | (apply wc_true; rfl) | (apply wc_false; rfl) | (apply a_dec_t; rfl; (· first | assumption | omega)) | (apply wo_sta; rfl; rfl; rfl; rfl; (· (repeat (first | apply sel_here | apply sel_there))); (· (repeat (first | apply LayAt.nil | apply LayAt.here ))); rfl) ))
    exact retv rfl (by (repeat (first | apply RV.nil | (apply RV.tmp; rfl) | (apply RV.agg; rfl; (· (repeat (first | apply sel_here ))); infer_instance; (· (repeat (first | apply Cut.here0 | apply Cut.here )))) )); done) (⟨rfl, rfl, rfl⟩) (by (repeat (first | apply sub_nil )); done) (by first | exact fun _ h => h | (intro r hr; cases hr; done) | (simp; done) | exact fun _ h => List.mem_append_left _ h | (intro r hr; simp [hr]; done))
  · obtain rfl := Classical.not_not.1 he
    have hm : mkD a (pc, w, r3) (lv, r4) (ly, sy, ky, s6, 0) = (⟨nr, st, a % 8, pc, w, lv, ly, sy, ky⟩, s6, 0) := by unfold mkD; simp only; rw [if_neg (by simp), hnr, hst]
    rw [hm]
    have qr := octRest g s6 0 (by omega)
    rw [rest0] at qr
    (repeat (first | ((first | (apply wo_v; rfl) ); (· first | (apply pv_ev; rfl) )) | apply wo_nil | apply wc_seq | apply wc_region | apply wc_skip | (apply wc_true; rfl) | (apply wc_false; rfl) ))
    (refine wc_regM [0, 1] (aslL [(2, [0]), (3, [1])]) (tblV g z s6 (rdB s6 0 s6.size).2 (dO z nr st (a % 8) pc w lv ly sy ky)) ([dO h nr st (a % 8) pc w lv ly sy ky]) (fm [(0, [rdO g s6 0]), (1, [dO z false false 0 0 false 0 0 false 0])]) mixed (by kernel_rfl) (by kernel_rfl) (by decide) (aslL_ok (by decide)) (by (repeat (first | (apply prm_cons; (· (repeat (first | apply sel_here | apply sel_there)))) | apply List.Perm.nil )); done) ?_; (repeat (first | (apply HdM.val; rfl; rfl; (· first | apply gok_none ); (· first | (apply pv_ev; rfl) | (apply g_load; first | (apply pv_lda; rfl; (· (repeat (first | apply sel_here ))); (· (repeat (first | apply Cut.here0 | apply Cut.here )))) ) )) )))
    (refine hm_eff (cs := [0]) rfl (by decide) rfl rfl (by first | exact gok_none | exact gok_run rfl rfl) (fun a ha => outc_mono (outc_call (F1 := _) (T := fun v M => v = .string s6 ∧ M = [rdO g (rdB s6 0 s6.size).2.1 (rdB s6 0 s6.size).2.2]) qr rfl (by (repeat (first | apply sub_nil )); done) (by first | exact fun _ h => h | (intro r hr; cases hr; done) | (simp; done) | exact fun _ h => List.mem_append_left _ h | (intro r hr; simp [hr]; done)) (by rintro v L' R' ⟨rfl, rfl, _⟩; exact ⟨_, ⟨rfl, rfl⟩, (by (repeat (first | (apply prm_cons; (· (repeat (first | apply sel_here )))) | apply List.Perm.nil )); done)⟩) a ha) (fun v M h => ⟨[M], And.intro h.1 (congrArg (fun x => [x]) h.2), rfl, by simp⟩)) (⟨_, _, And.intro rfl rfl, rfl⟩) ?_; rintro v Ms ⟨rfl, rfl⟩ _; simp only [setls, setl, reduceIte, Nat.reduceEqDiff]; (repeat (first | fail )))
    (refine hm_eff (cs := [1]) rfl (by decide) rfl rfl (by first | exact gok_none | exact gok_run rfl rfl) (fun a ha => outc_mono (outc_sta rfl rfl rfl rfl (by (repeat (first | apply LayAt.nil | apply LayAt.here )); done) a ha) (fun v M h => ⟨[M], And.intro h.1 (congrArg (fun x => [x]) h.2), rfl, by simp⟩)) ⟨_, _, And.intro rfl rfl, rfl⟩ ?_; rintro v Ms ⟨rfl, rfl⟩ _; simp only [setls, setl, reduceIte, Nat.reduceEqDiff]; (repeat (first | (apply HdM.val; rfl; rfl; (· first | apply gok_none ); (· first | (apply pv_ev; rfl) )) )))
    (refine HdM.nil ?_; intro H hH; simp only [Hp, fm, look, setl, List.flatMap_cons, List.flatMap_nil, reduceIte, Nat.reduceEqDiff, Option.getD_some, List.append_nil, List.cons_append, List.nil_append] at hH; subst hH)
    (repeat (first | apply wc_ret ))
    exact retv rfl (by (repeat (first | apply RV.nil | (apply RV.tmp; rfl) | (apply RV.agg; rfl; (· (repeat (first | apply sel_here | apply sel_there))); infer_instance; (· (repeat (first | apply Cut.here0 | apply Cut.here )))) )); done) (⟨rfl, rfl, rfl⟩) (by (repeat (first | apply sub_nil )); done) (by first | exact fun _ h => h | (intro r hr; cases hr; done) | (simp; done) | exact fun _ h => List.mem_append_left _ h | (intro r hr; simp [hr]; done))
end Go.Proofs.Ytlhlidmhlhodiaa

/-
  Layer 4: a descriptor's bytes; Check, With, Keyframe.
-/
namespace Go.Proofs.Ytlhlidmhlhodiaa
set_option linter.unusedSimpArgs false
set_option linter.unusedVariables false
set_option linter.unusedSimpArgs false
set_option linter.unusedVariables false
open Go.RowKit
attribute [local irreducible] Pv WO WC Fn
attribute [local irreducible] ByteArray.extract
set_option maxRecDepth 100000

theorem or16_hi {p : Int} (h : 0 ≤ p ∧ p ≤ 32767) : bits .or .u16 p 32768 = p + 32768 := by
  obtain ⟨u, rfl⟩ := Int.eq_ofNat_of_zero_le h.1
  show IntKind.u16.wrap ((BitVec.ofInt 16 (u : Int) ||| BitVec.ofInt 16 ((32768 : Nat) : Int)).toNat : Int) = _
  have hz : ∀ c : Nat, c < 2 ^ 16 → (BitVec.ofInt 16 (c : Int)).toNat = c := fun c hc => by
    rw [BitVec.ofInt_natCast, BitVec.toNat_ofNat]; exact Nat.mod_eq_of_lt hc
  rw [BitVec.toNat_or, hz u (by omega), hz 32768 (by omega), Nat.or_comm]
  have e := Nat.two_pow_add_eq_or_of_lt (i := 15) (b := u) (by omega) 1
  rw [show 2 ^ 15 * 1 = 32768 from rfl] at e
  rw [← e, IntKind.wrap_u16]
  omega
abbrev wrR0 (g : Nat) (t : ByteArray) (v : Value) (Ms : List (List It)) : Prop := ∃ (p ao : Option Addr) (c : Nat), v = .pointer (some ⟨g, 0, none⟩) ∧ Ms = [wrH g p ao c t, []] ∧ WOk g p ao c t
/-- quiet calls' values qs, a slice of one byte y at k1, the write at k2 -/
abbrev tblT (g : Nat) (T : ByteArray) (y : Int) (k1 k2 : Nat) (qs : List (Nat × Value)) : Nat → List (List It) → Value → List (List It) → Prop := fun k Ls v Ms =>
  if k = k1 then ∃ b, v = .slice (some ⟨b, 0, none⟩) 1 1 ∧ Ms = [[byO b 1 (b1 y)]]
  else if k = k2 then wrR0 g T v Ms
  else v = (qs.lookup k).getD undef ∧ Ms = [[]]
theorem imp_b1 {y y' : Int} (hy : y' = y) (h : 0 ≤ y ∧ y ≤ 255) {v : Value} {M : List It} (hM : ∃ b, v = .slice (some ⟨b, 0, none⟩) 1 1 ∧ M = [.own 5 1 (some ⟨b, 0, none⟩) 1 1 [[.int .u8 y']]]) : ∃ b, v = .slice (some ⟨b, 0, none⟩) 1 1 ∧ M = [byO b 1 (b1 y)] := by
  obtain ⟨b, h1, h2⟩ := hM
  refine ⟨b, h1, h2.trans ?_⟩
  show _ = [It.own 5 1 (some ⟨b, 0, none⟩) 1 1 (brows (b1 y))]
  rw [← brows_one h, hy]
set_option maxHeartbeats 64000000 in
theorem vText (nr st : Bool) (pt pic : Int) (wd : Bool) (lv ly : Int) (sy : Bool) (ky : Int) (hA : okA ⟨nr, st, pt, pic, wd, lv, ly, sy, ky⟩) (hF : okF ⟨nr, st, pt, pic, wd, lv, ly, sy, ky⟩) :
    Fn Try.prog 14 #[.agg (dL nr st pt pic wd lv ly sy ky).toArray] [] [] (fun v L' R' => v = .string (txt ⟨nr, st, pt, pic, wd, lv, ly, sy, ky⟩) ∧ L' = [] ∧ R' = []) := by
  have hfb := first_b _ hA
  have hfl := fls_b ⟨nr, st, pt, pic, wd, lv, ly, sy, ky⟩
  obtain ⟨a1, a2, a3, a4, a5, a6, a7, a8, a9, a10⟩ := hA
  obtain ⟨f1, f2, f3⟩ := hF
  dsimp only at a1 a2 a3 a4 a5 a6 a7 a8 a9 a10 f1 f2 f3 hfb
  have e7 := and_7 pt
  obtain ⟨mb, hmb⟩ : ∃ mb, moreB ⟨nr, st, pt, pic, wd, lv, ly, sy, ky⟩ = mb := ⟨_, rfl⟩
  obtain ⟨x1, hx1⟩ : ∃ x, bt mb 128 = x := ⟨_, rfl⟩
  obtain ⟨x2, hx2⟩ : ∃ x, bt nr 32 = x := ⟨_, rfl⟩
  obtain ⟨x3, hx3⟩ : ∃ x, bt st 16 = x := ⟨_, rfl⟩
  have o1 := bt_or mb 128
  have o2 := bt_or nr 32
  have o3 := bt_or st 16
  rw [hmb, hx1, hx2, hx3] at hfb
  rw [hx1] at o1
  rw [hx2] at o2
  rw [hx3] at o3
  obtain ⟨y, hy⟩ : ∃ y, x1 + x2 + x3 + pt = y := ⟨_, rfl⟩
  rw [hy] at hfb
  have hy' : x1 + x2 + x3 + bits .and .i64 pt 7 = y := by omega
  have qm := vMore nr st pt pic wd lv ly sy ky mb hmb
  have hW1 := fun g bl => wU8 g 0 bl 1 none none E0 (b1 y) ⟨.inl rfl, .inl ⟨rfl, rfl, rfl⟩⟩ (by rw [b1_size]; omega) (by rw [b1_size]; decide)
  simp only [E0_append] at hW1
  have htx : txt ⟨nr, st, pt, pic, wd, lv, ly, sy, ky⟩ = b1 y ++ (if mb = true then b1 (fls ⟨nr, st, pt, pic, wd, lv, ly, sy, ky⟩) ++ (tPic ⟨nr, st, pt, pic, wd, lv, ly, sy, ky⟩ ++ (tLv ⟨nr, st, pt, pic, wd, lv, ly, sy, ky⟩ ++ tLast ⟨nr, st, pt, pic, wd, lv, ly, sy, ky⟩)) else E0) := by
    unfold txt; simp only; rw [hmb, hx1, hx2, hx3, hy]
  rw [htx]
  clear htx
  refine fn_intro Try.func14 rfl Try.ntmps14 rfl (fun E => ?_)
  (repeat (first | ((first | (apply wo_v; rfl) ); (· first | (apply pv_ev; rfl) )) | apply wo_nil | apply wc_seq | apply wc_region | (apply wo_box1; rfl; rfl; rfl; intro bx) | (apply wo_boxa; rfl; rfl; intro bx) | (apply wo_alloc; rfl; intro bx) ))
  obtain ⟨h, hh⟩ : ∃ h, h = bx := ⟨_, rfl⟩
  subst hh
  obtain ⟨g, hg⟩ : ∃ g, g = h := ⟨_, rfl⟩
  subst hg
  refine wc_own0 5 1 ?_
  refine wc_join0 (fun st' => ∃ (p ao : Option Addr) (c : Nat), st' = ⟨[(1, .pointer (some ⟨bx, 0, none⟩)), (3, .pointer (some ⟨g, 0, none⟩))], wrH g p ao c (b1 y) ++ [dO bx nr st pt pic wd lv ly sy ky], []⟩ ∧ WOk g p ao c (b1 y)) ?_ ?_
  · (refine wc_regM [0, 1, 2, 3, 4, 5] (aslL [(1, [2]), (2, [3]), (5, [4]), (9, [5]), (16, [1]), (17, [0, 1])]) (tblT g (b1 y) y 16 17 [(1, .bool mb), (2, .int .u8 x1), (5, .int .u8 x2), (9, .int .u8 x3)]) ([dO bx nr st pt pic wd lv ly sy ky]) (fm [(0, wrH g none none 0 E0), (1, []), (2, []), (3, []), (4, []), (5, [])]) mixed (by kernel_rfl) (by kernel_rfl) (by decide) (aslL_ok (by decide)) (by (repeat (first | (apply prm_cons; (· (repeat (first | apply sel_here | apply sel_there)))) | apply List.Perm.nil )); done) ?_; (repeat (first | (apply HdM.val; rfl; rfl; (· first | apply gok_none ); (· first | (apply pv_ev; rfl) | (apply g_load; first | (apply pv_lda; rfl; (· (repeat (first | apply sel_here ))); (· (repeat (first | apply Cut.here0 | apply Cut.here )))) ) )) )))
    (refine hm_eff (cs := [2]) rfl (by decide) rfl rfl (by first | exact gok_none | exact gok_run rfl rfl) (fun a ha => outc_mono (outc_call (F1 := _) (T := fun v M => v = .bool mb ∧ M = []) (qm) rfl (by (repeat (first | apply sub_nil )); done) (by first | exact fun _ h => h | (intro r hr; cases hr; done) | (simp; done) | exact fun _ h => List.mem_append_left _ h | (intro r hr; simp [hr]; done)) (by rintro v L' R' ⟨rfl, rfl, _⟩; exact ⟨_, ⟨rfl, rfl⟩, (by (repeat (first | (apply prm_cons; (· (repeat (first | apply sel_here )))) | apply List.Perm.nil )); done)⟩) a ha) (fun v M h => ⟨[[]], And.intro h.1 rfl, rfl, h.2⟩)) ⟨_, _, And.intro rfl rfl, rfl⟩ ?_; rintro v Ms ⟨rfl, rfl⟩ _; simp only [setls, setl, reduceIte, Nat.reduceEqDiff]; (repeat (first | (apply HdM.val; rfl; rfl; (· first | fail ); (· first | fail )) )))
    (refine hm_eff (cs := [3]) rfl (by decide) rfl rfl (by first | exact gok_none | exact gok_run rfl rfl) (fun a ha => outc_mono (outc_call (F1 := _) (T := fun v M => v = .int .u8 x1 ∧ M = []) (vBit mb 128 x1 hx1) rfl (by (repeat (first | apply sub_nil )); done) (by first | exact fun _ h => h | (intro r hr; cases hr; done) | (simp; done) | exact fun _ h => List.mem_append_left _ h | (intro r hr; simp [hr]; done)) (by rintro v L' R' ⟨rfl, rfl, _⟩; exact ⟨_, ⟨rfl, rfl⟩, (by (repeat (first | (apply prm_cons; (· (repeat (first | apply sel_here )))) | apply List.Perm.nil )); done)⟩) a ha) (fun v M h => ⟨[[]], And.intro h.1 rfl, rfl, h.2⟩)) ⟨_, _, And.intro rfl rfl, rfl⟩ ?_; rintro v Ms ⟨rfl, rfl⟩ _; simp only [setls, setl, reduceIte, Nat.reduceEqDiff]; (repeat (first | (apply HdM.val; rfl; rfl; (· first | apply gok_none ); (· first | (apply pv_ev; rfl) | (apply pv_fld; rfl) | (apply g_load; first | (apply pv_ld; rfl; (· (repeat (first | apply sel_here ))); rfl) ) )) )))
    (refine hm_eff (cs := [4]) rfl (by decide) rfl rfl (by first | exact gok_none | exact gok_run rfl rfl) (fun a ha => outc_mono (outc_call (F1 := _) (T := fun v M => v = .int .u8 x2 ∧ M = []) (vBit nr 32 x2 hx2) rfl (by (repeat (first | apply sub_nil )); done) (by first | exact fun _ h => h | (intro r hr; cases hr; done) | (simp; done) | exact fun _ h => List.mem_append_left _ h | (intro r hr; simp [hr]; done)) (by rintro v L' R' ⟨rfl, rfl, _⟩; exact ⟨_, ⟨rfl, rfl⟩, (by (repeat (first | (apply prm_cons; (· (repeat (first | apply sel_here )))) | apply List.Perm.nil )); done)⟩) a ha) (fun v M h => ⟨[[]], And.intro h.1 rfl, rfl, h.2⟩)) ⟨_, _, And.intro rfl rfl, rfl⟩ ?_; rintro v Ms ⟨rfl, rfl⟩ _; simp only [setls, setl, reduceIte, Nat.reduceEqDiff]; (repeat (first | (apply HdM.val; rfl; rfl; (· first | apply gok_none ); (· first | (apply pv_ev; rfl) | (apply pv_fld; rfl) | (apply g_load; first | (apply pv_ld; rfl; (· (repeat (first | apply sel_here ))); rfl) ) | (apply g_bin; first | (apply (a_or 4); rfl; rfl; infer_instance; rfl; omega) | (apply (a_or 5); rfl; rfl; infer_instance; rfl; omega) | (apply (a_or 6); rfl; rfl; infer_instance; rfl; omega) ) )) )))
    (refine hm_eff (cs := [5]) rfl (by decide) rfl rfl (by first | exact gok_none | exact gok_run rfl rfl) (fun a ha => outc_mono (outc_call (F1 := _) (T := fun v M => v = .int .u8 x3 ∧ M = []) (vBit st 16 x3 hx3) rfl (by (repeat (first | apply sub_nil )); done) (by first | exact fun _ h => h | (intro r hr; cases hr; done) | (simp; done) | exact fun _ h => List.mem_append_left _ h | (intro r hr; simp [hr]; done)) (by rintro v L' R' ⟨rfl, rfl, _⟩; exact ⟨_, ⟨rfl, rfl⟩, (by (repeat (first | (apply prm_cons; (· (repeat (first | apply sel_here )))) | apply List.Perm.nil )); done)⟩) a ha) (fun v M h => ⟨[[]], And.intro h.1 rfl, rfl, h.2⟩)) ⟨_, _, And.intro rfl rfl, rfl⟩ ?_; rintro v Ms ⟨rfl, rfl⟩ _; simp only [setls, setl, reduceIte, Nat.reduceEqDiff]; (repeat (first | (apply HdM.val; rfl; rfl; (· first | apply gok_none ); (· first | (apply pv_ev; rfl) | (apply pv_fld; rfl) | (apply g_load; first | (apply pv_ld; rfl; (· (repeat (first | apply sel_here ))); rfl) ) | (apply g_bin; first | (apply pv_and; rfl; rfl) | (apply (a_or 4); rfl; rfl; infer_instance; rfl; omega) | (apply (a_or 5); rfl; rfl; infer_instance; rfl; omega) ) | (apply g_conv; first | (apply a_conv; rfl; infer_instance; infer_instance; infer_instance; omega) ) )) )))
    (refine hm_eff (cs := [1]) rfl (by decide) rfl rfl (by first | exact gok_none | exact gok_run rfl rfl) (fun a ha => outc_mono (outc_bsl (by (repeat (first | apply Rws'.nil | (apply Rws'.one; rfl; rfl; rfl) )); done) rfl rfl rfl a ha) (fun v M h => by obtain ⟨b, h1, h2⟩ := imp_b1 hy' hfb h; exact ⟨[M], Exists.intro b (And.intro h1 (congrArg (fun x => [x]) h2)), rfl, by simp⟩)) (⟨_, _, Exists.intro 0 (And.intro rfl rfl), rfl⟩) ?_; rintro v Ms ⟨b16, rfl, rfl⟩ _; simp only [setls, setl, reduceIte, Nat.reduceEqDiff]; (repeat (first | (apply HdM.val; rfl; rfl; (· first | fail ); (· first | fail )) )))
    (refine hm_eff (cs := [0, 1]) rfl (by decide) rfl rfl (by first | exact gok_none | exact gok_run rfl rfl) (fun a ha => outc_mono (outc_call (F1 := _) (T := fun v M => ∃ (p ao : Option Addr) (c : Nat), v = .pointer (some ⟨g, 0, none⟩) ∧ M = wrH g p ao c (b1 y) ∧ WOk g p ao c (b1 y)) (hW1 g b16) rfl (by (repeat (first | apply sub_nil )); done) (by first | exact fun _ h => h | (intro r hr; cases hr; done) | (simp; done) | exact fun _ h => List.mem_append_left _ h | (intro r hr; simp [hr]; done)) (by rintro v L' R' ⟨p', ao', c', rfl, rfl, _, hw'⟩; exact ⟨_, ⟨p', ao', c', rfl, rfl, hw'⟩, (by (repeat (first | (apply prm_cons; (· (repeat (first | apply sel_here )))) | apply List.Perm.nil )); done)⟩) a ha) (fun v M h => Exists.elim h fun p h => Exists.elim h fun ao h => Exists.elim h fun c h => ⟨[M, []], Exists.intro p (Exists.intro ao (Exists.intro c (And.intro h.1 (And.intro (congrArg (fun x => [x, []]) h.2.1) h.2.2)))), rfl, by simp⟩)) ((by obtain ⟨p, ao, c, h⟩ := WOk.ex g (b1 y); exact ⟨_, _, Exists.intro p (Exists.intro ao (Exists.intro c (And.intro rfl (And.intro rfl h)))), rfl⟩)) ?_; rintro v Ms ⟨p1, ao1, c1, rfl, rfl, hw1⟩ _; simp only [setls, setl, reduceIte, Nat.reduceEqDiff]; (repeat (first | fail )))
    (refine HdM.nil ?_; intro H hH; simp only [Hp, fm, look, setl, List.flatMap_cons, List.flatMap_nil, reduceIte, Nat.reduceEqDiff, Option.getD_some, List.append_nil, List.cons_append, List.nil_append] at hH; subst hH)
    exact cut_end ⟨p1, ao1, c1, rfl, hw1⟩ (wk_mk (by (repeat (first | apply wkf_nil | (apply wkf_cons; rfl))); done) (by (repeat (first | apply sub_nil | (apply sub_cons; (· (repeat (first | apply sel_here | apply sel_there)))))); done) (by first | exact fun _ h => h | (intro r hr; cases hr; done) | (simp; done) | exact fun _ h => List.mem_append_left _ h | (intro r hr; simp [hr]; done)))
  rintro st' ⟨p1, ao1, c1, rfl, hw1⟩
  (repeat (first | ((first | (apply wo_v; rfl) ); (· first | (apply pv_ev; rfl) | (apply g_load; first | (apply pv_lda; rfl; (· (repeat (first | apply sel_here | apply sel_there))); (· (repeat (first | apply Cut.here0 | apply Cut.here )))) ) )) | apply wc_seq | apply wc_region ))
  (refine wo_call (qm) rfl (by (repeat (first | apply sub_nil )); done) (by first | exact fun _ h => h | (intro r hr; cases hr; done) | (simp; done) | exact fun _ h => List.mem_append_left _ h | (intro r hr; simp [hr]; done)) rfl ?_; rintro v L' R' ⟨rfl, rfl, rfl⟩ H' hH RR hR; simp only [List.cons_append, List.nil_append] at hH hR; subst hH; have hR := hR.symm; subst hR)
  cases mb with
  | false =>
    (repeat (first | ((first | (apply wo_v; rfl) ); (· first | (apply pv_ev; rfl) | (apply g_un; first | (apply pv_not_t; rfl) | (apply pv_not_f; rfl) ) )) | apply wo_nil | apply wc_seq | apply wc_region | (apply wc_true; rfl) ))
    (refine wo_call (wText g c1 p1 ao1 (b1 y) hw1) rfl (by (repeat (first | apply sub_nil )); done) (by first | exact fun _ h => h | (intro r hr; cases hr; done) | (simp; done) | exact fun _ h => List.mem_append_left _ h | (intro r hr; simp [hr]; done)) rfl ?_; rintro v L' R' ⟨rfl, rfl, rfl⟩ H' hH RR hR; simp only [List.cons_append, List.nil_append] at hH hR; subst hH; have hR := hR.symm; subst hR)
    (repeat (first | ((first | (apply wo_v; rfl) ); (· first | (apply pv_ev; rfl) )) | apply wo_nil | apply wc_ret ))
    exact ret1 rfl rfl ⟨by rw [if_neg (by simp), append_E0], rfl, rfl⟩ ((by (repeat (first | apply sub_nil )); done) : List.Perm _ ([] ++ _)) (by first | exact fun _ h => h | (intro r hr; cases hr; done) | (simp; done) | exact fun _ h => List.mem_append_left _ h | (intro r hr; simp [hr]; done))
  | true =>
  rw [if_pos rfl]
  obtain ⟨x5, hx5⟩ : ∃ x, bt (decide (0 ≤ pic)) 128 = x := ⟨_, rfl⟩
  obtain ⟨x6, hx6⟩ : ∃ x, bt (decide (0 ≤ lv)) 64 = x := ⟨_, rfl⟩
  obtain ⟨x7, hx7⟩ : ∃ x, bt (decide (0 ≤ ly)) 32 = x := ⟨_, rfl⟩
  obtain ⟨x8, hx8⟩ : ∃ x, bt (decide (0 ≤ ky)) 16 = x := ⟨_, rfl⟩
  have o5 := bt_or (decide (0 ≤ pic)) 128
  have o6 := bt_or (decide (0 ≤ lv)) 64
  have o7 := bt_or (decide (0 ≤ ly)) 32
  have o8 := bt_or (decide (0 ≤ ky)) 16
  rw [hx5] at o5
  rw [hx6] at o6
  rw [hx7] at o7
  rw [hx8] at o8
  have hF0 : x5 + x6 + x7 + x8 = fls ⟨nr, st, pt, pic, wd, lv, ly, sy, ky⟩ := by unfold fls; simp only; rw [hx5, hx6, hx7, hx8]
  generalize fls ⟨nr, st, pt, pic, wd, lv, ly, sy, ky⟩ = F at hF0 hfl ⊢
  have hfl2 : 0 ≤ F ∧ F ≤ 255 := by omega
  have hW2 := fun bl => wU8 g c1 bl 1 p1 ao1 (b1 y) (b1 F) hw1 (by rw [b1_size]; omega) (by rw [b1_size, b1_size]; decide)
  (repeat (first | ((first | (apply wo_v; rfl) ); (· first | (apply pv_ev; rfl) | (apply g_un; first | (apply pv_not_t; rfl) ) )) | apply wo_nil | apply wc_seq | apply wc_skip | (apply wc_true; rfl) | (apply wc_false; rfl) ))
  refine wc_join0 (fun st' => ∃ (p ao : Option Addr) (c : Nat), st' = ⟨[(1, .pointer (some ⟨bx, 0, none⟩)), (3, .pointer (some ⟨g, 0, none⟩))], wrH g p ao c (b1 y ++ b1 F) ++ [dO bx nr st pt pic wd lv ly sy ky], []⟩ ∧ WOk g p ao c (b1 y ++ b1 F)) ?_ ?_
  · (refine wc_regM [0, 1, 2, 3, 4, 5] (aslL [(3, [2]), (7, [3]), (12, [4]), (17, [5]), (19, [1]), (20, [0, 1])]) (tblT g (b1 y ++ b1 F) F 19 20 [(3, .int .u8 x5), (7, .int .u8 x6), (12, .int .u8 x7), (17, .int .u8 x8)]) ([dO bx nr st pt pic wd lv ly sy ky]) (fm [(0, wrH g p1 ao1 c1 (b1 y)), (1, []), (2, []), (3, []), (4, []), (5, [])]) mixed (by kernel_rfl) (by kernel_rfl) (by decide) (aslL_ok (by decide)) (by (repeat (first | (apply prm_cons; (· (repeat (first | apply sel_here | apply sel_there)))) | apply List.Perm.nil )); done) ?_; (repeat (first | (apply HdM.val; rfl; rfl; (· first | apply gok_none ); (· first | (apply pv_ev; rfl) | (apply pv_fld; rfl) | (apply g_load; first | (apply pv_ld; rfl; (· (repeat (first | apply sel_here ))); rfl) ) )) )))
    (refine hm_eff (cs := [2]) rfl (by decide) rfl rfl (by first | exact gok_none | exact gok_run rfl rfl) (fun a ha => outc_mono (outc_call (F1 := _) (T := fun v M => v = .int .u8 x5 ∧ M = []) (vBit (decide (0 ≤ pic)) 128 x5 hx5) rfl (by (repeat (first | apply sub_nil )); done) (by first | exact fun _ h => h | (intro r hr; cases hr; done) | (simp; done) | exact fun _ h => List.mem_append_left _ h | (intro r hr; simp [hr]; done)) (by rintro v L' R' ⟨rfl, rfl, _⟩; exact ⟨_, ⟨rfl, rfl⟩, (by (repeat (first | (apply prm_cons; (· (repeat (first | apply sel_here )))) | apply List.Perm.nil )); done)⟩) a ha) (fun v M h => ⟨[[]], And.intro h.1 rfl, rfl, h.2⟩)) ⟨_, _, And.intro rfl rfl, rfl⟩ ?_; rintro v Ms ⟨rfl, rfl⟩ _; simp only [setls, setl, reduceIte, Nat.reduceEqDiff]; (repeat (first | (apply HdM.val; rfl; rfl; (· first | apply gok_none ); (· first | (apply pv_ev; rfl) | (apply pv_fld; rfl) | (apply g_load; first | (apply pv_ld; rfl; (· (repeat (first | apply sel_here ))); rfl) ) )) )))
    (refine hm_eff (cs := [3]) rfl (by decide) rfl rfl (by first | exact gok_none | exact gok_run rfl rfl) (fun a ha => outc_mono (outc_call (F1 := _) (T := fun v M => v = .int .u8 x6 ∧ M = []) (vBit (decide (0 ≤ lv)) 64 x6 hx6) rfl (by (repeat (first | apply sub_nil )); done) (by first | exact fun _ h => h | (intro r hr; cases hr; done) | (simp; done) | exact fun _ h => List.mem_append_left _ h | (intro r hr; simp [hr]; done)) (by rintro v L' R' ⟨rfl, rfl, _⟩; exact ⟨_, ⟨rfl, rfl⟩, (by (repeat (first | (apply prm_cons; (· (repeat (first | apply sel_here )))) | apply List.Perm.nil )); done)⟩) a ha) (fun v M h => ⟨[[]], And.intro h.1 rfl, rfl, h.2⟩)) ⟨_, _, And.intro rfl rfl, rfl⟩ ?_; rintro v Ms ⟨rfl, rfl⟩ _; simp only [setls, setl, reduceIte, Nat.reduceEqDiff]; (repeat (first | (apply HdM.val; rfl; rfl; (· first | apply gok_none ); (· first | (apply pv_ev; rfl) | (apply pv_fld; rfl) | (apply g_load; first | (apply pv_ld; rfl; (· (repeat (first | apply sel_here ))); rfl) ) | (apply g_bin; first | (apply (a_or 4); rfl; rfl; infer_instance; rfl; omega) | (apply (a_or 5); rfl; rfl; infer_instance; rfl; omega) | (apply (a_or 6); rfl; rfl; infer_instance; rfl; omega) | (apply (a_or 7); rfl; rfl; infer_instance; rfl; omega) ) )) )))
    (refine hm_eff (cs := [4]) rfl (by decide) rfl rfl (by first | exact gok_none | exact gok_run rfl rfl) (fun a ha => outc_mono (outc_call (F1 := _) (T := fun v M => v = .int .u8 x7 ∧ M = []) (vBit (decide (0 ≤ ly)) 32 x7 hx7) rfl (by (repeat (first | apply sub_nil )); done) (by first | exact fun _ h => h | (intro r hr; cases hr; done) | (simp; done) | exact fun _ h => List.mem_append_left _ h | (intro r hr; simp [hr]; done)) (by rintro v L' R' ⟨rfl, rfl, _⟩; exact ⟨_, ⟨rfl, rfl⟩, (by (repeat (first | (apply prm_cons; (· (repeat (first | apply sel_here )))) | apply List.Perm.nil )); done)⟩) a ha) (fun v M h => ⟨[[]], And.intro h.1 rfl, rfl, h.2⟩)) ⟨_, _, And.intro rfl rfl, rfl⟩ ?_; rintro v Ms ⟨rfl, rfl⟩ _; simp only [setls, setl, reduceIte, Nat.reduceEqDiff]; (repeat (first | (apply HdM.val; rfl; rfl; (· first | apply gok_none ); (· first | (apply pv_ev; rfl) | (apply pv_fld; rfl) | (apply g_load; first | (apply pv_ld; rfl; (· (repeat (first | apply sel_here ))); rfl) ) | (apply g_bin; first | (apply (a_or 4); rfl; rfl; infer_instance; rfl; omega) | (apply (a_or 5); rfl; rfl; infer_instance; rfl; omega) | (apply (a_or 6); rfl; rfl; infer_instance; rfl; omega) ) )) )))
    (refine hm_eff (cs := [5]) rfl (by decide) rfl rfl (by first | exact gok_none | exact gok_run rfl rfl) (fun a ha => outc_mono (outc_call (F1 := _) (T := fun v M => v = .int .u8 x8 ∧ M = []) (vBit (decide (0 ≤ ky)) 16 x8 hx8) rfl (by (repeat (first | apply sub_nil )); done) (by first | exact fun _ h => h | (intro r hr; cases hr; done) | (simp; done) | exact fun _ h => List.mem_append_left _ h | (intro r hr; simp [hr]; done)) (by rintro v L' R' ⟨rfl, rfl, _⟩; exact ⟨_, ⟨rfl, rfl⟩, (by (repeat (first | (apply prm_cons; (· (repeat (first | apply sel_here )))) | apply List.Perm.nil )); done)⟩) a ha) (fun v M h => ⟨[[]], And.intro h.1 rfl, rfl, h.2⟩)) ⟨_, _, And.intro rfl rfl, rfl⟩ ?_; rintro v Ms ⟨rfl, rfl⟩ _; simp only [setls, setl, reduceIte, Nat.reduceEqDiff]; (repeat (first | (apply HdM.val; rfl; rfl; (· first | apply gok_none ); (· first | (apply pv_ev; rfl) | (apply g_bin; first | (apply (a_or 4); rfl; rfl; infer_instance; rfl; omega) | (apply (a_or 5); rfl; rfl; infer_instance; rfl; omega) ) )) )))
    (refine hm_eff (cs := [1]) rfl (by decide) rfl rfl (by first | exact gok_none | exact gok_run rfl rfl) (fun a ha => outc_mono (outc_bsl (by (repeat (first | apply Rws'.nil | (apply Rws'.one; rfl; rfl; rfl) )); done) rfl rfl rfl a ha) (fun v M h => by obtain ⟨b, h1, h2⟩ := imp_b1 hF0 hfl2 h; exact ⟨[M], Exists.intro b (And.intro h1 (congrArg (fun x => [x]) h2)), rfl, by simp⟩)) (⟨_, _, Exists.intro 0 (And.intro rfl rfl), rfl⟩) ?_; rintro v Ms ⟨b19, rfl, rfl⟩ _; simp only [setls, setl, reduceIte, Nat.reduceEqDiff]; (repeat (first | (apply HdM.val; rfl; rfl; (· first | fail ); (· first | fail )) )))
    (refine hm_eff (cs := [0, 1]) rfl (by decide) rfl rfl (by first | exact gok_none | exact gok_run rfl rfl) (fun a ha => outc_mono (outc_call (F1 := _) (T := fun v M => ∃ (p ao : Option Addr) (c : Nat), v = .pointer (some ⟨g, 0, none⟩) ∧ M = wrH g p ao c (b1 y ++ b1 F) ∧ WOk g p ao c (b1 y ++ b1 F)) (hW2 b19) rfl (by (repeat (first | apply sub_nil )); done) (by first | exact fun _ h => h | (intro r hr; cases hr; done) | (simp; done) | exact fun _ h => List.mem_append_left _ h | (intro r hr; simp [hr]; done)) (by rintro v L' R' ⟨p', ao', c', rfl, rfl, _, hw'⟩; exact ⟨_, ⟨p', ao', c', rfl, rfl, hw'⟩, (by (repeat (first | (apply prm_cons; (· (repeat (first | apply sel_here )))) | apply List.Perm.nil )); done)⟩) a ha) (fun v M h => Exists.elim h fun p h => Exists.elim h fun ao h => Exists.elim h fun c h => ⟨[M, []], Exists.intro p (Exists.intro ao (Exists.intro c (And.intro h.1 (And.intro (congrArg (fun x => [x, []]) h.2.1) h.2.2)))), rfl, by simp⟩)) ((by obtain ⟨p, ao, c, h⟩ := WOk.ex g (b1 y ++ b1 F); exact ⟨_, _, Exists.intro p (Exists.intro ao (Exists.intro c (And.intro rfl (And.intro rfl h)))), rfl⟩)) ?_; rintro v Ms ⟨p2, ao2, c2, rfl, rfl, hw2⟩ _; simp only [setls, setl, reduceIte, Nat.reduceEqDiff]; (repeat (first | fail )))
    (refine HdM.nil ?_; intro H hH; simp only [Hp, fm, look, setl, List.flatMap_cons, List.flatMap_nil, reduceIte, Nat.reduceEqDiff, Option.getD_some, List.append_nil, List.cons_append, List.nil_append] at hH; subst hH)
    exact cut_end ⟨p2, ao2, c2, rfl, hw2⟩ (wk_mk (by (repeat (first | apply wkf_nil | (apply wkf_cons; rfl))); done) (by (repeat (first | apply sub_nil | (apply sub_cons; (· (repeat (first | apply sel_here | apply sel_there)))))); done) (by first | exact fun _ h => h | (intro r hr; cases hr; done) | (simp; done) | exact fun _ h => List.mem_append_left _ h | (intro r hr; simp [hr]; done)))
  rintro st' ⟨p2, ao2, c2, rfl, hw2⟩
  have z2 : (b1 y ++ b1 F).size = 2 := by rw [ByteArray.size_append, b1_size, b1_size]
  rw [← ByteArray.append_assoc, ← ByteArray.append_assoc, ← ByteArray.append_assoc]
  generalize b1 y ++ b1 F = t2 at hw2 z2 ⊢
  clear hW1 hW2 hw1 hx1 hx2 hx3 hx5 hx6 hx7 hx8 o1 o2 o3 o5 o6 o7 o8 hy hy' hF0 qm
  have e127 := and_127 pic
  have wb := fun c2 bl p2 ao2 hw2 x => wU8 g c2 bl 1 p2 ao2 t2 (b1 x) hw2 (by rw [b1_size]; omega) (by rw [b1_size]; omega)
  simp only [b1_size] at wb
  (repeat (first | apply wc_seq ))
  refine wc_join0 (fun st' => ∃ (p ao : Option Addr) (c : Nat), st' = ⟨[(1, .pointer (some ⟨bx, 0, none⟩)), (3, .pointer (some ⟨g, 0, none⟩))], wrH g p ao c (t2 ++ tPic ⟨nr, st, pt, pic, wd, lv, ly, sy, ky⟩) ++ [dO bx nr st pt pic wd lv ly sy ky], []⟩ ∧ WOk g p ao c (t2 ++ tPic ⟨nr, st, pt, pic, wd, lv, ly, sy, ky⟩)) ?_ ?_
  · unfold tPic
    simp only
    refine wc_block ?_
    by_cases hp : 0 ≤ pic
    · cases wd with
      | true =>
        have w16 := fun c2 bl p2 ao2 hw2 => wU16 g c2 bl 1 p2 ao2 t2 [pic + 32768] (by intro y hy; simp at hy; omega) (by simp) hw2 (by omega)
        rw [numsS_one] at w16
        rw [if_pos hp, if_pos rfl]
        have hor := or16_hi (p := pic) (by omega)
        (repeat (first | ((first | (apply wo_v; rfl) ); (· first | (apply pv_ev; rfl) | (apply pv_fld; rfl) | (apply g_load; first | (apply pv_ld; rfl; (· (repeat (first | apply sel_here | apply sel_there))); rfl) ) | (apply g_pick; first | (apply pv_pick_t; rfl; rfl) ) | (apply g_bin; first | (apply (a_or 4); rfl; rfl; infer_instance; rfl; omega) | (apply (a_or 5); rfl; rfl; infer_instance; rfl; omega) | (apply (a_or 6); rfl; rfl; infer_instance; rfl; omega) | (apply (a_or 7); rfl; rfl; infer_instance; rfl; omega) | (apply (a_or 8); rfl; rfl; infer_instance; rfl; omega) | (apply (a_or 16); rfl; rfl; infer_instance; rfl; omega) | (apply (a_or 24); rfl; rfl; infer_instance; rfl; omega) | (apply (a_or 32); rfl; rfl; infer_instance; rfl; omega) | (apply pv_or; rfl; rfl) ) | (apply g_conv; first | (apply a_conv; rfl; infer_instance; infer_instance; infer_instance; omega) ) )) | apply wo_nil | apply wc_seq | apply wc_region | (apply wc_true; rfl) | (apply wo_run; rfl; rfl) | (apply wo_skip; rfl; rfl; rfl; rfl) | (apply wo_skip_u; rfl; rfl; rfl) | (apply a_gt; rfl; rfl; (· first | assumption | omega)) ))
        rw [hor]
        (repeat (first | ((first | (apply wo_v; rfl) ); (· first | (apply pv_ev; rfl) )) | (apply wo_bsl; (· (repeat (first | apply Rws'.nil | (apply Rws'.one; rfl; rfl; rfl) ))); rfl; rfl; rfl; rfl; intro bx) ))
        (refine wo_call (w16 c2 _ p2 ao2 hw2) rfl (by (repeat (first | apply sub_nil | (apply sub_cons; (· (repeat (first | apply sel_here | apply sel_there)))))); done) (by first | exact fun _ h => h | (intro r hr; cases hr; done) | (simp; done) | exact fun _ h => List.mem_append_left _ h | (intro r hr; simp [hr]; done)) rfl ?_; rintro v L' R' ⟨p3, ao3, c3, rfl, rfl, rfl, hw3⟩ H' hH RR hR; simp only [List.cons_append, List.nil_append] at hH hR; subst hH; have hR := hR.symm; subst hR)
        (repeat (first | apply wo_nil ))
        exact cut_end ⟨p3, ao3, c3, rfl, hw3⟩ (wk_mk (by (repeat (first | apply wkf_nil | (apply wkf_cons; rfl))); done) (by (repeat (first | apply sub_nil )); done) (by first | exact fun _ h => h | (intro r hr; cases hr; done) | (simp; done) | exact fun _ h => List.mem_append_left _ h | (intro r hr; simp [hr]; done)))
      | false =>
        have h127 : pic ≤ 127 := by
          rcases Int.lt_or_le 127 pic with h | h
          · exact absurd ⟨h, rfl⟩ f2
          · exact h
        rw [if_pos hp, if_neg (by simp)]
        (repeat (first | ((first | (apply wo_v; rfl) ); (· first | (apply pv_ev; rfl) | (apply pv_fld; rfl) | (apply g_load; first | (apply pv_ld; rfl; (· (repeat (first | apply sel_here | apply sel_there))); rfl) ) | (apply g_pick; first | (apply pv_pick_t; rfl; rfl) ) | (apply g_bin; first | (apply pv_and; rfl; rfl) ) | (apply g_conv; first | (apply a_conv; rfl; infer_instance; infer_instance; infer_instance; omega) ) )) | apply wo_nil | apply wc_seq | apply wc_region | (apply wc_true; rfl) | (apply wc_false; rfl) | (apply a_dec_t; rfl; (· first | assumption | omega)) | (apply wo_run; rfl; rfl) | (apply wo_skip; rfl; rfl; rfl; rfl) | (apply wo_skip_u; rfl; rfl; rfl) | (apply a_gt; rfl; rfl; (· first | assumption | omega)) ))
        rw [e127]
        (repeat (first | ((first | (apply wo_v; rfl) ); (· first | (apply pv_ev; rfl) )) | (apply wo_bsl; (· (repeat (first | apply Rws'.nil | (apply Rws'.one; rfl; rfl; rfl) ))); rfl; rfl; rfl; rfl; intro bx) ))
        rw [brows_one (by omega)]
        (refine wo_call (wb c2 _ p2 ao2 hw2 (pic % 128)) rfl (by (repeat (first | apply sub_nil | (apply sub_cons; (· (repeat (first | apply sel_here | apply sel_there)))))); done) (by first | exact fun _ h => h | (intro r hr; cases hr; done) | (simp; done) | exact fun _ h => List.mem_append_left _ h | (intro r hr; simp [hr]; done)) rfl ?_; rintro v L' R' ⟨p3, ao3, c3, rfl, rfl, rfl, hw3⟩ H' hH RR hR; simp only [List.cons_append, List.nil_append] at hH hR; subst hH; have hR := hR.symm; subst hR)
        (repeat (first | apply wo_nil ))
        exact cut_end ⟨p3, ao3, c3, rfl, hw3⟩ (wk_mk (by (repeat (first | apply wkf_nil | (apply wkf_cons; rfl))); done) (by (repeat (first | apply sub_nil )); done) (by first | exact fun _ h => h | (intro r hr; cases hr; done) | (simp; done) | exact fun _ h => List.mem_append_left _ h | (intro r hr; simp [hr]; done)))
    · rw [if_neg hp, append_E0]
      (repeat (first | ((first | (apply wo_v; rfl) ); (· first | (apply pv_ev; rfl) | (apply pv_fld; rfl) | (apply g_load; first | (apply pv_ld; rfl; (· (repeat (first | apply sel_here | apply sel_there))); rfl) ) | (apply g_pick; first | (apply pv_pick_t; rfl; rfl) | (apply pv_pick_f; rfl; rfl)) )) | apply wo_nil | apply wc_seq | apply wc_region | apply wc_skip | (apply wc_true; rfl) | (apply wc_false; rfl) | (apply a_dec_t; rfl; (· first | assumption | omega)) | (apply a_dec_f; rfl; (· first | assumption | omega)) | (apply wo_run; rfl; rfl) | (apply wo_skip; rfl; rfl; rfl; rfl) | (apply wo_skip_u; rfl; rfl; rfl) | (apply a_gt; rfl; rfl; (· first | assumption | omega)) | (apply a_gf; rfl; rfl; (· first | assumption | omega)) ))
      exact cut_end ⟨p2, ao2, c2, rfl, hw2⟩ (wk_mk (by (repeat (first | apply wkf_nil | (apply wkf_cons; rfl))); done) (by (repeat (first | apply sub_nil )); done) (by first | exact fun _ h => h | (intro r hr; cases hr; done) | (simp; done) | exact fun _ h => List.mem_append_left _ h | (intro r hr; simp [hr]; done)))
  rintro st' ⟨p3, ao3, c3, rfl, hw3⟩
  have z3 : (t2 ++ tPic ⟨nr, st, pt, pic, wd, lv, ly, sy, ky⟩).size ≤ 4 := by
    rw [ByteArray.size_append, tPic_size, z2]; split
    · split <;> omega
    · omega
  generalize t2 ++ tPic ⟨nr, st, pt, pic, wd, lv, ly, sy, ky⟩ = t3 at hw3 z3 ⊢
  clear wb hw2 e127
  have wb := fun c2 bl p2 ao2 hw2 x => wU8 g c2 bl 1 p2 ao2 t3 (b1 x) hw2 (by rw [b1_size]; omega) (by rw [b1_size]; omega)
  simp only [b1_size] at wb
  (repeat (first | ((first | (apply wo_v; rfl) ); (· first | (apply pv_ev; rfl) | (apply pv_fld; rfl) | (apply g_load; first | (apply pv_ld; rfl; (· (repeat (first | apply sel_here | apply sel_there))); rfl) ) )) | apply wo_nil | apply wc_seq | apply wc_region | (apply wc_true; rfl) | (apply wc_false; rfl) | (apply a_dec_t; rfl; (· first | assumption | omega)) | (apply a_dec_f; rfl; (· first | assumption | omega)) | (apply a_dec_t; rfl; (· first | (simp; done) | (simp; omega))) | (apply a_dec_f; rfl; (· first | (simp; done) | (simp; omega))) ))
  refine wc_join0 (fun st' => ∃ (p ao : Option Addr) (c : Nat), st' = ⟨[(1, .pointer (some ⟨bx, 0, none⟩)), (3, .pointer (some ⟨g, 0, none⟩))], wrH g p ao c (t3 ++ tLv ⟨nr, st, pt, pic, wd, lv, ly, sy, ky⟩) ++ [dO bx nr st pt pic wd lv ly sy ky], []⟩ ∧ WOk g p ao c (t3 ++ tLv ⟨nr, st, pt, pic, wd, lv, ly, sy, ky⟩)) ?_ ?_
  · unfold tLv
    simp only
    by_cases hp : 0 ≤ lv
    · rw [if_pos hp]
      (repeat (first | ((first | (apply wo_v; rfl) ); (· first | (apply pv_ev; rfl) | (apply pv_fld; rfl) | (apply g_load; first | (apply pv_ld; rfl; (· (repeat (first | apply sel_here | apply sel_there))); rfl) ) | (apply g_conv; first | (apply a_conv; rfl; infer_instance; infer_instance; infer_instance; omega) ) )) | apply wc_region | (apply wc_true; rfl) | (apply wc_false; rfl) | (apply a_dec_t; rfl; (· first | assumption | omega)) | (apply wo_bsl; (· (repeat (first | apply Rws'.nil | (apply Rws'.one; rfl; rfl; rfl) ))); rfl; rfl; rfl; rfl; intro bx) ))
      rw [brows_one (by omega)]
      (refine wo_call (wb c3 _ p3 ao3 hw3 lv) rfl (by (repeat (first | apply sub_nil | (apply sub_cons; (· (repeat (first | apply sel_here | apply sel_there)))))); done) (by first | exact fun _ h => h | (intro r hr; cases hr; done) | (simp; done) | exact fun _ h => List.mem_append_left _ h | (intro r hr; simp [hr]; done)) rfl ?_; rintro v L' R' ⟨p4, ao4, c4, rfl, rfl, rfl, hw4⟩ H' hH RR hR; simp only [List.cons_append, List.nil_append] at hH hR; subst hH; have hR := hR.symm; subst hR)
      (repeat (first | apply wo_nil ))
      exact cut_end ⟨p4, ao4, c4, rfl, hw4⟩ (wk_mk (by (repeat (first | apply wkf_nil | (apply wkf_cons; rfl))); done) (by (repeat (first | apply sub_nil )); done) (by first | exact fun _ h => h | (intro r hr; cases hr; done) | (simp; done) | exact fun _ h => List.mem_append_left _ h | (intro r hr; simp [hr]; done)))
    · rw [if_neg hp, append_E0]
      (repeat (first | apply wc_skip | (apply wc_true; rfl) | (apply wc_false; rfl) | (apply a_dec_t; rfl; (· first | assumption | omega)) | (apply a_dec_f; rfl; (· first | assumption | omega)) ))
      exact cut_end ⟨p3, ao3, c3, rfl, hw3⟩ (wk_mk (by (repeat (first | apply wkf_nil | (apply wkf_cons; rfl))); done) (by (repeat (first | apply sub_nil )); done) (by first | exact fun _ h => h | (intro r hr; cases hr; done) | (simp; done) | exact fun _ h => List.mem_append_left _ h | (intro r hr; simp [hr]; done)))
  rintro st' ⟨p4, ao4, c4, rfl, hw4⟩
  have z4 : (t3 ++ tLv ⟨nr, st, pt, pic, wd, lv, ly, sy, ky⟩).size ≤ 5 := by
    have : (tLv ⟨nr, st, pt, pic, wd, lv, ly, sy, ky⟩).size ≤ 1 := by
      unfold tLv; split
      · exact Nat.le_refl _
      · exact Nat.zero_le _
    rw [ByteArray.size_append]; omega
  generalize t3 ++ tLv ⟨nr, st, pt, pic, wd, lv, ly, sy, ky⟩ = t4 at hw4 z4 ⊢
  clear wb hw3
  unfold tLast
  simp only
  obtain ⟨x9, hx9⟩ : ∃ x, bt sy 32 = x := ⟨_, rfl⟩
  have o9 := bt_or sy 32
  rw [hx9] at o9 ⊢
  obtain ⟨y5, hy5⟩ : ∃ y5, max ly 0 * 64 + x9 + max ky 0 = y5 := ⟨_, rfl⟩
  have hyb : 0 ≤ y5 ∧ y5 ≤ 255 := by omega
  have w5 := fun bl => wU8 g c4 bl 1 p4 ao4 t4 (b1 y5) hw4 (by rw [b1_size]; omega) (by rw [b1_size]; omega)
  rw [hy5]
  have hcase : 0 ≤ ly ∨ (¬ 0 ≤ ly ∧ 0 ≤ ky) ∨ (¬ 0 ≤ ly ∧ ¬ 0 ≤ ky) := by omega
  rcases hcase with hp | ⟨hp, hp2⟩ | ⟨hp, hp2⟩
  · rw [if_pos (by omega)]
    (repeat (first | ((first | (apply wo_v; rfl) ); (· first | (apply pv_ev; rfl) | (apply pv_fld; rfl) | (apply g_load; first | (apply pv_ld; rfl; (· (repeat (first | apply sel_here | apply sel_there))); rfl) ) | (apply g_pick; first | (apply pv_pick_t; rfl; rfl) ) )) | apply wo_nil | apply wc_seq | apply wc_region | (apply wc_true; rfl) | (apply wo_run; rfl; rfl) | (apply wo_skip; rfl; rfl; rfl; rfl) | (apply wo_skip_u; rfl; rfl; rfl) | (apply a_gt; rfl; rfl; (· first | assumption | omega)) ))
    (refine wc_regM [0, 1, 2] (aslL [(7, [2]), (14, [1]), (15, [0, 1])]) (tblT g (t4 ++ b1 y5) y5 14 15 [(7, .int .u8 x9)]) ([dO bx nr st pt pic wd lv ly sy ky]) (fm [(0, wrH g p4 ao4 c4 t4), (1, []), (2, [])]) mixed (by kernel_rfl) (by kernel_rfl) (by decide) (aslL_ok (by decide)) (by (repeat (first | (apply prm_cons; (· (repeat (first | apply sel_here | apply sel_there)))) | apply List.Perm.nil )); done) ?_; (repeat (first | (apply HdM.val; rfl; rfl; (· first | apply gok_none ); (· first | (apply pv_ev; rfl) | (apply pv_fld; rfl) | (apply g_load; first | (apply pv_ld; rfl; (· (repeat (first | apply sel_here ))); rfl) ) | (apply g_bin; first | (apply a_shl; rfl; rfl; rfl; omega; rfl; infer_instance; omega) ) | (apply g_bi; first | (apply pv_max; rfl; rfl)) | (apply g_conv; first | (apply a_conv; rfl; infer_instance; infer_instance; infer_instance; omega) ) )) )))
    (refine hm_eff (cs := [2]) rfl (by decide) rfl rfl (by first | exact gok_none | exact gok_run rfl rfl) (fun a ha => outc_mono (outc_call (F1 := _) (T := fun v M => v = .int .u8 x9 ∧ M = []) (vBit sy 32 x9 hx9) rfl (by (repeat (first | apply sub_nil )); done) (by first | exact fun _ h => h | (intro r hr; cases hr; done) | (simp; done) | exact fun _ h => List.mem_append_left _ h | (intro r hr; simp [hr]; done)) (by rintro v L' R' ⟨rfl, rfl, _⟩; exact ⟨_, ⟨rfl, rfl⟩, (by (repeat (first | (apply prm_cons; (· (repeat (first | apply sel_here )))) | apply List.Perm.nil )); done)⟩) a ha) (fun v M h => ⟨[[]], And.intro h.1 rfl, rfl, h.2⟩)) ⟨_, _, And.intro rfl rfl, rfl⟩ ?_; rintro v Ms ⟨rfl, rfl⟩ _; simp only [setls, setl, reduceIte, Nat.reduceEqDiff]; (repeat (first | (apply HdM.val; rfl; rfl; (· first | apply gok_none ); (· first | (apply pv_ev; rfl) | (apply pv_fld; rfl) | (apply g_load; first | (apply pv_ld; rfl; (· (repeat (first | apply sel_here ))); rfl) ) | (apply g_bin; first | (apply (a_or 4); rfl; rfl; infer_instance; rfl; omega) | (apply (a_or 5); rfl; rfl; infer_instance; rfl; omega) | (apply (a_or 6); rfl; rfl; infer_instance; rfl; omega) ) | (apply g_bi; first | (apply pv_max; rfl; rfl)) | (apply g_conv; first | (apply a_conv; rfl; infer_instance; infer_instance; infer_instance; omega) ) )) )))
    (refine hm_eff (cs := [1]) rfl (by decide) rfl rfl (by first | exact gok_none | exact gok_run rfl rfl) (fun a ha => outc_mono (outc_bsl (by (repeat (first | apply Rws'.nil | (apply Rws'.one; rfl; rfl; rfl) )); done) rfl rfl rfl a ha) (fun v M h => by obtain ⟨b, h1, h2⟩ := imp_b1 hy5 hyb h; exact ⟨[M], Exists.intro b (And.intro h1 (congrArg (fun x => [x]) h2)), rfl, by simp⟩)) (⟨_, _, Exists.intro 0 (And.intro rfl rfl), rfl⟩) ?_; rintro v Ms ⟨b14, rfl, rfl⟩ _; simp only [setls, setl, reduceIte, Nat.reduceEqDiff]; (repeat (first | (apply HdM.val; rfl; rfl; (· first | fail ); (· first | fail )) )))
    (refine hm_eff (cs := [0, 1]) rfl (by decide) rfl rfl (by first | exact gok_none | exact gok_run rfl rfl) (fun a ha => outc_mono (outc_call (F1 := _) (T := fun v M => ∃ (p ao : Option Addr) (c : Nat), v = .pointer (some ⟨g, 0, none⟩) ∧ M = wrH g p ao c (t4 ++ b1 y5) ∧ WOk g p ao c (t4 ++ b1 y5)) (w5 b14) rfl (by (repeat (first | apply sub_nil )); done) (by first | exact fun _ h => h | (intro r hr; cases hr; done) | (simp; done) | exact fun _ h => List.mem_append_left _ h | (intro r hr; simp [hr]; done)) (by rintro v L' R' ⟨p', ao', c', rfl, rfl, _, hw'⟩; exact ⟨_, ⟨p', ao', c', rfl, rfl, hw'⟩, (by (repeat (first | (apply prm_cons; (· (repeat (first | apply sel_here )))) | apply List.Perm.nil )); done)⟩) a ha) (fun v M h => Exists.elim h fun p h => Exists.elim h fun ao h => Exists.elim h fun c h => ⟨[M, []], Exists.intro p (Exists.intro ao (Exists.intro c (And.intro h.1 (And.intro (congrArg (fun x => [x, []]) h.2.1) h.2.2)))), rfl, by simp⟩)) ((by obtain ⟨p, ao, c, h⟩ := WOk.ex g (t4 ++ b1 y5); exact ⟨_, _, Exists.intro p (Exists.intro ao (Exists.intro c (And.intro rfl (And.intro rfl h)))), rfl⟩)) ?_; rintro v Ms ⟨p5, ao5, c5, rfl, rfl, hw5⟩ _; simp only [setls, setl, reduceIte, Nat.reduceEqDiff]; (repeat (first | fail )))
    (refine HdM.nil ?_; intro H hH; simp only [Hp, fm, look, setl, List.flatMap_cons, List.flatMap_nil, reduceIte, Nat.reduceEqDiff, Option.getD_some, List.append_nil, List.cons_append, List.nil_append] at hH; subst hH)
    (repeat (first | ((first | (apply wo_v; rfl) ); (· first | (apply pv_ev; rfl) )) | apply wc_seq | apply wc_region ))
    (refine wo_call (wText g c5 p5 ao5 _ hw5) rfl (by (repeat (first | apply sub_nil | (apply sub_cons; (· (repeat (first | apply sel_here | apply sel_there)))))); done) (by first | exact fun _ h => h | (intro r hr; cases hr; done) | (simp; done) | exact fun _ h => List.mem_append_left _ h | (intro r hr; simp [hr]; done)) rfl ?_; rintro v L' R' ⟨rfl, rfl, rfl⟩ H' hH RR hR; simp only [List.cons_append, List.nil_append] at hH hR; subst hH; have hR := hR.symm; subst hR)
    (repeat (first | ((first | (apply wo_v; rfl) ); (· first | (apply pv_ev; rfl) )) | apply wo_nil | apply wc_ret ))
    exact ret1 rfl rfl ⟨rfl, rfl, rfl⟩ ((by (repeat (first | apply sub_nil )); done) : List.Perm _ ([] ++ _)) (by first | exact fun _ h => h | (intro r hr; cases hr; done) | (simp; done) | exact fun _ h => List.mem_append_left _ h | (intro r hr; simp [hr]; done))
  · rw [if_pos (by omega)]
    (repeat (first | ((first | (apply wo_v; rfl) ); (· first | (apply pv_ev; rfl) | (apply pv_fld; rfl) | (apply g_load; first | (apply pv_ld; rfl; (· (repeat (first | apply sel_here | apply sel_there))); rfl) ) | (apply g_pick; first | (apply pv_pick_t; rfl; rfl) | (apply pv_pick_f; rfl; rfl)) )) | apply wo_nil | apply wc_seq | apply wc_region | (apply wc_true; rfl) | (apply wc_false; rfl) | (apply a_dec_t; rfl; (· first | assumption | omega)) | (apply wo_run; rfl; rfl) | (apply wo_skip; rfl; rfl; rfl; rfl) | (apply wo_skip_u; rfl; rfl; rfl) | (apply a_gt; rfl; rfl; (· first | assumption | omega)) | (apply a_gf; rfl; rfl; (· first | assumption | omega)) ))
    (refine wc_regM [0, 1, 2] (aslL [(7, [2]), (14, [1]), (15, [0, 1])]) (tblT g (t4 ++ b1 y5) y5 14 15 [(7, .int .u8 x9)]) ([dO bx nr st pt pic wd lv ly sy ky]) (fm [(0, wrH g p4 ao4 c4 t4), (1, []), (2, [])]) mixed (by kernel_rfl) (by kernel_rfl) (by decide) (aslL_ok (by decide)) (by (repeat (first | (apply prm_cons; (· (repeat (first | apply sel_here | apply sel_there)))) | apply List.Perm.nil )); done) ?_; (repeat (first | (apply HdM.val; rfl; rfl; (· first | apply gok_none ); (· first | (apply pv_ev; rfl) | (apply pv_fld; rfl) | (apply g_load; first | (apply pv_ld; rfl; (· (repeat (first | apply sel_here ))); rfl) ) | (apply g_bin; first | (apply a_shl; rfl; rfl; rfl; omega; rfl; infer_instance; omega) ) | (apply g_bi; first | (apply pv_max; rfl; rfl)) | (apply g_conv; first | (apply a_conv; rfl; infer_instance; infer_instance; infer_instance; omega) ) )) )))
    (refine hm_eff (cs := [2]) rfl (by decide) rfl rfl (by first | exact gok_none | exact gok_run rfl rfl) (fun a ha => outc_mono (outc_call (F1 := _) (T := fun v M => v = .int .u8 x9 ∧ M = []) (vBit sy 32 x9 hx9) rfl (by (repeat (first | apply sub_nil )); done) (by first | exact fun _ h => h | (intro r hr; cases hr; done) | (simp; done) | exact fun _ h => List.mem_append_left _ h | (intro r hr; simp [hr]; done)) (by rintro v L' R' ⟨rfl, rfl, _⟩; exact ⟨_, ⟨rfl, rfl⟩, (by (repeat (first | (apply prm_cons; (· (repeat (first | apply sel_here )))) | apply List.Perm.nil )); done)⟩) a ha) (fun v M h => ⟨[[]], And.intro h.1 rfl, rfl, h.2⟩)) ⟨_, _, And.intro rfl rfl, rfl⟩ ?_; rintro v Ms ⟨rfl, rfl⟩ _; simp only [setls, setl, reduceIte, Nat.reduceEqDiff]; (repeat (first | (apply HdM.val; rfl; rfl; (· first | apply gok_none ); (· first | (apply pv_ev; rfl) | (apply pv_fld; rfl) | (apply g_load; first | (apply pv_ld; rfl; (· (repeat (first | apply sel_here ))); rfl) ) | (apply g_bin; first | (apply (a_or 4); rfl; rfl; infer_instance; rfl; omega) | (apply (a_or 5); rfl; rfl; infer_instance; rfl; omega) | (apply (a_or 6); rfl; rfl; infer_instance; rfl; omega) ) | (apply g_bi; first | (apply pv_max; rfl; rfl)) | (apply g_conv; first | (apply a_conv; rfl; infer_instance; infer_instance; infer_instance; omega) ) )) )))
    (refine hm_eff (cs := [1]) rfl (by decide) rfl rfl (by first | exact gok_none | exact gok_run rfl rfl) (fun a ha => outc_mono (outc_bsl (by (repeat (first | apply Rws'.nil | (apply Rws'.one; rfl; rfl; rfl) )); done) rfl rfl rfl a ha) (fun v M h => by obtain ⟨b, h1, h2⟩ := imp_b1 hy5 hyb h; exact ⟨[M], Exists.intro b (And.intro h1 (congrArg (fun x => [x]) h2)), rfl, by simp⟩)) (⟨_, _, Exists.intro 0 (And.intro rfl rfl), rfl⟩) ?_; rintro v Ms ⟨b14, rfl, rfl⟩ _; simp only [setls, setl, reduceIte, Nat.reduceEqDiff]; (repeat (first | (apply HdM.val; rfl; rfl; (· first | fail ); (· first | fail )) )))
    (refine hm_eff (cs := [0, 1]) rfl (by decide) rfl rfl (by first | exact gok_none | exact gok_run rfl rfl) (fun a ha => outc_mono (outc_call (F1 := _) (T := fun v M => ∃ (p ao : Option Addr) (c : Nat), v = .pointer (some ⟨g, 0, none⟩) ∧ M = wrH g p ao c (t4 ++ b1 y5) ∧ WOk g p ao c (t4 ++ b1 y5)) (w5 b14) rfl (by (repeat (first | apply sub_nil )); done) (by first | exact fun _ h => h | (intro r hr; cases hr; done) | (simp; done) | exact fun _ h => List.mem_append_left _ h | (intro r hr; simp [hr]; done)) (by rintro v L' R' ⟨p', ao', c', rfl, rfl, _, hw'⟩; exact ⟨_, ⟨p', ao', c', rfl, rfl, hw'⟩, (by (repeat (first | (apply prm_cons; (· (repeat (first | apply sel_here )))) | apply List.Perm.nil )); done)⟩) a ha) (fun v M h => Exists.elim h fun p h => Exists.elim h fun ao h => Exists.elim h fun c h => ⟨[M, []], Exists.intro p (Exists.intro ao (Exists.intro c (And.intro h.1 (And.intro (congrArg (fun x => [x, []]) h.2.1) h.2.2)))), rfl, by simp⟩)) ((by obtain ⟨p, ao, c, h⟩ := WOk.ex g (t4 ++ b1 y5); exact ⟨_, _, Exists.intro p (Exists.intro ao (Exists.intro c (And.intro rfl (And.intro rfl h)))), rfl⟩)) ?_; rintro v Ms ⟨p5, ao5, c5, rfl, rfl, hw5⟩ _; simp only [setls, setl, reduceIte, Nat.reduceEqDiff]; (repeat (first | fail )))
    (refine HdM.nil ?_; intro H hH; simp only [Hp, fm, look, setl, List.flatMap_cons, List.flatMap_nil, reduceIte, Nat.reduceEqDiff, Option.getD_some, List.append_nil, List.cons_append, List.nil_append] at hH; subst hH)
    (repeat (first | ((first | (apply wo_v; rfl) ); (· first | (apply pv_ev; rfl) )) | apply wc_seq | apply wc_region ))
    (refine wo_call (wText g c5 p5 ao5 _ hw5) rfl (by (repeat (first | apply sub_nil | (apply sub_cons; (· (repeat (first | apply sel_here | apply sel_there)))))); done) (by first | exact fun _ h => h | (intro r hr; cases hr; done) | (simp; done) | exact fun _ h => List.mem_append_left _ h | (intro r hr; simp [hr]; done)) rfl ?_; rintro v L' R' ⟨rfl, rfl, rfl⟩ H' hH RR hR; simp only [List.cons_append, List.nil_append] at hH hR; subst hH; have hR := hR.symm; subst hR)
    (repeat (first | ((first | (apply wo_v; rfl) ); (· first | (apply pv_ev; rfl) )) | apply wo_nil | apply wc_ret ))
    exact ret1 rfl rfl ⟨rfl, rfl, rfl⟩ ((by (repeat (first | apply sub_nil )); done) : List.Perm _ ([] ++ _)) (by first | exact fun _ h => h | (intro r hr; cases hr; done) | (simp; done) | exact fun _ h => List.mem_append_left _ h | (intro r hr; simp [hr]; done))
  · rw [if_neg (by omega), append_E0]
    (repeat (first | ((first | (apply wo_v; rfl) ); (· first | (apply pv_ev; rfl) | (apply pv_fld; rfl) | (apply g_load; first | (apply pv_ld; rfl; (· (repeat (first | apply sel_here | apply sel_there))); rfl) ) | (apply g_pick; first | (apply pv_pick_t; rfl; rfl) | (apply pv_pick_f; rfl; rfl)) )) | apply wo_nil | apply wc_seq | apply wc_region | apply wc_skip | (apply wc_true; rfl) | (apply wc_false; rfl) | (apply a_dec_t; rfl; (· first | assumption | omega)) | (apply a_dec_f; rfl; (· first | assumption | omega)) | (apply wo_run; rfl; rfl) | (apply wo_skip; rfl; rfl; rfl; rfl) | (apply wo_skip_u; rfl; rfl; rfl) | (apply a_gt; rfl; rfl; (· first | assumption | omega)) | (apply a_gf; rfl; rfl; (· first | assumption | omega)) ))
    (refine wo_call (wText g c4 p4 ao4 _ hw4) rfl (by (repeat (first | apply sub_nil )); done) (by first | exact fun _ h => h | (intro r hr; cases hr; done) | (simp; done) | exact fun _ h => List.mem_append_left _ h | (intro r hr; simp [hr]; done)) rfl ?_; rintro v L' R' ⟨rfl, rfl, rfl⟩ H' hH RR hR; simp only [List.cons_append, List.nil_append] at hH hR; subst hH; have hR := hR.symm; subst hR)
    (repeat (first | ((first | (apply wo_v; rfl) ); (· first | (apply pv_ev; rfl) )) | apply wo_nil | apply wc_ret ))
    exact ret1 rfl rfl ⟨rfl, rfl, rfl⟩ ((by (repeat (first | apply sub_nil )); done) : List.Perm _ ([] ++ _)) (by first | exact fun _ h => h | (intro r hr; cases hr; done) | (simp; done) | exact fun _ h => List.mem_append_left _ h | (intro r hr; simp [hr]; done))
end Go.Proofs.Ytlhlidmhlhodiaa
