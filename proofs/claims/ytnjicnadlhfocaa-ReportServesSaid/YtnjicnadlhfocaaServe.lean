/-
  Package report: Serve, and the reference's.
-/
import Derived.Test.YtnjicnadlhfocaaRptC
import Derived.Test.YtnjicnadlhfocaaRingRef
namespace Go.Proofs.Ytnjicnadlhfocaa
set_option linter.unusedSimpArgs false
set_option linter.unusedVariables false
open Go.RowKit
attribute [local irreducible] Pv WO WC Fn
set_option maxRecDepth 100000

/-- what is served -/
def svM (mt mg now : Int) : List Int → List Pk → Int → List Pk × List ByteArray
  | [], Q, _ => (Q, [])
  | n :: l, Q, b => match fnd Q n with
    | none => svM mt mg now l Q b
    | some (_, p) => if b < p.2.1.size then (Q, []) else
      if (agM mt mg now n Q).2.2 = 0 then ((svM mt mg now l (agM mt mg now n Q).1 (b - p.2.1.size)).1, p.2.1 :: (svM mt mg now l (agM mt mg now n Q).1 (b - p.2.1.size)).2)
      else svM mt mg now l (agM mt mg now n Q).1 b
theorem svM_no {mt mg now n b : Int} {l : List Int} {Q : List Pk} (h : fnd Q n = none) : svM mt mg now (n :: l) Q b = svM mt mg now l Q b := by
  rw [svM, h]
theorem svM_big {mt mg now n b : Int} {l : List Int} {Q : List Pk} {j : Nat} {p : Pk} (h : fnd Q n = some (j, p)) (hb : b < p.2.1.size) : svM mt mg now (n :: l) Q b = (Q, []) := by
  rw [svM, h]; simp only; rw [if_pos hb]
theorem svM_ok {mt mg now n b : Int} {l : List Int} {Q : List Pk} {j : Nat} {p : Pk} (h : fnd Q n = some (j, p)) (hb : ¬ b < p.2.1.size) (he : (agM mt mg now n Q).2.2 = 0) : svM mt mg now (n :: l) Q b = ((svM mt mg now l (agM mt mg now n Q).1 (b - p.2.1.size)).1, p.2.1 :: (svM mt mg now l (agM mt mg now n Q).1 (b - p.2.1.size)).2) := by
  rw [svM, h]; simp only; rw [if_neg hb, if_pos he]
theorem svM_er {mt mg now n b : Int} {l : List Int} {Q : List Pk} {j : Nat} {p : Pk} (h : fnd Q n = some (j, p)) (hb : ¬ b < p.2.1.size) (he : ¬ (agM mt mg now n Q).2.2 = 0) : svM mt mg now (n :: l) Q b = svM mt mg now l (agM mt mg now n Q).1 b := by
  rw [svM, h]; simp only; rw [if_neg hb, if_neg he]
theorem agM_txt {mt mg now n : Int} {Q : List Pk} {j : Nat} {p : Pk} (h : fnd Q n = some (j, p)) (he : (agM mt mg now n Q).2.2 = 0) : (agM mt mg now n Q).2.1 = p.2.1 := by
  unfold agM at he ⊢
  rw [h] at he ⊢
  simp only at he ⊢
  split
  · rename_i h1; rw [if_pos h1] at he; cases he
  · rename_i h1
    rw [if_neg h1] at he
    split
    · rename_i h2; rw [if_pos h2] at he; cases he
    · rfl
theorem svM_len (mt mg now : Int) : ∀ (l : List Int) (Q : List Pk) (b : Int), (svM mt mg now l Q b).1.length = Q.length ∧ (svM mt mg now l Q b).2.length ≤ l.length
  | [], Q, b => ⟨rfl, Nat.le_refl _⟩
  | n :: l, Q, b => by
    cases h : fnd Q n with
    | none => rw [svM_no h]; have := svM_len mt mg now l Q b; exact ⟨this.1, by rw [List.length_cons]; omega⟩
    | some x =>
      obtain ⟨j, p⟩ := x
      by_cases hb : b < p.2.1.size
      · rw [svM_big h hb]; exact ⟨rfl, Nat.zero_le _⟩
      · have hal := agM_len mt mg now n Q
        by_cases he : (agM mt mg now n Q).2.2 = 0
        · rw [svM_ok h hb he]
          have := svM_len mt mg now l (agM mt mg now n Q).1 (b - p.2.1.size)
          exact ⟨by rw [← hal]; exact this.1, by simp only [List.length_cons]; omega⟩
        · rw [svM_er h hb he]
          have := svM_len mt mg now l (agM mt mg now n Q).1 b
          exact ⟨by rw [← hal]; exact this.1, by rw [List.length_cons]; omega⟩
theorem svM_QB {mt mg now : Int} (hn : 0 ≤ now) (hm : mt ≤ 3) : ∀ (l : List Int) (Q : List Pk) (b : Int), QB Q now → QB (svM mt mg now l Q b).1 now
  | [], Q, b, h => h
  | n :: l, Q, b, hB => by
    cases h : fnd Q n with
    | none => rw [svM_no h]; exact svM_QB hn hm l Q b hB
    | some x =>
      obtain ⟨j, p⟩ := x
      by_cases hb : b < p.2.1.size
      · rw [svM_big h hb]; exact hB
      · by_cases he : (agM mt mg now n Q).2.2 = 0
        · rw [svM_ok h hb he]; exact svM_QB hn hm l _ _ (hB.ag hn hm mg n)
        · rw [svM_er h hb he]; exact svM_QB hn hm l _ _ (hB.ag hn hm mg n)
def sumS : List ByteArray → Int
  | [] => 0
  | s :: l => (s.size : Int) + sumS l
theorem sumS_app : ∀ a b : List ByteArray, sumS (a ++ b) = sumS a + sumS b
  | [], b => (Int.zero_add _).symm
  | s :: a, b => by
    show (s.size : Int) + sumS (a ++ b) = (s.size : Int) + sumS a + sumS b
    rw [sumS_app a b, Int.add_assoc]
theorem sumS_take {l : List ByteArray} {j : Nat} {s : ByteArray} (h : l[j]? = some s) : sumS (l.take (j + 1)) = sumS (l.take j) + s.size := by
  rw [List.take_add_one, h, sumS_app]
  show _ + ((s.size : Int) + 0) = _
  omega
theorem sumS_nn : ∀ l : List ByteArray, 0 ≤ sumS l
  | [] => Int.le_refl _
  | s :: l => by have := sumS_nn l; show 0 ≤ (s.size : Int) + sumS l; omega
theorem svM_sum (mt mg now : Int) : ∀ (l : List Int) (Q : List Pk) (b : Int), sumS (svM mt mg now l Q b).2 ≤ max b 0
  | [], Q, b => by show (0 : Int) ≤ _; omega
  | n :: l, Q, b => by
    cases h : fnd Q n with
    | none => rw [svM_no h]; exact svM_sum mt mg now l Q b
    | some x =>
      obtain ⟨j, p⟩ := x
      by_cases hb : b < p.2.1.size
      · rw [svM_big h hb]; show (0 : Int) ≤ _; omega
      · by_cases he : (agM mt mg now n Q).2.2 = 0
        · rw [svM_ok h hb he]
          have := svM_sum mt mg now l (agM mt mg now n Q).1 (b - p.2.1.size)
          show (p.2.1.size : Int) + sumS _ ≤ _
          omega
        · rw [svM_er h hb he]; exact svM_sum mt mg now l _ b
theorem stO_snoc (ao : Option Addr) (c : Nat) (l : List ByteArray) (s : ByteArray) : stO ao c (l ++ [s]) = .own 9 1 ao (l.length + 1) c (strs l ++ [[.string s]]) := by simp [stO]
theorem drop_cons {α : Type} {l : List α} {i : Nat} {x : α} (h : l[i]? = some x) : l.drop i = x :: l.drop (i + 1) := by
  obtain ⟨h1, h2⟩ := List.getElem?_eq_some_iff.1 h
  rw [List.drop_eq_getElem_cons h1, h2]
set_option maxHeartbeats 16000000 in
theorem pServe (g b k : Nat) (S : List (Option Pk)) (put : Nat) (mt mg sent now bytes : Int) (Q : List Pk) (l : List Int) (A : Option Addr) (n c : Nat) (R : List Ro) (x1 : Bool) (x2 : Int) (x3 : Bool) (hk : 1 ≤ k) (hL : Lay S put k Q) (hp : put ≤ 1000000) (hB : QB Q now) (hn : 0 ≤ now ∧ now ≤ 1000000) (hs : 0 ≤ sent ∧ sent ≤ 10000) (hm : mt ≤ 3)
    (hS : SQ R 1 A n c (c16 l)) (hl : l.length ≤ 1000) (hb : -9223372036854775808 ≤ bytes ∧ bytes ≤ 9223372036854775807) :
    Fn Try.prog 26 #[.pointer (some ⟨g, 0, none⟩), .agg #[.slice A n c, .bool x1, .int .u64 x2, .bool x3], .int .i64 now, .int .i64 bytes] (rgH g b k S put mt mg sent) R
      (fun v L' R' => ∃ S' sent' ao c', v = .slice ao (svM mt mg now l Q bytes).2.length c' ∧ L' = rgH g b k S' put mt mg sent' ++ [stO ao c' (svM mt mg now l Q bytes).2] ∧ R' = [] ∧ Lay S' put k (svM mt mg now l Q bytes).1 ∧ 0 ≤ sent' ∧ sent' ≤ sent + l.length) := by
  have hnl : n = l.length := by rw [← hS.len, c16_len]
  subst hnl
  obtain ⟨QF, out, hF⟩ : ∃ QF out, svM mt mg now l Q bytes = (QF, out) := ⟨_, _, rfl⟩
  rw [hF]
  dsimp only
  refine fn_intro Try.func26 rfl Try.ntmps26 rfl (fun E => ?_)
  (repeat (first | ((first | (apply wo_v; rfl) ); (· first | (apply pv_ev; rfl) | (apply pv_fld; rfl) | (apply g_load; first | (apply pv_ld; rfl; (· (repeat (first | apply sel_here ))); rfl) ) | (apply g_bi; first | (apply pv_len_sl; rfl) ) )) | apply wo_nil | apply wc_seq | apply wc_region | (apply wo_box1; rfl; rfl; rfl; intro bx) | (apply wo_boxa; rfl; rfl; intro bx) ))
  refine wc_own0 9 1 ?_
  refine wc_join0 (fun st => ∃ S' sent' ao c', st = ⟨[(9, .slice ao out.length c')], rgH g b k S' put mt mg sent' ++ [stO ao c' out], R⟩ ∧ Lay S' put k QF ∧ 0 ≤ sent' ∧ sent' ≤ sent + l.length) ?_ ?_
  · refine wc_block ?_
    refine wc_loop' (fun q st => ∃ (i : Nat) (S' : List (Option Pk)) (ao : Option Addr) (c' : Nat) (o : List ByteArray) (Q2 : List Pk) (s2 b2 : Int), q = l.length - i ∧ i ≤ l.length ∧ (svM mt mg now (l.drop i) Q2 b2).1 = QF ∧ o ++ (svM mt mg now (l.drop i) Q2 b2).2 = out ∧ Lay S' put k Q2 ∧ QB Q2 now ∧ (0 ≤ s2 ∧ s2 ≤ sent + i) ∧ (-9223372036854775808 ≤ b2 ∧ b2 ≤ 9223372036854775807) ∧ o.length ≤ i ∧
        st = ⟨[(0, .pointer (some ⟨g, 0, none⟩)), (2, .int .i64 now), (3, .int .i64 b2), (9, .slice ao o.length c'), (17, .slice A l.length c), (18, .int .i64 l.length), (19, .int .i64 i)], rgH g b k S' put mt mg s2 ++ [stO ao c' o], R⟩)
      ⟨0, S, none, 0, [], Q, sent, bytes, rfl, Nat.zero_le _, by rw [List.drop_zero, hF], by rw [List.drop_zero, hF]; rfl, hL, hB, by omega, hb, Nat.le_refl _, rfl⟩ (wk_mk (by (repeat (first | apply wkf_nil | (apply wkf_cons; rfl))); done) (by (repeat (first | apply sub_nil | (apply sub_cons; (· (repeat (first | apply sel_here | apply sel_there)))))); done) (by first | exact fun _ h => h | (intro r hr; cases hr; done) | (simp; done) | exact fun _ h => List.mem_append_left _ h | (intro r hr; simp [hr]; done))) ?_
    clear hL hB hF hb
    rintro q st ⟨i, S', ao, c', o, Q2, s2, b2, rfl, hi, h1, h2, hL, hB, hs2, hb, hol, rfl⟩
    by_cases hlt : i < l.length
    · obtain ⟨x, hx⟩ : ∃ x, l[i]? = some x := ⟨_, List.getElem?_eq_getElem hlt⟩
      have hr := c16_at hx
      obtain ⟨a0, o0, rfl, hmem⟩ := hS.pos (by omega)
      rw [drop_cons hx] at h1 h2
      rcases fnd_or x Q2 with ⟨f1, f2⟩ | ⟨j, p, f1, f2⟩
      · rw [svM_no f1] at h1 h2
        (repeat (first | ((first | (apply wo_v; rfl) ); (· first | (apply pv_ev; rfl) | (apply g_load; first | (apply pv_ld; rfl; (· (repeat (first | apply sel_there))); rfl) | (apply pv_ld_ownf; rfl; (· (repeat (first | fail ))); (· assumption); rfl) | (apply pv_ld_own1; rfl; (· (repeat (first | apply sel_there))); (· assumption)) | (apply pv_ld_rof; rfl; (· (first | assumption )); (· assumption); rfl) | (apply pv_ld_ro1; rfl; (· (first | assumption )); (· assumption)) ) | (apply g_idx; first | (apply pv_idx; rfl; rfl; omega) ) )) | apply wo_nil | apply wc_seq | apply wc_region | apply wc_block | apply wc_skip | (apply wc_true; rfl) | (apply wc_false; rfl) | (apply a_dec_t; rfl; (· first | assumption | omega)) ))
        (refine wo_call (ringGet_no g b k S' put mt mg s2 x Q2 hk hL hp f2) rfl (by (repeat (first | apply sub_nil )); done) (by first | exact fun _ h => h | (intro r hr; cases hr; done) | (simp; done) | exact fun _ h => List.mem_append_left _ h | (intro r hr; simp [hr]; done)) rfl ?_; rintro v L' R' ⟨rfl, rfl, rfl⟩ H' hH RR hR; simp only [List.cons_append, List.nil_append] at hH hR; subst hH; have hR := hR.symm; subst hR)
        (repeat (first | ((first | (apply wo_v; rfl) ); (· first | (apply pv_ev; rfl) | (apply g_bin; first | (apply a_add; rfl; rfl; infer_instance; omega) ) | (apply g_un; first | (apply pv_not_t; rfl) | (apply pv_not_f; rfl) ) )) | apply wo_nil | apply wc_seq | apply wc_region | (apply wc_exit; rfl) | (apply wc_true; rfl) ))
        exact loop_end ⟨i + 1, S', ao, c', o, Q2, s2, b2, rfl, by omega, h1, h2, hL, hB, by omega, hb, by omega, rfl⟩ (by omega) (wk_mk (by (repeat (first | apply wkf_nil | (apply wkf_cons; rfl))); done) (by (repeat (first | apply sub_nil )); done) (by first | exact fun _ h => h | (intro r hr; cases hr; done) | (simp; done) | exact fun _ h => List.mem_append_left _ h | (intro r hr; simp [hr]; done)))
      · by_cases hbig : b2 < p.2.1.size
        · rw [svM_big f2 hbig] at h1 h2
          rw [List.append_nil] at h2
          dsimp only at h1 h2
          subst h1 h2
          (repeat (first | ((first | (apply wo_v; rfl) ); (· first | (apply pv_ev; rfl) | (apply g_load; first | (apply pv_ld; rfl; (· (repeat (first | apply sel_there))); rfl) | (apply pv_ld_ownf; rfl; (· (repeat (first | fail ))); (· assumption); rfl) | (apply pv_ld_own1; rfl; (· (repeat (first | apply sel_there))); (· assumption)) | (apply pv_ld_rof; rfl; (· (first | assumption )); (· assumption); rfl) | (apply pv_ld_ro1; rfl; (· (first | assumption )); (· assumption)) ) | (apply g_idx; first | (apply pv_idx; rfl; rfl; omega) ) )) | apply wo_nil | apply wc_seq | apply wc_region | apply wc_block | apply wc_skip | (apply wc_true; rfl) | (apply wc_false; rfl) | (apply a_dec_t; rfl; (· first | assumption | omega)) ))
          (refine wo_call (ringGet_hit g b k S' put mt mg s2 x Q2 hk hL hp j p f1) rfl (by (repeat (first | apply sub_nil )); done) (by first | exact fun _ h => h | (intro r hr; cases hr; done) | (simp; done) | exact fun _ h => List.mem_append_left _ h | (intro r hr; simp [hr]; done)) rfl ?_; rintro v L' R' ⟨rfl, rfl, rfl⟩ H' hH RR hR; simp only [List.cons_append, List.nil_append] at hH hR; subst hH; have hR := hR.symm; subst hR)
          (repeat (first | ((first | (apply wo_v; rfl) ); (· first | (apply pv_ev; rfl) | (apply g_bi; first | (apply pv_len_str; rfl) ) | (apply g_un; first | (apply pv_not_t; rfl) ) )) | apply wo_nil | apply wc_seq | apply wc_region | apply wc_skip | (apply wc_exit; rfl) | (apply wc_true; rfl) | (apply wc_false; rfl) | (apply a_dec_t; rfl; (· first | assumption | omega)) ))
          exact cut_end ⟨S', s2, ao, c', rfl, hL, by omega, by omega⟩ (wk_mk (by (repeat (first | apply wkf_nil | (apply wkf_cons; rfl))); done) (by (repeat (first | apply sub_nil )); done) (by first | exact fun _ h => h | (intro r hr; cases hr; done) | (simp; done) | exact fun _ h => List.mem_append_left _ h | (intro r hr; simp [hr]; done)))
        · have hag := ringAgainM g b k S' put mt mg s2 x now Q2 hk hL hp hB hn (by omega)
          have hB2 := hB.ag hn.1 hm mg x
          by_cases he : (agM mt mg now x Q2).2.2 = 0
          · rw [svM_ok f2 hbig he] at h1 h2
            rw [agM_txt f2 he, he] at hag
            generalize (agM mt mg now x Q2).1 = Q3 at h1 h2 hag hB2
            dsimp only at h1 h2
            (repeat (first | ((first | (apply wo_v; rfl) ); (· first | (apply pv_ev; rfl) | (apply g_load; first | (apply pv_ld; rfl; (· (repeat (first | apply sel_there))); rfl) | (apply pv_ld_ownf; rfl; (· (repeat (first | fail ))); (· assumption); rfl) | (apply pv_ld_own1; rfl; (· (repeat (first | apply sel_there))); (· assumption)) | (apply pv_ld_rof; rfl; (· (first | assumption )); (· assumption); rfl) | (apply pv_ld_ro1; rfl; (· (first | assumption )); (· assumption)) ) | (apply g_idx; first | (apply pv_idx; rfl; rfl; omega) ) )) | apply wo_nil | apply wc_seq | apply wc_region | apply wc_block | apply wc_skip | (apply wc_true; rfl) | (apply wc_false; rfl) | (apply a_dec_t; rfl; (· first | assumption | omega)) ))
            (refine wo_call (ringGet_hit g b k S' put mt mg s2 x Q2 hk hL hp j p f1) rfl (by (repeat (first | apply sub_nil )); done) (by first | exact fun _ h => h | (intro r hr; cases hr; done) | (simp; done) | exact fun _ h => List.mem_append_left _ h | (intro r hr; simp [hr]; done)) rfl ?_; rintro v L' R' ⟨rfl, rfl, rfl⟩ H' hH RR hR; simp only [List.cons_append, List.nil_append] at hH hR; subst hH; have hR := hR.symm; subst hR)
            (repeat (first | ((first | (apply wo_v; rfl) ); (· first | (apply pv_ev; rfl) | (apply g_bi; first | (apply pv_len_str; rfl) ) | (apply g_un; first | (apply pv_not_t; rfl) ) )) | apply wo_nil | apply wc_seq | apply wc_region | apply wc_skip | (apply wc_true; rfl) | (apply wc_false; rfl) | (apply a_dec_t; rfl; (· first | assumption | omega)) | (apply a_dec_f; rfl; (· first | assumption | omega)) ))
            (refine wo_call (hag) rfl (by (repeat (first | apply sub_nil )); done) (by first | exact fun _ h => h | (intro r hr; cases hr; done) | (simp; done) | exact fun _ h => List.mem_append_left _ h | (intro r hr; simp [hr]; done)) rfl ?_; rintro v L' R' ⟨S3, rfl, rfl, rfl, hL3⟩ H' hH RR hR; simp only [List.cons_append, List.nil_append] at hH hR; subst hH; have hR := hR.symm; subst hR)
            (repeat (first | ((first | (apply wo_v; rfl) ); (· first | (apply pv_ev; rfl) | (apply g_bin; first | (apply a_sub; rfl; rfl; infer_instance; omega) ) | (apply g_bi; first | (apply pv_len_str; rfl) ) )) | apply wo_nil | apply wc_seq | apply wc_region | apply wc_skip | (apply wc_true; rfl) | (apply wc_false; rfl) | (apply wo_bsl; (· (repeat (first | apply Rws'.nil | (apply Rws'.one; rfl; rfl; rfl) ))); rfl; rfl; rfl; rfl; intro bx) ))
            refine wo_app rfl rfl (by (repeat (first | apply sel_here | apply sel_there)); done) (by (repeat (first | apply sel_here )); done) (by unfold maxLen; omega) (by omega) rfl (fun ao2 c2 => ?_)
            (repeat (first | ((first | (apply wo_v; rfl) ); (· first | (apply pv_ev; rfl) | (apply g_bin; first | (apply a_add; rfl; rfl; infer_instance; omega) ) )) | apply wo_nil | apply wc_region ))
            rw [show cnt 0 = 1 from rfl]
            exact loop_end ⟨i + 1, S3, ao2, c2, o ++ [p.2.1], Q3, s2 + 1, b2 - p.2.1.size, rfl, by omega, h1, by rw [List.append_assoc]; exact h2, hL3, hB2, by omega, by omega, by rw [List.length_append, List.length_singleton]; omega, by rw [stO_snoc, List.length_append, List.length_singleton]⟩ (by omega) (wk_mk (by (repeat (first | apply wkf_nil | (apply wkf_cons; rfl))); done) (by (repeat (first | apply sub_nil | (apply sub_cons; (· (repeat (first | apply sel_here | apply sel_there)))))); done) (by first | exact fun _ h => h | (intro r hr; cases hr; done) | (simp; done) | exact fun _ h => List.mem_append_left _ h | (intro r hr; simp [hr]; done)))
          · rw [svM_er f2 hbig he] at h1 h2
            generalize agM mt mg now x Q2 = r at h1 h2 hag hB2 he
            obtain ⟨Q3, s3, e3⟩ := r
            dsimp only at h1 h2 hag hB2 he
            (repeat (first | ((first | (apply wo_v; rfl) ); (· first | (apply pv_ev; rfl) | (apply g_load; first | (apply pv_ld; rfl; (· (repeat (first | apply sel_there))); rfl) | (apply pv_ld_ownf; rfl; (· (repeat (first | fail ))); (· assumption); rfl) | (apply pv_ld_own1; rfl; (· (repeat (first | apply sel_there))); (· assumption)) | (apply pv_ld_rof; rfl; (· (first | assumption )); (· assumption); rfl) | (apply pv_ld_ro1; rfl; (· (first | assumption )); (· assumption)) ) | (apply g_idx; first | (apply pv_idx; rfl; rfl; omega) ) )) | apply wo_nil | apply wc_seq | apply wc_region | apply wc_block | apply wc_skip | (apply wc_true; rfl) | (apply wc_false; rfl) | (apply a_dec_t; rfl; (· first | assumption | omega)) ))
            (refine wo_call (ringGet_hit g b k S' put mt mg s2 x Q2 hk hL hp j p f1) rfl (by (repeat (first | apply sub_nil )); done) (by first | exact fun _ h => h | (intro r hr; cases hr; done) | (simp; done) | exact fun _ h => List.mem_append_left _ h | (intro r hr; simp [hr]; done)) rfl ?_; rintro v L' R' ⟨rfl, rfl, rfl⟩ H' hH RR hR; simp only [List.cons_append, List.nil_append] at hH hR; subst hH; have hR := hR.symm; subst hR)
            (repeat (first | ((first | (apply wo_v; rfl) ); (· first | (apply pv_ev; rfl) | (apply g_bi; first | (apply pv_len_str; rfl) ) | (apply g_un; first | (apply pv_not_t; rfl) ) )) | apply wo_nil | apply wc_seq | apply wc_region | apply wc_skip | (apply wc_true; rfl) | (apply wc_false; rfl) | (apply a_dec_t; rfl; (· first | assumption | omega)) | (apply a_dec_f; rfl; (· first | assumption | omega)) ))
            (refine wo_call (hag) rfl (by (repeat (first | apply sub_nil )); done) (by first | exact fun _ h => h | (intro r hr; cases hr; done) | (simp; done) | exact fun _ h => List.mem_append_left _ h | (intro r hr; simp [hr]; done)) rfl ?_; rintro v L' R' ⟨S3, rfl, rfl, rfl, hL3⟩ H' hH RR hR; simp only [List.cons_append, List.nil_append] at hH hR; subst hH; have hR := hR.symm; subst hR)
            (repeat (first | ((first | (apply wo_v; rfl) ); (· first | (apply pv_ev; rfl) | (apply g_bin; first | (apply a_add; rfl; rfl; infer_instance; omega) ) )) | apply wo_nil | apply wc_seq | apply wc_region | (apply wc_exit; rfl) | (apply wc_true; rfl) | (apply wc_false; rfl) | (apply a_dec_t; rfl; (· first | assumption | omega)) ))
            rw [show cnt e3 = 0 from if_neg he, Int.add_zero]
            exact loop_end ⟨i + 1, S3, ao, c', o, Q3, s2, b2, rfl, by omega, h1, h2, hL3, hB2, by omega, hb, by omega, rfl⟩ (by omega) (wk_mk (by (repeat (first | apply wkf_nil | (apply wkf_cons; rfl))); done) (by (repeat (first | apply sub_nil )); done) (by first | exact fun _ h => h | (intro r hr; cases hr; done) | (simp; done) | exact fun _ h => List.mem_append_left _ h | (intro r hr; simp [hr]; done)))
    · have e : i = l.length := by omega
      subst e
      rw [List.drop_length] at h1 h2
      simp only [svM, List.append_nil] at h1 h2
      subst h1 h2
      (repeat (first | ((first | (apply wo_v; rfl) ); (· first | (apply pv_ev; rfl) )) | apply wo_nil | apply wc_seq | apply wc_region | (apply wc_exit; rfl) | (apply wc_true; rfl) | (apply wc_false; rfl) | (apply a_dec_t; rfl; (· first | assumption | omega)) | (apply a_dec_f; rfl; (· first | assumption | omega)) ))
      exact cut_end ⟨S', s2, ao, c', rfl, hL, by omega, by omega⟩ (wk_mk (by (repeat (first | apply wkf_nil | (apply wkf_cons; rfl))); done) (by (repeat (first | apply sub_nil )); done) (by first | exact fun _ h => h | (intro r hr; cases hr; done) | (simp; done) | exact fun _ h => List.mem_append_left _ h | (intro r hr; simp [hr]; done)))
  rintro st ⟨S', sent', ao, c', rfl, hL', hs1, hs2⟩
  (repeat (first | ((first | (apply wo_v; rfl) ); (· first | (apply pv_ev; rfl) )) | apply wo_nil | apply wc_seq | apply wc_region | apply wc_ret ))
  exact retv rfl (by (repeat (first | apply RV.nil | (apply RV.tmp; rfl) )); done) (⟨S', sent', ao, c', rfl, rfl, rfl, hL', hs1, hs2⟩) (by (repeat (first | apply sub_nil )); done) (by first | exact fun _ h => h | (intro r hr; cases hr; done) | (simp; done) | exact fun _ h => List.mem_append_left _ h | (intro r hr; simp [hr]; done))
set_option maxHeartbeats 16000000 in
theorem rServe (mt mg now bytes : Int) (Q : List Pk) (l : List Int) (aq : Option Addr) (nq cq : Nat) (A : Option Addr) (n c : Nat) (R : List Ro) (hB : QB Q now) (hn : 0 ≤ now ∧ now ≤ 1000000) (hm : mt ≤ 3) (hQ : SR R 4 aq nq cq (qrs Q)) (hql : Q.length ≤ 1000)
    (hS : SQ R 1 A n c (c16 l)) (hl : l.length ≤ 1000) (hb : -9223372036854775808 ≤ bytes ∧ bytes ≤ 9223372036854775807) :
    Fn Try.prog 27 #[.slice aq nq cq, .int .i64 mt, .int .i64 mg, .slice A n c, .int .i64 now, .int .i64 bytes] [] R
      (fun v L' R' => ∃ aq' nq' cq' ao c', v = .tuple #[.slice aq' nq' cq', .slice ao (svM mt mg now l Q bytes).2.length c'] ∧ L' = [stO ao c' (svM mt mg now l Q bytes).2] ∧ SR (R' ++ R) 4 aq' nq' cq' (qrs (svM mt mg now l Q bytes).1)) := by
  have hnl : n = l.length := by rw [← hS.len, c16_len]
  subst hnl
  obtain ⟨QF, out, hF⟩ : ∃ QF out, svM mt mg now l Q bytes = (QF, out) := ⟨_, _, rfl⟩
  rw [hF]
  dsimp only
  refine fn_intro Try.func27 rfl Try.ntmps27 rfl (fun E => ?_)
  (repeat (first | ((first | (apply wo_v; rfl) ); (· first | (apply pv_ev; rfl) | (apply g_bi; first | (apply pv_len_sl; rfl) ) )) | apply wo_nil | apply wc_seq | apply wc_region | (apply wo_bsl; (· (repeat (first | apply Rws'.nil ))); rfl; rfl; rfl; rfl; intro bx) ))
  refine wc_join0 (fun st => ∃ RR aq' nq' cq' ao c', st = ⟨[(0, .slice aq' nq' cq'), (14, .slice ao out.length c')], [stO ao c' out], RR⟩ ∧ SR RR 4 aq' nq' cq' (qrs QF)) ?_ ?_
  · refine wc_block ?_
    refine wc_loop' (fun q st => ∃ (i : Nat) (RR : List Ro) (aq' : Option Addr) (nq' cq' : Nat) (ao : Option Addr) (c' : Nat) (o : List ByteArray) (Q2 : List Pk) (b2 : Int), q = l.length - i ∧ i ≤ l.length ∧ (svM mt mg now (l.drop i) Q2 b2).1 = QF ∧ o ++ (svM mt mg now (l.drop i) Q2 b2).2 = out ∧ (∀ r ∈ R, r ∈ RR) ∧ SR RR 4 aq' nq' cq' (qrs Q2) ∧ QB Q2 now ∧ Q2.length ≤ 1000 ∧ (-9223372036854775808 ≤ b2 ∧ b2 ≤ 9223372036854775807) ∧ o.length ≤ i ∧
        st = ⟨[(0, .slice aq' nq' cq'), (1, .int .i64 mt), (2, .int .i64 mg), (4, .int .i64 now), (5, .int .i64 b2), (14, .slice ao o.length c'), (22, .slice A l.length c), (23, .int .i64 l.length), (24, .int .i64 i)], [stO ao c' o], RR⟩)
      ⟨0, R, aq, nq, cq, some ⟨bx, 0, none⟩, 0, [], Q, bytes, rfl, Nat.zero_le _, by rw [List.drop_zero, hF], by rw [List.drop_zero, hF]; rfl, fun _ h => h, hQ, hB, hql, hb, Nat.le_refl _, rfl⟩ (wk_mk (by (repeat (first | apply wkf_nil | (apply wkf_cons; rfl))); done) (by (repeat (first | apply sub_nil )); done) (by first | exact fun _ h => h | (intro r hr; cases hr; done) | (simp; done) | exact fun _ h => List.mem_append_left _ h | (intro r hr; simp [hr]; done))) ?_
    clear hQ hB hF hb hql
    rintro q st ⟨i, RR, aq, nq, cq, ao, c', o, Q2, b2, rfl, hi, h1, h2, hRR, hQ, hB, hql, hb, hol, rfl⟩
    by_cases hlt : i < l.length
    · obtain ⟨x, hx⟩ : ∃ x, l[i]? = some x := ⟨_, List.getElem?_eq_getElem hlt⟩
      have hr := c16_at hx
      obtain ⟨a0, o0, rfl, hmem0⟩ := hS.pos (by omega)
      have hmem := hRR _ hmem0
      rw [drop_cons hx] at h1 h2
      rcases fnd_or x Q2 with ⟨f1, f2⟩ | ⟨j, p, f1, f2⟩
      · rw [svM_no f1] at h1 h2
        (repeat (first | ((first | (apply wo_v; rfl) ); (· first | (apply pv_ev; rfl) | (apply g_load; first | (apply pv_ld; rfl; (· (repeat (first | apply sel_there))); rfl) | (apply pv_ld_ownf; rfl; (· (repeat (first | fail ))); (· assumption); rfl) | (apply pv_ld_own1; rfl; (· (repeat (first | apply sel_there))); (· assumption)) | (apply pv_ld_rof; rfl; (· (first | assumption )); (· assumption); rfl) | (apply pv_ld_ro1; rfl; (· (first | assumption )); (· assumption)) ) | (apply g_idx; first | (apply pv_idx; rfl; rfl; omega) ) )) | apply wo_nil | apply wc_seq | apply wc_region | apply wc_block | apply wc_skip | (apply wc_true; rfl) | (apply wc_false; rfl) | (apply a_dec_t; rfl; (· first | assumption | omega)) ))
        (refine wo_call (refFind_no aq nq cq Q2 x RR hQ hql f2) rfl (by (repeat (first | apply sub_nil )); done) (by first | exact fun _ h => h | (intro r hr; cases hr; done) | (simp; done) | exact fun _ h => List.mem_append_left _ h | (intro r hr; simp [hr]; done)) rfl ?_; rintro v L' R' ⟨rfl, rfl, rfl⟩ H' hH RR hR; simp only [List.cons_append, List.nil_append] at hH hR; subst hH; have hR := hR.symm; subst hR)
        (repeat (first | ((first | (apply wo_v; rfl) ); (· first | (apply pv_ev; rfl) | (apply g_bin; first | (apply a_add; rfl; rfl; infer_instance; omega) ) )) | apply wo_nil | apply wc_seq | apply wc_region | (apply wc_exit; rfl) | (apply wc_true; rfl) ))
        exact loop_end ⟨i + 1, RR, aq, nq, cq, ao, c', o, Q2, b2, rfl, by omega, h1, h2, hRR, hQ, hB, hql, hb, by omega, rfl⟩ (by omega) (wk_mk (by (repeat (first | apply wkf_nil | (apply wkf_cons; rfl))); done) (by (repeat (first | apply sub_nil )); done) (by first | exact fun _ h => h | (intro r hr; cases hr; done) | (simp; done) | exact fun _ h => List.mem_append_left _ h | (intro r hr; simp [hr]; done)))
      · have hjl := f1.lt
        have hnq : nq = Q2.length := by rw [← hQ.len]; simp
        obtain ⟨bq, oq, rfl, hmq⟩ := hQ.pos (by omega)
        have hrq := qrs_at f1.1
        by_cases hbig : b2 < p.2.1.size
        · rw [svM_big f2 hbig] at h1 h2
          rw [List.append_nil] at h2
          dsimp only at h1 h2
          subst h1 h2
          (repeat (first | ((first | (apply wo_v; rfl) ); (· first | (apply pv_ev; rfl) | (apply g_load; first | (apply pv_ld; rfl; (· (repeat (first | apply sel_there))); rfl) | (apply pv_ld_ownf; rfl; (· (repeat (first | fail ))); (· assumption); rfl) | (apply pv_ld_own1; rfl; (· (repeat (first | apply sel_there))); (· assumption)) | (apply pv_ld_rof; rfl; (· (first | assumption )); (· assumption); rfl) | (apply pv_ld_ro1; rfl; (· (first | assumption )); (· assumption)) ) | (apply g_idx; first | (apply pv_idx; rfl; rfl; omega) ) )) | apply wo_nil | apply wc_seq | apply wc_region | apply wc_block | apply wc_skip | (apply wc_true; rfl) | (apply wc_false; rfl) | (apply a_dec_t; rfl; (· first | assumption | omega)) ))
          (refine wo_call (refFind_hit _ nq cq Q2 x RR hQ hql j p f1) rfl (by (repeat (first | apply sub_nil )); done) (by first | exact fun _ h => h | (intro r hr; cases hr; done) | (simp; done) | exact fun _ h => List.mem_append_left _ h | (intro r hr; simp [hr]; done)) rfl ?_; rintro v L' R' ⟨rfl, rfl, rfl⟩ H' hH RR hR; simp only [List.cons_append, List.nil_append] at hH hR; subst hH; have hR := hR.symm; subst hR)
          (repeat (first | ((first | (apply wo_v; rfl) ); (· first | (apply pv_ev; rfl) | (apply pv_fld; rfl) | (apply g_load; first | (apply pv_ld; rfl; (· (repeat (first | apply sel_there))); rfl) | (apply pv_ld_ownf; rfl; (· (repeat (first | apply sel_there))); (· assumption); rfl) | (apply pv_ld_own1; rfl; (· (repeat (first | fail ))); (· assumption)) | (apply pv_ld_rof; rfl; (· (first | assumption )); (· assumption); rfl) ) | (apply g_bi; first | (apply pv_len_str; rfl) ) | (apply g_idx; first | (apply pv_idx; rfl; rfl; omega) ) )) | apply wo_nil | apply wc_seq | apply wc_region | apply wc_skip | apply wc_ret | (apply wc_true; rfl) | (apply wc_false; rfl) | (apply a_dec_t; rfl; (· first | assumption | omega)) ))
          exact retv rfl (by (repeat (first | apply RV.nil | (apply RV.tmp; rfl) )); done) (⟨_, nq, cq, ao, c', rfl, rfl, hQ.mono (fun r hr => List.mem_append_left _ hr)⟩) (by (repeat (first | apply sub_nil )); done) (by first | exact fun _ h => h | (intro r hr; cases hr; done) | (simp; done) | exact fun _ h => List.mem_append_left _ h | (intro r hr; simp [hr]; done))
        · have hag := refAgain _ nq cq Q2 mt mg x now RR hQ hql hB hn
          have hB2 := hB.ag hn.1 hm mg x
          have hl2 := agM_len mt mg now x Q2
          by_cases he : (agM mt mg now x Q2).2.2 = 0
          · rw [svM_ok f2 hbig he] at h1 h2
            rw [agM_txt f2 he, he] at hag
            generalize (agM mt mg now x Q2).1 = Q3 at h1 h2 hag hB2 hl2
            dsimp only at h1 h2
            (repeat (first | ((first | (apply wo_v; rfl) ); (· first | (apply pv_ev; rfl) | (apply g_load; first | (apply pv_ld; rfl; (· (repeat (first | apply sel_there))); rfl) | (apply pv_ld_ownf; rfl; (· (repeat (first | fail ))); (· assumption); rfl) | (apply pv_ld_own1; rfl; (· (repeat (first | apply sel_there))); (· assumption)) | (apply pv_ld_rof; rfl; (· (first | assumption )); (· assumption); rfl) | (apply pv_ld_ro1; rfl; (· (first | assumption )); (· assumption)) ) | (apply g_idx; first | (apply pv_idx; rfl; rfl; omega) ) )) | apply wo_nil | apply wc_seq | apply wc_region | apply wc_block | apply wc_skip | (apply wc_true; rfl) | (apply wc_false; rfl) | (apply a_dec_t; rfl; (· first | assumption | omega)) ))
            (refine wo_call (refFind_hit _ nq cq Q2 x RR hQ hql j p f1) rfl (by (repeat (first | apply sub_nil )); done) (by first | exact fun _ h => h | (intro r hr; cases hr; done) | (simp; done) | exact fun _ h => List.mem_append_left _ h | (intro r hr; simp [hr]; done)) rfl ?_; rintro v L' R' ⟨rfl, rfl, rfl⟩ H' hH RR hR; simp only [List.cons_append, List.nil_append] at hH hR; subst hH; have hR := hR.symm; subst hR)
            (repeat (first | ((first | (apply wo_v; rfl) ); (· first | (apply pv_ev; rfl) | (apply pv_fld; rfl) | (apply g_load; first | (apply pv_ld; rfl; (· (repeat (first | apply sel_there))); rfl) | (apply pv_ld_ownf; rfl; (· (repeat (first | apply sel_there))); (· assumption); rfl) | (apply pv_ld_own1; rfl; (· (repeat (first | fail ))); (· assumption)) | (apply pv_ld_rof; rfl; (· (first | assumption )); (· assumption); rfl) ) | (apply g_bi; first | (apply pv_len_str; rfl) ) | (apply g_idx; first | (apply pv_idx; rfl; rfl; omega) ) )) | apply wo_nil | apply wc_seq | apply wc_region | apply wc_skip | (apply wc_true; rfl) | (apply wc_false; rfl) | (apply a_dec_t; rfl; (· first | assumption | omega)) | (apply a_dec_f; rfl; (· first | assumption | omega)) ))
            (refine wo_call (hag) rfl (by (repeat (first | apply sub_nil )); done) (by first | exact fun _ h => h | (intro r hr; cases hr; done) | (simp; done) | exact fun _ h => List.mem_append_left _ h | (intro r hr; simp [hr]; done)) rfl ?_; rintro v L' R' ⟨aq3, nq3, cq3, rfl, rfl, hQ3⟩ H' hH RR hR; simp only [List.cons_append, List.nil_append] at hH hR; subst hH; have hR := hR.symm; subst hR)
            (repeat (first | ((first | (apply wo_v; rfl) ); (· first | (apply pv_ev; rfl) | (apply g_bin; first | (apply a_sub; rfl; rfl; infer_instance; omega) ) | (apply g_bi; first | (apply pv_len_str; rfl) ) )) | apply wo_nil | apply wc_seq | apply wc_region | (apply wc_true; rfl) | (apply wo_bsl; (· (repeat (first | apply Rws'.nil | (apply Rws'.one; rfl; rfl; rfl) ))); rfl; rfl; rfl; rfl; intro bx) ))
            refine wo_app rfl rfl (by (repeat (first | apply sel_here | apply sel_there)); done) (by (repeat (first | apply sel_here )); done) (by unfold maxLen; omega) (by omega) rfl (fun ao2 c2 => ?_)
            (repeat (first | ((first | (apply wo_v; rfl) ); (· first | (apply pv_ev; rfl) | (apply g_bin; first | (apply a_add; rfl; rfl; infer_instance; omega) ) )) | apply wo_nil | apply wc_region ))
            exact loop_end ⟨i + 1, _, aq3, nq3, cq3, ao2, c2, o ++ [p.2.1], Q3, b2 - p.2.1.size, rfl, by omega, h1, by rw [List.append_assoc]; exact h2, fun r hr => List.mem_append_right _ (hRR r hr), hQ3, hB2, by omega, by omega, by rw [List.length_append, List.length_singleton]; omega, by rw [stO_snoc, List.length_append, List.length_singleton]⟩ (by omega) (wk_mk (by (repeat (first | apply wkf_nil | (apply wkf_cons; rfl))); done) (by (repeat (first | apply sub_nil )); done) (by first | exact fun _ h => h | (intro r hr; cases hr; done) | (simp; done) | exact fun _ h => List.mem_append_left _ h | (intro r hr; simp [hr]; done)))
          · rw [svM_er f2 hbig he] at h1 h2
            generalize agM mt mg now x Q2 = r at h1 h2 hag hB2 he hl2
            obtain ⟨Q3, s3, e3⟩ := r
            dsimp only at h1 h2 hag hB2 he hl2
            (repeat (first | ((first | (apply wo_v; rfl) ); (· first | (apply pv_ev; rfl) | (apply g_load; first | (apply pv_ld; rfl; (· (repeat (first | apply sel_there))); rfl) | (apply pv_ld_ownf; rfl; (· (repeat (first | fail ))); (· assumption); rfl) | (apply pv_ld_own1; rfl; (· (repeat (first | apply sel_there))); (· assumption)) | (apply pv_ld_rof; rfl; (· (first | assumption )); (· assumption); rfl) | (apply pv_ld_ro1; rfl; (· (first | assumption )); (· assumption)) ) | (apply g_idx; first | (apply pv_idx; rfl; rfl; omega) ) )) | apply wo_nil | apply wc_seq | apply wc_region | apply wc_block | apply wc_skip | (apply wc_true; rfl) | (apply wc_false; rfl) | (apply a_dec_t; rfl; (· first | assumption | omega)) ))
            (refine wo_call (refFind_hit _ nq cq Q2 x RR hQ hql j p f1) rfl (by (repeat (first | apply sub_nil )); done) (by first | exact fun _ h => h | (intro r hr; cases hr; done) | (simp; done) | exact fun _ h => List.mem_append_left _ h | (intro r hr; simp [hr]; done)) rfl ?_; rintro v L' R' ⟨rfl, rfl, rfl⟩ H' hH RR hR; simp only [List.cons_append, List.nil_append] at hH hR; subst hH; have hR := hR.symm; subst hR)
            (repeat (first | ((first | (apply wo_v; rfl) ); (· first | (apply pv_ev; rfl) | (apply pv_fld; rfl) | (apply g_load; first | (apply pv_ld; rfl; (· (repeat (first | apply sel_there))); rfl) | (apply pv_ld_ownf; rfl; (· (repeat (first | apply sel_there))); (· assumption); rfl) | (apply pv_ld_own1; rfl; (· (repeat (first | fail ))); (· assumption)) | (apply pv_ld_rof; rfl; (· (first | assumption )); (· assumption); rfl) ) | (apply g_bi; first | (apply pv_len_str; rfl) ) | (apply g_idx; first | (apply pv_idx; rfl; rfl; omega) ) )) | apply wo_nil | apply wc_seq | apply wc_region | apply wc_skip | (apply wc_true; rfl) | (apply wc_false; rfl) | (apply a_dec_t; rfl; (· first | assumption | omega)) | (apply a_dec_f; rfl; (· first | assumption | omega)) ))
            (refine wo_call (hag) rfl (by (repeat (first | apply sub_nil )); done) (by first | exact fun _ h => h | (intro r hr; cases hr; done) | (simp; done) | exact fun _ h => List.mem_append_left _ h | (intro r hr; simp [hr]; done)) rfl ?_; rintro v L' R' ⟨aq3, nq3, cq3, rfl, rfl, hQ3⟩ H' hH RR hR; simp only [List.cons_append, List.nil_append] at hH hR; subst hH; have hR := hR.symm; subst hR)
            (repeat (first | ((first | (apply wo_v; rfl) ); (· first | (apply pv_ev; rfl) | (apply g_bin; first | (apply a_add; rfl; rfl; infer_instance; omega) ) )) | apply wo_nil | apply wc_seq | apply wc_region | apply wc_skip | (apply wc_true; rfl) | (apply wc_false; rfl) | (apply a_dec_t; rfl; (· first | assumption | omega)) | (apply a_dec_f; rfl; (· first | assumption | omega)) ))
            exact loop_end ⟨i + 1, _, aq3, nq3, cq3, ao, c', o, Q3, b2, rfl, by omega, h1, h2, fun r hr => List.mem_append_right _ (hRR r hr), hQ3, hB2, by omega, hb, by omega, rfl⟩ (by omega) (wk_mk (by (repeat (first | apply wkf_nil | (apply wkf_cons; rfl))); done) (by (repeat (first | apply sub_nil )); done) (by first | exact fun _ h => h | (intro r hr; cases hr; done) | (simp; done) | exact fun _ h => List.mem_append_left _ h | (intro r hr; simp [hr]; done)))
    · have e : i = l.length := by omega
      subst e
      rw [List.drop_length] at h1 h2
      simp only [svM, List.append_nil] at h1 h2
      subst h1 h2
      (repeat (first | ((first | (apply wo_v; rfl) ); (· first | (apply pv_ev; rfl) )) | apply wo_nil | apply wc_seq | apply wc_region | (apply wc_exit; rfl) | (apply wc_true; rfl) | (apply wc_false; rfl) | (apply a_dec_t; rfl; (· first | assumption | omega)) | (apply a_dec_f; rfl; (· first | assumption | omega)) ))
      exact cut_end ⟨RR, aq, nq, cq, ao, c', rfl, hQ⟩ (wk_mk (by (repeat (first | apply wkf_nil | (apply wkf_cons; rfl))); done) (by (repeat (first | apply sub_nil )); done) (by first | exact fun _ h => h | (intro r hr; cases hr; done) | (simp; done) | exact fun _ h => List.mem_append_left _ h | (intro r hr; simp [hr]; done)))
  rintro st ⟨RR, aq', nq', cq', ao, c', rfl, hQ'⟩
  (repeat (first | ((first | (apply wo_v; rfl) ); (· first | (apply pv_ev; rfl) )) | apply wo_nil | apply wc_seq | apply wc_region | apply wc_ret ))
  exact retv rfl (by (repeat (first | apply RV.nil | (apply RV.tmp; rfl) )); done) (⟨aq', nq', cq', ao, c', rfl, rfl, hQ'.mono (fun r hr => List.mem_append_left _ hr)⟩) (by (repeat (first | apply sub_nil )); done) (by first | exact fun _ h => h | (intro r hr; cases hr; done) | (simp; done) | exact fun _ h => List.mem_append_left _ h | (intro r hr; simp [hr]; done))
end Go.Proofs.Ytnjicnadlhfocaa
