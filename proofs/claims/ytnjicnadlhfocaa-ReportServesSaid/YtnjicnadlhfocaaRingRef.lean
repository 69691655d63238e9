/-
  Package ring: the reference (a list of the last packets), and All.
-/
import Derived.Test.YtnjicnadlhfocaaRingPlain
import Derived.Test.YtnjicnadlhfocaaSpQ
namespace Go.Proofs.Ytnjicnadlhfocaa
set_option linter.unusedSimpArgs false
set_option linter.unusedVariables false
open Go.RowKit
attribute [local irreducible] Pv WO WC Fn
set_option maxRecDepth 100000

def qrow (p : Pk) : List Value := [.int .u16 p.1, .string p.2.1, .int .i64 p.2.2.1, .int .i64 p.2.2.2]
abbrev qrs (Q : List Pk) : List (List Value) := Q.map qrow
theorem qrs_at {Q : List Pk} {j : Nat} {p : Pk} (h : Q[j]? = some p) : (qrs Q)[j]? = some [.int .u16 p.1, .string p.2.1, .int .i64 p.2.2.1, .int .i64 p.2.2.2] := by
  rw [List.getElem?_map, h]; rfl
def fnd : List Pk → Int → Option (Nat × Pk)
  | [], _ => none
  | p :: l, n => match fnd l n with
    | some x => some (x.1 + 1, x.2)
    | none => if p.1 = n then some (0, p) else none
theorem fnd_or (n : Int) : ∀ Q : List Pk, (fnd Q n = none ∧ ∀ p ∈ Q, p.1 ≠ n) ∨ ∃ j p, Hit Q n j p ∧ fnd Q n = some (j, p)
  | [] => .inl ⟨rfl, by simp⟩
  | q :: l => by
    rcases fnd_or n l with ⟨h1, h2⟩ | ⟨j, p, ⟨h1, h2, h3⟩, h4⟩
    · by_cases hq : q.1 = n
      · refine .inr ⟨0, q, ⟨rfl, hq, fun j' p' hj hp => ?_⟩, by rw [fnd, h1]; simp [hq]⟩
        obtain ⟨j'', rfl⟩ : ∃ j'', j' = j'' + 1 := ⟨j' - 1, by omega⟩
        exact h2 p' (List.mem_of_getElem? (by simpa using hp))
      · refine .inl ⟨by rw [fnd, h1]; simp [hq], fun p hp => ?_⟩
        rcases List.mem_cons.1 hp with rfl | hp
        · exact hq
        · exact h2 p hp
    · refine .inr ⟨j + 1, p, ⟨by simpa using h1, h2, fun j' p' hj hp => ?_⟩, by rw [fnd, h4]⟩
      obtain ⟨j'', rfl⟩ : ∃ j'', j' = j'' + 1 := ⟨j' - 1, by omega⟩
      exact h3 j'' p' (by omega) (by simpa using hp)
def agM (mt mg now num : Int) (Q : List Pk) : List Pk × ByteArray × Int :=
  match fnd Q num with
  | none => (Q, ⟨#[]⟩, 12)
  | some (j, p) => if mt ≤ p.2.2.1 then (Q, ⟨#[]⟩, 11) else if 0 < p.2.2.1 ∧ now - p.2.2.2 < mg then (Q, ⟨#[]⟩, 14) else (Q.set j (p.1, p.2.1, p.2.2.1 + 1, now), p.2.1, 0)
structure QB (Q : List Pk) (now : Int) : Prop where
  b : ∀ p ∈ Q, 0 ≤ p.2.2.1 ∧ p.2.2.1 ≤ 3 ∧ 0 ≤ p.2.2.2 ∧ p.2.2.2 ≤ now
theorem QB.mono {Q : List Pk} {now now' : Int} (h : QB Q now) (hn : now ≤ now') : QB Q now' := ⟨fun p hp => by have := h.b p hp; omega⟩
theorem QB.put {Q : List Pk} {now : Int} (h : QB Q now) (hn : 0 ≤ now) (k : Nat) (n : Int) (s : ByteArray) : QB (putQ k Q (n, s, 0, 0)) now := ⟨fun p hp => by
  have : p ∈ Q ++ [(n, s, 0, 0)] := by unfold putQ at hp; split at hp; exact List.mem_of_mem_drop hp; exact hp
  rcases List.mem_append.1 this with h1 | h1
  · exact h.b p h1
  · simp at h1; subst h1; simp; omega⟩
theorem QB.ag {Q : List Pk} {now mt : Int} (h : QB Q now) (hn : 0 ≤ now) (hm : mt ≤ 3) (mg num : Int) : QB (agM mt mg now num Q).1 now := by
  unfold agM
  split
  · exact h
  · split
    · exact h
    · split
      · exact h
      · rename_i j p e h1 h2
        refine ⟨fun x hx => ?_⟩
        rcases fnd_or num Q with ⟨h3, _⟩ | ⟨j', p', h3, h4⟩
        · rw [h3] at e; cases e
        · rw [h4] at e; cases e
          have := h.b p (List.mem_of_getElem? h3.1)
          rcases List.mem_or_eq_of_mem_set hx with hx | rfl
          · exact h.b x hx
          · simp only; omega
theorem agM_len (mt mg now num : Int) (Q : List Pk) : (agM mt mg now num Q).1.length = Q.length := by
  unfold agM
  split
  · rfl
  · split
    · rfl
    · split
      · rfl
      · simp
def cnt (e : Int) : Int := if e = 0 then 1 else 0
theorem ringAgainM (g b k : Nat) (S : List (Option Pk)) (put : Nat) (mt mg sent num now : Int) (Q : List Pk) (hk : 1 ≤ k) (hL : Lay S put k Q) (hp : put ≤ 1000000) (hB : QB Q now) (hn : 0 ≤ now ∧ now ≤ 1000000) (hs : 0 ≤ sent ∧ sent ≤ 1000000) :
    Fn Try.prog 51 #[.pointer (some ⟨g, 0, none⟩), .int .u16 num, .int .i64 now] (rgH g b k S put mt mg sent) []
      (fun v L' R' => ∃ S', v = .tuple #[.string (agM mt mg now num Q).2.1, .int .i64 (agM mt mg now num Q).2.2] ∧ L' = rgH g b k S' put mt mg (sent + cnt (agM mt mg now num Q).2.2) ∧ R' = [] ∧ Lay S' put k (agM mt mg now num Q).1) := by
  rcases fnd_or num Q with ⟨h1, h2⟩ | ⟨j, p, h1, h2⟩
  · rw [show agM mt mg now num Q = (Q, ⟨#[]⟩, 12) by unfold agM; rw [h1]]
    refine (ringAgain_no g b k S put mt mg sent num now Q hk hL hp h2).mono ?_
    rintro v L' R' ⟨rfl, rfl, rfl⟩
    exact ⟨S, rfl, by rw [show sent + cnt ((Q, (⟨#[]⟩ : ByteArray), (12 : Int)).2.2) = sent by simp [cnt]], rfl, hL⟩
  · have hb := hB.b p (List.mem_of_getElem? h1.1)
    by_cases ht : mt ≤ p.2.2.1
    · rw [show agM mt mg now num Q = (Q, ⟨#[]⟩, 11) by unfold agM; rw [h2]; exact if_pos ht]
      refine (ringAgain_tries g b k S put mt mg sent num now Q hk hL hp j p h1 ht).mono ?_
      rintro v L' R' ⟨rfl, rfl, rfl⟩
      exact ⟨S, rfl, by rw [show sent + cnt ((Q, (⟨#[]⟩ : ByteArray), (11 : Int)).2.2) = sent by simp [cnt]], rfl, hL⟩
    · by_cases hg : 0 < p.2.2.1 ∧ now - p.2.2.2 < mg
      · rw [show agM mt mg now num Q = (Q, ⟨#[]⟩, 14) by unfold agM; rw [h2]; exact (if_neg ht).trans (if_pos hg)]
        refine (ringAgain_gap g b k S put mt mg sent num now Q hk hL hp j p h1 ht hg.1 hg.2 (by omega)).mono ?_
        rintro v L' R' ⟨rfl, rfl, rfl⟩
        exact ⟨S, rfl, by rw [show sent + cnt ((Q, (⟨#[]⟩ : ByteArray), (14 : Int)).2.2) = sent by simp [cnt]], rfl, hL⟩
      · rw [show agM mt mg now num Q = (Q.set j (p.1, p.2.1, p.2.2.1 + 1, now), p.2.1, 0) by unfold agM; rw [h2]; exact (if_neg ht).trans (if_neg hg)]
        refine (ringAgain_ok g b k S put mt mg sent num now Q hk hL hp j p h1 ht hg (by omega) (by omega) hs).mono ?_
        rintro v L' R' ⟨rfl, rfl, rfl⟩
        exact ⟨_, rfl, by rw [show sent + cnt ((Q, p.2.1, (0 : Int)).2.2) = sent + 1 by simp [cnt]], rfl, hL.set h1.lt _⟩

def FI (Q : List Pk) (num : Int) (i : Nat) (z : Int) : Prop := (z = -1 ∧ ∀ (j : Nat) (p : Pk), j < i → Q[j]? = some p → p.1 ≠ num) ∨ ∃ (j : Nat) (p : Pk), z = (j : Int) ∧ j < i ∧ Q[j]? = some p ∧ p.1 = num ∧ ∀ (j' : Nat) (p' : Pk), j < j' → j' < i → Q[j']? = some p' → p'.1 ≠ num
set_option maxHeartbeats 4000000 in
theorem refFind (ao : Option Addr) (n c : Nat) (Q : List Pk) (num z : Int) (R : List Ro) (hS : SR R 4 ao n c (qrs Q)) (hl : Q.length ≤ 1000) (hz : ∀ z', FI Q num Q.length z' → z' = z) :
    Fn Try.prog 52 #[.slice ao n c, .int .u16 num] [] R (fun v L' R' => v = .int .i64 z ∧ L' = [] ∧ R' = []) := by
  have hn : n = Q.length := by rw [← hS.len]; simp
  refine fn_intro Try.func52 rfl Try.ntmps52 rfl (fun E => ?_)
  (repeat (first | ((first | (apply wo_v; rfl) ); (· first | (apply pv_ev; rfl) | (apply g_bi; first | (apply pv_len_sl; rfl) ) )) | apply wo_nil | apply wc_seq | apply wc_region ))
  refine wc_join0 (fun st => st = ⟨[(5, .int .i64 z)], [], R⟩) ?_ ?_
  · refine wc_block ?_
    refine wc_loop' (fun q st => ∃ (i : Nat) (z' : Int), q = n - i ∧ i ≤ n ∧ FI Q num i z' ∧ st = ⟨[(1, .int .u16 num), (5, .int .i64 z'), (8, .slice ao n c), (9, .int .i64 n), (10, .int .i64 i)], [], R⟩)
      ⟨0, -1, rfl, Nat.zero_le _, .inl ⟨rfl, fun j p h => by omega⟩, rfl⟩ (wk_mk (by (repeat (first | apply wkf_nil | (apply wkf_cons; rfl))); done) (by (repeat (first | apply sub_nil )); done) (by first | exact fun _ h => h | (intro r hr; cases hr; done) | (simp; done) | exact fun _ h => List.mem_append_left _ h | (intro r hr; simp [hr]; done))) ?_
    rintro q st ⟨i, z', rfl, hi, hF, rfl⟩
    by_cases hlt : i < n
    · obtain ⟨b, o, rfl, hmem⟩ := hS.pos (by omega)
      obtain ⟨p, hp⟩ : ∃ p, Q[i]? = some p := ⟨_, List.getElem?_eq_getElem (by omega)⟩
      have hr := qrs_at hp
      by_cases hm : p.1 = num
      · have hm2 : num = p.1 := hm.symm
        (repeat (first | ((first | (apply wo_v; rfl) ); (· first | (apply pv_ev; rfl) )) | apply wo_nil | apply wc_seq | apply wc_region | apply wc_skip | (apply wc_true; rfl) | (apply wc_false; rfl) | (apply a_dec_t; rfl; (· first | assumption | omega)) ))
        refine wc_block ?_
        (repeat (first | ((first | (apply wo_v; rfl) ); (· first | (apply pv_ev; rfl) | (apply pv_fld; rfl) | (apply g_load; first | (apply pv_ld; rfl; (· (repeat (first | apply sel_here ))); rfl) | (apply pv_lda; rfl; (· (repeat (first | fail ))); (· (repeat (first | fail )))) | (apply pv_ld_owna; rfl; (· (repeat (first | fail ))); (· assumption)) | (apply pv_ld_roa; rfl; (· (first | assumption )); (· assumption))) | (apply g_bin; first | (apply a_add; rfl; rfl; infer_instance; omega) ) | (apply g_idx; first | (apply pv_idx; rfl; rfl; omega) ) )) | apply wo_nil | apply wc_seq | apply wc_region | (apply wc_true; rfl) | (apply wc_false; rfl) | (apply a_dec_t; rfl; (· first | assumption | omega)) | (apply wo_alloc; rfl; intro bx) | (apply wo_sta; rfl; rfl; rfl; rfl; (· (repeat (first | apply sel_here ))); (· (repeat (first | apply LayAt.nil | apply LayAt.here ))); rfl) ))
        exact loop_end ⟨i + 1, i, rfl, by omega, .inr ⟨i, p, rfl, by omega, hp, hm, fun j' p' h1 h2 => by omega⟩, rfl⟩ (by omega) (wk_mk (by (repeat (first | apply wkf_nil | (apply wkf_cons; rfl))); done) (by (repeat (first | apply sub_nil )); done) (by first | exact fun _ h => h | (intro r hr; cases hr; done) | (simp; done) | exact fun _ h => List.mem_append_left _ h | (intro r hr; simp [hr]; done)))
      · (repeat (first | ((first | (apply wo_v; rfl) ); (· first | (apply pv_ev; rfl) )) | apply wo_nil | apply wc_seq | apply wc_region | apply wc_skip | (apply wc_true; rfl) | (apply wc_false; rfl) | (apply a_dec_t; rfl; (· first | assumption | omega)) ))
        refine wc_block ?_
        (repeat (first | ((first | (apply wo_v; rfl) ); (· first | (apply pv_ev; rfl) | (apply pv_fld; rfl) | (apply g_load; first | (apply pv_ld; rfl; (· (repeat (first | apply sel_here ))); rfl) | (apply pv_lda; rfl; (· (repeat (first | fail ))); (· (repeat (first | fail )))) | (apply pv_ld_owna; rfl; (· (repeat (first | fail ))); (· assumption)) | (apply pv_ld_roa; rfl; (· (first | assumption )); (· assumption))) | (apply g_bin; first | (apply a_add; rfl; rfl; infer_instance; omega) ) | (apply g_idx; first | (apply pv_idx; rfl; rfl; omega) ) )) | apply wo_nil | apply wc_seq | apply wc_region | apply wc_skip | (apply wc_true; rfl) | (apply wc_false; rfl) | (apply a_dec_t; rfl; (· first | assumption | omega)) | (apply a_dec_f; rfl; (· first | assumption | omega)) | (apply wo_alloc; rfl; intro bx) | (apply wo_sta; rfl; rfl; rfl; rfl; (· (repeat (first | apply sel_here ))); (· (repeat (first | apply LayAt.nil | apply LayAt.here ))); rfl) ))
        refine loop_end ⟨i + 1, z', rfl, by omega, ?_, rfl⟩ (by omega) (wk_mk (by (repeat (first | apply wkf_nil | (apply wkf_cons; rfl))); done) (by (repeat (first | apply sub_nil )); done) (by first | exact fun _ h => h | (intro r hr; cases hr; done) | (simp; done) | exact fun _ h => List.mem_append_left _ h | (intro r hr; simp [hr]; done)))
        rcases hF with ⟨h1, h2⟩ | ⟨j, pj, h1, h2, h3, h4, h5⟩
        · refine .inl ⟨h1, fun j' p' h3 h4 => ?_⟩
          by_cases hj : j' = i
          · subst hj; rw [hp] at h4; cases h4; exact hm
          · exact h2 j' p' (by omega) h4
        · refine .inr ⟨j, pj, h1, by omega, h3, h4, fun j' p' h6 h7 h8 => ?_⟩
          by_cases hj : j' = i
          · subst hj; rw [hp] at h8; cases h8; exact hm
          · exact h5 j' p' h6 (by omega) h8
    · have e : i = Q.length := by omega
      subst e
      obtain rfl := hz z' hF
      (repeat (first | ((first | (apply wo_v; rfl) ); (· first | (apply pv_ev; rfl) )) | apply wo_nil | apply wc_seq | apply wc_region | (apply wc_exit; rfl) | (apply wc_true; rfl) | (apply wc_false; rfl) | (apply a_dec_t; rfl; (· first | assumption | omega)) | (apply a_dec_f; rfl; (· first | assumption | omega)) ))
      exact cut_end rfl (wk_mk (by (repeat (first | apply wkf_nil | (apply wkf_cons; rfl))); done) (by (repeat (first | apply sub_nil )); done) (by first | exact fun _ h => h | (intro r hr; cases hr; done) | (simp; done) | exact fun _ h => List.mem_append_left _ h | (intro r hr; simp [hr]; done)))
  rintro st rfl
  (repeat (first | ((first | (apply wo_v; rfl) ); (· first | (apply pv_ev; rfl) )) | apply wo_nil | apply wc_seq | apply wc_region | apply wc_ret ))
  exact retv rfl (by (repeat (first | apply RV.nil | (apply RV.tmp; rfl) )); done) (⟨rfl, rfl, rfl⟩) (by (repeat (first | apply sub_nil )); done) (by first | exact fun _ h => h | (intro r hr; cases hr; done) | (simp; done) | exact fun _ h => List.mem_append_left _ h | (intro r hr; simp [hr]; done))
theorem refFind_no (ao : Option Addr) (n c : Nat) (Q : List Pk) (num : Int) (R : List Ro) (hS : SR R 4 ao n c (qrs Q)) (hl : Q.length ≤ 1000) (h : ∀ p ∈ Q, p.1 ≠ num) :
    Fn Try.prog 52 #[.slice ao n c, .int .u16 num] [] R (fun v L' R' => v = .int .i64 (-1) ∧ L' = [] ∧ R' = []) := by
  refine refFind ao n c Q num (-1) R hS hl fun z' hF => ?_
  rcases hF with ⟨h1, _⟩ | ⟨j, p, _, _, h3, h4, _⟩
  · exact h1
  · exact absurd h4 (h p (List.mem_of_getElem? h3))
theorem refFind_hit (ao : Option Addr) (n c : Nat) (Q : List Pk) (num : Int) (R : List Ro) (hS : SR R 4 ao n c (qrs Q)) (hl : Q.length ≤ 1000) (j : Nat) (p : Pk) (h : Hit Q num j p) :
    Fn Try.prog 52 #[.slice ao n c, .int .u16 num] [] R (fun v L' R' => v = .int .i64 j ∧ L' = [] ∧ R' = []) := by
  refine refFind ao n c Q num j R hS hl fun z' hF => ?_
  rcases hF with ⟨_, h2⟩ | ⟨j', p', h1, h2, h3, h4, h5⟩
  · exact absurd h.2.1 (h2 j p h.lt h.1)
  · rw [h1]
    rcases Nat.lt_trichotomy j j' with h6 | h6 | h6
    · exact absurd h4 (h.2.2 j' p' h6 h3)
    · rw [h6]
    · exact absurd h.2.1 (h5 j p h6 h.lt h.1)
set_option maxHeartbeats 4000000 in
theorem refPut (ao : Option Addr) (n c k : Nat) (Q : List Pk) (num : Int) (s : ByteArray) (R : List Ro) (hS : SR R 4 ao n c (qrs Q)) (hl : Q.length ≤ 1000) (hk : k ≤ 1000) :
    Fn Try.prog 25 #[.slice ao n c, .int .i64 k, .int .u16 num, .string s] [] R
      (fun v L' R' => ∃ ao' n' c', v = .slice ao' n' c' ∧ L' = [] ∧ SR R' 4 ao' n' c' (qrs (putQ k Q (num, s, 0, 0)))) := by
  have hn : n = Q.length := by rw [← hS.len]; simp
  by_cases h : k < Q.length + 1
  · rw [show putQ k Q (num, s, 0, 0) = (Q ++ [(num, s, 0, 0)]).drop 1 by unfold putQ; exact if_pos h]
    refine fn_intro Try.func25 rfl Try.ntmps25 rfl (fun E => ?_)
    (repeat (first | ((first | (apply wo_v; rfl) ); (· first | (apply pv_ev; rfl) | (apply g_bi; first | fail ) )) | apply wo_nil | apply wc_seq | apply wc_region | (apply wo_bsl; (· (repeat (first | apply Rws'.nil ))); rfl; rfl; rfl; rfl; intro bx) ))
    refine wo_app_sr rfl rfl (by (repeat (first | apply sel_here )); done) hS (by unfold maxLen; omega) (by omega) rfl (fun ao1 c1 => ?_)
    (repeat (first | ((first | (apply wo_v; rfl) ); (· first | (apply pv_ev; rfl) | (apply g_bi; first | fail ) | (apply g_build; apply pv_build; (· (repeat (first | apply Bld.nil | (apply Bld.one; rfl; rfl; (· (repeat (first | apply SetAt.here | apply SetAt.there)))) )))) )) | (apply wo_bsl; (· (repeat (first | apply Rws'.nil | (apply Rws'.one; rfl; rfl; rfl) | (apply Rws'.agg; rfl; rfl; rfl)))); rfl; rfl; rfl; rfl; intro bx) ))
    refine wo_app rfl rfl (by (repeat (first | apply sel_here | apply sel_there)); done) (by (repeat (first | apply sel_here )); done) (by unfold maxLen; omega) (by omega) rfl (fun ao2 c2 => ?_)
    (repeat (first | ((first | (apply wo_v; rfl) ); (· first | (apply pv_ev; rfl) | (apply g_bi; first | (apply pv_len_sl; rfl) ) )) | apply wo_nil | apply wc_seq | apply wc_region | (apply wc_true; rfl) | (apply wc_false; rfl) | (apply a_dec_t; rfl; (· first | assumption | omega)) ))
    refine wo_cut_lo (l := 1) rfl (by (repeat (first | apply sel_here )); done) rfl rfl (by omega) rfl (fun ao3 => ?_)
    refine wo_still (by (repeat (first | apply sel_here )); done) (fun R2 hS2 => ?_)
    rw [show List.drop 1 ([] ++ qrs Q ++ [[Value.int .u16 num, .string s, .int .i64 0, .int .i64 0]]) = qrs ((Q ++ [(num, s, 0, 0)]).drop 1) by simp [qrs, qrow]] at hS2
    (repeat (first | ((first | (apply wo_v; rfl) ); (· first | (apply pv_ev; rfl) )) | apply wo_nil | apply wc_ret ))
    exact retv rfl (by (repeat (first | apply RV.nil | (apply RV.tmp; rfl) )); done) (⟨ao3, _, _, rfl, rfl, hS2⟩) (by (repeat (first | apply sub_nil )); done) (by first | exact fun _ h => h | (intro r hr; cases hr; done) | (simp; done) | exact fun _ h => List.mem_append_left _ h | (intro r hr; simp [hr]; done))
  · rw [show putQ k Q (num, s, 0, 0) = Q ++ [(num, s, 0, 0)] by unfold putQ; exact if_neg h]
    refine fn_intro Try.func25 rfl Try.ntmps25 rfl (fun E => ?_)
    (repeat (first | ((first | (apply wo_v; rfl) ); (· first | (apply pv_ev; rfl) | (apply g_bi; first | fail ) )) | apply wo_nil | apply wc_seq | apply wc_region | (apply wo_bsl; (· (repeat (first | apply Rws'.nil ))); rfl; rfl; rfl; rfl; intro bx) ))
    refine wo_app_sr rfl rfl (by (repeat (first | apply sel_here )); done) hS (by unfold maxLen; omega) (by omega) rfl (fun ao1 c1 => ?_)
    (repeat (first | ((first | (apply wo_v; rfl) ); (· first | (apply pv_ev; rfl) | (apply g_bi; first | fail ) | (apply g_build; apply pv_build; (· (repeat (first | apply Bld.nil | (apply Bld.one; rfl; rfl; (· (repeat (first | apply SetAt.here | apply SetAt.there)))) )))) )) | (apply wo_bsl; (· (repeat (first | apply Rws'.nil | (apply Rws'.one; rfl; rfl; rfl) | (apply Rws'.agg; rfl; rfl; rfl)))); rfl; rfl; rfl; rfl; intro bx) ))
    refine wo_app rfl rfl (by (repeat (first | apply sel_here | apply sel_there)); done) (by (repeat (first | apply sel_here )); done) (by unfold maxLen; omega) (by omega) rfl (fun ao2 c2 => ?_)
    refine wo_still (by (repeat (first | apply sel_here )); done) (fun R2 hS2 => ?_)
    rw [show [] ++ qrs Q ++ [[Value.int .u16 num, .string s, .int .i64 0, .int .i64 0]] = qrs (Q ++ [(num, s, 0, 0)]) by simp [qrs, qrow]] at hS2
    (repeat (first | ((first | (apply wo_v; rfl) ); (· first | (apply pv_ev; rfl) | (apply g_bi; first | (apply pv_len_sl; rfl) ) )) | apply wo_nil | apply wc_seq | apply wc_region | apply wc_skip | apply wc_ret | (apply wc_true; rfl) | (apply wc_false; rfl) | (apply a_dec_t; rfl; (· first | assumption | omega)) | (apply a_dec_f; rfl; (· first | assumption | omega)) ))
    exact retv rfl (by (repeat (first | apply RV.nil | (apply RV.tmp; rfl) )); done) (⟨ao2, _, c2, rfl, rfl, hS2⟩) (by (repeat (first | apply sub_nil )); done) (by first | exact fun _ h => h | (intro r hr; cases hr; done) | (simp; done) | exact fun _ h => List.mem_append_left _ h | (intro r hr; simp [hr]; done))
set_option maxHeartbeats 8000000 in
theorem refAgain (ao : Option Addr) (n c : Nat) (Q : List Pk) (mt mg num now : Int) (R : List Ro) (hS : SR R 4 ao n c (qrs Q)) (hl : Q.length ≤ 1000) (hB : QB Q now) (hn0 : 0 ≤ now ∧ now ≤ 1000000) :
    Fn Try.prog 53 #[.slice ao n c, .int .i64 mt, .int .i64 mg, .int .u16 num, .int .i64 now] [] R
      (fun v L' R' => ∃ ao' n' c', v = .tuple #[.slice ao' n' c', .string (agM mt mg now num Q).2.1, .int .i64 (agM mt mg now num Q).2.2] ∧ L' = [] ∧ SR (R' ++ R) 4 ao' n' c' (qrs (agM mt mg now num Q).1)) := by
  have hn : n = Q.length := by rw [← hS.len]; simp
  rcases fnd_or num Q with ⟨h1, h2⟩ | ⟨j, p, h1, h2⟩
  · rw [show agM mt mg now num Q = (Q, ⟨#[]⟩, 12) by unfold agM; rw [h1]]
    refine fn_intro Try.func53 rfl Try.ntmps53 rfl (fun E => ?_)
    (repeat (first | ((first | (apply wo_v; rfl) ); (· first | (apply pv_ev; rfl) )) | apply wo_nil | apply wc_seq | apply wc_region ))
    (refine wo_call (refFind_no ao n c Q num R hS hl h2) rfl (by (repeat (first | apply sub_nil )); done) (by first | exact fun _ h => h | (intro r hr; cases hr; done) | (simp; done) | exact fun _ h => List.mem_append_left _ h | (intro r hr; simp [hr]; done)) rfl ?_; rintro v L' R' ⟨rfl, rfl, rfl⟩ H' hH RR hR; simp only [List.cons_append, List.nil_append] at hH hR; subst hH; have hR := hR.symm; subst hR)
    (repeat (first | ((first | (apply wo_v; rfl) ); (· first | (apply pv_ev; rfl) )) | apply wo_nil | apply wc_seq | apply wc_region | apply wc_ret | (apply wc_true; rfl) ))
    exact retv rfl (by (repeat (first | apply RV.nil | (apply RV.tmp; rfl) )); done) (⟨ao, n, c, rfl, rfl, hS.mono (fun _ h => List.mem_append_right _ h)⟩) (by (repeat (first | apply sub_nil )); done) (by first | exact fun _ h => h | (intro r hr; cases hr; done) | (simp; done) | exact fun _ h => List.mem_append_left _ h | (intro r hr; simp [hr]; done))
  · have hb := hB.b p (List.mem_of_getElem? h1.1)
    obtain ⟨b, o, rfl, hmem⟩ := hS.pos (by have := h1.lt; omega)
    have hr := qrs_at h1.1
    have hlt := h1.lt
    by_cases ht : mt ≤ p.2.2.1
    · rw [show agM mt mg now num Q = (Q, ⟨#[]⟩, 11) by unfold agM; rw [h2]; exact if_pos ht]
      refine fn_intro Try.func53 rfl Try.ntmps53 rfl (fun E => ?_)
      (repeat (first | ((first | (apply wo_v; rfl) ); (· first | (apply pv_ev; rfl) )) | apply wo_nil | apply wc_seq | apply wc_region ))
      (refine wo_call (refFind_hit _ n c Q num R hS hl j p h1) rfl (by (repeat (first | apply sub_nil )); done) (by first | exact fun _ h => h | (intro r hr; cases hr; done) | (simp; done) | exact fun _ h => List.mem_append_left _ h | (intro r hr; simp [hr]; done)) rfl ?_; rintro v L' R' ⟨rfl, rfl, rfl⟩ H' hH RR hR; simp only [List.cons_append, List.nil_append] at hH hR; subst hH; have hR := hR.symm; subst hR)
      (repeat (first | ((first | (apply wo_v; rfl) ); (· first | (apply pv_ev; rfl) | (apply pv_fld; rfl) | (apply g_load; first | (apply pv_ld; rfl; (· (repeat (first | apply sel_here ))); rfl) | (apply pv_lda; rfl; (· (repeat (first | fail ))); (· (repeat (first | fail )))) | (apply pv_ld_owna; rfl; (· (repeat (first | fail ))); (· assumption)) | (apply pv_ld_roa; rfl; (· (first | assumption )); (· assumption))) | (apply g_idx; first | (apply pv_idx; rfl; rfl; omega) ) )) | apply wo_nil | apply wc_seq | apply wc_region | apply wc_skip | apply wc_ret | (apply wc_true; rfl) | (apply wc_false; rfl) | (apply a_dec_t; rfl; (· first | assumption | omega)) | (apply wo_alloc; rfl; intro bx) | (apply wo_sta; rfl; rfl; rfl; rfl; (· (repeat (first | apply sel_here ))); (· (repeat (first | apply LayAt.nil | apply LayAt.here ))); rfl) ))
      exact retv rfl (by (repeat (first | apply RV.nil | (apply RV.tmp; rfl) )); done) (⟨_, n, c, rfl, rfl, hS.mono (fun _ h => List.mem_append_right _ h)⟩) (by (repeat (first | apply sub_nil )); done) (by first | exact fun _ h => h | (intro r hr; cases hr; done) | (simp; done) | exact fun _ h => List.mem_append_left _ h | (intro r hr; simp [hr]; done))
    · by_cases hg : 0 < p.2.2.1 ∧ now - p.2.2.2 < mg
      · rw [show agM mt mg now num Q = (Q, ⟨#[]⟩, 14) by unfold agM; rw [h2]; exact (if_neg ht).trans (if_pos hg)]
        obtain ⟨hg1, hg2⟩ := hg
        refine fn_intro Try.func53 rfl Try.ntmps53 rfl (fun E => ?_)
        (repeat (first | ((first | (apply wo_v; rfl) ); (· first | (apply pv_ev; rfl) )) | apply wo_nil | apply wc_seq | apply wc_region ))
        (refine wo_call (refFind_hit _ n c Q num R hS hl j p h1) rfl (by (repeat (first | apply sub_nil )); done) (by first | exact fun _ h => h | (intro r hr; cases hr; done) | (simp; done) | exact fun _ h => List.mem_append_left _ h | (intro r hr; simp [hr]; done)) rfl ?_; rintro v L' R' ⟨rfl, rfl, rfl⟩ H' hH RR hR; simp only [List.cons_append, List.nil_append] at hH hR; subst hH; have hR := hR.symm; subst hR)
        (repeat (first | ((first | (apply wo_v; rfl) ); (· first | (apply pv_ev; rfl) | (apply pv_fld; rfl) | (apply g_load; first | (apply pv_ld; rfl; (· (repeat (first | apply sel_here ))); rfl) | (apply pv_lda; rfl; (· (repeat (first | fail ))); (· (repeat (first | fail )))) | (apply pv_ld_owna; rfl; (· (repeat (first | fail ))); (· assumption)) | (apply pv_ld_roa; rfl; (· (first | assumption )); (· assumption))) | (apply g_pick; first | (apply pv_pick_t; rfl; rfl) ) | (apply g_bin; first | (apply a_sub; rfl; rfl; infer_instance; omega) ) | (apply g_idx; first | (apply pv_idx; rfl; rfl; omega) ) )) | apply wo_nil | apply wc_seq | apply wc_region | apply wc_skip | apply wc_ret | (apply wc_true; rfl) | (apply wc_false; rfl) | (apply a_dec_t; rfl; (· first | assumption | omega)) | (apply a_dec_f; rfl; (· first | assumption | omega)) | (apply wo_run; rfl; rfl) | (apply wo_skip; rfl; rfl; rfl; rfl) | (apply wo_skip_u; rfl; rfl; rfl) | (apply a_gt; rfl; rfl; (· first | assumption | omega)) | (apply wo_alloc; rfl; intro bx) | (apply wo_sta; rfl; rfl; rfl; rfl; (· (repeat (first | apply sel_here ))); (· (repeat (first | apply LayAt.nil | apply LayAt.here ))); rfl) ))
        exact retv rfl (by (repeat (first | apply RV.nil | (apply RV.tmp; rfl) )); done) (⟨_, n, c, rfl, rfl, hS.mono (fun _ h => List.mem_append_right _ h)⟩) (by (repeat (first | apply sub_nil )); done) (by first | exact fun _ h => h | (intro r hr; cases hr; done) | (simp; done) | exact fun _ h => List.mem_append_left _ h | (intro r hr; simp [hr]; done))
      · rw [show agM mt mg now num Q = (Q.set j (p.1, p.2.1, p.2.2.1 + 1, now), p.2.1, 0) by unfold agM; rw [h2]; exact (if_neg ht).trans (if_neg hg)]
        have hg2 : ¬ 0 < p.2.2.1 ∨ (0 < p.2.2.1 ∧ ¬ now - p.2.2.2 < mg) := by omega
        have hr2 : ([] ++ qrs Q)[j]? = some [.int .u16 p.1, .string p.2.1, .int .i64 p.2.2.1, .int .i64 p.2.2.2] := hr
        clear hg
        rcases hg2 with hg | ⟨hg, hg'⟩
        all_goals
          refine fn_intro Try.func53 rfl Try.ntmps53 rfl (fun E => ?_)
          (repeat (first | ((first | (apply wo_v; rfl) ); (· first | (apply pv_ev; rfl) )) | apply wo_nil | apply wc_seq | apply wc_region ))
          (refine wo_call (refFind_hit _ n c Q num R hS hl j p h1) rfl (by (repeat (first | apply sub_nil )); done) (by first | exact fun _ h => h | (intro r hr; cases hr; done) | (simp; done) | exact fun _ h => List.mem_append_left _ h | (intro r hr; simp [hr]; done)) rfl ?_; rintro v L' R' ⟨rfl, rfl, rfl⟩ H' hH RR hR; simp only [List.cons_append, List.nil_append] at hH hR; subst hH; have hR := hR.symm; subst hR)
          (repeat (first | ((first | (apply wo_v; rfl) ); (· first | (apply pv_ev; rfl) | (apply pv_fld; rfl) | (apply g_load; first | (apply pv_ld; rfl; (· (repeat (first | apply sel_here ))); rfl) | (apply pv_lda; rfl; (· (repeat (first | fail ))); (· (repeat (first | fail )))) | (apply pv_ld_owna; rfl; (· (repeat (first | fail ))); (· assumption)) | (apply pv_ld_roa; rfl; (· (first | assumption )); (· assumption))) | (apply g_pick; first | (apply pv_pick_t; rfl; rfl) | (apply pv_pick_f; rfl; rfl)) | (apply g_bin; first | (apply a_sub; rfl; rfl; infer_instance; omega) ) | (apply g_bi; first | fail ) | (apply g_idx; first | (apply pv_idx; rfl; rfl; omega) ) )) | apply wo_nil | apply wc_seq | apply wc_region | apply wc_skip | (apply wc_true; rfl) | (apply wc_false; rfl) | (apply a_dec_t; rfl; (· first | assumption | omega)) | (apply a_dec_f; rfl; (· first | assumption | omega)) | (apply wo_run; rfl; rfl) | (apply wo_skip; rfl; rfl; rfl; rfl) | (apply wo_skip_u; rfl; rfl; rfl) | (apply a_gt; rfl; rfl; (· first | assumption | omega)) | (apply a_gf; rfl; rfl; (· first | assumption | omega)) | (apply wo_alloc; rfl; intro bx) | (apply wo_bsl; (· (repeat (first | apply Rws'.nil ))); rfl; rfl; rfl; rfl; intro bx) | (apply wo_sta; rfl; rfl; rfl; rfl; (· (repeat (first | apply sel_here ))); (· (repeat (first | apply LayAt.nil | apply LayAt.here ))); rfl) ))
          refine wo_app_sr rfl rfl (by (repeat (first | apply sel_here )); done) hS (by unfold maxLen; omega) (by omega) rfl (fun ao1 c1 => ?_)
          refine wo_some (by (repeat (first | apply sel_here )); done) (by omega) (fun b2 o2 hao => ?_)
          subst hao
          (repeat (first | ((first | (apply wo_v; rfl) ); (· first | (apply pv_ev; rfl) | (apply pv_fld; rfl) | (apply g_load; first | (apply pv_ld; rfl; (· (repeat (first | apply sel_here | apply sel_there))); rfl) ) | (apply g_bin; first | (apply a_add; rfl; rfl; infer_instance; omega) ) | (apply g_idx; first | (apply pv_idx; rfl; rfl; omega) ) | (apply g_build; apply pv_build; (· (repeat (first | apply Bld.nil | (apply Bld.one; rfl; rfl; (· (repeat (first | apply SetAt.here | apply SetAt.there)))) )))) )) | apply wo_nil | apply wc_seq | apply wc_region | (apply wo_sta; rfl; rfl; rfl; rfl; (· (repeat (first | apply sel_there))); (· (repeat (first | fail ))); rfl) | (apply wo_st_owna; rfl; rfl; rfl; rfl; (· (repeat (first | apply sel_here ))); (· assumption); rfl) ))
          refine wc_still (by (repeat (first | apply sel_here )); done) (fun R2 hS2 => ?_)
          rw [show List.set (α := List Value) ([] ++ qrs Q) j [Value.int .u16 p.1, .string p.2.1, .int .i64 (p.2.2.1 + 1), .int .i64 now] = qrs (Q.set j (p.1, p.2.1, p.2.2.1 + 1, now)) by simp [qrs, List.map_set]; rfl] at hS2
          (refine wc_quiet mixed (by kernel_rfl) ?_; (repeat (first | ((first | (apply hd_v; rfl) ); (· first | (apply pv_ev; rfl) | (apply pv_fld; rfl) | (apply g_load; first | (apply pv_ld; rfl; (· (repeat (first | apply sel_here ))); rfl) ) )) | apply Hd.nil | apply wc_ret )))
          exact retv rfl (by (repeat (first | apply RV.nil | (apply RV.tmp; rfl) )); done) (⟨some ⟨b2, o2, none⟩, _, c1, rfl, rfl, hS2⟩) (by (repeat (first | apply sub_nil )); done) (by first | exact fun _ h => h | (intro r hr; cases hr; done) | (simp; done) | exact fun _ h => List.mem_append_left _ h | (intro r hr; simp [hr]; done))

/-- the packets of a list that are sent again -/
def alM (mt mg now : Int) (z : Nat → Int) (Q : List Pk) : Nat → List Pk × List ByteArray
  | 0 => (Q, [])
  | i + 1 => ((agM mt mg now (z i) (alM mt mg now z Q i).1).1, if (agM mt mg now (z i) (alM mt mg now z Q i).1).2.2 = 0 then (alM mt mg now z Q i).2 ++ [(agM mt mg now (z i) (alM mt mg now z Q i).1).2.1] else (alM mt mg now z Q i).2)
theorem alM_QB {mt mg now : Int} {z : Nat → Int} {Q : List Pk} (h : QB Q now) (hn : 0 ≤ now) (hm : mt ≤ 3) : ∀ i, QB (alM mt mg now z Q i).1 now
  | 0 => h
  | i + 1 => (alM_QB h hn hm i).ag hn hm mg (z i)
theorem alM_len (mt mg now : Int) (z : Nat → Int) (Q : List Pk) : ∀ i, (alM mt mg now z Q i).1.length = Q.length
  | 0 => rfl
  | i + 1 => by rw [alM, agM_len, alM_len mt mg now z Q i]
theorem alM_out (mt mg now : Int) (z : Nat → Int) (Q : List Pk) : ∀ i, (alM mt mg now z Q i).2.length ≤ i
  | 0 => by simp [alM]
  | i + 1 => by
    have := alM_out mt mg now z Q i
    rw [alM]
    split <;> simp <;> omega
abbrev strs (l : List ByteArray) : List (List Value) := l.map fun s => [.string s]
abbrev stO (ao : Option Addr) (c : Nat) (l : List ByteArray) : It := .own 9 1 ao l.length c (strs l)
end Go.Proofs.Ytnjicnadlhfocaa
