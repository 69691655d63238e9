/-
  OctetPuts: any numbers and bytes are written.
-/
import Derived.Test.YtbhegdlpmeeekaaOctBack
import Derived.Test.YtbhegdlpmeeekaaSpQ
namespace Go.Proofs.Ytbhegdlpmeeekaa
set_option linter.unusedSimpArgs false
set_option linter.unusedVariables false
open Go.RowKit
attribute [local irreducible] Pv WO WC Fn
set_option maxRecDepth 100000

theorem b1_mod (x : Int) : b1 (x % 256) = numS 1 x := by
  show b1 (x % 256) = E0 ++ b1 (x % 256)
  rw [E0_append]
theorem numS_mod2 (x : Int) : numS 2 (x % 65536) = numS 2 x := by
  simp only [numS]
  rw [show x % 65536 / 256 % 256 = x / 256 % 256 by omega, show x % 65536 % 256 = x % 256 by omega]
theorem numS_mod4 (x : Int) : numS 4 (x % 4294967296) = numS 4 x := by
  simp only [numS]
  rw [show x % 4294967296 / 256 / 256 / 256 % 256 = x / 256 / 256 / 256 % 256 by omega, show x % 4294967296 / 256 / 256 % 256 = x / 256 / 256 % 256 by omega, show x % 4294967296 / 256 % 256 = x / 256 % 256 by omega, show x % 4294967296 % 256 = x % 256 by omega]
theorem numsS_two (k : Nat) (x : Int) : numsS k [x, x] = numS k x ++ numS k x := by
  show numS k x ++ (numS k x ++ E0) = _
  rw [append_E0]
abbrev TblW := Nat → List (List It) → Value → List (List It) → Prop
abbrev wrR (g : Nat) (t : ByteArray) (v : Value) (Ms : List (List It)) : Prop := ∃ (p ao : Option Addr) (c : Nat), v = .pointer (some ⟨g, 0, none⟩) ∧ Ms = [wrH g p ao c t, []] ∧ WOk g p ao c t
abbrev tblP (g : Nat) (x : Int) (T1 T2 T3 T4 : ByteArray) : TblW := fun q Ls v Ms =>
  if q = 9 then ∃ b, v = .slice (some ⟨b, 0, none⟩) 2 2 ∧ Ms = [[uO b 2 [x, x]]]
  else if q = 10 then wrR g T1 v Ms
  else if q = 16 then ∃ b, v = .slice (some ⟨b, 0, none⟩) 1 1 ∧ Ms = [[byO b 1 (b1 (x % 256))]]
  else if q = 17 then wrR g T2 v Ms
  else if q = 23 then ∃ b, v = .slice (some ⟨b, 0, none⟩) 1 1 ∧ Ms = [[u16O b 1 [x % 65536]]]
  else if q = 24 then wrR g T3 v Ms
  else if q = 30 then ∃ b, v = .slice (some ⟨b, 0, none⟩) 1 1 ∧ Ms = [[u32O b 1 [x % 4294967296]]]
  else wrR g T4 v Ms
set_option maxHeartbeats 64000000 in
theorem octetPuts_fn (A : Option Addr) (m c : Nat) (z : Nat → Int) (n to0 : Int) (s0 : ByteArray) (R : List Ro) (hm : m ≤ 9223372036854775807) (hz : ∀ i, i < m → 0 ≤ z i ∧ z i ≤ 18446744073709551615) (hSeg : 0 < m → ∃ b o, A = some ⟨b, o, none⟩ ∧ ⟨b, o, 1, kseg .u64 z m⟩ ∈ R) :
    Fn Try.prog 12 #[.slice A m c, .int .i64 n, .string s0, .int .i64 to0] [] R (fun v _ _ => v = .bool true) := by
  have hcs := cutS_size s0 40
  have hC := octCut s0 40
  generalize cutS s0 40 = s at hcs hC
  obtain ⟨k, hk⟩ : ∃ k : Nat, min (max n 1) 8 = (k : Int) := ⟨(min (max n 1) 8).toNat, by omega⟩
  have hk1 : 1 ≤ k ∧ k ≤ 8 := by omega
  refine fn_intro Try.func12 rfl Try.ntmps12 rfl (fun E => ?_)
  (repeat (first | ((first | (apply wo_v; rfl) ); (· first | (apply pv_ev; rfl) )) | apply wo_nil | apply wc_seq | apply wc_region ))
  (refine wo_call (hC) rfl (by (repeat (first | apply sub_nil )); done) (by first | exact fun _ h => h | (intro r hr; cases hr; done) | (simp; done) | exact fun _ h => List.mem_append_left _ h | (intro r hr; simp [hr]; done)) rfl ?_; rintro v L' R' ⟨rfl, rfl, rfl⟩ H' hH RR hR; simp only [List.cons_append, List.nil_append] at hH hR; subst hH; have hR := hR.symm; subst hR)
  (repeat (first | ((first | (apply wo_v; rfl) ); (· first | (apply pv_ev; rfl) | (apply g_bi; first | (apply pv_min; rfl; rfl) ) )) | apply wo_nil | apply wc_seq | apply wc_region ))
  (refine wo_call (awake02) rfl (by (repeat (first | apply sub_nil )); done) (by first | exact fun _ h => h | (intro r hr; cases hr; done) | (simp; done) | exact fun _ h => List.mem_append_left _ h | (intro r hr; simp [hr]; done)) rfl ?_; rintro v L' R' ⟨rfl, rfl, rfl⟩ H' hH RR hR; simp only [List.cons_append, List.nil_append] at hH hR; subst hH; have hR := hR.symm; subst hR)
  (repeat (first | ((first | (apply wo_v; rfl) ); (· first | (apply pv_ev; rfl) | (apply g_un; first | (apply pv_not_t; rfl) ) )) | apply wo_nil | apply wc_seq | apply wc_region | apply wc_skip | (apply wc_true; rfl) | (apply wc_false; rfl) | (apply wo_alloc; rfl; intro bx) ))
  obtain ⟨to, hto⟩ : ∃ to, min to0 64 = to := ⟨_, rfl⟩
  rw [hto]
  have hto64 : to ≤ 64 := by omega
  clear hto
  obtain ⟨T, hT⟩ : ∃ T : Nat, max to 1 = (T : Int) := ⟨(max to 1).toNat, by omega⟩
  have hT1 : 1 ≤ T ∧ T ≤ 64 := by omega
  refine wc_own0 5 1 ?_
  refine wc_join0 (fun st => ∃ (t : ByteArray) (p ao : Option Addr) (c1 : Nat), st = ⟨[(2, .string s), (3, .int .i64 to), (9, .pointer (some ⟨bx, 0, none⟩)), (10, .string t)], wrH bx p ao c1 t, R⟩ ∧ WOk bx p ao c1 t ∧ t.size ≤ 230) ?_ ?_
  · obtain ⟨g, hg⟩ : ∃ g, g = bx := ⟨_, rfl⟩
    subst hg
    refine wc_block ?_
    refine wc_loop' (fun q st => ∃ (i : Nat) (t : ByteArray) (p ao : Option Addr) (c1 : Nat), q = 10 - i ∧ st = ⟨[(0, .slice A m c), (1, .int .i64 n), (2, .string s), (3, .int .i64 to), (9, .pointer (some ⟨g, 0, none⟩)), (10, .string t), (11, .int .i64 i)], wrH g p ao c1 t, R⟩ ∧ WOk g p ao c1 t ∧ t.size ≤ 23 * i ∧ i ≤ m ∧ i ≤ 10)
      ⟨0, E0, none, none, 0, rfl, rfl, ⟨.inl rfl, .inl ⟨rfl, rfl, rfl⟩⟩, Nat.zero_le _, Nat.zero_le _, Nat.zero_le _⟩ (wk_mk (by (repeat (first | apply wkf_nil | (apply wkf_cons; rfl))); done) (by (repeat (first | apply sub_nil | (apply sub_cons; (· (repeat (first | apply sel_here | apply sel_there)))))); done) (by first | exact fun _ h => h | (intro r hr; cases hr; done) | (simp; done) | exact fun _ h => List.mem_append_left _ h | (intro r hr; simp [hr]; done))) ?_
    rintro q st ⟨i, t, p, ao, c1, rfl, rfl, hw, hts, hi1, hi2⟩
    by_cases hlt : i < m ∧ i < 10
    · obtain ⟨h1, h2⟩ := hlt
      obtain ⟨b, o, rfl, hmem⟩ := hSeg (by omega)
      have hr := kseg_at (k := .u64) (z := z) h1
      have hx := hz i h1
      generalize z i = x at hr hx
      have zk := numS_size k x
      have z1 := numS_size 1 x
      have z2 := numS_size 2 x
      have z4 := numS_size 4 x
      have w10 := fun c bl c2 p ao hw => wNum g c bl c2 p ao t n k [x, x] hk (by intro y hy; simp at hy; subst hy; exact hx) (by simp) hw (by omega)
      rw [numsS_two] at w10
      have y1 : (t ++ (numS k x ++ numS k x)).size = t.size + 2 * k := by rw [ByteArray.size_append, ByteArray.size_append]; omega
      have w17 := fun c bl c2 p ao hw => wU8 g c bl c2 p ao (t ++ (numS k x ++ numS k x)) (b1 (x % 256)) hw (by rw [b1_size]; omega) (by rw [b1_size]; omega)
      rw [b1_size] at w17
      have y2 : (t ++ (numS k x ++ numS k x) ++ b1 (x % 256)).size = t.size + 2 * k + 1 := by rw [ByteArray.size_append, y1, b1_size]
      have w24 := fun c bl c2 p ao hw => wU16 g c bl c2 p ao (t ++ (numS k x ++ numS k x) ++ b1 (x % 256)) [x % 65536] (by intro y hy; simp at hy; omega) (by simp) hw (by omega)
      rw [numsS_one, numS_mod2] at w24
      have y3 : (t ++ (numS k x ++ numS k x) ++ b1 (x % 256) ++ numS 2 x).size = t.size + 2 * k + 1 + 2 := by rw [ByteArray.size_append, y2]; omega
      have w31 := fun c bl c2 p ao hw => wU32 g c bl c2 p ao (t ++ (numS k x ++ numS k x) ++ b1 (x % 256) ++ numS 2 x) [x % 4294967296] (by intro y hy; simp at hy; omega) (by simp) hw (by omega)
      rw [numsS_one, numS_mod4] at w31
      have n0 := rNum n x k hk hx
      have n1 := rNum 1 x 1 (by omega) hx
      have n2 := rNum 2 x 2 (by omega) hx
      have n4 := rNum 4 x 4 (by omega) hx
      have e4 : t ++ (numS k x ++ numS k x ++ numS 1 x ++ numS 2 x ++ numS 4 x) = t ++ (numS k x ++ numS k x) ++ b1 (x % 256) ++ numS 2 x ++ numS 4 x := by rw [b1_mod]; simp only [ByteArray.append_assoc]
      have v1 : (numS k x ++ numS k x).size = 2 * k := by rw [ByteArray.size_append]; omega
      have v2 : (numS k x ++ numS k x ++ numS 1 x).size = 2 * k + 1 := by rw [ByteArray.size_append]; omega
      have v3 : (numS k x ++ numS k x ++ numS 1 x ++ numS 2 x).size = 2 * k + 3 := by rw [ByteArray.size_append]; omega
      have v4 : (numS k x ++ numS k x ++ numS 1 x ++ numS 2 x ++ numS 4 x).size = 2 * k + 7 := by rw [ByteArray.size_append]; omega
      have y4 : (t ++ (numS k x ++ numS k x) ++ b1 (x % 256) ++ numS 2 x ++ numS 4 x).size = t.size + 2 * k + 1 + 2 + 4 := by rw [ByteArray.size_append, y3]; omega
      generalize t ++ (numS k x ++ numS k x) ++ b1 (x % 256) ++ numS 2 x ++ numS 4 x = T4 at w31 e4 y4
      generalize t ++ (numS k x ++ numS k x) ++ b1 (x % 256) ++ numS 2 x = T3 at w24 w31
      generalize t ++ (numS k x ++ numS k x) ++ b1 (x % 256) = T2 at w17 w24
      generalize t ++ (numS k x ++ numS k x) = T1 at w10 w17
      generalize numS k x = nk at *
      generalize numS 1 x = nk1 at *
      generalize numS 2 x = nk2 at *
      generalize numS 4 x = nk4 at *
      clear y1 y2 y3
      (repeat (first | ((first | (apply wo_v; rfl) ); (· first | (apply pv_ev; rfl) | (apply g_pick; first | (apply pv_pick_t; rfl; rfl) ) | (apply g_bi; first | (apply pv_len_sl; rfl) ) )) | apply wo_nil | apply wc_seq | apply wc_region | apply wc_skip | (apply wc_true; rfl) | (apply wc_false; rfl) | (apply a_dec_t; rfl; (· first | assumption | omega)) | (apply wo_run; rfl; rfl) | (apply wo_skip; rfl; rfl; rfl; rfl) | (apply wo_skip_u; rfl; rfl; rfl) | (apply a_gt; rfl; rfl; (· first | assumption | omega)) ))
      refine wc_block ?_
      (repeat (first | apply wc_seq ))
      refine wc_join0 (fun st => ∃ (p ao : Option Addr) (c1 : Nat), st = ⟨[(0, .slice (some ⟨b, o, none⟩) m c), (1, .int .i64 n), (2, .string s), (3, .int .i64 to), (9, .pointer (some ⟨g, 0, none⟩)), (10, .string t), (11, .int .i64 i)], wrH g p ao c1 T4, R⟩ ∧ WOk g p ao c1 T4) ?_ ?_
      · (refine wc_regM [0, 1, 2, 3, 4] (aslL [(9, [1]), (10, [0, 1]), (16, [2]), (17, [0, 2]), (23, [3]), (24, [0, 3]), (30, [4]), (31, [0, 4])]) (tblP g x T1 T2 T3 T4) ([]) (fm [(0, wrH g p ao c1 t), (1, []), (2, []), (3, []), (4, [])]) mixed (by kernel_rfl) (by kernel_rfl) (by decide) (aslL_ok (by decide)) (by (repeat (first | (apply prm_cons; (· (repeat (first | apply sel_here )))) | apply List.Perm.nil )); done) ?_; (repeat (first | (apply HdM.val; rfl; rfl; (· first | apply gok_none ); (· first | (apply pv_ev; rfl) | (apply g_load; first | (apply pv_ld; rfl; (· (repeat (first | fail ))); rfl) | (apply pv_ld_ownf; rfl; (· (repeat (first | fail ))); (· assumption); rfl) | (apply pv_ld_own1; rfl; (· (repeat (first | fail ))); (· assumption)) | (apply pv_ld_rof; rfl; (· (first | assumption )); (· assumption); rfl) | (apply pv_ld_ro1; rfl; (· (first | assumption )); (· assumption)) ) | (apply g_idx; first | (apply pv_idx; rfl; rfl; omega) ) )) )))
        (refine hm_eff (cs := [1]) rfl (by decide) rfl rfl (by first | exact gok_none | exact gok_run rfl rfl) (fun a ha => outc_mono (outc_bsl (by (repeat (first | apply Rws'.nil | (apply Rws'.one; rfl; rfl; rfl) )); done) rfl rfl rfl a ha) (fun v M h => Exists.elim h fun b h => ⟨[M], Exists.intro b (And.intro h.1 (congrArg (fun x => [x]) h.2)), rfl, by simp⟩)) (⟨_, _, Exists.intro 0 (And.intro rfl rfl), rfl⟩) ?_; rintro v Ms ⟨b9, rfl, rfl⟩ _; simp only [setls, setl, reduceIte, Nat.reduceEqDiff]; (repeat (first | (apply HdM.val; rfl; rfl; (· first | fail ); (· first | fail )) )))
        (refine hm_eff (cs := [0, 1]) rfl (by decide) rfl rfl (by first | exact gok_none | exact gok_run rfl rfl) (fun a ha => outc_mono (outc_call (F1 := _) (T := fun v M => ∃ (p ao : Option Addr) (c : Nat), v = .pointer (some ⟨g, 0, none⟩) ∧ M = wrH g p ao c T1 ∧ WOk g p ao c T1) (w10 c1 b9 2 p ao hw) rfl (by (repeat (first | apply sub_nil )); done) (by first | exact fun _ h => h | (intro r hr; cases hr; done) | (simp; done) | exact fun _ h => List.mem_append_left _ h | (intro r hr; simp [hr]; done)) (by rintro v L' R' ⟨p', ao', c', rfl, rfl, _, hw'⟩; exact ⟨_, ⟨p', ao', c', rfl, rfl, hw'⟩, (by (repeat (first | (apply prm_cons; (· (repeat (first | apply sel_here )))) | apply List.Perm.nil )); done)⟩) a ha) (fun v M h => Exists.elim h fun p h => Exists.elim h fun ao h => Exists.elim h fun c h => ⟨[M, []], Exists.intro p (Exists.intro ao (Exists.intro c (And.intro h.1 (And.intro (congrArg (fun x => [x, []]) h.2.1) h.2.2)))), rfl, by simp⟩)) ((by obtain ⟨p, ao, c, h⟩ := WOk.ex g T1; exact ⟨_, _, Exists.intro p (Exists.intro ao (Exists.intro c (And.intro rfl (And.intro rfl h)))), rfl⟩)) ?_; rintro v Ms ⟨p1, ao1, c11, rfl, rfl, hw1⟩ _; simp only [setls, setl, reduceIte, Nat.reduceEqDiff]; (repeat (first | (apply HdM.val; rfl; rfl; (· first | apply gok_none ); (· first | (apply pv_ev; rfl) | (apply g_load; first | (apply pv_ld; rfl; (· (repeat (first | fail ))); rfl) | (apply pv_ld_ownf; rfl; (· (repeat (first | fail ))); (· assumption); rfl) | (apply pv_ld_own1; rfl; (· (repeat (first | fail ))); (· assumption)) | (apply pv_ld_rof; rfl; (· (first | assumption )); (· assumption); rfl) | (apply pv_ld_ro1; rfl; (· (first | assumption )); (· assumption)) ) | (apply g_conv; first | (apply a_conv; rfl; infer_instance; infer_instance; infer_instance; omega) | (apply a_conv_u; rfl; infer_instance; infer_instance; infer_instance) ) | (apply g_idx; first | (apply pv_idx; rfl; rfl; omega) ) )) )))
        (refine hm_eff (cs := [2]) rfl (by decide) rfl rfl (by first | exact gok_none | exact gok_run rfl rfl) (fun a ha => outc_mono (outc_bsl (by (repeat (first | apply Rws'.nil | (apply Rws'.one; rfl; rfl; rfl) )); done) rfl rfl rfl a ha) (fun v M h => Exists.elim h fun b h => ⟨[M], Exists.intro b (And.intro h.1 (congrArg (fun x => [x]) (h.2.trans (by show _ = [byO b 1 (b1 (x % 256))]; unfold byO; rw [← brows_one (by omega)]; rfl)))), rfl, by simp⟩)) (⟨_, _, Exists.intro 0 (And.intro rfl rfl), rfl⟩) ?_; rintro v Ms ⟨b16, rfl, rfl⟩ _; simp only [setls, setl, reduceIte, Nat.reduceEqDiff]; (repeat (first | (apply HdM.val; rfl; rfl; (· first | fail ); (· first | fail )) )))
        (refine hm_eff (cs := [0, 2]) rfl (by decide) rfl rfl (by first | exact gok_none | exact gok_run rfl rfl) (fun a ha => outc_mono (outc_call (F1 := _) (T := fun v M => ∃ (p ao : Option Addr) (c : Nat), v = .pointer (some ⟨g, 0, none⟩) ∧ M = wrH g p ao c T2 ∧ WOk g p ao c T2) (w17 c11 b16 1 p1 ao1 hw1) rfl (by (repeat (first | apply sub_nil )); done) (by first | exact fun _ h => h | (intro r hr; cases hr; done) | (simp; done) | exact fun _ h => List.mem_append_left _ h | (intro r hr; simp [hr]; done)) (by rintro v L' R' ⟨p', ao', c', rfl, rfl, _, hw'⟩; exact ⟨_, ⟨p', ao', c', rfl, rfl, hw'⟩, (by (repeat (first | (apply prm_cons; (· (repeat (first | apply sel_here )))) | apply List.Perm.nil )); done)⟩) a ha) (fun v M h => Exists.elim h fun p h => Exists.elim h fun ao h => Exists.elim h fun c h => ⟨[M, []], Exists.intro p (Exists.intro ao (Exists.intro c (And.intro h.1 (And.intro (congrArg (fun x => [x, []]) h.2.1) h.2.2)))), rfl, by simp⟩)) ((by obtain ⟨p, ao, c, h⟩ := WOk.ex g T2; exact ⟨_, _, Exists.intro p (Exists.intro ao (Exists.intro c (And.intro rfl (And.intro rfl h)))), rfl⟩)) ?_; rintro v Ms ⟨p2, ao2, c12, rfl, rfl, hw2⟩ _; simp only [setls, setl, reduceIte, Nat.reduceEqDiff]; (repeat (first | (apply HdM.val; rfl; rfl; (· first | apply gok_none ); (· first | (apply pv_ev; rfl) | (apply g_load; first | (apply pv_ld; rfl; (· (repeat (first | fail ))); rfl) | (apply pv_ld_ownf; rfl; (· (repeat (first | fail ))); (· assumption); rfl) | (apply pv_ld_own1; rfl; (· (repeat (first | fail ))); (· assumption)) | (apply pv_ld_rof; rfl; (· (first | assumption )); (· assumption); rfl) | (apply pv_ld_ro1; rfl; (· (first | assumption )); (· assumption)) ) | (apply g_conv; first | (apply a_conv; rfl; infer_instance; infer_instance; infer_instance; omega) | (apply a_conv_u; rfl; infer_instance; infer_instance; infer_instance) ) | (apply g_idx; first | (apply pv_idx; rfl; rfl; omega) ) )) )))
        (refine hm_eff (cs := [3]) rfl (by decide) rfl rfl (by first | exact gok_none | exact gok_run rfl rfl) (fun a ha => outc_mono (outc_bsl (by (repeat (first | apply Rws'.nil | (apply Rws'.one; rfl; rfl; rfl) )); done) rfl rfl rfl a ha) (fun v M h => Exists.elim h fun b h => ⟨[M], Exists.intro b (And.intro h.1 (congrArg (fun x => [x]) h.2)), rfl, by simp⟩)) (⟨_, _, Exists.intro 0 (And.intro rfl rfl), rfl⟩) ?_; rintro v Ms ⟨b23, rfl, rfl⟩ _; simp only [setls, setl, reduceIte, Nat.reduceEqDiff]; (repeat (first | (apply HdM.val; rfl; rfl; (· first | fail ); (· first | fail )) )))
        (refine hm_eff (cs := [0, 3]) rfl (by decide) rfl rfl (by first | exact gok_none | exact gok_run rfl rfl) (fun a ha => outc_mono (outc_call (F1 := _) (T := fun v M => ∃ (p ao : Option Addr) (c : Nat), v = .pointer (some ⟨g, 0, none⟩) ∧ M = wrH g p ao c T3 ∧ WOk g p ao c T3) (w24 c12 b23 1 p2 ao2 hw2) rfl (by (repeat (first | apply sub_nil )); done) (by first | exact fun _ h => h | (intro r hr; cases hr; done) | (simp; done) | exact fun _ h => List.mem_append_left _ h | (intro r hr; simp [hr]; done)) (by rintro v L' R' ⟨p', ao', c', rfl, rfl, _, hw'⟩; exact ⟨_, ⟨p', ao', c', rfl, rfl, hw'⟩, (by (repeat (first | (apply prm_cons; (· (repeat (first | apply sel_here )))) | apply List.Perm.nil )); done)⟩) a ha) (fun v M h => Exists.elim h fun p h => Exists.elim h fun ao h => Exists.elim h fun c h => ⟨[M, []], Exists.intro p (Exists.intro ao (Exists.intro c (And.intro h.1 (And.intro (congrArg (fun x => [x, []]) h.2.1) h.2.2)))), rfl, by simp⟩)) ((by obtain ⟨p, ao, c, h⟩ := WOk.ex g T3; exact ⟨_, _, Exists.intro p (Exists.intro ao (Exists.intro c (And.intro rfl (And.intro rfl h)))), rfl⟩)) ?_; rintro v Ms ⟨p3, ao3, c13, rfl, rfl, hw3⟩ _; simp only [setls, setl, reduceIte, Nat.reduceEqDiff]; (repeat (first | (apply HdM.val; rfl; rfl; (· first | apply gok_none ); (· first | (apply pv_ev; rfl) | (apply g_load; first | (apply pv_ld; rfl; (· (repeat (first | fail ))); rfl) | (apply pv_ld_ownf; rfl; (· (repeat (first | fail ))); (· assumption); rfl) | (apply pv_ld_own1; rfl; (· (repeat (first | fail ))); (· assumption)) | (apply pv_ld_rof; rfl; (· (first | assumption )); (· assumption); rfl) | (apply pv_ld_ro1; rfl; (· (first | assumption )); (· assumption)) ) | (apply g_conv; first | (apply a_conv; rfl; infer_instance; infer_instance; infer_instance; omega) | (apply a_conv_u; rfl; infer_instance; infer_instance; infer_instance) ) | (apply g_idx; first | (apply pv_idx; rfl; rfl; omega) ) )) )))
        (refine hm_eff (cs := [4]) rfl (by decide) rfl rfl (by first | exact gok_none | exact gok_run rfl rfl) (fun a ha => outc_mono (outc_bsl (by (repeat (first | apply Rws'.nil | (apply Rws'.one; rfl; rfl; rfl) )); done) rfl rfl rfl a ha) (fun v M h => Exists.elim h fun b h => ⟨[M], Exists.intro b (And.intro h.1 (congrArg (fun x => [x]) h.2)), rfl, by simp⟩)) (⟨_, _, Exists.intro 0 (And.intro rfl rfl), rfl⟩) ?_; rintro v Ms ⟨b30, rfl, rfl⟩ _; simp only [setls, setl, reduceIte, Nat.reduceEqDiff]; (repeat (first | (apply HdM.val; rfl; rfl; (· first | fail ); (· first | fail )) )))
        (refine hm_eff (cs := [0, 4]) rfl (by decide) rfl rfl (by first | exact gok_none | exact gok_run rfl rfl) (fun a ha => outc_mono (outc_call (F1 := _) (T := fun v M => ∃ (p ao : Option Addr) (c : Nat), v = .pointer (some ⟨g, 0, none⟩) ∧ M = wrH g p ao c T4 ∧ WOk g p ao c T4) (w31 c13 b30 1 p3 ao3 hw3) rfl (by (repeat (first | apply sub_nil )); done) (by first | exact fun _ h => h | (intro r hr; cases hr; done) | (simp; done) | exact fun _ h => List.mem_append_left _ h | (intro r hr; simp [hr]; done)) (by rintro v L' R' ⟨p', ao', c', rfl, rfl, _, hw'⟩; exact ⟨_, ⟨p', ao', c', rfl, rfl, hw'⟩, (by (repeat (first | (apply prm_cons; (· (repeat (first | apply sel_here )))) | apply List.Perm.nil )); done)⟩) a ha) (fun v M h => Exists.elim h fun p h => Exists.elim h fun ao h => Exists.elim h fun c h => ⟨[M, []], Exists.intro p (Exists.intro ao (Exists.intro c (And.intro h.1 (And.intro (congrArg (fun x => [x, []]) h.2.1) h.2.2)))), rfl, by simp⟩)) ((by obtain ⟨p, ao, c, h⟩ := WOk.ex g T4; exact ⟨_, _, Exists.intro p (Exists.intro ao (Exists.intro c (And.intro rfl (And.intro rfl h)))), rfl⟩)) ?_; rintro v Ms ⟨p4, ao4, c14, rfl, rfl, hw4⟩ _; simp only [setls, setl, reduceIte, Nat.reduceEqDiff]; (repeat (first | fail )))
        (refine HdM.nil ?_; intro H hH; simp only [Hp, fm, look, setl, List.flatMap_cons, List.flatMap_nil, reduceIte, Nat.reduceEqDiff, Option.getD_some, List.append_nil, List.cons_append, List.nil_append] at hH; subst hH)
        exact cut_end ⟨p4, ao4, c14, rfl, hw4⟩ (wk_mk (by (repeat (first | apply wkf_nil | (apply wkf_cons; rfl))); done) (by (repeat (first | apply sub_nil )); done) (by first | exact fun _ h => h | (intro r hr; cases hr; done) | (simp; done) | exact fun _ h => List.mem_append_left _ h | (intro r hr; simp [hr]; done)))
      rintro st ⟨p', ao', c', rfl, hw'⟩
      (refine wc_quiet mixed (by kernel_rfl) ?_; (repeat (first | ((first | (apply hd_v; rfl) ); (· first | (apply pv_ev; rfl) | (apply g_load; first | (apply pv_ld; rfl; (· (repeat (first | apply sel_there))); rfl) | (apply pv_ld_ownf; rfl; (· (repeat (first | fail ))); (· assumption); rfl) | (apply pv_ld_own1; rfl; (· (repeat (first | apply sel_there))); (· assumption)) | (apply pv_ld_rof; rfl; (· (first | assumption )); (· assumption); rfl) | (apply pv_ld_ro1; rfl; (· (first | assumption )); (· assumption)) ) | (apply g_idx; first | (apply pv_idx; rfl; rfl; omega) ) )) )))
      (refine Hd.call rfl inferInstance (Fn.mono (n0) (fun _ _ _ h => ⟨h.1, h.2.1⟩)) rfl (by (repeat (first | apply sub_nil )); done) (by first | exact fun _ h => h | (intro r hr; cases hr; done) | (simp; done) | exact fun _ h => List.mem_append_left _ h | (intro r hr; simp [hr]; done)) rfl ?_; (repeat (first | ((first | (apply hd_v; rfl) ); (· first | (apply pv_ev; rfl) | (apply g_load; first | (apply pv_ld; rfl; (· (repeat (first | apply sel_there))); rfl) | (apply pv_ld_ownf; rfl; (· (repeat (first | fail ))); (· assumption); rfl) | (apply pv_ld_own1; rfl; (· (repeat (first | apply sel_there))); (· assumption)) | (apply pv_ld_rof; rfl; (· (first | assumption )); (· assumption); rfl) | (apply pv_ld_ro1; rfl; (· (first | assumption )); (· assumption)) ) | (apply g_idx; first | (apply pv_idx; rfl; rfl; omega) ) )) )))
      (refine Hd.call rfl inferInstance (Fn.mono (n0) (fun _ _ _ h => ⟨h.1, h.2.1⟩)) rfl (by (repeat (first | apply sub_nil )); done) (by first | exact fun _ h => h | (intro r hr; cases hr; done) | (simp; done) | exact fun _ h => List.mem_append_left _ h | (intro r hr; simp [hr]; done)) rfl ?_; (repeat (first | ((first | (apply hd_v; rfl) ); (· first | (apply pv_ev; rfl) | (apply g_load; first | (apply pv_ld; rfl; (· (repeat (first | apply sel_there))); rfl) | (apply pv_ld_ownf; rfl; (· (repeat (first | fail ))); (· assumption); rfl) | (apply pv_ld_own1; rfl; (· (repeat (first | apply sel_there))); (· assumption)) | (apply pv_ld_rof; rfl; (· (first | assumption )); (· assumption); rfl) | (apply pv_ld_ro1; rfl; (· (first | assumption )); (· assumption)) ) | (apply g_bin; first | (apply a_add; rfl; rfl; infer_instance; omega) | (apply pv_add_s; rfl; rfl; omega) ) | (apply g_idx; first | (apply pv_idx; rfl; rfl; omega) ) )) )))
      (refine Hd.call rfl inferInstance (Fn.mono (n1) (fun _ _ _ h => ⟨h.1, h.2.1⟩)) rfl (by (repeat (first | apply sub_nil )); done) (by first | exact fun _ h => h | (intro r hr; cases hr; done) | (simp; done) | exact fun _ h => List.mem_append_left _ h | (intro r hr; simp [hr]; done)) rfl ?_; (repeat (first | ((first | (apply hd_v; rfl) ); (· first | (apply pv_ev; rfl) | (apply g_load; first | (apply pv_ld; rfl; (· (repeat (first | apply sel_there))); rfl) | (apply pv_ld_ownf; rfl; (· (repeat (first | fail ))); (· assumption); rfl) | (apply pv_ld_own1; rfl; (· (repeat (first | apply sel_there))); (· assumption)) | (apply pv_ld_rof; rfl; (· (first | assumption )); (· assumption); rfl) | (apply pv_ld_ro1; rfl; (· (first | assumption )); (· assumption)) ) | (apply g_bin; first | (apply a_add; rfl; rfl; infer_instance; omega) | (apply pv_add_s; rfl; rfl; omega) ) | (apply g_idx; first | (apply pv_idx; rfl; rfl; omega) ) )) )))
      (refine Hd.call rfl inferInstance (Fn.mono (n2) (fun _ _ _ h => ⟨h.1, h.2.1⟩)) rfl (by (repeat (first | apply sub_nil )); done) (by first | exact fun _ h => h | (intro r hr; cases hr; done) | (simp; done) | exact fun _ h => List.mem_append_left _ h | (intro r hr; simp [hr]; done)) rfl ?_; (repeat (first | ((first | (apply hd_v; rfl) ); (· first | (apply pv_ev; rfl) | (apply g_load; first | (apply pv_ld; rfl; (· (repeat (first | apply sel_there))); rfl) | (apply pv_ld_ownf; rfl; (· (repeat (first | fail ))); (· assumption); rfl) | (apply pv_ld_own1; rfl; (· (repeat (first | apply sel_there))); (· assumption)) | (apply pv_ld_rof; rfl; (· (first | assumption )); (· assumption); rfl) | (apply pv_ld_ro1; rfl; (· (first | assumption )); (· assumption)) ) | (apply g_bin; first | (apply a_add; rfl; rfl; infer_instance; omega) | (apply pv_add_s; rfl; rfl; omega) ) | (apply g_idx; first | (apply pv_idx; rfl; rfl; omega) ) )) )))
      (refine Hd.call rfl inferInstance (Fn.mono (n4) (fun _ _ _ h => ⟨h.1, h.2.1⟩)) rfl (by (repeat (first | apply sub_nil )); done) (by first | exact fun _ h => h | (intro r hr; cases hr; done) | (simp; done) | exact fun _ h => List.mem_append_left _ h | (intro r hr; simp [hr]; done)) rfl ?_; (repeat (first | ((first | (apply wo_v; rfl) | (apply hd_v; rfl) ); (· first | (apply pv_ev; rfl) | (apply g_bin; first | (apply a_add; rfl; rfl; infer_instance; omega) | (apply pv_add_s; rfl; rfl; omega) ) )) | apply wo_nil | apply Hd.nil | apply wc_region )))
      rw [e4]
      exact loop_end ⟨i + 1, T4, p', ao', c', rfl, rfl, hw', by omega, by omega, by omega⟩ (by omega) (wk_mk (by (repeat (first | apply wkf_nil | (apply wkf_cons; rfl))); done) (by (repeat (first | apply sub_nil )); done) (by first | exact fun _ h => h | (intro r hr; cases hr; done) | (simp; done) | exact fun _ h => List.mem_append_left _ h | (intro r hr; simp [hr]; done)))
    · have hex2 : ¬ (i < m) ∨ (i < m ∧ ¬ i < 10) := by omega
      rcases hex2 with h | ⟨h, h'⟩
      all_goals
        (repeat (first | ((first | (apply wo_v; rfl) ); (· first | (apply pv_ev; rfl) | (apply g_pick; first | (apply pv_pick_t; rfl; rfl) | (apply pv_pick_f; rfl; rfl)) | (apply g_bi; first | (apply pv_len_sl; rfl) ) )) | apply wo_nil | apply wc_seq | apply wc_region | (apply wc_exit; rfl) | (apply wc_true; rfl) | (apply wc_false; rfl) | (apply a_dec_t; rfl; (· first | assumption | omega)) | (apply a_dec_f; rfl; (· first | assumption | omega)) | (apply wo_run; rfl; rfl) | (apply wo_skip; rfl; rfl; rfl; rfl) | (apply wo_skip_u; rfl; rfl; rfl) | (apply a_gt; rfl; rfl; (· first | assumption | omega)) | (apply a_gf; rfl; rfl; (· first | assumption | omega)) ))
        exact cut_end ⟨t, p, ao, c1, rfl, hw, by omega⟩ (wk_mk (by (repeat (first | apply wkf_nil | (apply wkf_cons; rfl))); done) (by (repeat (first | apply sub_nil )); done) (by first | exact fun _ h => h | (intro r hr; cases hr; done) | (simp; done) | exact fun _ h => List.mem_append_left _ h | (intro r hr; simp [hr]; done)))
  rintro st ⟨t, p, ao, c1, rfl, hw, hts⟩
  obtain ⟨g, hg⟩ : ∃ g, g = bx := ⟨_, rfl⟩
  subst hg
  have hcat : catS [s, s] = s ++ s := by show s ++ (s ++ E0) = _; rw [append_E0]
  have wp := fun bl c2 => wPut g c1 bl c2 p ao t [s, s] (by intro y hy; simp at hy; subst hy; omega) (by simp) hw (by omega)
  rw [hcat] at wp
  have hss : (s ++ s).size = s.size + s.size := ByteArray.size_append ..
  have htss : (t ++ (s ++ s)).size = t.size + (s.size + s.size) := by rw [ByteArray.size_append, hss]
  obtain ⟨u, hu⟩ : ∃ u, t ++ (s ++ s) = u := ⟨_, rfl⟩
  rw [hu] at wp htss
  have wq := fun c p ao hw => wPad g c p ao u to T hT (by omega) hw (by omega)
  have hpl := padJ_lt u.size hT1.1
  have hpe := padJ_eq u.size hT1.1
  have hpn := fun j h => padJ_ne (n := u.size) (j := j) hT1.1 h
  generalize padJ u.size T = J at wq hpl hpe hpn
  (repeat (first | ((first | (apply wo_v; rfl) ); (· first | (apply pv_ev; rfl) )) | apply wc_seq | apply wc_region | (apply wo_bsl; (· (repeat (first | apply Rws'.nil | (apply Rws'.one; rfl; rfl; rfl) ))); rfl; rfl; rfl; rfl; intro bx) ))
  (refine wo_call (wp bx _) rfl (by (repeat (first | apply sub_nil | (apply sub_cons; (· (repeat (first | apply sel_here | apply sel_there)))))); done) (by first | exact fun _ h => h | (intro r hr; cases hr; done) | (simp; done) | exact fun _ h => List.mem_append_left _ h | (intro r hr; simp [hr]; done)) rfl ?_; rintro v L' R' ⟨p1, ao1, c11, rfl, rfl, rfl, hw1⟩ H' hH RR hR; simp only [List.cons_append, List.nil_append] at hH hR; subst hH; have hR := hR.symm; subst hR)
  (repeat (first | ((first | (apply wo_v; rfl) ); (· first | (apply pv_ev; rfl) )) ))
  (refine wo_call (wq c11 p1 ao1 hw1) rfl (by (repeat (first | apply sub_nil )); done) (by first | exact fun _ h => h | (intro r hr; cases hr; done) | (simp; done) | exact fun _ h => List.mem_append_left _ h | (intro r hr; simp [hr]; done)) rfl ?_; rintro v L' R' ⟨p2, ao2, c12, rfl, rfl, rfl, hw2⟩ H' hH RR hR; simp only [List.cons_append, List.nil_append] at hH hR; subst hH; have hR := hR.symm; subst hR)
  (repeat (first | ((first | (apply wo_v; rfl) ); (· first | (apply pv_ev; rfl) | (apply g_bin; first | (apply a_add; rfl; rfl; infer_instance; omega) | (apply pv_add_s; rfl; rfl; omega) ) )) | apply wo_nil | apply wc_seq | apply wc_region ))
  rw [hu]
  refine wc_join0 (fun st => st = ⟨[(9, .pointer (some ⟨g, 0, none⟩)), (10, .string (u ++ zb J))], wrH g p2 ao2 c12 (u ++ zb J), R⟩) ?_ ?_
  · refine wc_block ?_
    refine wc_loop' (fun q st => ∃ (j : Nat), q = J - j ∧ j ≤ J ∧ st = ⟨[(3, .int .i64 to), (9, .pointer (some ⟨g, 0, none⟩)), (10, .string (u ++ zb j))], wrH g p2 ao2 c12 (u ++ zb J), R⟩)
      ⟨0, rfl, Nat.zero_le _, by rw [show zb 0 = E0 from rfl, append_E0]⟩ (wk_mk (by (repeat (first | apply wkf_nil | (apply wkf_cons; rfl))); done) (by (repeat (first | apply sub_nil )); done) (by first | exact fun _ h => h | (intro r hr; cases hr; done) | (simp; done) | exact fun _ h => List.mem_append_left _ h | (intro r hr; simp [hr]; done))) ?_
    rintro q st ⟨j, rfl, hj, rfl⟩
    have hzj : (u ++ zb j).size = u.size + j := by rw [ByteArray.size_append, zb_size]
    by_cases hlt : j < J
    · have hne : ((u ++ zb j).size : Int) % max to 1 ≠ 0 := by
        rw [hzj, hT]
        have := hpn j hlt
        omega
      have hz2 : ByteArray.size ⟨#[0]⟩ = 1 := rfl
      (repeat (first | ((first | (apply wo_v; rfl) ); (· first | (apply pv_ev; rfl) | (apply g_bin; first | (apply pv_rem; rfl; rfl; omega) ) | (apply g_bi; first | (apply pv_len_str; rfl) | (apply pv_max; rfl; rfl)) )) | apply wo_nil | apply wc_seq | apply wc_region | apply wc_skip | (apply wc_true; rfl) | (apply wc_false; rfl) | (apply a_dec_t; rfl; (· first | assumption | omega)) ))
      refine wc_block ?_
      (repeat (first | ((first | (apply wo_v; rfl) ); (· first | (apply pv_ev; rfl) | (apply g_bin; first | (apply a_add; rfl; rfl; infer_instance; omega) | (apply pv_add_s; rfl; rfl; omega) ) )) | apply wo_nil | apply wc_region ))
      exact loop_end ⟨j + 1, rfl, by omega, by rw [show u ++ zb (j + 1) = u ++ zb j ++ ⟨#[0]⟩ from ByteArray.append_assoc.symm]⟩ (by omega) (wk_mk (by (repeat (first | apply wkf_nil | (apply wkf_cons; rfl))); done) (by (repeat (first | apply sub_nil )); done) (by first | exact fun _ h => h | (intro r hr; cases hr; done) | (simp; done) | exact fun _ h => List.mem_append_left _ h | (intro r hr; simp [hr]; done)))
    · have e : j = J := by omega
      subst e
      have hne : ¬ ((u ++ zb j).size : Int) % max to 1 ≠ 0 := by
        rw [hzj, hT]
        omega
      (repeat (first | ((first | (apply wo_v; rfl) ); (· first | (apply pv_ev; rfl) | (apply g_bin; first | (apply pv_rem; rfl; rfl; omega) ) | (apply g_bi; first | (apply pv_len_str; rfl) | (apply pv_max; rfl; rfl)) )) | apply wo_nil | apply wc_seq | apply wc_region | (apply wc_exit; rfl) | (apply wc_true; rfl) | (apply wc_false; rfl) | (apply a_dec_t; rfl; (· first | assumption | omega)) | (apply a_dec_f; rfl; (· first | assumption | omega)) ))
      exact cut_end rfl (wk_mk (by (repeat (first | apply wkf_nil | (apply wkf_cons; rfl))); done) (by (repeat (first | apply sub_nil )); done) (by first | exact fun _ h => h | (intro r hr; cases hr; done) | (simp; done) | exact fun _ h => List.mem_append_left _ h | (intro r hr; simp [hr]; done)))
  rintro st rfl
  generalize u ++ zb J = w at hw2
  (repeat (first | ((first | (apply wo_v; rfl) ); (· first | (apply pv_ev; rfl) )) | apply wc_seq | apply wc_region ))
  (refine wo_call (wText g c12 p2 ao2 w hw2) rfl (by (repeat (first | apply sub_nil )); done) (by first | exact fun _ h => h | (intro r hr; cases hr; done) | (simp; done) | exact fun _ h => List.mem_append_left _ h | (intro r hr; simp [hr]; done)) rfl ?_; rintro v L' R' ⟨rfl, rfl, rfl⟩ H' hH RR hR; simp only [List.cons_append, List.nil_append] at hH hR; subst hH; have hR := hR.symm; subst hR)
  (repeat (first | ((first | (apply wo_v; rfl) ); (· first | (apply pv_ev; rfl) | (apply g_bin; first | (apply pv_eql_s; rfl; rfl) ) )) | (apply wo_run; rfl; rfl) | (apply wo_skip; rfl; rfl; rfl; rfl) | (apply wo_skip_u; rfl; rfl; rfl) | (apply a_gt; rfl; rfl; (· first | assumption | omega)) | (apply a_gf; rfl; rfl; (· first | assumption | omega)) | (apply a_gt; rfl; rfl; (· first | (simp; done) | (simp; omega))) ))
  (refine wo_call (wLen g c12 p2 ao2 w.size) rfl (by (repeat (first | apply sub_nil )); done) (by first | exact fun _ h => h | (intro r hr; cases hr; done) | (simp; done) | exact fun _ h => List.mem_append_left _ h | (intro r hr; simp [hr]; done)) rfl ?_; rintro v L' R' ⟨rfl, rfl, rfl⟩ H' hH RR hR; simp only [List.cons_append, List.nil_append] at hH hR; subst hH; have hR := hR.symm; subst hR)
  (repeat (first | ((first | (apply wo_v; rfl) ); (· first | (apply pv_ev; rfl) | (apply g_pick; first | (apply pv_pick_t; rfl; rfl) ) | (apply g_bi; first | (apply pv_len_str; rfl) ) )) | apply wo_nil | apply wc_ret | (apply wo_run; rfl; rfl) ))
  exact ret1 rfl rfl (by first | rfl | (simp; done)) ((by (repeat (first | apply sub_nil )); done) : List.Perm _ ([] ++ _)) (by first | exact fun _ h => h | (intro r hr; cases hr; done) | (simp; done) | exact fun _ h => List.mem_append_left _ h | (intro r hr; simp [hr]; done))
theorem octetPuts_walk (A : Option Addr) (m c : Nat) (V : Nat → Nat → Value) {w : World} (hV : Rws [.int .u64] w A m c V) (n : Int) (hn : -9223372036854775808 ≤ n ∧ n ≤ 9223372036854775807) (s : ByteArray) (hs : s.size ≤ maxLen) (to : Int) (ht : -9223372036854775808 ≤ to ∧ to ≤ 9223372036854775807) :
    Calls Try.prog 12 #[.slice A m c, .int .i64 n, .string s, .int .i64 to] w fun e w' => e = .returned (.bool true) ∧ Below w.heap.size w w' := by
  obtain ⟨z, R, h1, h2, h3, h4⟩ := rws_k hV
  exact walk_of (octetPuts_fn A m c z n to s R h4 (fun i hi => by have := h2 i hi; simpa [IntKind.min, IntKind.max, IntKind.bits, IntKind.signed] using this) h3) h1
end Go.Proofs.Ytbhegdlpmeeekaa
