/-
  Package rtp: Parse.
-/
import Derived.Test.YtlhlidmhlhodiaaRtp
import Derived.Test.YtlhlidmhlhodiaaVpM
import Derived.Test.YtlhlidmhlhodiaaSpW
namespace Go.Proofs.Ytlhlidmhlhodiaa
set_option linter.unusedSimpArgs false
set_option linter.unusedVariables false
set_option linter.unusedSimpArgs false
set_option linter.unusedVariables false
open Go.RowKit
attribute [local irreducible] Pv WO WC Fn
set_option maxRecDepth 100000
attribute [local irreducible] ByteArray.extract

def tK (k : Int) (r : Rs) : Int × Rs := (valK (rdB r.1 r.2 k).1 (rdB r.1 r.2 k).1.size, (rdB r.1 r.2 k).2)
theorem tK_size (k : Int) (r : Rs) : (tK k r).2.1.size ≤ r.1.size := rdB_size2 r.1 r.2 k
theorem pU8 (g : Nat) (r : Rs) (hs : r.1.size ≤ 1000000) : Fn Try.prog 63 #[.pointer (some ⟨g, 0, none⟩)] [rdO g r.1 r.2] [] (fun v L' R' => v = .int .u8 (tK 1 r).1 ∧ L' = [rdO g (tK 1 r).2.1 (tK 1 r).2.2] ∧ R' = []) := octU8 g r.1 _ _ r.2 _ (by omega) rfl
theorem pU16 (g : Nat) (r : Rs) (hs : r.1.size ≤ 1000000) : Fn Try.prog 65 #[.pointer (some ⟨g, 0, none⟩)] [rdO g r.1 r.2] [] (fun v L' R' => v = .int .u16 (tK 2 r).1 ∧ L' = [rdO g (tK 2 r).2.1 (tK 2 r).2.2] ∧ R' = []) := octU16 g r.1 _ _ r.2 _ (by omega) rfl
theorem pU32 (g : Nat) (r : Rs) (hs : r.1.size ≤ 1000000) : Fn Try.prog 66 #[.pointer (some ⟨g, 0, none⟩)] [rdO g r.1 r.2] [] (fun v L' R' => v = .int .u32 (tK 4 r).1 ∧ L' = [rdO g (tK 4 r).2.1 (tK 4 r).2.2] ∧ R' = []) := octU32 g r.1 _ _ r.2 _ (by omega) rfl
theorem tK2_b (r : Rs) : 0 ≤ (tK 2 r).1 ∧ (tK 2 r).1 ≤ 65535 := by
  have h : (rdB r.1 r.2 2).1.size ≤ 2 := by have := rdB_size r.1 r.2 2 (by omega); omega
  have h1 := valK_b (rdB r.1 r.2 2).1
  show 0 ≤ valK _ _ ∧ valK _ _ ≤ 65535
  have h2 : (rdB r.1 r.2 2).1.size = 0 ∨ (rdB r.1 r.2 2).1.size = 1 ∨ (rdB r.1 r.2 2).1.size = 2 := by omega
  rcases h2 with h2 | h2 | h2
  · rw [h2]; simp [valK]
  · rw [h2]; exact ⟨h1.1 1, by have := h1.2.1; omega⟩
  · rw [h2]; exact ⟨h1.1 2, h1.2.2.1⟩
/-- the sources -/
def csN (r : Rs) : Nat → List Int × Rs
  | 0 => ([], r)
  | n + 1 => ((csN r n).1 ++ [(tK 4 (csN r n).2).1], (tK 4 (csN r n).2).2)
theorem csN_len (r : Rs) : ∀ n, (csN r n).1.length = n
  | 0 => rfl
  | n + 1 => by simp [csN, csN_len r n]
theorem csN_size (r : Rs) : ∀ n, (csN r n).2.1.size ≤ r.1.size
  | 0 => Nat.le_refl _
  | n + 1 => Nat.le_trans (tK_size _ _) (csN_size r n)
abbrev crs (l : List Int) : List (List Value) := l.map fun z => [.int .u32 z]
abbrev csO (ao : Option Addr) (n c : Nat) (l : List Int) : It := .own 30 1 ao n c (crs l)
abbrev rpI (b : Nat) (mrk : Bool) (kd sq t ss : Int) (cs : Value) (ex : Bool) (pf : Int) (dt pl : ByteArray) (pd : Int) : It := .ob b (.cells (rpR mrk kd sq t ss cs ex pf dt pl pd).toArray 33 (0, 0))
abbrev rpZ (b : Nat) : It := rpI b false 0 0 0 0 (.slice none 0 0) false 0 ByteArray.empty ByteArray.empty 0
theorem outc_frm {P : Program} {E : Env} {B0 X L : List It} {ro : List Ro} {o : Oper} {a : Act} {T : Value → List It → Prop} (h : Outc P E B0 ro o a L T) : Outc P E B0 ro o a (X ++ L) (fun v M => ∃ M0, T v M0 ∧ M = X ++ M0) := fun F w hw => by
  have pm : ∀ Y : List It, ((X ++ Y) ++ (B0 ++ F)).Perm (Y ++ (B0 ++ (X ++ F))) := fun Y => by
    rw [List.append_assoc]
    refine List.perm_append_comm.trans ?_
    rw [List.append_assoc, List.append_assoc]
    refine List.Perm.append_left Y ?_
    exact List.Perm.append_left B0 List.perm_append_comm
  have h1 := h (X ++ F) w (hw.perm (pm L))
  cases hr : (execOp a.eval o).run P w with
  | ok v w' =>
    rw [hr] at h1
    cases v with
    | value v =>
      obtain ⟨M, h2, h3⟩ := h1
      exact ⟨X ++ M, ⟨M, h2, rfl⟩, h3.perm (pm M).symm⟩
    | skip =>
      obtain ⟨M, h2, h3⟩ := h1
      exact ⟨X ++ M, ⟨M, h2, rfl⟩, h3.perm (pm M).symm⟩
    | enter f args =>
      obtain ⟨h0, h1⟩ := h1
      exact ⟨h0, h1.mono fun e w'' ⟨v, M, h2, h3, h4⟩ => ⟨v, X ++ M, h2, ⟨M, h3, rfl⟩, h4.perm (pm M).symm⟩⟩
    | _ => exact h1
  | _ => rw [hr] at h1; exact h1
theorem and8_127 {a : Int} : 0 ≤ a ∧ a ≤ 255 → bits .and .u8 a 127 = a % 128 := u8_all (p := fun a => bits .and .u8 a 127 = a % 128) (by decide +kernel)
theorem and8_15 {a : Int} : 0 ≤ a ∧ a ≤ 255 → bits .and .u8 a 15 = a % 16 := u8_all (p := fun a => bits .and .u8 a 15 = a % 16) (by decide +kernel)
theorem outc_frmA {P : Program} {N : Nat} {E : Env} {fr : List (Nat × Value)} {B0 X L : List It} {ro : List Ro} {o : Oper} {T : Value → List It → Prop} (h : ∀ a, Holds N fr a → Outc P E B0 ro o a L T) : ∀ a, Holds N fr a → Outc P E B0 ro o a (X ++ L) (fun v M => ∃ M0, T v M0 ∧ M = X ++ M0) := fun a ha => outc_frm (h a ha)
abbrev csO' (ao : Option Addr) (n c : Nat) (xs : List (List Value)) : It := .own 30 1 ao n c xs
theorem csO_snoc (ao : Option Addr) (n c : Nat) (l : List Int) (x : Int) : csO ao n c (l ++ [x]) = csO' ao n c (crs l ++ crs [x]) := by simp [crs]
def tblC (g : Nat) (x : Int) (r2 : Rs) (bp : Nat) (mrk : Bool) (kd sq t ss : Int) (ex : Bool) (ao : Option Addr) (c : Nat) (l : List Int) : Nat → List (List It) → Value → List (List It) → Prop := fun k Ls v Ms => match k, Ls with
  | 1, [y] => v = .slice ao l.length c ∧ Ms = [y]
  | 3, _ => v = .int .u32 x ∧ Ms = [[rdO g r2.1 r2.2]]
  | 4, _ => ∃ b, v = .slice (some ⟨b, 0, none⟩) 1 1 ∧ Ms = [[csO (some ⟨b, 0, none⟩) 1 1 [x]]]
  | 5, [_, y] => ∃ ao2 c2, v = .slice ao2 (l.length + 1) c2 ∧ Ms = [[.own 30 1 ao2 (l.length + 1) c2 (crs l ++ crs [x])], y]
  | 7, [[.own T2 sz ao2 n2 c2 xs], _] => v = undef ∧ Ms = [[.own T2 sz ao2 n2 c2 xs], [rpI bp mrk kd sq t ss (.slice ao2 n2 c2) ex 0 ByteArray.empty ByteArray.empty 0]]
  | _, _ => False
theorem pPadE : Fn Try.prog 69 #[.string E0] [] [] (fun v L' R' => v = .tuple #[.int .i64 0, .int .i64 1] ∧ L' = [] ∧ R' = []) := by
  refine fn_intro Try.func69 rfl Try.ntmps69 rfl (fun E => ?_)
  (repeat (first | ((first | (apply wo_v; rfl) ); (· first | (apply pv_ev; rfl) | (apply g_bin; first | (apply pv_eql_s; rfl; rfl) ) )) | apply wo_nil | apply wc_seq | apply wc_region | apply wc_ret | (apply wc_true; rfl) ))
  exact ret2 rfl rfl rfl ⟨rfl, rfl, rfl⟩ ((by (repeat (first | apply sub_nil )); done) : List.Perm _ ([] ++ _)) (by first | exact fun _ h => h | (intro r hr; cases hr; done) | (simp; done) | exact fun _ h => List.mem_append_left _ h | (intro r hr; simp [hr]; done))
def padM (s : ByteArray) : Int × Int := if s = E0 then (0, 1) else if sb s (s.size - 1) = 0 then (0, 2) else if (s.size : Int) < sb s (s.size - 1) then (0, 1) else (sb s (s.size - 1), 0)
theorem pPad (s : ByteArray) (hs : s.size ≤ 1000000) : Fn Try.prog 69 #[.string s] [] [] (fun v L' R' => v = .tuple #[.int .i64 (padM s).1, .int .i64 (padM s).2] ∧ L' = [] ∧ R' = []) := by
  by_cases h0 : s = E0
  · subst h0; exact pPadE
  · have h1 : 0 < s.size := by
      rcases Nat.eq_zero_or_pos s.size with h | h
      · exact absurd (ByteArray.size_eq_zero_iff.1 h) h0
      · exact h
    have e1 : ((s.size : Int) - 1).toNat = s.size - 1 := by omega
    have hb := sb_b s (s.size - 1)
    have hb' := sb_b s ((s.size : Int) - 1).toNat
    unfold padM
    rw [if_neg h0]
    by_cases h2 : sb s (s.size - 1) = 0
    · rw [if_pos h2]
      refine fn_intro Try.func69 rfl Try.ntmps69 rfl (fun E => ?_)
      (repeat (first | ((first | (apply wo_v; rfl) ); (· first | (apply pv_ev; rfl) | (apply g_bin; first | (apply a_sub; rfl; rfl; infer_instance; omega) | (apply pv_eql_s; rfl; rfl) ) | (apply g_bi; first | (apply pv_len_str; rfl) ) | (apply g_conv; first | (apply a_conv; rfl; infer_instance; infer_instance; infer_instance; omega) ) | (apply pv_index_sn; rfl; rfl; omega) | (apply pv_index_s; rfl; rfl; omega))) | apply wo_nil | apply wc_seq | apply wc_region | apply wc_skip | (apply wc_true; rfl) | (apply wc_false; rfl) | (apply a_dec_t; rfl; (· first | assumption | omega)) | (apply a_dec_f; rfl; (· first | assumption | omega)) ))
      rw [e1]
      refine wc_block ?_
      (repeat (first | ((first | (apply wo_v; rfl) ); (· first | (apply pv_ev; rfl) )) | apply wo_nil | apply wc_seq | apply wc_region | apply wc_ret | (apply wc_true; rfl) | (apply wc_false; rfl) | (apply a_dec_t; rfl; (· first | assumption | omega)) ))
      exact ret2 rfl rfl rfl ⟨rfl, rfl, rfl⟩ ((by (repeat (first | apply sub_nil )); done) : List.Perm _ ([] ++ _)) (by first | exact fun _ h => h | (intro r hr; cases hr; done) | (simp; done) | exact fun _ h => List.mem_append_left _ h | (intro r hr; simp [hr]; done))
    · rw [if_neg h2]
      by_cases h3 : (s.size : Int) < sb s (s.size - 1)
      · rw [if_pos h3]
        refine fn_intro Try.func69 rfl Try.ntmps69 rfl (fun E => ?_)
        (repeat (first | ((first | (apply wo_v; rfl) ); (· first | (apply pv_ev; rfl) | (apply g_bin; first | (apply a_sub; rfl; rfl; infer_instance; omega) | (apply pv_eql_s; rfl; rfl) ) | (apply g_bi; first | (apply pv_len_str; rfl) ) | (apply g_conv; first | (apply a_conv; rfl; infer_instance; infer_instance; infer_instance; omega) ) | (apply pv_index_sn; rfl; rfl; omega) | (apply pv_index_s; rfl; rfl; omega))) | apply wo_nil | apply wc_seq | apply wc_region | apply wc_skip | (apply wc_true; rfl) | (apply wc_false; rfl) | (apply a_dec_t; rfl; (· first | assumption | omega)) | (apply a_dec_f; rfl; (· first | assumption | omega)) ))
        rw [e1]
        refine wc_block ?_
        (repeat (first | ((first | (apply wo_v; rfl) ); (· first | (apply pv_ev; rfl) | (apply g_bi; first | (apply pv_len_str; rfl) ) )) | apply wo_nil | apply wc_seq | apply wc_region | apply wc_ret | (apply wc_true; rfl) | (apply wc_false; rfl) | (apply a_dec_t; rfl; (· first | assumption | omega)) | (apply a_dec_f; rfl; (· first | assumption | omega)) ))
        exact ret2 rfl rfl rfl ⟨rfl, rfl, rfl⟩ ((by (repeat (first | apply sub_nil )); done) : List.Perm _ ([] ++ _)) (by first | exact fun _ h => h | (intro r hr; cases hr; done) | (simp; done) | exact fun _ h => List.mem_append_left _ h | (intro r hr; simp [hr]; done))
      · rw [if_neg h3]
        refine fn_intro Try.func69 rfl Try.ntmps69 rfl (fun E => ?_)
        (repeat (first | ((first | (apply wo_v; rfl) ); (· first | (apply pv_ev; rfl) | (apply g_bin; first | (apply a_sub; rfl; rfl; infer_instance; omega) | (apply pv_eql_s; rfl; rfl) ) | (apply g_bi; first | (apply pv_len_str; rfl) ) | (apply g_conv; first | (apply a_conv; rfl; infer_instance; infer_instance; infer_instance; omega) ) | (apply pv_index_sn; rfl; rfl; omega) | (apply pv_index_s; rfl; rfl; omega))) | apply wo_nil | apply wc_seq | apply wc_region | apply wc_skip | (apply wc_true; rfl) | (apply wc_false; rfl) | (apply a_dec_t; rfl; (· first | assumption | omega)) | (apply a_dec_f; rfl; (· first | assumption | omega)) ))
        rw [e1]
        refine wc_block ?_
        (repeat (first | ((first | (apply wo_v; rfl) ); (· first | (apply pv_ev; rfl) | (apply g_bi; first | (apply pv_len_str; rfl) ) )) | apply wo_nil | apply wc_seq | apply wc_region | apply wc_skip | apply wc_ret | (apply wc_true; rfl) | (apply wc_false; rfl) | (apply a_dec_t; rfl; (· first | assumption | omega)) | (apply a_dec_f; rfl; (· first | assumption | omega)) ))
        exact ret2 rfl rfl rfl ⟨rfl, rfl, rfl⟩ ((by (repeat (first | apply sub_nil )); done) : List.Perm _ ([] ++ _)) (by first | exact fun _ h => h | (intro r hr; cases hr; done) | (simp; done) | exact fun _ h => List.mem_append_left _ h | (intro r hr; simp [hr]; done))
/-- a packet -/
structure Rp where
  mrk : Bool
  kd : Int
  sq : Int
  t : Int
  ss : Int
  cs : List Int
  ex : Bool
  pf : Int
  dt : ByteArray
  pl : ByteArray
  pd : Int
def Rp0 : Rp := ⟨false, 0, 0, 0, 0, [], false, 0, ByteArray.empty, ByteArray.empty, 0⟩
theorem padM_b (s : ByteArray) : 0 ≤ (padM s).1 ∧ (padM s).1 ≤ s.size := by
  have := sb_b s (s.size - 1)
  unfold padM
  split
  · dsimp only; omega
  · split
    · dsimp only; omega
    · split <;> dsimp only <;> omega
def tblP (pn : Int) (pl : ByteArray) (bp : Nat) (mrk : Bool) (kd sq t ss : Int) (cs : Value) (ex : Bool) (pf : Int) (dt : ByteArray) : Nat → List (List It) → Value → List (List It) → Prop := fun k Ls v Ms => match k, Ls with
  | 2, _ => v = .string pl ∧ Ms = Ls
  | 4, _ => v = .string pl ∧ Ms = Ls
  | 10, _ => v = undef ∧ Ms = [[rpI bp mrk kd sq t ss cs ex pf dt pl pn]]
  | _, _ => v = undef ∧ Ms = [[rpI bp mrk kd sq t ss cs ex pf dt (pl.extract 0 ((pl.size : Int) - pn).toNat) pn]]
theorem tblP_rd {pn : Int} {pl : ByteArray} {bp : Nat} {mrk : Bool} {kd sq t ss : Int} {cs : Value} {ex : Bool} {pf : Int} {dt : ByteArray} : ∀ k ∈ [2, 4], Rdr (tblP pn pl bp mrk kd sq t ss cs ex pf dt) k := fun k hk L v Ms h => by
  simp only [List.mem_cons, List.not_mem_nil, or_false] at hk
  rcases hk with rfl | rfl
  · exact h.2
  · exact h.2
def exR (b : Bool) (r : Rs) : Int × ByteArray × Rs := if b = true then ((tK 2 r).1, (rdB (tK 2 (tK 2 r).2).2.1 (tK 2 (tK 2 r).2).2.2 (4 * (tK 2 (tK 2 r).2).1)).1, (rdB (tK 2 (tK 2 r).2).2.1 (tK 2 (tK 2 r).2).2.2 (4 * (tK 2 (tK 2 r).2).1)).2) else (0, ByteArray.empty, r)
/-- what stands behind the head -/
def enR (p : Rp) (pa : Bool) (r : Rs) : Rp × Int :=
  if (rdB r.1 r.2 r.1.size).2.2 ≠ 0 then (Rp0, (rdB r.1 r.2 r.1.size).2.2)
  else if pa = true then (if (padM (rdB r.1 r.2 r.1.size).1).2 ≠ 0 then (Rp0, (padM (rdB r.1 r.2 r.1.size).1).2) else ({ p with pl := (rdB r.1 r.2 r.1.size).1.extract 0 (((rdB r.1 r.2 r.1.size).1.size : Int) - (padM (rdB r.1 r.2 r.1.size).1).1).toNat, pd := (padM (rdB r.1 r.2 r.1.size).1).1 }, 0))
  else ({ p with pl := (rdB r.1 r.2 r.1.size).1 }, 0)
def prR (s : ByteArray) : Rp × Int :=
  if 1500 < s.size then (Rp0, 4) else
  let x := tK 1 (s, 0)
  let y := tK 1 x.2
  if y.2.2 = 0 ∧ x.1 / 64 ≠ 2 then (Rp0, 2) else
  let q := tK 2 y.2
  let t := tK 4 q.2
  let z := tK 4 t.2
  let c := csN z.2 (x.1 % 16).toNat
  let e := exR (decide (x.1 / 16 % 2 = 1)) c.2
  enR ⟨decide (127 < y.1), y.1 % 128, q.1, t.1, z.1, c.1, decide (x.1 / 16 % 2 = 1), e.1, e.2.1, ByteArray.empty, 0⟩ (decide (x.1 / 32 % 2 = 1)) e.2.2
set_option maxHeartbeats 16000000 in
theorem pParse (s : ByteArray) (hs : s.size ≤ 100000) : Fn Try.prog 15 #[.string s] [] []
    (fun v L' R' => ∃ ao c, v = .tuple #[.agg (rpR (prR s).1.mrk (prR s).1.kd (prR s).1.sq (prR s).1.t (prR s).1.ss (.slice ao (prR s).1.cs.length c) (prR s).1.ex (prR s).1.pf (prR s).1.dt (prR s).1.pl (prR s).1.pd).toArray, .int .i64 (prR s).2]
      ∧ L' = [csO ao (prR s).1.cs.length c (prR s).1.cs] ∧ R' = []) := by
  unfold prR
  by_cases h0 : 1500 < s.size
  · rw [if_pos h0]
    refine fn_intro Try.func15 rfl Try.ntmps15 rfl (fun E => ?_)
    refine wc_own0 30 1 ?_
    (repeat (first | ((first | (apply wo_v; rfl) ); (· first | (apply pv_ev; rfl) | (apply g_bi; first | (apply pv_len_str; rfl) ) | (apply g_build; apply pv_build; (· (repeat (first | apply Bld.nil )))) )) | apply wo_nil | apply wc_seq | apply wc_region | apply wc_ret | (apply wc_true; rfl) | (apply wc_false; rfl) | (apply a_dec_t; rfl; (· first | assumption | omega)) | (apply wo_alloc; rfl; intro bx) | (apply wo_sta; rfl; rfl; rfl; rfl; (· (repeat (first | apply sel_here ))); (· (repeat (first | apply LayAt.nil | apply LayAt.here ))); rfl) ))
    exact retv rfl (by (repeat (first | apply RV.nil | (apply RV.tmp; rfl) | (apply RV.agg; rfl; (· (repeat (first | apply sel_here ))); infer_instance; (· (repeat (first | apply Cut.here0 | apply Cut.here )))) )); done) (⟨none, 0, rfl, rfl, rfl⟩) (by (repeat (first | apply sub_nil | (apply sub_cons; (· (repeat (first | apply sel_here | apply sel_there)))))); done) (by first | exact fun _ h => h | (intro r hr; cases hr; done) | (simp; done) | exact fun _ h => List.mem_append_left _ h | (intro r hr; simp [hr]; done))
  rw [if_neg h0]
  dsimp only
  have s1 := tK_size 1 (s, 0)
  have hx := t1_b (s, 0)
  have c1 := fun g => pU8 g (s, 0) (by dsimp only; omega)
  rw [show t1 (s, 0) = tK 1 (s, 0) from rfl] at hx
  generalize tK 1 (s, 0) = x at c1 hx s1 ⊢
  obtain ⟨a, r1⟩ := x
  dsimp only at c1 hx s1 ⊢
  have s2 := tK_size 1 r1
  have hy := t1_b r1
  have c2 := fun g => pU8 g r1 (by omega)
  rw [show t1 r1 = tK 1 r1 from rfl] at hy
  generalize tK 1 r1 = y at c2 hy s2 ⊢
  obtain ⟨b, r2⟩ := y
  dsimp only at c2 hy s2 ⊢
  by_cases h2 : r2.2 = 0 ∧ a / 64 ≠ 2
  · rw [if_pos h2]
    obtain ⟨h3, h4⟩ := h2
    refine fn_intro Try.func15 rfl Try.ntmps15 rfl (fun E => ?_)
    refine wc_own0 30 1 ?_
    (repeat (first | ((first | (apply wo_v; rfl) ); (· first | (apply pv_ev; rfl) | (apply g_bi; first | (apply pv_len_str; rfl) ) )) | apply wo_nil | apply wc_seq | apply wc_region | apply wc_skip | (apply wc_true; rfl) | (apply wc_false; rfl) | (apply a_dec_t; rfl; (· first | assumption | omega)) | (apply a_dec_f; rfl; (· first | assumption | omega)) | (apply wo_alloc; rfl; intro bx) ))
    (refine wo_call (octRead s) rfl (by (repeat (first | apply sub_nil )); done) (by first | exact fun _ h => h | (intro r hr; cases hr; done) | (simp; done) | exact fun _ h => List.mem_append_left _ h | (intro r hr; simp [hr]; done)) rfl ?_; rintro v L' R' ⟨g, rfl, rfl, rfl⟩ H' hH RR hR; simp only [List.cons_append, List.nil_append] at hH hR; subst hH; have hR := hR.symm; subst hR)
    (repeat (first | ((first | (apply wo_v; rfl) ); (· first | (apply pv_ev; rfl) )) | apply wo_nil | apply wc_seq | apply wc_region ))
    (refine wo_call (c1 g) rfl (by (repeat (first | apply sub_nil )); done) (by first | exact fun _ h => h | (intro r hr; cases hr; done) | (simp; done) | exact fun _ h => List.mem_append_left _ h | (intro r hr; simp [hr]; done)) rfl ?_; rintro v L' R' ⟨rfl, rfl, rfl⟩ H' hH RR hR; simp only [List.cons_append, List.nil_append] at hH hR; subst hH; have hR := hR.symm; subst hR)
    (repeat (first | ((first | (apply wo_v; rfl) ); (· first | (apply pv_ev; rfl) )) ))
    (refine wo_call (c2 g) rfl (by (repeat (first | apply sub_nil )); done) (by first | exact fun _ h => h | (intro r hr; cases hr; done) | (simp; done) | exact fun _ h => List.mem_append_left _ h | (intro r hr; simp [hr]; done)) rfl ?_; rintro v L' R' ⟨rfl, rfl, rfl⟩ H' hH RR hR; simp only [List.cons_append, List.nil_append] at hH hR; subst hH; have hR := hR.symm; subst hR)
    (repeat (first | ((first | (apply wo_v; rfl) ); (· first | (apply pv_ev; rfl) )) | apply wo_nil | apply wc_seq | apply wc_region ))
    (refine wo_call (octErr g r2.1 r2.2) rfl (by (repeat (first | apply sub_nil )); done) (by first | exact fun _ h => h | (intro r hr; cases hr; done) | (simp; done) | exact fun _ h => List.mem_append_left _ h | (intro r hr; simp [hr]; done)) rfl ?_; rintro v L' R' ⟨rfl, rfl, rfl⟩ H' hH RR hR; simp only [List.cons_append, List.nil_append] at hH hR; subst hH; have hR := hR.symm; subst hR)
    (repeat (first | ((first | (apply wo_v; rfl) ); (· first | (apply pv_ev; rfl) | (apply g_pick; first | (apply pv_pick_t; rfl; rfl) ) | (apply g_bin; first | (apply a_shr; rfl; rfl; rfl; omega; rfl) ) | (apply g_build; apply pv_build; (· (repeat (first | apply Bld.nil )))) )) | apply wo_nil | apply wc_seq | apply wc_region | apply wc_ret | (apply wc_true; rfl) | (apply wc_false; rfl) | (apply a_dec_t; rfl; (· first | assumption | omega)) | (apply wo_run; rfl; rfl) | (apply wo_skip; rfl; rfl; rfl; rfl) | (apply wo_skip_u; rfl; rfl; rfl) | (apply a_gt; rfl; rfl; (· first | assumption | omega)) | (apply wo_sta; rfl; rfl; rfl; rfl; (· (repeat (first | apply sel_here | apply sel_there))); (· (repeat (first | apply LayAt.nil | apply LayAt.here ))); rfl) ))
    exact retv rfl (by (repeat (first | apply RV.nil | (apply RV.tmp; rfl) | (apply RV.agg; rfl; (· (repeat (first | apply sel_here ))); infer_instance; (· (repeat (first | apply Cut.here0 | apply Cut.here )))) )); done) (⟨none, 0, rfl, rfl, rfl⟩) (by (repeat (first | apply sub_nil | (apply sub_cons; (· (repeat (first | apply sel_here | apply sel_there)))))); done) (by first | exact fun _ h => h | (intro r hr; cases hr; done) | (simp; done) | exact fun _ h => List.mem_append_left _ h | (intro r hr; simp [hr]; done))
  rw [if_neg h2]
  have h3 : ¬ r2.2 = 0 ∨ (r2.2 = 0 ∧ a / 64 = 2) := by omega
  clear h2
  have s3 := tK_size 2 r2
  have c3 := fun g => pU16 g r2 (by omega)
  generalize tK 2 r2 = q at c3 s3 ⊢
  obtain ⟨sq, r3⟩ := q
  dsimp only at c3 s3 ⊢
  have s4 := tK_size 4 r3
  have c4 := fun g => pU32 g r3 (by omega)
  generalize tK 4 r3 = q at c4 s4 ⊢
  obtain ⟨t, r4⟩ := q
  dsimp only at c4 s4 ⊢
  have s5 := tK_size 4 r4
  have c5 := fun g => pU32 g r4 (by omega)
  generalize tK 4 r4 = q at c5 s5 ⊢
  obtain ⟨ss, r5⟩ := q
  dsimp only at c5 s5 ⊢
  have hc16 : 0 ≤ a % 16 ∧ a % 16 ≤ 15 := by omega
  have x16 : bits .and .u8 a 15 = a % 16 := and8_15 hx
  have x128 : bits .and .u8 b 127 = b % 128 := and8_127 hy
  have x1 : decide (0 < bits .and .u8 a 16) = decide (a / 16 % 2 = 1) := by rw [and8_16 hx]; exact decide_eq_decide.2 (by omega)
  have x2 : decide (0 < bits .and .u8 a 32) = decide (a / 32 % 2 = 1) := by rw [and8_32 hx]; exact decide_eq_decide.2 (by omega)
  obtain ⟨N, hN⟩ : ∃ N : Nat, a % 16 = (N : Int) := ⟨(a % 16).toNat, by omega⟩
  have hN2 : (a % 16).toNat = N := by omega
  rw [hN2]
  generalize hmrk : decide (127 < b) = mrk, hkd : b % 128 = kd, hex : decide (a / 16 % 2 = 1) = ex, hpa : decide (a / 32 % 2 = 1) = pa
  rw [hkd] at x128
  rw [hex] at x1
  rw [hpa] at x2
  rcases h3 with h3 | ⟨h3, h4⟩
  all_goals
    refine fn_intro Try.func15 rfl Try.ntmps15 rfl (fun E => ?_)
    (repeat (first | ((first | (apply wo_v; rfl) ); (· first | (apply pv_ev; rfl) | (apply g_bi; first | (apply pv_len_str; rfl) ) )) | apply wo_nil | apply wc_seq | apply wc_region | apply wc_skip | (apply wc_true; rfl) | (apply wc_false; rfl) | (apply a_dec_t; rfl; (· first | assumption | omega)) | (apply a_dec_f; rfl; (· first | assumption | omega)) | (apply wo_alloc; rfl; intro bx) ))
    obtain ⟨bq, hbq⟩ : ∃ g, g = bx := ⟨_, rfl⟩
    subst hbq
    (refine wo_call (octRead s) rfl (by (repeat (first | apply sub_nil )); done) (by first | exact fun _ h => h | (intro r hr; cases hr; done) | (simp; done) | exact fun _ h => List.mem_append_left _ h | (intro r hr; simp [hr]; done)) rfl ?_; rintro v L' R' ⟨g, rfl, rfl, rfl⟩ H' hH RR hR; simp only [List.cons_append, List.nil_append] at hH hR; subst hH; have hR := hR.symm; subst hR)
    (repeat (first | ((first | (apply wo_v; rfl) ); (· first | (apply pv_ev; rfl) )) | apply wo_nil | apply wc_seq | apply wc_region ))
    (refine wo_call (c1 g) rfl (by (repeat (first | apply sub_nil )); done) (by first | exact fun _ h => h | (intro r hr; cases hr; done) | (simp; done) | exact fun _ h => List.mem_append_left _ h | (intro r hr; simp [hr]; done)) rfl ?_; rintro v L' R' ⟨rfl, rfl, rfl⟩ H' hH RR hR; simp only [List.cons_append, List.nil_append] at hH hR; subst hH; have hR := hR.symm; subst hR)
    (repeat (first | ((first | (apply wo_v; rfl) ); (· first | (apply pv_ev; rfl) )) ))
    (refine wo_call (c2 g) rfl (by (repeat (first | apply sub_nil )); done) (by first | exact fun _ h => h | (intro r hr; cases hr; done) | (simp; done) | exact fun _ h => List.mem_append_left _ h | (intro r hr; simp [hr]; done)) rfl ?_; rintro v L' R' ⟨rfl, rfl, rfl⟩ H' hH RR hR; simp only [List.cons_append, List.nil_append] at hH hR; subst hH; have hR := hR.symm; subst hR)
    (repeat (first | ((first | (apply wo_v; rfl) ); (· first | (apply pv_ev; rfl) )) | apply wo_nil | apply wc_seq | apply wc_region ))
    (refine wo_call (octErr g r2.1 r2.2) rfl (by (repeat (first | apply sub_nil )); done) (by first | exact fun _ h => h | (intro r hr; cases hr; done) | (simp; done) | exact fun _ h => List.mem_append_left _ h | (intro r hr; simp [hr]; done)) rfl ?_; rintro v L' R' ⟨rfl, rfl, rfl⟩ H' hH RR hR; simp only [List.cons_append, List.nil_append] at hH hR; subst hH; have hR := hR.symm; subst hR)
    (repeat (first | ((first | (apply wo_v; rfl) ); (· first | (apply pv_ev; rfl) | (apply g_pick; first | (apply pv_pick_t; rfl; rfl) | (apply pv_pick_f; rfl; rfl)) | (apply g_bin; first | (apply pv_and; rfl; rfl) | (apply a_shr; rfl; rfl; rfl; omega; rfl) ) )) | apply wo_nil | apply wc_seq | apply wc_region | apply wc_skip | (apply wc_true; rfl) | (apply wc_false; rfl) | (apply a_dec_t; rfl; (· first | assumption | omega)) | (apply a_dec_f; rfl; (· first | assumption | omega)) | (apply wo_run; rfl; rfl) | (apply wo_skip; rfl; rfl; rfl; rfl) | (apply wo_skip_u; rfl; rfl; rfl) | (apply a_gt; rfl; rfl; (· first | assumption | omega)) | (apply a_gf; rfl; rfl; (· first | assumption | omega)) ))
    rw [x128]
    (refine wo_call (c3 g) rfl (by (repeat (first | apply sub_nil )); done) (by first | exact fun _ h => h | (intro r hr; cases hr; done) | (simp; done) | exact fun _ h => List.mem_append_left _ h | (intro r hr; simp [hr]; done)) rfl ?_; rintro v L' R' ⟨rfl, rfl, rfl⟩ H' hH RR hR; simp only [List.cons_append, List.nil_append] at hH hR; subst hH; have hR := hR.symm; subst hR)
    (repeat (first | ((first | (apply wo_v; rfl) ); (· first | (apply pv_ev; rfl) )) ))
    (refine wo_call (c4 g) rfl (by (repeat (first | apply sub_nil )); done) (by first | exact fun _ h => h | (intro r hr; cases hr; done) | (simp; done) | exact fun _ h => List.mem_append_left _ h | (intro r hr; simp [hr]; done)) rfl ?_; rintro v L' R' ⟨rfl, rfl, rfl⟩ H' hH RR hR; simp only [List.cons_append, List.nil_append] at hH hR; subst hH; have hR := hR.symm; subst hR)
    (repeat (first | ((first | (apply wo_v; rfl) ); (· first | (apply pv_ev; rfl) )) ))
    (refine wo_call (c5 g) rfl (by (repeat (first | apply sub_nil )); done) (by first | exact fun _ h => h | (intro r hr; cases hr; done) | (simp; done) | exact fun _ h => List.mem_append_left _ h | (intro r hr; simp [hr]; done)) rfl ?_; rintro v L' R' ⟨rfl, rfl, rfl⟩ H' hH RR hR; simp only [List.cons_append, List.nil_append] at hH hR; subst hH; have hR := hR.symm; subst hR)
    (repeat (first | ((first | (apply wo_v; rfl) ); (· first | (apply pv_ev; rfl) | (apply g_bin; first | (apply pv_and; rfl; rfl) ) | (apply g_build; apply pv_build; (· (repeat (first | apply Bld.nil | (apply Bld.one; rfl; rfl; (· (repeat (first | apply SetAt.here | apply SetAt.there)))) )))) )) | apply wo_nil | apply wc_seq | apply wc_region | (apply wo_alloc; rfl; intro bx) | (apply wo_sta; rfl; rfl; rfl; rfl; (· (repeat (first | apply sel_here ))); (· (repeat (first | apply LayAt.nil | apply LayAt.here ))); rfl) ))
    rw [x1, x16, hN, hmrk]
    obtain ⟨bp, hbp⟩ : ∃ g, g = bx := ⟨_, rfl⟩
    subst hbp
    have s6 := csN_size r5 N
    refine wc_join0 (fun st => ∃ ao c, st = ⟨[(2, .pointer (some ⟨bq, 0, none⟩)), (4, .pointer (some ⟨g, 0, none⟩)), (5, .int .u8 a), (7, .pointer (some ⟨bp, 0, none⟩))], [rdO g (csN r5 N).2.1 (csN r5 N).2.2, rpI bp mrk kd sq t ss (.slice ao (csN r5 N).1.length c) ex 0 ByteArray.empty ByteArray.empty 0, csO ao (csN r5 N).1.length c (csN r5 N).1, rpZ bq], []⟩) ?_ ?_
    · refine wc_block ?_
      refine wc_own0 30 1 ?_
      refine wc_loop' (fun q st => ∃ (i : Nat) (ao : Option Addr) (c : Nat) (l : List Int) (r : Rs), q = N - i ∧ i ≤ N ∧ l = (csN r5 i).1 ∧ r = (csN r5 i).2 ∧ st = ⟨[(2, .pointer (some ⟨bq, 0, none⟩)), (4, .pointer (some ⟨g, 0, none⟩)), (5, .int .u8 a), (7, .pointer (some ⟨bp, 0, none⟩)), (45, .int .u8 N), (46, .int .u8 i)], [rdO g r.1 r.2, rpI bp mrk kd sq t ss (.slice ao l.length c) ex 0 ByteArray.empty ByteArray.empty 0, csO ao l.length c l, rpZ bq], []⟩)
        ⟨0, none, 0, [], r5, rfl, Nat.zero_le _, rfl, rfl, rfl⟩ (wk_mk (by (repeat (first | apply wkf_nil | (apply wkf_cons; rfl))); done) (by (repeat (first | apply sub_nil | (apply sub_cons; (· (repeat (first | apply sel_here | apply sel_there)))))); done) (by first | exact fun _ h => h | (intro r hr; cases hr; done) | (simp; done) | exact fun _ h => List.mem_append_left _ h | (intro r hr; simp [hr]; done))) ?_
      rintro q st ⟨i, ao, c, l, r, rfl, hi, hl, hrr, rfl⟩
      have hll : l.length = i := by rw [hl]; exact csN_len r5 i
      have hrs := csN_size r5 i
      rw [← hrr] at hrs
      by_cases hlt : i < N
      · have e1 : (csN r5 (i + 1)).1 = l ++ [(tK 4 r).1] := by rw [csN, hl, hrr]
        have e2 : (csN r5 (i + 1)).2 = (tK 4 r).2 := by rw [csN, hrr]
        have hU := pU32 g r (by omega)
        generalize tK 4 r = y at hU e1 e2
        obtain ⟨x, rr⟩ := y
        dsimp only at hU e1 e2
        (repeat (first | ((first | (apply wo_v; rfl) ); (· first | (apply pv_ev; rfl) )) | apply wo_nil | apply wc_seq | apply wc_region | apply wc_skip | (apply wc_true; rfl) | (apply wc_false; rfl) | (apply a_dec_t; rfl; (· first | assumption | omega)) ))
        refine wc_block ?_
        (repeat (first | fail ))
        (refine wc_regM [0, 1, 2, 3] (aslL [(1, [3]), (3, [0]), (4, [1]), (5, [2, 1]), (7, [2, 3])]) (tblC g x rr bp mrk kd sq t ss ex ao c l) ([rpZ bq]) (fm [(0, [rdO g r.1 r.2]), (1, []), (2, [csO ao l.length c l]), (3, [rpI bp mrk kd sq t ss (.slice ao l.length c) ex 0 ByteArray.empty ByteArray.empty 0])]) mixed (by kernel_rfl) (by kernel_rfl) (by decide) (aslL_ok (by decide)) (by (repeat (first | (apply prm_cons; (· (repeat (first | apply sel_here | apply sel_there)))) | apply List.Perm.nil )); done) ?_; (repeat (first | (apply HdM.val; rfl; rfl; (· first | apply gok_none ); (· first | (apply pv_ev; rfl) | (apply pv_fld; rfl) )) )))
        (refine hm_eff (cs := [3]) rfl (by decide) rfl rfl (by first | exact gok_none | exact gok_run rfl rfl) (fun a ha => outc_mono (outc_pv (L := [rpI bp mrk kd sq t ss (.slice ao l.length c) ex 0 ByteArray.empty ByteArray.empty 0]) (pv_ld rfl (by (repeat (first | apply sel_here )); done) rfl) a ha) (fun v M h => ⟨[M], And.intro h.1 (congrArg (fun x => [x]) h.2), rfl, by simp⟩)) (⟨_, _, And.intro rfl rfl, rfl⟩) ?_; rintro v Ms ⟨rfl, rfl⟩ _; simp only [setls, setl, reduceIte, Nat.reduceEqDiff]; (repeat (first | (apply HdM.val; rfl; rfl; (· first | apply gok_none ); (· first | (apply pv_ev; rfl) )) )))
        (refine hm_eff (cs := [0]) rfl (by decide) rfl rfl (by first | exact gok_none | exact gok_run rfl rfl) (fun a ha => outc_mono (outc_call (F1 := _) (T := fun v M => v = .int .u32 x ∧ M = [rdO g rr.1 rr.2]) hU rfl (by (repeat (first | apply sub_nil )); done) (by first | exact fun _ h => h | (intro r hr; cases hr; done) | (simp; done) | exact fun _ h => List.mem_append_left _ h | (intro r hr; simp [hr]; done)) (by rintro v L' R' ⟨rfl, rfl, _⟩; exact ⟨_, ⟨rfl, rfl⟩, (by (repeat (first | (apply prm_cons; (· (repeat (first | apply sel_here )))) | apply List.Perm.nil )); done)⟩) a ha) (fun v M h => ⟨[M], And.intro h.1 (congrArg (fun x => [x]) h.2), rfl, by simp⟩)) (⟨_, _, And.intro rfl rfl, rfl⟩) ?_; rintro v Ms ⟨rfl, rfl⟩ _; simp only [setls, setl, reduceIte, Nat.reduceEqDiff]; (repeat (first | (apply HdM.val; rfl; rfl; (· first | fail ); (· first | fail )) )))
        (refine hm_eff (cs := [1]) rfl (by decide) rfl rfl (by first | exact gok_none | exact gok_run rfl rfl) (fun a ha => outc_mono (outc_bsl (by (repeat (first | apply Rws'.nil | (apply Rws'.one; rfl; rfl; rfl) )); done) rfl rfl rfl a ha) (fun v M h => Exists.elim h fun b h => ⟨[M], Exists.intro b (And.intro h.1 (congrArg (fun x => [x]) h.2)), rfl, by simp⟩)) (⟨_, _, Exists.intro 0 (And.intro rfl rfl), rfl⟩) ?_; rintro v Ms ⟨b9, rfl, rfl⟩ _; simp only [setls, setl, reduceIte, Nat.reduceEqDiff]; (repeat (first | (apply HdM.val; rfl; rfl; (· first | fail ); (· first | fail )) )))
        (refine hm_eff (cs := [2, 1]) rfl (by decide) rfl rfl (by first | exact gok_none | exact gok_run rfl rfl) (fun a ha => outc_mono (outc_app rfl rfl (by unfold maxLen; omega) (by omega) a ha) (fun v M h => by obtain ⟨b, c, h1, h2⟩ := h; exact ⟨[[_], [_]], ⟨b, c, h1, rfl⟩, rfl, h2⟩)) (⟨_, _, ⟨none, 0, rfl, rfl⟩, rfl⟩) ?_; rintro v Ms ⟨ao2, c2, rfl, rfl⟩ _; simp only [setls, setl, reduceIte, Nat.reduceEqDiff]; (repeat (first | (apply HdM.val; rfl; rfl; (· first | apply gok_none ); (· first | (apply pv_ev; rfl) | (apply pv_fld; rfl) )) )))
        (refine hm_eff (cs := [2, 3]) rfl (by decide) rfl rfl (by first | exact gok_none | exact gok_run rfl rfl) (fun a ha => outc_mono (outc_frmA (X := [csO' ao2 (l.length + 1) c2 (crs l ++ crs [x])]) (L := [rpI bp mrk kd sq t ss (.slice ao l.length c) ex 0 ByteArray.empty ByteArray.empty 0]) (outc_st rfl rfl rfl (by (repeat (first | apply SetAt.here | apply SetAt.there)); done)) a ha) (fun v M h => by obtain ⟨M0, ⟨h1, h2⟩, h3⟩ := h; exact ⟨[[_], [_]], ⟨h1, rfl⟩, rfl, by rw [h3, h2]; rfl⟩)) (⟨_, _, ⟨rfl, rfl⟩, rfl⟩) ?_; rintro v Ms ⟨rfl, rfl⟩ _; simp only [setls, setl, reduceIte, Nat.reduceEqDiff]; (repeat (first | fail )))
        (refine HdM.nil ?_; intro H hH; simp only [Hp, fm, look, setl, List.flatMap_cons, List.flatMap_nil, reduceIte, Nat.reduceEqDiff, Option.getD_some, List.append_nil, List.cons_append, List.nil_append] at hH; subst hH)
        (repeat (first | ((first | (apply wo_v; rfl) ); (· first | (apply pv_ev; rfl) | (apply g_bin; first | (apply a_add; rfl; rfl; infer_instance; omega) ) )) | apply wo_nil | apply wc_region ))
        exact loop_end ⟨i + 1, ao2, c2, l ++ [x], rr, rfl, by omega, e1.symm, e2.symm, by rw [List.length_append, List.length_singleton, csO_snoc]⟩ (by omega) (wk_mk (by (repeat (first | apply wkf_nil | (apply wkf_cons; rfl))); done) (by (repeat (first | apply sub_nil | (apply sub_cons; (· (repeat (first | apply sel_here | apply sel_there)))))); done) (by first | exact fun _ h => h | (intro r hr; cases hr; done) | (simp; done) | exact fun _ h => List.mem_append_left _ h | (intro r hr; simp [hr]; done)))
      · have e : i = N := by omega
        subst e
        subst hl hrr
        (repeat (first | ((first | (apply wo_v; rfl) ); (· first | (apply pv_ev; rfl) )) | apply wo_nil | apply wc_seq | apply wc_region | (apply wc_exit; rfl) | (apply wc_true; rfl) | (apply wc_false; rfl) | (apply a_dec_t; rfl; (· first | assumption | omega)) | (apply a_dec_f; rfl; (· first | assumption | omega)) ))
        exact cut_end ⟨ao, c, rfl⟩ (wk_mk (by (repeat (first | apply wkf_nil | (apply wkf_cons; rfl))); done) (by (repeat (first | apply sub_nil )); done) (by first | exact fun _ h => h | (intro r hr; cases hr; done) | (simp; done) | exact fun _ h => List.mem_append_left _ h | (intro r hr; simp [hr]; done)))
    rintro st ⟨ao, c, rfl⟩
    have hcl := csN_len r5 N
    generalize csN r5 N = y at s6 hcl ⊢
    obtain ⟨cs, r6⟩ := y
    dsimp only at s6 hcl ⊢
    apply wc_seq
    refine wc_join0 (fun st => st = ⟨[(2, .pointer (some ⟨bq, 0, none⟩)), (4, .pointer (some ⟨g, 0, none⟩)), (5, .int .u8 a), (7, .pointer (some ⟨bp, 0, none⟩))], [rdO g (exR ex r6).2.2.1 (exR ex r6).2.2.2, rpI bp mrk kd sq t ss (.slice ao cs.length c) ex (exR ex r6).1 (exR ex r6).2.1 ByteArray.empty 0, csO ao cs.length c cs, rpZ bq], []⟩) ?_ ?_
    · clear hex x1
      cases ex with
      | false =>
        (repeat (first | ((first | (apply wo_v; rfl) ); (· first | (apply pv_ev; rfl) | (apply pv_fld; rfl) | (apply g_load; first | (apply pv_ld; rfl; (· (repeat (first | apply sel_here | apply sel_there))); rfl) ) )) | apply wo_nil | apply wc_seq | apply wc_region | apply wc_skip | (apply wc_true; rfl) | (apply wc_false; rfl) ))
        exact cut_end rfl (wk_mk (by (repeat (first | apply wkf_nil | (apply wkf_cons; rfl))); done) (by (repeat (first | apply sub_nil )); done) (by first | exact fun _ h => h | (intro r hr; cases hr; done) | (simp; done) | exact fun _ h => List.mem_append_left _ h | (intro r hr; simp [hr]; done)))
      | true =>
        have w1 := pU16 g r6 (by omega)
        have s7 := tK_size 2 r6
        have w2 := pU16 g (tK 2 r6).2 (by omega)
        have s8 := tK_size 2 (tK 2 r6).2
        have hv := tK2_b (tK 2 r6).2
        have e1 : exR true r6 = ((tK 2 r6).1, (rdB (tK 2 (tK 2 r6).2).2.1 (tK 2 (tK 2 r6).2).2.2 (4 * (tK 2 (tK 2 r6).2).1)).1, (rdB (tK 2 (tK 2 r6).2).2.1 (tK 2 (tK 2 r6).2).2.2 (4 * (tK 2 (tK 2 r6).2).1)).2) := rfl
        rw [e1]
        generalize tK 2 (tK 2 r6).2 = y2 at w2 s8 hv ⊢
        generalize tK 2 r6 = y1 at w1 w2 s7 s8 ⊢
        obtain ⟨pf, r7⟩ := y1
        obtain ⟨ln, r8⟩ := y2
        dsimp only at w1 w2 s7 s8 hv ⊢
        have w3 := octBytes g r8.1 r8.2 (4 * ln) (by omega)
        (repeat (first | ((first | (apply wo_v; rfl) ); (· first | (apply pv_ev; rfl) | (apply pv_fld; rfl) | (apply g_load; first | (apply pv_ld; rfl; (· (repeat (first | apply sel_here | apply sel_there))); rfl) ) )) | apply wo_nil | apply wc_seq | apply wc_region | (apply wc_true; rfl) ))
        (refine wo_call (w1) rfl (by (repeat (first | apply sub_nil )); done) (by first | exact fun _ h => h | (intro r hr; cases hr; done) | (simp; done) | exact fun _ h => List.mem_append_left _ h | (intro r hr; simp [hr]; done)) rfl ?_; rintro v L' R' ⟨rfl, rfl, rfl⟩ H' hH RR hR; simp only [List.cons_append, List.nil_append] at hH hR; subst hH; have hR := hR.symm; subst hR)
        (repeat (first | ((first | (apply wo_v; rfl) ); (· first | (apply pv_ev; rfl) | (apply pv_fld; rfl) )) | apply wo_nil | apply wc_region | (apply wo_st; rfl; rfl; rfl; (· (repeat (first | apply sel_here | apply sel_there))); (· (repeat (first | apply SetAt.here | apply SetAt.there))); rfl) ))
        (refine wo_call (w2) rfl (by (repeat (first | apply sub_nil | (apply sub_cons; (· (repeat (first | apply sel_here | apply sel_there)))))); done) (by first | exact fun _ h => h | (intro r hr; cases hr; done) | (simp; done) | exact fun _ h => List.mem_append_left _ h | (intro r hr; simp [hr]; done)) rfl ?_; rintro v L' R' ⟨rfl, rfl, rfl⟩ H' hH RR hR; simp only [List.cons_append, List.nil_append] at hH hR; subst hH; have hR := hR.symm; subst hR)
        (repeat (first | ((first | (apply wo_v; rfl) ); (· first | (apply pv_ev; rfl) | (apply g_bin; first | (apply a_mul; rfl; rfl; infer_instance; omega) ) | (apply g_conv; first | (apply a_conv; rfl; infer_instance; infer_instance; infer_instance; omega) ) )) ))
        (refine wo_call (w3) rfl (by (repeat (first | apply sub_nil )); done) (by first | exact fun _ h => h | (intro r hr; cases hr; done) | (simp; done) | exact fun _ h => List.mem_append_left _ h | (intro r hr; simp [hr]; done)) rfl ?_; rintro v L' R' ⟨rfl, rfl, rfl⟩ H' hH RR hR; simp only [List.cons_append, List.nil_append] at hH hR; subst hH; have hR := hR.symm; subst hR)
        (repeat (first | ((first | (apply wo_v; rfl) ); (· first | (apply pv_ev; rfl) | (apply pv_fld; rfl) )) | apply wo_nil | (apply wo_st; rfl; rfl; rfl; (· (repeat (first | apply sel_here | apply sel_there))); (· (repeat (first | apply SetAt.here | apply SetAt.there))); rfl) ))
        exact cut_end rfl (wk_mk (by (repeat (first | apply wkf_nil | (apply wkf_cons; rfl))); done) (by (repeat (first | apply sub_nil | (apply sub_cons; (· (repeat (first | apply sel_here | apply sel_there)))))); done) (by first | exact fun _ h => h | (intro r hr; cases hr; done) | (simp; done) | exact fun _ h => List.mem_append_left _ h | (intro r hr; simp [hr]; done)))
    rintro st rfl
    have s9 : (exR ex r6).2.2.1.size ≤ 100000 := by
      unfold exR
      split
      · have := rdB_size2 (tK 2 (tK 2 r6).2).2.1 (tK 2 (tK 2 r6).2).2.2 (4 * (tK 2 (tK 2 r6).2).1)
        have h7 := tK_size 2 r6
        have h8 := tK_size 2 (tK 2 r6).2
        dsimp only
        omega
      · dsimp only; omega
    generalize exR ex r6 = y at s9 ⊢
    obtain ⟨pf, dt, r9⟩ := y
    dsimp only at s9 ⊢
    have w4 := octRest g r9.1 r9.2 (by omega)
    unfold enR
    have s10 : (rdB r9.1 r9.2 r9.1.size).1.size ≤ 100000 := by have := rdB_size r9.1 r9.2 r9.1.size (by omega); omega
    generalize rdB r9.1 r9.2 r9.1.size = y at w4 s10 ⊢
    obtain ⟨pl, r10⟩ := y
    dsimp only at w4 s10 ⊢
    (repeat (first | ((first | (apply wo_v; rfl) ); (· first | (apply pv_ev; rfl) )) | apply wc_seq | apply wc_region ))
    (refine wo_call (w4) rfl (by (repeat (first | apply sub_nil )); done) (by first | exact fun _ h => h | (intro r hr; cases hr; done) | (simp; done) | exact fun _ h => List.mem_append_left _ h | (intro r hr; simp [hr]; done)) rfl ?_; rintro v L' R' ⟨rfl, rfl, rfl⟩ H' hH RR hR; simp only [List.cons_append, List.nil_append] at hH hR; subst hH; have hR := hR.symm; subst hR)
    (repeat (first | ((first | (apply wo_v; rfl) ); (· first | (apply pv_ev; rfl) | (apply pv_fld; rfl) )) | apply wo_nil | apply wc_seq | apply wc_region | (apply wo_st; rfl; rfl; rfl; (· (repeat (first | apply sel_here | apply sel_there))); (· (repeat (first | apply SetAt.here | apply SetAt.there))); rfl) ))
    (refine wo_call (octErr g r10.1 r10.2) rfl (by (repeat (first | apply sub_nil | (apply sub_cons; (· (repeat (first | apply sel_here | apply sel_there)))))); done) (by first | exact fun _ h => h | (intro r hr; cases hr; done) | (simp; done) | exact fun _ h => List.mem_append_left _ h | (intro r hr; simp [hr]; done)) rfl ?_; rintro v L' R' ⟨rfl, rfl, rfl⟩ H' hH RR hR; simp only [List.cons_append, List.nil_append] at hH hR; subst hH; have hR := hR.symm; subst hR)
    by_cases he : r10.2 = 0
    · rw [if_neg (by simp [he])]
      clear hpa
      cases pa with
      | false =>
        rw [if_neg (by simp)]
        (repeat (first | ((first | (apply wo_v; rfl) ); (· first | (apply pv_ev; rfl) | (apply g_pick; first | (apply pv_pick_t; rfl; rfl) ) | (apply g_bin; first | (apply pv_and; rfl; rfl) ) )) | apply wo_nil | (apply wc_true; rfl) | (apply wc_false; rfl) | (apply a_dec_t; rfl; (· first | assumption | omega)) | (apply a_dec_f; rfl; (· first | assumption | omega)) | (apply a_dec_t; rfl; (· first | (simp; done) | (simp; omega))) | (apply a_dec_f; rfl; (· first | (simp; done) | (simp; omega))) | (apply wo_run; rfl; rfl) | (apply wo_skip; rfl; rfl; rfl; rfl) | (apply wo_skip_u; rfl; rfl; rfl) | (apply a_gt; rfl; rfl; (· first | assumption | omega)) ))
        rw [x2]
        (repeat (first | ((first | (apply wo_v; rfl) ); (· first | (apply pv_ev; rfl) )) | apply wc_seq | apply wc_region | apply wc_skip | (apply wc_true; rfl) | (apply wc_false; rfl) ))
        (refine wo_call (octErr g r10.1 r10.2) rfl (by (repeat (first | apply sub_nil )); done) (by first | exact fun _ h => h | (intro r hr; cases hr; done) | (simp; done) | exact fun _ h => List.mem_append_left _ h | (intro r hr; simp [hr]; done)) rfl ?_; rintro v L' R' ⟨rfl, rfl, rfl⟩ H' hH RR hR; simp only [List.cons_append, List.nil_append] at hH hR; subst hH; have hR := hR.symm; subst hR)
        (repeat (first | ((first | (apply wo_v; rfl) ); (· first | (apply pv_ev; rfl) | (apply g_load; first | (apply pv_lda; rfl; (· (repeat (first | apply sel_here | apply sel_there))); (· (repeat (first | apply Cut.here0 | apply Cut.here )))) ) )) | apply wo_nil | apply wc_seq | apply wc_region | apply wc_skip | apply wc_ret | (apply wc_true; rfl) | (apply wc_false; rfl) | (apply a_dec_t; rfl; (· first | assumption | omega)) | (apply a_dec_f; rfl; (· first | assumption | omega)) | (apply wo_sta; rfl; rfl; rfl; rfl; (· (repeat (first | apply sel_here | apply sel_there))); (· (repeat (first | apply LayAt.nil | apply LayAt.here ))); rfl) ))
        exact retv rfl (by (repeat (first | apply RV.nil | (apply RV.tmp; rfl) | (apply RV.agg; rfl; (· (repeat (first | apply sel_here ))); infer_instance; (· (repeat (first | apply Cut.here0 | apply Cut.here )))) )); done) (⟨ao, c, rfl, rfl, rfl⟩) (by (repeat (first | apply sub_nil | (apply sub_cons; (· (repeat (first | apply sel_here | apply sel_there)))))); done) (by first | exact fun _ h => h | (intro r hr; cases hr; done) | (simp; done) | exact fun _ h => List.mem_append_left _ h | (intro r hr; simp [hr]; done))
      | true =>
        rw [if_pos rfl]
        have w5 := pPad pl (by omega)
        have hpm := padM_b pl
        generalize padM pl = y at w5 hpm ⊢
        obtain ⟨pn, pe⟩ := y
        dsimp only at w5 hpm ⊢
        (repeat (first | ((first | (apply wo_v; rfl) ); (· first | (apply pv_ev; rfl) | (apply g_pick; first | (apply pv_pick_t; rfl; rfl) ) | (apply g_bin; first | (apply pv_and; rfl; rfl) ) )) | apply wo_nil | (apply wc_true; rfl) | (apply wc_false; rfl) | (apply a_dec_t; rfl; (· first | assumption | omega)) | (apply a_dec_f; rfl; (· first | assumption | omega)) | (apply a_dec_t; rfl; (· first | (simp; done) | (simp; omega))) | (apply a_dec_f; rfl; (· first | (simp; done) | (simp; omega))) | (apply wo_run; rfl; rfl) | (apply wo_skip; rfl; rfl; rfl; rfl) | (apply wo_skip_u; rfl; rfl; rfl) | (apply a_gt; rfl; rfl; (· first | assumption | omega)) ))
        rw [x2]
        (repeat (first | ((first | (apply wo_v; rfl) ); (· first | (apply pv_ev; rfl) | (apply pv_fld; rfl) | (apply g_load; first | (apply pv_ld; rfl; (· (repeat (first | apply sel_here | apply sel_there))); rfl) ) )) | apply wc_seq | apply wc_region | (apply wc_true; rfl) ))
        (refine wo_call (w5) rfl (by (repeat (first | apply sub_nil )); done) (by first | exact fun _ h => h | (intro r hr; cases hr; done) | (simp; done) | exact fun _ h => List.mem_append_left _ h | (intro r hr; simp [hr]; done)) rfl ?_; rintro v L' R' ⟨rfl, rfl, rfl⟩ H' hH RR hR; simp only [List.cons_append, List.nil_append] at hH hR; subst hH; have hR := hR.symm; subst hR)
        (repeat (first | ((first | (apply wo_v; rfl) ); (· first | (apply pv_ev; rfl) )) | apply wo_nil | apply wc_seq | apply wc_region ))
        (refine wo_call (octFail g r10.1 r10.2 pe) rfl (by (repeat (first | apply sub_nil )); done) (by first | exact fun _ h => h | (intro r hr; cases hr; done) | (simp; done) | exact fun _ h => List.mem_append_left _ h | (intro r hr; simp [hr]; done)) rfl ?_; rintro v L' R' ⟨rfl, rfl, rfl⟩ H' hH RR hR; simp only [List.cons_append, List.nil_append] at hH hR; subst hH; have hR := hR.symm; subst hR)
        (repeat (first | apply wo_nil ))
        (refine wc_regR [2, 4] [0] (aslL [(2, [0]), (4, [0]), (10, [0]), (12, [0])]) (tblP pn pl bp mrk kd sq t ss (.slice ao cs.length c) ex pf dt) ([rdO g (rdF r10.1 r10.2 pe).1 (rdF r10.1 r10.2 pe).2, csO ao cs.length c cs, rpZ bq]) (fm [(0, [rpI bp mrk kd sq t ss (.slice ao cs.length c) ex pf dt pl 0])]) mixed (by kernel_rfl) (by kernel_rfl) (tblP_rd) (by decide) (aslL_ok (by decide)) (by (repeat (first | (apply prm_cons; (· (repeat (first | apply sel_here | apply sel_there)))) | apply List.Perm.nil )); done) ?_; (repeat (first | (apply HdM.val; rfl; rfl; (· first | apply gok_none ); (· first | (apply pv_ev; rfl) | (apply pv_fld; rfl) )) )))
        (refine hm_eff (cs := [0]) rfl (by decide) rfl rfl (by first | exact gok_none | exact gok_run rfl rfl) (fun a ha => outc_mono (outc_pv (L := [rpI bp mrk kd sq t ss (.slice ao cs.length c) ex pf dt pl 0]) (pv_ld rfl (by (repeat (first | apply sel_here )); done) rfl) a ha) (fun v M h => ⟨[M], And.intro h.1 (congrArg (fun x => [x]) h.2), rfl, by simp⟩)) (⟨_, _, And.intro rfl rfl, rfl⟩) ?_; rintro v Ms ⟨rfl, rfl⟩ _; simp only [setls, setl, reduceIte, Nat.reduceEqDiff]; (repeat (first | (apply HdM.val; rfl; rfl; (· first | apply gok_none ); (· first | (apply pv_ev; rfl) | (apply pv_fld; rfl) )) )))
        (refine hm_eff (cs := [0]) rfl (by decide) rfl rfl (by first | exact gok_none | exact gok_run rfl rfl) (fun a ha => outc_mono (outc_pv (L := [rpI bp mrk kd sq t ss (.slice ao cs.length c) ex pf dt pl 0]) (pv_ld rfl (by (repeat (first | apply sel_here )); done) rfl) a ha) (fun v M h => ⟨[M], And.intro h.1 (congrArg (fun x => [x]) h.2), rfl, by simp⟩)) (⟨_, _, And.intro rfl rfl, rfl⟩) ?_; rintro v Ms ⟨rfl, rfl⟩ _; simp only [setls, setl, reduceIte, Nat.reduceEqDiff]; (repeat (first | (apply HdM.val; rfl; rfl; (· first | apply gok_none ); (· first | (apply pv_ev; rfl) | (apply pv_fld; rfl) | (apply g_bin; first | (apply a_sub; rfl; rfl; infer_instance; omega) ) | (apply g_bi; first | (apply pv_len_str; rfl) ) | (apply pv_cs_hi; rfl; rfl; omega) )) )))
        (refine hm_eff (cs := [0]) rfl (by decide) rfl rfl (by first | exact gok_none | exact gok_run rfl rfl) (fun a ha => outc_mono (outc_st rfl rfl rfl (by (repeat (first | apply SetAt.here | apply SetAt.there)); done) a ha) (fun v M h => ⟨[M], And.intro h.1 (congrArg (fun x => [x]) h.2), rfl, by simp⟩)) (⟨_, _, And.intro rfl rfl, rfl⟩) ?_; rintro v Ms ⟨rfl, rfl⟩ _; simp only [setls, setl, reduceIte, Nat.reduceEqDiff]; (repeat (first | (apply HdM.val; rfl; rfl; (· first | apply gok_none ); (· first | (apply pv_ev; rfl) | (apply pv_fld; rfl) )) )))
        (refine hm_eff (cs := [0]) rfl (by decide) rfl rfl (by first | exact gok_none | exact gok_run rfl rfl) (fun a ha => outc_mono (outc_st rfl rfl rfl (by (repeat (first | apply SetAt.here | apply SetAt.there)); done) a ha) (fun v M h => ⟨[M], And.intro h.1 (congrArg (fun x => [x]) h.2), rfl, by simp⟩)) (⟨_, _, And.intro rfl rfl, rfl⟩) ?_; rintro v Ms ⟨rfl, rfl⟩ _; simp only [setls, setl, reduceIte, Nat.reduceEqDiff]; (repeat (first | fail )))
        (refine HdM.nil ?_; intro H hH; simp only [Hp, fm, look, setl, List.flatMap_cons, List.flatMap_nil, reduceIte, Nat.reduceEqDiff, Option.getD_some, List.append_nil, List.cons_append, List.nil_append] at hH; subst hH)
        by_cases hpe : pe = 0
        · subst hpe
          rw [if_neg (by simp)]
          have ef : rdF r10.1 r10.2 0 = r10 := by unfold rdF; rw [if_neg (by simp)]
          rw [ef]
          (repeat (first | ((first | (apply wo_v; rfl) ); (· first | (apply pv_ev; rfl) )) | apply wc_seq | apply wc_region ))
          (refine wo_call (octErr g r10.1 r10.2) rfl (by (repeat (first | apply sub_nil )); done) (by first | exact fun _ h => h | (intro r hr; cases hr; done) | (simp; done) | exact fun _ h => List.mem_append_left _ h | (intro r hr; simp [hr]; done)) rfl ?_; rintro v L' R' ⟨rfl, rfl, rfl⟩ H' hH RR hR; simp only [List.cons_append, List.nil_append] at hH hR; subst hH; have hR := hR.symm; subst hR)
          (repeat (first | ((first | (apply wo_v; rfl) ); (· first | (apply pv_ev; rfl) | (apply g_load; first | (apply pv_lda; rfl; (· (repeat (first | apply sel_here | apply sel_there))); (· (repeat (first | apply Cut.here0 | apply Cut.here )))) ) )) | apply wo_nil | apply wc_seq | apply wc_region | apply wc_skip | apply wc_ret | (apply wc_true; rfl) | (apply wc_false; rfl) | (apply a_dec_t; rfl; (· first | assumption | omega)) | (apply a_dec_f; rfl; (· first | assumption | omega)) | (apply wo_sta; rfl; rfl; rfl; rfl; (· (repeat (first | apply sel_here | apply sel_there))); (· (repeat (first | apply LayAt.nil | apply LayAt.here ))); rfl) ))
          exact retv rfl (by (repeat (first | apply RV.nil | (apply RV.tmp; rfl) | (apply RV.agg; rfl; (· (repeat (first | apply sel_here ))); infer_instance; (· (repeat (first | apply Cut.here0 | apply Cut.here )))) )); done) (⟨ao, c, rfl, rfl, rfl⟩) (by (repeat (first | apply sub_nil | (apply sub_cons; (· (repeat (first | apply sel_here | apply sel_there)))))); done) (by first | exact fun _ h => h | (intro r hr; cases hr; done) | (simp; done) | exact fun _ h => List.mem_append_left _ h | (intro r hr; simp [hr]; done))
        · rw [if_pos hpe]
          have ef : rdF r10.1 r10.2 pe = (E0, pe) := by unfold rdF; rw [if_pos ⟨he, hpe⟩]
          rw [ef]
          refine wc_own0 30 1 ?_
          (repeat (first | ((first | (apply wo_v; rfl) ); (· first | (apply pv_ev; rfl) )) | apply wc_seq | apply wc_region ))
          (refine wo_call (octErr g E0 pe) rfl (by (repeat (first | apply sub_nil | (apply sub_cons; (· (repeat (first | apply sel_here | apply sel_there)))))); done) (by first | exact fun _ h => h | (intro r hr; cases hr; done) | (simp; done) | exact fun _ h => List.mem_append_left _ h | (intro r hr; simp [hr]; done)) rfl ?_; rintro v L' R' ⟨rfl, rfl, rfl⟩ H' hH RR hR; simp only [List.cons_append, List.nil_append] at hH hR; subst hH; have hR := hR.symm; subst hR)
          (repeat (first | ((first | (apply wo_v; rfl) ); (· first | (apply pv_ev; rfl) | (apply g_build; apply pv_build; (· (repeat (first | apply Bld.nil )))) )) | apply wo_nil | apply wc_seq | apply wc_region | apply wc_ret | (apply wc_true; rfl) | (apply wc_false; rfl) | (apply a_dec_t; rfl; (· first | assumption | omega)) | (apply wo_sta; rfl; rfl; rfl; rfl; (· (repeat (first | apply sel_here | apply sel_there))); (· (repeat (first | apply LayAt.nil | apply LayAt.here ))); rfl) ))
          exact retv rfl (by (repeat (first | apply RV.nil | (apply RV.tmp; rfl) | (apply RV.agg; rfl; (· (repeat (first | apply sel_here ))); infer_instance; (· (repeat (first | apply Cut.here0 | apply Cut.here )))) )); done) (⟨none, 0, rfl, rfl, rfl⟩) (by (repeat (first | apply sub_nil | (apply sub_cons; (· (repeat (first | apply sel_here | apply sel_there)))))); done) (by first | exact fun _ h => h | (intro r hr; cases hr; done) | (simp; done) | exact fun _ h => List.mem_append_left _ h | (intro r hr; simp [hr]; done))
    · rw [if_pos he]
      refine wo_own0 30 1 ?_
      (repeat (first | ((first | (apply wo_v; rfl) ); (· first | (apply pv_ev; rfl) | (apply g_pick; first | (apply pv_pick_t; rfl; rfl) | (apply pv_pick_f; rfl; rfl)) )) | apply wo_nil | apply wc_seq | apply wc_region | apply wc_skip | (apply wc_true; rfl) | (apply wc_false; rfl) | (apply wo_run; rfl; rfl) | (apply wo_skip; rfl; rfl; rfl; rfl) | (apply wo_skip_u; rfl; rfl; rfl) | (apply a_gt; rfl; rfl; (· first | assumption | omega)) | (apply a_gf; rfl; rfl; (· first | assumption | omega)) ))
      (refine wo_call (octErr g r10.1 r10.2) rfl (by (repeat (first | apply sub_nil | (apply sub_cons; (· (repeat (first | apply sel_here | apply sel_there)))))); done) (by first | exact fun _ h => h | (intro r hr; cases hr; done) | (simp; done) | exact fun _ h => List.mem_append_left _ h | (intro r hr; simp [hr]; done)) rfl ?_; rintro v L' R' ⟨rfl, rfl, rfl⟩ H' hH RR hR; simp only [List.cons_append, List.nil_append] at hH hR; subst hH; have hR := hR.symm; subst hR)
      (repeat (first | ((first | (apply wo_v; rfl) ); (· first | (apply pv_ev; rfl) | (apply g_build; apply pv_build; (· (repeat (first | apply Bld.nil )))) )) | apply wo_nil | apply wc_seq | apply wc_region | apply wc_ret | (apply wc_true; rfl) | (apply wc_false; rfl) | (apply a_dec_t; rfl; (· first | assumption | omega)) | (apply wo_sta; rfl; rfl; rfl; rfl; (· (repeat (first | apply sel_here | apply sel_there))); (· (repeat (first | apply LayAt.nil | apply LayAt.here ))); rfl) ))
      exact retv rfl (by (repeat (first | apply RV.nil | (apply RV.tmp; rfl) | (apply RV.agg; rfl; (· (repeat (first | apply sel_here ))); infer_instance; (· (repeat (first | apply Cut.here0 | apply Cut.here )))) )); done) (⟨none, 0, rfl, rfl, rfl⟩) (by (repeat (first | apply sub_nil | (apply sub_cons; (· (repeat (first | apply sel_here | apply sel_there)))))); done) (by first | exact fun _ h => h | (intro r hr; cases hr; done) | (simp; done) | exact fun _ h => List.mem_append_left _ h | (intro r hr; simp [hr]; done))
end Go.Proofs.Ytlhlidmhlhodiaa
