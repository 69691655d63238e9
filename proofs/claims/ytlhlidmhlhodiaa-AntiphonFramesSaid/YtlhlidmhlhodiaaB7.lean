/-
  Texts of this proof, laid together (part 7 of 8).
-/
import Derived.Test.YtlhlidmhlhodiaaB6
/-
  Package rtp: Parse.
-/
namespace Go.Proofs.Ytlhlidmhlhodiaa
set_option linter.unusedSimpArgs false
set_option linter.unusedVariables false
set_option linter.unusedSimpArgs false
set_option linter.unusedVariables false
open Go.RowKit
attribute [local irreducible] Pv WO WC Fn
set_option maxRecDepth 100000
attribute [local irreducible] ByteArray.extract

def tK (k : Int) (r : Rs) : Int × Rs := (valK (rdB r.1 r.2 k).1 (rdB r.1 r.2 k).1.size, (rdB r.1 r.2 k).2)
theorem tK_size (k : Int) (r : Rs) : (tK k r).2.1.size ≤ r.1.size := rdB_size2 r.1 r.2 k
theorem pU8 (g : Nat) (r : Rs) (hs : r.1.size ≤ 1000000) : Fn Try.prog 63 #[.pointer (some ⟨g, 0, none⟩)] [rdO g r.1 r.2] [] (fun v L' R' => v = .int .u8 (tK 1 r).1 ∧ L' = [rdO g (tK 1 r).2.1 (tK 1 r).2.2] ∧ R' = []) := octU8 g r.1 _ _ r.2 _ (by omega) rfl
theorem pU16 (g : Nat) (r : Rs) (hs : r.1.size ≤ 1000000) : Fn Try.prog 65 #[.pointer (some ⟨g, 0, none⟩)] [rdO g r.1 r.2] [] (fun v L' R' => v = .int .u16 (tK 2 r).1 ∧ L' = [rdO g (tK 2 r).2.1 (tK 2 r).2.2] ∧ R' = []) := octU16 g r.1 _ _ r.2 _ (by omega) rfl
theorem pU32 (g : Nat) (r : Rs) (hs : r.1.size ≤ 1000000) : Fn Try.prog 66 #[.pointer (some ⟨g, 0, none⟩)] [rdO g r.1 r.2] [] (fun v L' R' => v = .int .u32 (tK 4 r).1 ∧ L' = [rdO g (tK 4 r).2.1 (tK 4 r).2.2] ∧ R' = []) := octU32 g r.1 _ _ r.2 _ (by omega) rfl
theorem tK2_b (r : Rs) : 0 ≤ (tK 2 r).1 ∧ (tK 2 r).1 ≤ 65535 := by
  have h : (rdB r.1 r.2 2).1.size ≤ 2 := by have := rdB_size r.1 r.2 2 (by omega); omega
  have h1 := valK_b (rdB r.1 r.2 2).1
  show 0 ≤ valK _ _ ∧ valK _ _ ≤ 65535
  have h2 : (rdB r.1 r.2 2).1.size = 0 ∨ (rdB r.1 r.2 2).1.size = 1 ∨ (rdB r.1 r.2 2).1.size = 2 := by omega
  rcases h2 with h2 | h2 | h2
  · rw [h2]; simp [valK]
  · rw [h2]; exact ⟨h1.1 1, by have := h1.2.1; omega⟩
  · rw [h2]; exact ⟨h1.1 2, h1.2.2.1⟩
/-- the sources -/
def csN (r : Rs) : Nat → List Int × Rs
  | 0 => ([], r)
  | n + 1 => ((csN r n).1 ++ [(tK 4 (csN r n).2).1], (tK 4 (csN r n).2).2)
theorem csN_len (r : Rs) : ∀ n, (csN r n).1.length = n
  | 0 => rfl
  | n + 1 => by simp [csN, csN_len r n]
theorem csN_size (r : Rs) : ∀ n, (csN r n).2.1.size ≤ r.1.size
  | 0 => Nat.le_refl _
  | n + 1 => Nat.le_trans (tK_size _ _) (csN_size r n)
abbrev crs (l : List Int) : List (List Value) := l.map fun z => [.int .u32 z]
abbrev csO (ao : Option Addr) (n c : Nat) (l : List Int) : It := .own 30 1 ao n c (crs l)
abbrev rpI (b : Nat) (mrk : Bool) (kd sq t ss : Int) (cs : Value) (ex : Bool) (pf : Int) (dt pl : ByteArray) (pd : Int) : It := .ob b (.cells (rpR mrk kd sq t ss cs ex pf dt pl pd).toArray 33 (0, 0))
abbrev rpZ (b : Nat) : It := rpI b false 0 0 0 0 (.slice none 0 0) false 0 ByteArray.empty ByteArray.empty 0
theorem outc_frm {P : Program} {E : Env} {B0 X L : List It} {ro : List Ro} {o : Oper} {a : Act} {T : Value → List It → Prop} (h : Outc P E B0 ro o a L T) : Outc P E B0 ro o a (X ++ L) (fun v M => ∃ M0, T v M0 ∧ M = X ++ M0) := fun F w hw => by
  have pm : ∀ Y : List It, ((X ++ Y) ++ (B0 ++ F)).Perm (Y ++ (B0 ++ (X ++ F))) := fun Y => by
    rw [List.append_assoc]
    refine List.perm_append_comm.trans ?_
    rw [List.append_assoc, List.append_assoc]
    refine List.Perm.append_left Y ?_
    exact List.Perm.append_left B0 List.perm_append_comm
  have h1 := h (X ++ F) w (hw.perm (pm L))
  cases hr : (execOp a.eval o).run P w with
  | ok v w' =>
    rw [hr] at h1
    cases v with
    | value v =>
      obtain ⟨M, h2, h3⟩ := h1
      exact ⟨X ++ M, ⟨M, h2, rfl⟩, h3.perm (pm M).symm⟩
    | skip =>
      obtain ⟨M, h2, h3⟩ := h1
      exact ⟨X ++ M, ⟨M, h2, rfl⟩, h3.perm (pm M).symm⟩
    | enter f args =>
      obtain ⟨h0, h1⟩ := h1
      exact ⟨h0, h1.mono fun e w'' ⟨v, M, h2, h3, h4⟩ => ⟨v, X ++ M, h2, ⟨M, h3, rfl⟩, h4.perm (pm M).symm⟩⟩
    | _ => exact h1
  | _ => rw [hr] at h1; exact h1
theorem and8_127 {a : Int} : 0 ≤ a ∧ a ≤ 255 → bits .and .u8 a 127 = a % 128 := u8_all (p := fun a => bits .and .u8 a 127 = a % 128) (by decide +kernel)
theorem and8_15 {a : Int} : 0 ≤ a ∧ a ≤ 255 → bits .and .u8 a 15 = a % 16 := u8_all (p := fun a => bits .and .u8 a 15 = a % 16) (by decide +kernel)
theorem outc_frmA {P : Program} {N : Nat} {E : Env} {fr : List (Nat × Value)} {B0 X L : List It} {ro : List Ro} {o : Oper} {T : Value → List It → Prop} (h : ∀ a, Holds N fr a → Outc P E B0 ro o a L T) : ∀ a, Holds N fr a → Outc P E B0 ro o a (X ++ L) (fun v M => ∃ M0, T v M0 ∧ M = X ++ M0) := fun a ha => outc_frm (h a ha)
abbrev csO' (ao : Option Addr) (n c : Nat) (xs : List (List Value)) : It := .own 30 1 ao n c xs
theorem csO_snoc (ao : Option Addr) (n c : Nat) (l : List Int) (x : Int) : csO ao n c (l ++ [x]) = csO' ao n c (crs l ++ crs [x]) := by simp [crs]
def tblC (g : Nat) (x : Int) (r2 : Rs) (bp : Nat) (mrk : Bool) (kd sq t ss : Int) (ex : Bool) (ao : Option Addr) (c : Nat) (l : List Int) : Nat → List (List It) → Value → List (List It) → Prop := fun k Ls v Ms => match k, Ls with
  | 1, [y] => v = .slice ao l.length c ∧ Ms = [y]
  | 3, _ => v = .int .u32 x ∧ Ms = [[rdO g r2.1 r2.2]]
  | 4, _ => ∃ b, v = .slice (some ⟨b, 0, none⟩) 1 1 ∧ Ms = [[csO (some ⟨b, 0, none⟩) 1 1 [x]]]
  | 5, [_, y] => ∃ ao2 c2, v = .slice ao2 (l.length + 1) c2 ∧ Ms = [[.own 30 1 ao2 (l.length + 1) c2 (crs l ++ crs [x])], y]
  | 7, [[.own T2 sz ao2 n2 c2 xs], _] => v = undef ∧ Ms = [[.own T2 sz ao2 n2 c2 xs], [rpI bp mrk kd sq t ss (.slice ao2 n2 c2) ex 0 ByteArray.empty ByteArray.empty 0]]
  | _, _ => False
theorem pPadE : Fn Try.prog 69 #[.string E0] [] [] (fun v L' R' => v = .tuple #[.int .i64 0, .int .i64 1] ∧ L' = [] ∧ R' = []) := by
  refine fn_intro Try.func69 rfl Try.ntmps69 rfl (fun E => ?_)
  (repeat (first | ((first | (apply wo_v; rfl) ); (· first | (apply pv_ev; rfl) | (apply g_bin; first | (apply pv_eql_s; rfl; rfl) ) )) | apply wo_nil | apply wc_seq | apply wc_region | apply wc_ret | (apply wc_true; rfl) ))
  exact ret2 rfl rfl rfl ⟨rfl, rfl, rfl⟩ ((by (repeat (first | apply sub_nil )); done) : List.Perm _ ([] ++ _)) (by first | exact fun _ h => h | (intro r hr; cases hr; done) | (simp; done) | exact fun _ h => List.mem_append_left _ h | (intro r hr; simp [hr]; done))
def padM (s : ByteArray) : Int × Int := if s = E0 then (0, 1) else if sb s (s.size - 1) = 0 then (0, 2) else if (s.size : Int) < sb s (s.size - 1) then (0, 1) else (sb s (s.size - 1), 0)
theorem pPad (s : ByteArray) (hs : s.size ≤ 1000000) : Fn Try.prog 69 #[.string s] [] [] (fun v L' R' => v = .tuple #[.int .i64 (padM s).1, .int .i64 (padM s).2] ∧ L' = [] ∧ R' = []) := by
  by_cases h0 : s = E0
  · subst h0; exact pPadE
  · have h1 : 0 < s.size := by
      rcases Nat.eq_zero_or_pos s.size with h | h
      · exact absurd (ByteArray.size_eq_zero_iff.1 h) h0
      · exact h
    have e1 : ((s.size : Int) - 1).toNat = s.size - 1 := by omega
    have hb := sb_b s (s.size - 1)
    have hb' := sb_b s ((s.size : Int) - 1).toNat
    unfold padM
    rw [if_neg h0]
    by_cases h2 : sb s (s.size - 1) = 0
    · rw [if_pos h2]
      refine fn_intro Try.func69 rfl Try.ntmps69 rfl (fun E => ?_)
      (repeat (first | ((first | (apply wo_v; rfl) ); (· first | (apply pv_ev; rfl) | (apply g_bin; first | (apply a_sub; rfl; rfl; infer_instance; omega) | (apply pv_eql_s; rfl; rfl) ) | (apply g_bi; first | (apply pv_len_str; rfl) ) | (apply g_conv; first | (apply a_conv; rfl; infer_instance; infer_instance; infer_instance; omega) ) | (apply pv_index_sn; rfl; rfl; omega) | (apply pv_index_s; rfl; rfl; omega))) | apply wo_nil | apply wc_seq | apply wc_region | apply wc_skip | (apply wc_true; rfl) | (apply wc_false; rfl) | (apply a_dec_t; rfl; (· first | assumption | omega)) | (apply a_dec_f; rfl; (· first | assumption | omega)) ))
      rw [e1]
      refine wc_block ?_
      (repeat (first | ((first | (apply wo_v; rfl) ); (· first | (apply pv_ev; rfl) )) | apply wo_nil | apply wc_seq | apply wc_region | apply wc_ret | (apply wc_true; rfl) | (apply wc_false; rfl) | (apply a_dec_t; rfl; (· first | assumption | omega)) ))
      exact ret2 rfl rfl rfl ⟨rfl, rfl, rfl⟩ ((by (repeat (first | apply sub_nil )); done) : List.Perm _ ([] ++ _)) (by first | exact fun _ h => h | (intro r hr; cases hr; done) | (simp; done) | exact fun _ h => List.mem_append_left _ h | (intro r hr; simp [hr]; done))
    · rw [if_neg h2]
      by_cases h3 : (s.size : Int) < sb s (s.size - 1)
      · rw [if_pos h3]
        refine fn_intro Try.func69 rfl Try.ntmps69 rfl (fun E => ?_)
        (repeat (first | ((first | (apply wo_v; rfl) ); (· first | (apply pv_ev; rfl) | (apply g_bin; first | (apply a_sub; rfl; rfl; infer_instance; omega) | (apply pv_eql_s; rfl; rfl) ) | (apply g_bi; first | (apply pv_len_str; rfl) ) | (apply g_conv; first | (apply a_conv; rfl; infer_instance; infer_instance; infer_instance; omega) ) | (apply pv_index_sn; rfl; rfl; omega) | (apply pv_index_s; rfl; rfl; omega))) | apply wo_nil | apply wc_seq | apply wc_region | apply wc_skip | (apply wc_true; rfl) | (apply wc_false; rfl) | (apply a_dec_t; rfl; (· first | assumption | omega)) | (apply a_dec_f; rfl; (· first | assumption | omega)) ))
        rw [e1]
        refine wc_block ?_
        (repeat (first | ((first | (apply wo_v; rfl) ); (· first | (apply pv_ev; rfl) | (apply g_bi; first | (apply pv_len_str; rfl) ) )) | apply wo_nil | apply wc_seq | apply wc_region | apply wc_ret | (apply wc_true; rfl) | (apply wc_false; rfl) | (apply a_dec_t; rfl; (· first | assumption | omega)) | (apply a_dec_f; rfl; (· first | assumption | omega)) ))
        exact ret2 rfl rfl rfl ⟨rfl, rfl, rfl⟩ ((by (repeat (first | apply sub_nil )); done) : List.Perm _ ([] ++ _)) (by first | exact fun _ h => h | (intro r hr; cases hr; done) | (simp; done) | exact fun _ h => List.mem_append_left _ h | (intro r hr; simp [hr]; done))
      · rw [if_neg h3]
        refine fn_intro Try.func69 rfl Try.ntmps69 rfl (fun E => ?_)
        (repeat (first | ((first | (apply wo_v; rfl) ); (· first | (apply pv_ev; rfl) | (apply g_bin; first | (apply a_sub; rfl; rfl; infer_instance; omega) | (apply pv_eql_s; rfl; rfl) ) | (apply g_bi; first | (apply pv_len_str; rfl) ) | (apply g_conv; first | (apply a_conv; rfl; infer_instance; infer_instance; infer_instance; omega) ) | (apply pv_index_sn; rfl; rfl; omega) | (apply pv_index_s; rfl; rfl; omega))) | apply wo_nil | apply wc_seq | apply wc_region | apply wc_skip | (apply wc_true; rfl) | (apply wc_false; rfl) | (apply a_dec_t; rfl; (· first | assumption | omega)) | (apply a_dec_f; rfl; (· first | assumption | omega)) ))
        rw [e1]
        refine wc_block ?_
        (repeat (first | ((first | (apply wo_v; rfl) ); (· first | (apply pv_ev; rfl) | (apply g_bi; first | (apply pv_len_str; rfl) ) )) | apply wo_nil | apply wc_seq | apply wc_region | apply wc_skip | apply wc_ret | (apply wc_true; rfl) | (apply wc_false; rfl) | (apply a_dec_t; rfl; (· first | assumption | omega)) | (apply a_dec_f; rfl; (· first | assumption | omega)) ))
        exact ret2 rfl rfl rfl ⟨rfl, rfl, rfl⟩ ((by (repeat (first | apply sub_nil )); done) : List.Perm _ ([] ++ _)) (by first | exact fun _ h => h | (intro r hr; cases hr; done) | (simp; done) | exact fun _ h => List.mem_append_left _ h | (intro r hr; simp [hr]; done))
/-- a packet -/
structure Rp where
  mrk : Bool
  kd : Int
  sq : Int
  t : Int
  ss : Int
  cs : List Int
  ex : Bool
  pf : Int
  dt : ByteArray
  pl : ByteArray
  pd : Int
def Rp0 : Rp := ⟨false, 0, 0, 0, 0, [], false, 0, ByteArray.empty, ByteArray.empty, 0⟩
theorem padM_b (s : ByteArray) : 0 ≤ (padM s).1 ∧ (padM s).1 ≤ s.size := by
  have := sb_b s (s.size - 1)
  unfold padM
  split
  · dsimp only; omega
  · split
    · dsimp only; omega
    · split <;> dsimp only <;> omega
def tblP (pn : Int) (pl : ByteArray) (bp : Nat) (mrk : Bool) (kd sq t ss : Int) (cs : Value) (ex : Bool) (pf : Int) (dt : ByteArray) : Nat → List (List It) → Value → List (List It) → Prop := fun k Ls v Ms => match k, Ls with
  | 2, _ => v = .string pl ∧ Ms = Ls
  | 4, _ => v = .string pl ∧ Ms = Ls
  | 10, _ => v = undef ∧ Ms = [[rpI bp mrk kd sq t ss cs ex pf dt pl pn]]
  | _, _ => v = undef ∧ Ms = [[rpI bp mrk kd sq t ss cs ex pf dt (pl.extract 0 ((pl.size : Int) - pn).toNat) pn]]
theorem tblP_rd {pn : Int} {pl : ByteArray} {bp : Nat} {mrk : Bool} {kd sq t ss : Int} {cs : Value} {ex : Bool} {pf : Int} {dt : ByteArray} : ∀ k ∈ [2, 4], Rdr (tblP pn pl bp mrk kd sq t ss cs ex pf dt) k := fun k hk L v Ms h => by
  simp only [List.mem_cons, List.not_mem_nil, or_false] at hk
  rcases hk with rfl | rfl
  · exact h.2
  · exact h.2
def exR (b : Bool) (r : Rs) : Int × ByteArray × Rs := if b = true then ((tK 2 r).1, (rdB (tK 2 (tK 2 r).2).2.1 (tK 2 (tK 2 r).2).2.2 (4 * (tK 2 (tK 2 r).2).1)).1, (rdB (tK 2 (tK 2 r).2).2.1 (tK 2 (tK 2 r).2).2.2 (4 * (tK 2 (tK 2 r).2).1)).2) else (0, ByteArray.empty, r)
/-- what stands behind the head -/
def enR (p : Rp) (pa : Bool) (r : Rs) : Rp × Int :=
  if (rdB r.1 r.2 r.1.size).2.2 ≠ 0 then (Rp0, (rdB r.1 r.2 r.1.size).2.2)
  else if pa = true then (if (padM (rdB r.1 r.2 r.1.size).1).2 ≠ 0 then (Rp0, (padM (rdB r.1 r.2 r.1.size).1).2) else ({ p with pl := (rdB r.1 r.2 r.1.size).1.extract 0 (((rdB r.1 r.2 r.1.size).1.size : Int) - (padM (rdB r.1 r.2 r.1.size).1).1).toNat, pd := (padM (rdB r.1 r.2 r.1.size).1).1 }, 0))
  else ({ p with pl := (rdB r.1 r.2 r.1.size).1 }, 0)
def prR (s : ByteArray) : Rp × Int :=
  if 1500 < s.size then (Rp0, 4) else
  let x := tK 1 (s, 0)
  let y := tK 1 x.2
  if y.2.2 = 0 ∧ x.1 / 64 ≠ 2 then (Rp0, 2) else
  let q := tK 2 y.2
  let t := tK 4 q.2
  let z := tK 4 t.2
  let c := csN z.2 (x.1 % 16).toNat
  let e := exR (decide (x.1 / 16 % 2 = 1)) c.2
  enR ⟨decide (127 < y.1), y.1 % 128, q.1, t.1, z.1, c.1, decide (x.1 / 16 % 2 = 1), e.1, e.2.1, ByteArray.empty, 0⟩ (decide (x.1 / 32 % 2 = 1)) e.2.2
set_option maxHeartbeats 16000000 in
theorem pParse (s : ByteArray) (hs : s.size ≤ 100000) : Fn Try.prog 15 #[.string s] [] []
    (fun v L' R' => ∃ ao c, v = .tuple #[.agg (rpR (prR s).1.mrk (prR s).1.kd (prR s).1.sq (prR s).1.t (prR s).1.ss (.slice ao (prR s).1.cs.length c) (prR s).1.ex (prR s).1.pf (prR s).1.dt (prR s).1.pl (prR s).1.pd).toArray, .int .i64 (prR s).2]
      ∧ L' = [csO ao (prR s).1.cs.length c (prR s).1.cs] ∧ R' = []) := by
  unfold prR
  by_cases h0 : 1500 < s.size
  · rw [if_pos h0]
    refine fn_intro Try.func15 rfl Try.ntmps15 rfl (fun E => ?_)
    refine wc_own0 30 1 ?_
    (repeat (first | ((first | (apply wo_v; rfl) ); (· first | (apply pv_ev; rfl) | (apply g_bi; first | (apply pv_len_str; rfl) ) | (apply g_build; apply pv_build; (· (repeat (first | apply Bld.nil )))) )) | apply wo_nil | apply wc_seq | apply wc_region | apply wc_ret | (apply wc_true; rfl) | (apply wc_false; rfl) | (apply a_dec_t; rfl; (· first | assumption | omega)) | (apply wo_alloc; rfl; intro bx) | (apply wo_sta; rfl; rfl; rfl; rfl; (· (repeat (first | apply sel_here ))); (· (repeat (first | apply LayAt.nil | apply LayAt.here ))); rfl) ))
    exact retv rfl (by (repeat (first | apply RV.nil | (apply RV.tmp; rfl) | (apply RV.agg; rfl; (· (repeat (first | apply sel_here ))); infer_instance; (· (repeat (first | apply Cut.here0 | apply Cut.here )))) )); done) (⟨none, 0, rfl, rfl, rfl⟩) (by (repeat (first | apply sub_nil | (apply sub_cons; (· (repeat (first | apply sel_here | apply sel_there)))))); done) (by first | exact fun _ h => h | (intro r hr; cases hr; done) | (simp; done) | exact fun _ h => List.mem_append_left _ h | (intro r hr; simp [hr]; done))
  rw [if_neg h0]
  dsimp only
  have s1 := tK_size 1 (s, 0)
  have hx := t1_b (s, 0)
  have c1 := fun g => pU8 g (s, 0) (by dsimp only; omega)
  rw [show t1 (s, 0) = tK 1 (s, 0) from rfl] at hx
  generalize tK 1 (s, 0) = x at c1 hx s1 ⊢
  obtain ⟨a, r1⟩ := x
  dsimp only at c1 hx s1 ⊢
  have s2 := tK_size 1 r1
  have hy := t1_b r1
  have c2 := fun g => pU8 g r1 (by omega)
  rw [show t1 r1 = tK 1 r1 from rfl] at hy
  generalize tK 1 r1 = y at c2 hy s2 ⊢
  obtain ⟨b, r2⟩ := y
  dsimp only at c2 hy s2 ⊢
  by_cases h2 : r2.2 = 0 ∧ a / 64 ≠ 2
  · rw [if_pos h2]
    obtain ⟨h3, h4⟩ := h2
    refine fn_intro Try.func15 rfl Try.ntmps15 rfl (fun E => ?_)
    refine wc_own0 30 1 ?_
    (repeat (first | ((first | (apply wo_v; rfl) ); (· first | (apply pv_ev; rfl) | (apply g_bi; first | (apply pv_len_str; rfl) ) )) | apply wo_nil | apply wc_seq | apply wc_region | apply wc_skip | (apply wc_true; rfl) | (apply wc_false; rfl) | (apply a_dec_t; rfl; (· first | assumption | omega)) | (apply a_dec_f; rfl; (· first | assumption | omega)) | (apply wo_alloc; rfl; intro bx) ))
    (refine wo_call (octRead s) rfl (by (repeat (first | apply sub_nil )); done) (by first | exact fun _ h => h | (intro r hr; cases hr; done) | (simp; done) | exact fun _ h => List.mem_append_left _ h | (intro r hr; simp [hr]; done)) rfl ?_; rintro v L' R' ⟨g, rfl, rfl, rfl⟩ H' hH RR hR; simp only [List.cons_append, List.nil_append] at hH hR; subst hH; have hR := hR.symm; subst hR)
    (repeat (first | ((first | (apply wo_v; rfl) ); (· first | (apply pv_ev; rfl) )) | apply wo_nil | apply wc_seq | apply wc_region ))
    (refine wo_call (c1 g) rfl (by (repeat (first | apply sub_nil )); done) (by first | exact fun _ h => h | (intro r hr; cases hr; done) | (simp; done) | exact fun _ h => List.mem_append_left _ h | (intro r hr; simp [hr]; done)) rfl ?_; rintro v L' R' ⟨rfl, rfl, rfl⟩ H' hH RR hR; simp only [List.cons_append, List.nil_append] at hH hR; subst hH; have hR := hR.symm; subst hR)
    (repeat (first | ((first | (apply wo_v; rfl) ); (· first | (apply pv_ev; rfl) )) ))
    (refine wo_call (c2 g) rfl (by (repeat (first | apply sub_nil )); done) (by first | exact fun _ h => h | (intro r hr; cases hr; done) | (simp; done) | exact fun _ h => List.mem_append_left _ h | (intro r hr; simp [hr]; done)) rfl ?_; rintro v L' R' ⟨rfl, rfl, rfl⟩ H' hH RR hR; simp only [List.cons_append, List.nil_append] at hH hR; subst hH; have hR := hR.symm; subst hR)
    (repeat (first | ((first | (apply wo_v; rfl) ); (· first | (apply pv_ev; rfl) )) | apply wo_nil | apply wc_seq | apply wc_region ))
    (refine wo_call (octErr g r2.1 r2.2) rfl (by (repeat (first | apply sub_nil )); done) (by first | exact fun _ h => h | (intro r hr; cases hr; done) | (simp; done) | exact fun _ h => List.mem_append_left _ h | (intro r hr; simp [hr]; done)) rfl ?_; rintro v L' R' ⟨rfl, rfl, rfl⟩ H' hH RR hR; simp only [List.cons_append, List.nil_append] at hH hR; subst hH; have hR := hR.symm; subst hR)
    (repeat (first | ((first | (apply wo_v; rfl) ); (· first | (apply pv_ev; rfl) | (apply g_pick; first | (apply pv_pick_t; rfl; rfl) ) | (apply g_bin; first | (apply a_shr; rfl; rfl; rfl; omega; rfl) ) | (apply g_build; apply pv_build; (· (repeat (first | apply Bld.nil )))) )) | apply wo_nil | apply wc_seq | apply wc_region | apply wc_ret | (apply wc_true; rfl) | (apply wc_false; rfl) | (apply a_dec_t; rfl; (· first | assumption | omega)) | (apply wo_run; rfl; rfl) | (apply wo_skip; rfl; rfl; rfl; rfl) | (apply wo_skip_u; rfl; rfl; rfl) | (apply a_gt; rfl; rfl; (· first | assumption | omega)) | (apply wo_sta; rfl; rfl; rfl; rfl; (· (repeat (first | apply sel_here | apply sel_there))); (· (repeat (first | apply LayAt.nil | apply LayAt.here ))); rfl) ))
    exact retv rfl (by (repeat (first | apply RV.nil | (apply RV.tmp; rfl) | (apply RV.agg; rfl; (· (repeat (first | apply sel_here ))); infer_instance; (· (repeat (first | apply Cut.here0 | apply Cut.here )))) )); done) (⟨none, 0, rfl, rfl, rfl⟩) (by (repeat (first | apply sub_nil | (apply sub_cons; (· (repeat (first | apply sel_here | apply sel_there)))))); done) (by first | exact fun _ h => h | (intro r hr; cases hr; done) | (simp; done) | exact fun _ h => List.mem_append_left _ h | (intro r hr; simp [hr]; done))
  rw [if_neg h2]
  have h3 : ¬ r2.2 = 0 ∨ (r2.2 = 0 ∧ a / 64 = 2) := by omega
  clear h2
  have s3 := tK_size 2 r2
  have c3 := fun g => pU16 g r2 (by omega)
  generalize tK 2 r2 = q at c3 s3 ⊢
  obtain ⟨sq, r3⟩ := q
  dsimp only at c3 s3 ⊢
  have s4 := tK_size 4 r3
  have c4 := fun g => pU32 g r3 (by omega)
  generalize tK 4 r3 = q at c4 s4 ⊢
  obtain ⟨t, r4⟩ := q
  dsimp only at c4 s4 ⊢
  have s5 := tK_size 4 r4
  have c5 := fun g => pU32 g r4 (by omega)
  generalize tK 4 r4 = q at c5 s5 ⊢
  obtain ⟨ss, r5⟩ := q
  dsimp only at c5 s5 ⊢
  have hc16 : 0 ≤ a % 16 ∧ a % 16 ≤ 15 := by omega
  have x16 : bits .and .u8 a 15 = a % 16 := and8_15 hx
  have x128 : bits .and .u8 b 127 = b % 128 := and8_127 hy
  have x1 : decide (0 < bits .and .u8 a 16) = decide (a / 16 % 2 = 1) := by rw [and8_16 hx]; exact decide_eq_decide.2 (by omega)
  have x2 : decide (0 < bits .and .u8 a 32) = decide (a / 32 % 2 = 1) := by rw [and8_32 hx]; exact decide_eq_decide.2 (by omega)
  obtain ⟨N, hN⟩ : ∃ N : Nat, a % 16 = (N : Int) := ⟨(a % 16).toNat, by omega⟩
  have hN2 : (a % 16).toNat = N := by omega
  rw [hN2]
  generalize hmrk : decide (127 < b) = mrk, hkd : b % 128 = kd, hex : decide (a / 16 % 2 = 1) = ex, hpa : decide (a / 32 % 2 = 1) = pa
  rw [hkd] at x128
  rw [hex] at x1
  rw [hpa] at x2
  rcases h3 with h3 | ⟨h3, h4⟩
  all_goals
    refine fn_intro Try.func15 rfl Try.ntmps15 rfl (fun E => ?_)
    (repeat (first | ((first | (apply wo_v; rfl) ); (· first | (apply pv_ev; rfl) | (apply g_bi; first | (apply pv_len_str; rfl) ) )) | apply wo_nil | apply wc_seq | apply wc_region | apply wc_skip | (apply wc_true; rfl) | (apply wc_false; rfl) | (apply a_dec_t; rfl; (· first | assumption | omega)) | (apply a_dec_f; rfl; (· first | assumption | omega)) | (apply wo_alloc; rfl; intro bx) ))
    obtain ⟨bq, hbq⟩ : ∃ g, g = bx := ⟨_, rfl⟩
    subst hbq
    (refine wo_call (octRead s) rfl (by (repeat (first | apply sub_nil )); done) (by first | exact fun _ h => h | (intro r hr; cases hr; done) | (simp; done) | exact fun _ h => List.mem_append_left _ h | (intro r hr; simp [hr]; done)) rfl ?_; rintro v L' R' ⟨g, rfl, rfl, rfl⟩ H' hH RR hR; simp only [List.cons_append, List.nil_append] at hH hR; subst hH; have hR := hR.symm; subst hR)
    (repeat (first | ((first | (apply wo_v; rfl) ); (· first | (apply pv_ev; rfl) )) | apply wo_nil | apply wc_seq | apply wc_region ))
    (refine wo_call (c1 g) rfl (by (repeat (first | apply sub_nil )); done) (by first | exact fun _ h => h | (intro r hr; cases hr; done) | (simp; done) | exact fun _ h => List.mem_append_left _ h | (intro r hr; simp [hr]; done)) rfl ?_; rintro v L' R' ⟨rfl, rfl, rfl⟩ H' hH RR hR; simp only [List.cons_append, List.nil_append] at hH hR; subst hH; have hR := hR.symm; subst hR)
    (repeat (first | ((first | (apply wo_v; rfl) ); (· first | (apply pv_ev; rfl) )) ))
    (refine wo_call (c2 g) rfl (by (repeat (first | apply sub_nil )); done) (by first | exact fun _ h => h | (intro r hr; cases hr; done) | (simp; done) | exact fun _ h => List.mem_append_left _ h | (intro r hr; simp [hr]; done)) rfl ?_; rintro v L' R' ⟨rfl, rfl, rfl⟩ H' hH RR hR; simp only [List.cons_append, List.nil_append] at hH hR; subst hH; have hR := hR.symm; subst hR)
    (repeat (first | ((first | (apply wo_v; rfl) ); (· first | (apply pv_ev; rfl) )) | apply wo_nil | apply wc_seq | apply wc_region ))
    (refine wo_call (octErr g r2.1 r2.2) rfl (by (repeat (first | apply sub_nil )); done) (by first | exact fun _ h => h | (intro r hr; cases hr; done) | (simp; done) | exact fun _ h => List.mem_append_left _ h | (intro r hr; simp [hr]; done)) rfl ?_; rintro v L' R' ⟨rfl, rfl, rfl⟩ H' hH RR hR; simp only [List.cons_append, List.nil_append] at hH hR; subst hH; have hR := hR.symm; subst hR)
    (repeat (first | ((first | (apply wo_v; rfl) ); (· first | (apply pv_ev; rfl) | (apply g_pick; first | (apply pv_pick_t; rfl; rfl) | (apply pv_pick_f; rfl; rfl)) | (apply g_bin; first | (apply pv_and; rfl; rfl) | (apply a_shr; rfl; rfl; rfl; omega; rfl) ) )) | apply wo_nil | apply wc_seq | apply wc_region | apply wc_skip | (apply wc_true; rfl) | (apply wc_false; rfl) | (apply a_dec_t; rfl; (· first | assumption | omega)) | (apply a_dec_f; rfl; (· first | assumption | omega)) | (apply wo_run; rfl; rfl) | (apply wo_skip; rfl; rfl; rfl; rfl) | (apply wo_skip_u; rfl; rfl; rfl) | (apply a_gt; rfl; rfl; (· first | assumption | omega)) | (apply a_gf; rfl; rfl; (· first | assumption | omega)) ))
    rw [x128]
    (refine wo_call (c3 g) rfl (by (repeat (first | apply sub_nil )); done) (by first | exact fun _ h => h | (intro r hr; cases hr; done) | (simp; done) | exact fun _ h => List.mem_append_left _ h | (intro r hr; simp [hr]; done)) rfl ?_; rintro v L' R' ⟨rfl, rfl, rfl⟩ H' hH RR hR; simp only [List.cons_append, List.nil_append] at hH hR; subst hH; have hR := hR.symm; subst hR)
    (repeat (first | ((first | (apply wo_v; rfl) ); (· first | (apply pv_ev; rfl) )) ))
    (refine wo_call (c4 g) rfl (by (repeat (first | apply sub_nil )); done) (by first | exact fun _ h => h | (intro r hr; cases hr; done) | (simp; done) | exact fun _ h => List.mem_append_left _ h | (intro r hr; simp [hr]; done)) rfl ?_; rintro v L' R' ⟨rfl, rfl, rfl⟩ H' hH RR hR; simp only [List.cons_append, List.nil_append] at hH hR; subst hH; have hR := hR.symm; subst hR)
    (repeat (first | ((first | (apply wo_v; rfl) ); (· first | (apply pv_ev; rfl) )) ))
    (refine wo_call (c5 g) rfl (by (repeat (first | apply sub_nil )); done) (by first | exact fun _ h => h | (intro r hr; cases hr; done) | (simp; done) | exact fun _ h => List.mem_append_left _ h | (intro r hr; simp [hr]; done)) rfl ?_; rintro v L' R' ⟨rfl, rfl, rfl⟩ H' hH RR hR; simp only [List.cons_append, List.nil_append] at hH hR; subst hH; have hR := hR.symm; subst hR)
    (repeat (first | ((first | (apply wo_v; rfl) ); (· first | (apply pv_ev; rfl) | (apply g_bin; first | (apply pv_and; rfl; rfl) ) | (apply g_build; apply pv_build; (· (repeat (first | apply Bld.nil | (apply Bld.one; rfl; rfl; (· (repeat (first | apply SetAt.here | apply SetAt.there)))) )))) )) | apply wo_nil | apply wc_seq | apply wc_region | (apply wo_alloc; rfl; intro bx) | (apply wo_sta; rfl; rfl; rfl; rfl; (· (repeat (first | apply sel_here ))); (· (repeat (first | apply LayAt.nil | apply LayAt.here ))); rfl) ))
    rw [x1, x16, hN, hmrk]
    obtain ⟨bp, hbp⟩ : ∃ g, g = bx := ⟨_, rfl⟩
    subst hbp
    have s6 := csN_size r5 N
    refine wc_join0 (fun st => ∃ ao c, st = ⟨[(2, .pointer (some ⟨bq, 0, none⟩)), (4, .pointer (some ⟨g, 0, none⟩)), (5, .int .u8 a), (7, .pointer (some ⟨bp, 0, none⟩))], [rdO g (csN r5 N).2.1 (csN r5 N).2.2, rpI bp mrk kd sq t ss (.slice ao (csN r5 N).1.length c) ex 0 ByteArray.empty ByteArray.empty 0, csO ao (csN r5 N).1.length c (csN r5 N).1, rpZ bq], []⟩) ?_ ?_
    · refine wc_block ?_
      refine wc_own0 30 1 ?_
      refine wc_loop' (fun q st => ∃ (i : Nat) (ao : Option Addr) (c : Nat) (l : List Int) (r : Rs), q = N - i ∧ i ≤ N ∧ l = (csN r5 i).1 ∧ r = (csN r5 i).2 ∧ st = ⟨[(2, .pointer (some ⟨bq, 0, none⟩)), (4, .pointer (some ⟨g, 0, none⟩)), (5, .int .u8 a), (7, .pointer (some ⟨bp, 0, none⟩)), (45, .int .u8 N), (46, .int .u8 i)], [rdO g r.1 r.2, rpI bp mrk kd sq t ss (.slice ao l.length c) ex 0 ByteArray.empty ByteArray.empty 0, csO ao l.length c l, rpZ bq], []⟩)
        ⟨0, none, 0, [], r5, rfl, Nat.zero_le _, rfl, rfl, rfl⟩ (wk_mk (by (repeat (first | apply wkf_nil | (apply wkf_cons; rfl))); done) (by (repeat (first | apply sub_nil | (apply sub_cons; (· (repeat (first | apply sel_here | apply sel_there)))))); done) (by first | exact fun _ h => h | (intro r hr; cases hr; done) | (simp; done) | exact fun _ h => List.mem_append_left _ h | (intro r hr; simp [hr]; done))) ?_
      rintro q st ⟨i, ao, c, l, r, rfl, hi, hl, hrr, rfl⟩
      have hll : l.length = i := by rw [hl]; exact csN_len r5 i
      have hrs := csN_size r5 i
      rw [← hrr] at hrs
      by_cases hlt : i < N
      · have e1 : (csN r5 (i + 1)).1 = l ++ [(tK 4 r).1] := by rw [csN, hl, hrr]
        have e2 : (csN r5 (i + 1)).2 = (tK 4 r).2 := by rw [csN, hrr]
        have hU := pU32 g r (by omega)
        generalize tK 4 r = y at hU e1 e2
        obtain ⟨x, rr⟩ := y
        dsimp only at hU e1 e2
        (repeat (first | ((first | (apply wo_v; rfl) ); (· first | (apply pv_ev; rfl) )) | apply wo_nil | apply wc_seq | apply wc_region | apply wc_skip | (apply wc_true; rfl) | (apply wc_false; rfl) | (apply a_dec_t; rfl; (· first | assumption | omega)) ))
        refine wc_block ?_
        (repeat (first | fail ))
        (refine wc_regM [0, 1, 2, 3] (aslL [(1, [3]), (3, [0]), (4, [1]), (5, [2, 1]), (7, [2, 3])]) (tblC g x rr bp mrk kd sq t ss ex ao c l) ([rpZ bq]) (fm [(0, [rdO g r.1 r.2]), (1, []), (2, [csO ao l.length c l]), (3, [rpI bp mrk kd sq t ss (.slice ao l.length c) ex 0 ByteArray.empty ByteArray.empty 0])]) mixed (by kernel_rfl) (by kernel_rfl) (by decide) (aslL_ok (by decide)) (by (repeat (first | (apply prm_cons; (· (repeat (first | apply sel_here | apply sel_there)))) | apply List.Perm.nil )); done) ?_; (repeat (first | (apply HdM.val; rfl; rfl; (· first | apply gok_none ); (· first | (apply pv_ev; rfl) | (apply pv_fld; rfl) )) )))
        (refine hm_eff (cs := [3]) rfl (by decide) rfl rfl (by first | exact gok_none | exact gok_run rfl rfl) (fun a ha => outc_mono (outc_pv (L := [rpI bp mrk kd sq t ss (.slice ao l.length c) ex 0 ByteArray.empty ByteArray.empty 0]) (pv_ld rfl (by (repeat (first | apply sel_here )); done) rfl) a ha) (fun v M h => ⟨[M], And.intro h.1 (congrArg (fun x => [x]) h.2), rfl, by simp⟩)) (⟨_, _, And.intro rfl rfl, rfl⟩) ?_; rintro v Ms ⟨rfl, rfl⟩ _; simp only [setls, setl, reduceIte, Nat.reduceEqDiff]; (repeat (first | (apply HdM.val; rfl; rfl; (· first | apply gok_none ); (· first | (apply pv_ev; rfl) )) )))
        (refine hm_eff (cs := [0]) rfl (by decide) rfl rfl (by first | exact gok_none | exact gok_run rfl rfl) (fun a ha => outc_mono (outc_call (F1 := _) (T := fun v M => v = .int .u32 x ∧ M = [rdO g rr.1 rr.2]) hU rfl (by (repeat (first | apply sub_nil )); done) (by first | exact fun _ h => h | (intro r hr; cases hr; done) | (simp; done) | exact fun _ h => List.mem_append_left _ h | (intro r hr; simp [hr]; done)) (by rintro v L' R' ⟨rfl, rfl, _⟩; exact ⟨_, ⟨rfl, rfl⟩, (by (repeat (first | (apply prm_cons; (· (repeat (first | apply sel_here )))) | apply List.Perm.nil )); done)⟩) a ha) (fun v M h => ⟨[M], And.intro h.1 (congrArg (fun x => [x]) h.2), rfl, by simp⟩)) (⟨_, _, And.intro rfl rfl, rfl⟩) ?_; rintro v Ms ⟨rfl, rfl⟩ _; simp only [setls, setl, reduceIte, Nat.reduceEqDiff]; (repeat (first | (apply HdM.val; rfl; rfl; (· first | fail ); (· first | fail )) )))
        (refine hm_eff (cs := [1]) rfl (by decide) rfl rfl (by first | exact gok_none | exact gok_run rfl rfl) (fun a ha => outc_mono (outc_bsl (by (repeat (first | apply Rws'.nil | (apply Rws'.one; rfl; rfl; rfl) )); done) rfl rfl rfl a ha) (fun v M h => Exists.elim h fun b h => ⟨[M], Exists.intro b (And.intro h.1 (congrArg (fun x => [x]) h.2)), rfl, by simp⟩)) (⟨_, _, Exists.intro 0 (And.intro rfl rfl), rfl⟩) ?_; rintro v Ms ⟨b9, rfl, rfl⟩ _; simp only [setls, setl, reduceIte, Nat.reduceEqDiff]; (repeat (first | (apply HdM.val; rfl; rfl; (· first | fail ); (· first | fail )) )))
        (refine hm_eff (cs := [2, 1]) rfl (by decide) rfl rfl (by first | exact gok_none | exact gok_run rfl rfl) (fun a ha => outc_mono (outc_app rfl rfl (by unfold maxLen; omega) (by omega) a ha) (fun v M h => by obtain ⟨b, c, h1, h2⟩ := h; exact ⟨[[_], [_]], ⟨b, c, h1, rfl⟩, rfl, h2⟩)) (⟨_, _, ⟨none, 0, rfl, rfl⟩, rfl⟩) ?_; rintro v Ms ⟨ao2, c2, rfl, rfl⟩ _; simp only [setls, setl, reduceIte, Nat.reduceEqDiff]; (repeat (first | (apply HdM.val; rfl; rfl; (· first | apply gok_none ); (· first | (apply pv_ev; rfl) | (apply pv_fld; rfl) )) )))
        (refine hm_eff (cs := [2, 3]) rfl (by decide) rfl rfl (by first | exact gok_none | exact gok_run rfl rfl) (fun a ha => outc_mono (outc_frmA (X := [csO' ao2 (l.length + 1) c2 (crs l ++ crs [x])]) (L := [rpI bp mrk kd sq t ss (.slice ao l.length c) ex 0 ByteArray.empty ByteArray.empty 0]) (outc_st rfl rfl rfl (by (repeat (first | apply SetAt.here | apply SetAt.there)); done)) a ha) (fun v M h => by obtain ⟨M0, ⟨h1, h2⟩, h3⟩ := h; exact ⟨[[_], [_]], ⟨h1, rfl⟩, rfl, by rw [h3, h2]; rfl⟩)) (⟨_, _, ⟨rfl, rfl⟩, rfl⟩) ?_; rintro v Ms ⟨rfl, rfl⟩ _; simp only [setls, setl, reduceIte, Nat.reduceEqDiff]; (repeat (first | fail )))
        (refine HdM.nil ?_; intro H hH; simp only [Hp, fm, look, setl, List.flatMap_cons, List.flatMap_nil, reduceIte, Nat.reduceEqDiff, Option.getD_some, List.append_nil, List.cons_append, List.nil_append] at hH; subst hH)
        (repeat (first | ((first | (apply wo_v; rfl) ); (· first | (apply pv_ev; rfl) | (apply g_bin; first | (apply a_add; rfl; rfl; infer_instance; omega) ) )) | apply wo_nil | apply wc_region ))
        exact loop_end ⟨i + 1, ao2, c2, l ++ [x], rr, rfl, by omega, e1.symm, e2.symm, by rw [List.length_append, List.length_singleton, csO_snoc]⟩ (by omega) (wk_mk (by (repeat (first | apply wkf_nil | (apply wkf_cons; rfl))); done) (by (repeat (first | apply sub_nil | (apply sub_cons; (· (repeat (first | apply sel_here | apply sel_there)))))); done) (by first | exact fun _ h => h | (intro r hr; cases hr; done) | (simp; done) | exact fun _ h => List.mem_append_left _ h | (intro r hr; simp [hr]; done)))
      · have e : i = N := by omega
        subst e
        subst hl hrr
        (repeat (first | ((first | (apply wo_v; rfl) ); (· first | (apply pv_ev; rfl) )) | apply wo_nil | apply wc_seq | apply wc_region | (apply wc_exit; rfl) | (apply wc_true; rfl) | (apply wc_false; rfl) | (apply a_dec_t; rfl; (· first | assumption | omega)) | (apply a_dec_f; rfl; (· first | assumption | omega)) ))
        exact cut_end ⟨ao, c, rfl⟩ (wk_mk (by (repeat (first | apply wkf_nil | (apply wkf_cons; rfl))); done) (by (repeat (first | apply sub_nil )); done) (by first | exact fun _ h => h | (intro r hr; cases hr; done) | (simp; done) | exact fun _ h => List.mem_append_left _ h | (intro r hr; simp [hr]; done)))
    rintro st ⟨ao, c, rfl⟩
    have hcl := csN_len r5 N
    generalize csN r5 N = y at s6 hcl ⊢
    obtain ⟨cs, r6⟩ := y
    dsimp only at s6 hcl ⊢
    apply wc_seq
    refine wc_join0 (fun st => st = ⟨[(2, .pointer (some ⟨bq, 0, none⟩)), (4, .pointer (some ⟨g, 0, none⟩)), (5, .int .u8 a), (7, .pointer (some ⟨bp, 0, none⟩))], [rdO g (exR ex r6).2.2.1 (exR ex r6).2.2.2, rpI bp mrk kd sq t ss (.slice ao cs.length c) ex (exR ex r6).1 (exR ex r6).2.1 ByteArray.empty 0, csO ao cs.length c cs, rpZ bq], []⟩) ?_ ?_
    · clear hex x1
      cases ex with
      | false =>
        (repeat (first | ((first | (apply wo_v; rfl) ); (· first | (apply pv_ev; rfl) | (apply pv_fld; rfl) | (apply g_load; first | (apply pv_ld; rfl; (· (repeat (first | apply sel_here | apply sel_there))); rfl) ) )) | apply wo_nil | apply wc_seq | apply wc_region | apply wc_skip | (apply wc_true; rfl) | (apply wc_false; rfl) ))
        exact cut_end rfl (wk_mk (by (repeat (first | apply wkf_nil | (apply wkf_cons; rfl))); done) (by (repeat (first | apply sub_nil )); done) (by first | exact fun _ h => h | (intro r hr; cases hr; done) | (simp; done) | exact fun _ h => List.mem_append_left _ h | (intro r hr; simp [hr]; done)))
      | true =>
        have w1 := pU16 g r6 (by omega)
        have s7 := tK_size 2 r6
        have w2 := pU16 g (tK 2 r6).2 (by omega)
        have s8 := tK_size 2 (tK 2 r6).2
        have hv := tK2_b (tK 2 r6).2
        have e1 : exR true r6 = ((tK 2 r6).1, (rdB (tK 2 (tK 2 r6).2).2.1 (tK 2 (tK 2 r6).2).2.2 (4 * (tK 2 (tK 2 r6).2).1)).1, (rdB (tK 2 (tK 2 r6).2).2.1 (tK 2 (tK 2 r6).2).2.2 (4 * (tK 2 (tK 2 r6).2).1)).2) := rfl
        rw [e1]
        generalize tK 2 (tK 2 r6).2 = y2 at w2 s8 hv ⊢
        generalize tK 2 r6 = y1 at w1 w2 s7 s8 ⊢
        obtain ⟨pf, r7⟩ := y1
        obtain ⟨ln, r8⟩ := y2
        dsimp only at w1 w2 s7 s8 hv ⊢
        have w3 := octBytes g r8.1 r8.2 (4 * ln) (by omega)
        (repeat (first | ((first | (apply wo_v; rfl) ); (· first | (apply pv_ev; rfl) | (apply pv_fld; rfl) | (apply g_load; first | (apply pv_ld; rfl; (· (repeat (first | apply sel_here | apply sel_there))); rfl) ) )) | apply wo_nil | apply wc_seq | apply wc_region | (apply wc_true; rfl) ))
        (refine wo_call (w1) rfl (by (repeat (first | apply sub_nil )); done) (by first | exact fun _ h => h | (intro r hr; cases hr; done) | (simp; done) | exact fun _ h => List.mem_append_left _ h | (intro r hr; simp [hr]; done)) rfl ?_; rintro v L' R' ⟨rfl, rfl, rfl⟩ H' hH RR hR; simp only [List.cons_append, List.nil_append] at hH hR; subst hH; have hR := hR.symm; subst hR)
        (repeat (first | ((first | (apply wo_v; rfl) ); (· first | (apply pv_ev; rfl) | (apply pv_fld; rfl) )) | apply wo_nil | apply wc_region | (apply wo_st; rfl; rfl; rfl; (· (repeat (first | apply sel_here | apply sel_there))); (· (repeat (first | apply SetAt.here | apply SetAt.there))); rfl) ))
        (refine wo_call (w2) rfl (by (repeat (first | apply sub_nil | (apply sub_cons; (· (repeat (first | apply sel_here | apply sel_there)))))); done) (by first | exact fun _ h => h | (intro r hr; cases hr; done) | (simp; done) | exact fun _ h => List.mem_append_left _ h | (intro r hr; simp [hr]; done)) rfl ?_; rintro v L' R' ⟨rfl, rfl, rfl⟩ H' hH RR hR; simp only [List.cons_append, List.nil_append] at hH hR; subst hH; have hR := hR.symm; subst hR)
        (repeat (first | ((first | (apply wo_v; rfl) ); (· first | (apply pv_ev; rfl) | (apply g_bin; first | (apply a_mul; rfl; rfl; infer_instance; omega) ) | (apply g_conv; first | (apply a_conv; rfl; infer_instance; infer_instance; infer_instance; omega) ) )) ))
        (refine wo_call (w3) rfl (by (repeat (first | apply sub_nil )); done) (by first | exact fun _ h => h | (intro r hr; cases hr; done) | (simp; done) | exact fun _ h => List.mem_append_left _ h | (intro r hr; simp [hr]; done)) rfl ?_; rintro v L' R' ⟨rfl, rfl, rfl⟩ H' hH RR hR; simp only [List.cons_append, List.nil_append] at hH hR; subst hH; have hR := hR.symm; subst hR)
        (repeat (first | ((first | (apply wo_v; rfl) ); (· first | (apply pv_ev; rfl) | (apply pv_fld; rfl) )) | apply wo_nil | (apply wo_st; rfl; rfl; rfl; (· (repeat (first | apply sel_here | apply sel_there))); (· (repeat (first | apply SetAt.here | apply SetAt.there))); rfl) ))
        exact cut_end rfl (wk_mk (by (repeat (first | apply wkf_nil | (apply wkf_cons; rfl))); done) (by (repeat (first | apply sub_nil | (apply sub_cons; (· (repeat (first | apply sel_here | apply sel_there)))))); done) (by first | exact fun _ h => h | (intro r hr; cases hr; done) | (simp; done) | exact fun _ h => List.mem_append_left _ h | (intro r hr; simp [hr]; done)))
    rintro st rfl
    have s9 : (exR ex r6).2.2.1.size ≤ 100000 := by
      unfold exR
      split
      · have := rdB_size2 (tK 2 (tK 2 r6).2).2.1 (tK 2 (tK 2 r6).2).2.2 (4 * (tK 2 (tK 2 r6).2).1)
        have h7 := tK_size 2 r6
        have h8 := tK_size 2 (tK 2 r6).2
        dsimp only
        omega
      · dsimp only; omega
    generalize exR ex r6 = y at s9 ⊢
    obtain ⟨pf, dt, r9⟩ := y
    dsimp only at s9 ⊢
    have w4 := octRest g r9.1 r9.2 (by omega)
    unfold enR
    have s10 : (rdB r9.1 r9.2 r9.1.size).1.size ≤ 100000 := by have := rdB_size r9.1 r9.2 r9.1.size (by omega); omega
    generalize rdB r9.1 r9.2 r9.1.size = y at w4 s10 ⊢
    obtain ⟨pl, r10⟩ := y
    dsimp only at w4 s10 ⊢
    (repeat (first | ((first | (apply wo_v; rfl) ); (· first | (apply pv_ev; rfl) )) | apply wc_seq | apply wc_region ))
    (refine wo_call (w4) rfl (by (repeat (first | apply sub_nil )); done) (by first | exact fun _ h => h | (intro r hr; cases hr; done) | (simp; done) | exact fun _ h => List.mem_append_left _ h | (intro r hr; simp [hr]; done)) rfl ?_; rintro v L' R' ⟨rfl, rfl, rfl⟩ H' hH RR hR; simp only [List.cons_append, List.nil_append] at hH hR; subst hH; have hR := hR.symm; subst hR)
    (repeat (first | ((first | (apply wo_v; rfl) ); (· first | (apply pv_ev; rfl) | (apply pv_fld; rfl) )) | apply wo_nil | apply wc_seq | apply wc_region | (apply wo_st; rfl; rfl; rfl; (· (repeat (first | apply sel_here | apply sel_there))); (· (repeat (first | apply SetAt.here | apply SetAt.there))); rfl) ))
    (refine wo_call (octErr g r10.1 r10.2) rfl (by (repeat (first | apply sub_nil | (apply sub_cons; (· (repeat (first | apply sel_here | apply sel_there)))))); done) (by first | exact fun _ h => h | (intro r hr; cases hr; done) | (simp; done) | exact fun _ h => List.mem_append_left _ h | (intro r hr; simp [hr]; done)) rfl ?_; rintro v L' R' ⟨rfl, rfl, rfl⟩ H' hH RR hR; simp only [List.cons_append, List.nil_append] at hH hR; subst hH; have hR := hR.symm; subst hR)
    by_cases he : r10.2 = 0
    · rw [if_neg (by simp [he])]
      clear hpa
      cases pa with
      | false =>
        rw [if_neg (by simp)]
        (repeat (first | ((first | (apply wo_v; rfl) ); (· first | (apply pv_ev; rfl) | (apply g_pick; first | (apply pv_pick_t; rfl; rfl) ) | (apply g_bin; first | (apply pv_and; rfl; rfl) ) )) | apply wo_nil | (apply wc_true; rfl) | (apply wc_false; rfl) | (apply a_dec_t; rfl; (· first | assumption | omega)) | (apply a_dec_f; rfl; (· first | assumption | omega)) | (apply a_dec_t; rfl; (· first | (simp; done) | (simp; omega))) | (apply a_dec_f; rfl; (· first | (simp; done) | (simp; omega))) | (apply wo_run; rfl; rfl) | (apply wo_skip; rfl; rfl; rfl; rfl) | (apply wo_skip_u; rfl; rfl; rfl) | (apply a_gt; rfl; rfl; (· first | assumption | omega)) ))
        rw [x2]
        (repeat (first | ((first | (apply wo_v; rfl) ); (· first | (apply pv_ev; rfl) )) | apply wc_seq | apply wc_region | apply wc_skip | (apply wc_true; rfl) | (apply wc_false; rfl) ))
        (refine wo_call (octErr g r10.1 r10.2) rfl (by (repeat (first | apply sub_nil )); done) (by first | exact fun _ h => h | (intro r hr; cases hr; done) | (simp; done) | exact fun _ h => List.mem_append_left _ h | (intro r hr; simp [hr]; done)) rfl ?_; rintro v L' R' ⟨rfl, rfl, rfl⟩ H' hH RR hR; simp only [List.cons_append, List.nil_append] at hH hR; subst hH; have hR := hR.symm; subst hR)
        (repeat (first | ((first | (apply wo_v; rfl) ); (· first | (apply pv_ev; rfl) | (apply g_load; first | (apply pv_lda; rfl; (· (repeat (first | apply sel_here | apply sel_there))); (· (repeat (first | apply Cut.here0 | apply Cut.here )))) ) )) | apply wo_nil | apply wc_seq | apply wc_region | apply wc_skip | apply wc_ret | (apply wc_true; rfl) | (apply wc_false; rfl) | (apply a_dec_t; rfl; (· first | assumption | omega)) | (apply a_dec_f; rfl; (· first | assumption | omega)) | (apply wo_sta; rfl; rfl; rfl; rfl; (· (repeat (first | apply sel_here | apply sel_there))); (· (repeat (first | apply LayAt.nil | apply LayAt.here ))); rfl) ))
        exact retv rfl (by (repeat (first | apply RV.nil | (apply RV.tmp; rfl) | (apply RV.agg; rfl; (· (repeat (first | apply sel_here ))); infer_instance; (· (repeat (first | apply Cut.here0 | apply Cut.here )))) )); done) (⟨ao, c, rfl, rfl, rfl⟩) (by (repeat (first | apply sub_nil | (apply sub_cons; (· (repeat (first | apply sel_here | apply sel_there)))))); done) (by first | exact fun _ h => h | (intro r hr; cases hr; done) | (simp; done) | exact fun _ h => List.mem_append_left _ h | (intro r hr; simp [hr]; done))
      | true =>
        rw [if_pos rfl]
        have w5 := pPad pl (by omega)
        have hpm := padM_b pl
        generalize padM pl = y at w5 hpm ⊢
        obtain ⟨pn, pe⟩ := y
        dsimp only at w5 hpm ⊢
        (repeat (first | ((first | (apply wo_v; rfl) ); (· first | (apply pv_ev; rfl) | (apply g_pick; first | (apply pv_pick_t; rfl; rfl) ) | (apply g_bin; first | (apply pv_and; rfl; rfl) ) )) | apply wo_nil | (apply wc_true; rfl) | (apply wc_false; rfl) | (apply a_dec_t; rfl; (· first | assumption | omega)) | (apply a_dec_f; rfl; (· first | assumption | omega)) | (apply a_dec_t; rfl; (· first | (simp; done) | (simp; omega))) | (apply a_dec_f; rfl; (· first | (simp; done) | (simp; omega))) | (apply wo_run; rfl; rfl) | (apply wo_skip; rfl; rfl; rfl; rfl) | (apply wo_skip_u; rfl; rfl; rfl) | (apply a_gt; rfl; rfl; (· first | assumption | omega)) ))
        rw [x2]
        (repeat (first | ((first | (apply wo_v; rfl) ); (· first | (apply pv_ev; rfl) | (apply pv_fld; rfl) | (apply g_load; first | (apply pv_ld; rfl; (· (repeat (first | apply sel_here | apply sel_there))); rfl) ) )) | apply wc_seq | apply wc_region | (apply wc_true; rfl) ))
        (refine wo_call (w5) rfl (by (repeat (first | apply sub_nil )); done) (by first | exact fun _ h => h | (intro r hr; cases hr; done) | (simp; done) | exact fun _ h => List.mem_append_left _ h | (intro r hr; simp [hr]; done)) rfl ?_; rintro v L' R' ⟨rfl, rfl, rfl⟩ H' hH RR hR; simp only [List.cons_append, List.nil_append] at hH hR; subst hH; have hR := hR.symm; subst hR)
        (repeat (first | ((first | (apply wo_v; rfl) ); (· first | (apply pv_ev; rfl) )) | apply wo_nil | apply wc_seq | apply wc_region ))
        (refine wo_call (octFail g r10.1 r10.2 pe) rfl (by (repeat (first | apply sub_nil )); done) (by first | exact fun _ h => h | (intro r hr; cases hr; done) | (simp; done) | exact fun _ h => List.mem_append_left _ h | (intro r hr; simp [hr]; done)) rfl ?_; rintro v L' R' ⟨rfl, rfl, rfl⟩ H' hH RR hR; simp only [List.cons_append, List.nil_append] at hH hR; subst hH; have hR := hR.symm; subst hR)
        (repeat (first | apply wo_nil ))
        (refine wc_regR [2, 4] [0] (aslL [(2, [0]), (4, [0]), (10, [0]), (12, [0])]) (tblP pn pl bp mrk kd sq t ss (.slice ao cs.length c) ex pf dt) ([rdO g (rdF r10.1 r10.2 pe).1 (rdF r10.1 r10.2 pe).2, csO ao cs.length c cs, rpZ bq]) (fm [(0, [rpI bp mrk kd sq t ss (.slice ao cs.length c) ex pf dt pl 0])]) mixed (by kernel_rfl) (by kernel_rfl) (tblP_rd) (by decide) (aslL_ok (by decide)) (by (repeat (first | (apply prm_cons; (· (repeat (first | apply sel_here | apply sel_there)))) | apply List.Perm.nil )); done) ?_; (repeat (first | (apply HdM.val; rfl; rfl; (· first | apply gok_none ); (· first | (apply pv_ev; rfl) | (apply pv_fld; rfl) )) )))
        (refine hm_eff (cs := [0]) rfl (by decide) rfl rfl (by first | exact gok_none | exact gok_run rfl rfl) (fun a ha => outc_mono (outc_pv (L := [rpI bp mrk kd sq t ss (.slice ao cs.length c) ex pf dt pl 0]) (pv_ld rfl (by (repeat (first | apply sel_here )); done) rfl) a ha) (fun v M h => ⟨[M], And.intro h.1 (congrArg (fun x => [x]) h.2), rfl, by simp⟩)) (⟨_, _, And.intro rfl rfl, rfl⟩) ?_; rintro v Ms ⟨rfl, rfl⟩ _; simp only [setls, setl, reduceIte, Nat.reduceEqDiff]; (repeat (first | (apply HdM.val; rfl; rfl; (· first | apply gok_none ); (· first | (apply pv_ev; rfl) | (apply pv_fld; rfl) )) )))
        (refine hm_eff (cs := [0]) rfl (by decide) rfl rfl (by first | exact gok_none | exact gok_run rfl rfl) (fun a ha => outc_mono (outc_pv (L := [rpI bp mrk kd sq t ss (.slice ao cs.length c) ex pf dt pl 0]) (pv_ld rfl (by (repeat (first | apply sel_here )); done) rfl) a ha) (fun v M h => ⟨[M], And.intro h.1 (congrArg (fun x => [x]) h.2), rfl, by simp⟩)) (⟨_, _, And.intro rfl rfl, rfl⟩) ?_; rintro v Ms ⟨rfl, rfl⟩ _; simp only [setls, setl, reduceIte, Nat.reduceEqDiff]; (repeat (first | (apply HdM.val; rfl; rfl; (· first | apply gok_none ); (· first | (apply pv_ev; rfl) | (apply pv_fld; rfl) | (apply g_bin; first | (apply a_sub; rfl; rfl; infer_instance; omega) ) | (apply g_bi; first | (apply pv_len_str; rfl) ) | (apply pv_cs_hi; rfl; rfl; omega) )) )))
        (refine hm_eff (cs := [0]) rfl (by decide) rfl rfl (by first | exact gok_none | exact gok_run rfl rfl) (fun a ha => outc_mono (outc_st rfl rfl rfl (by (repeat (first | apply SetAt.here | apply SetAt.there)); done) a ha) (fun v M h => ⟨[M], And.intro h.1 (congrArg (fun x => [x]) h.2), rfl, by simp⟩)) (⟨_, _, And.intro rfl rfl, rfl⟩) ?_; rintro v Ms ⟨rfl, rfl⟩ _; simp only [setls, setl, reduceIte, Nat.reduceEqDiff]; (repeat (first | (apply HdM.val; rfl; rfl; (· first | apply gok_none ); (· first | (apply pv_ev; rfl) | (apply pv_fld; rfl) )) )))
        (refine hm_eff (cs := [0]) rfl (by decide) rfl rfl (by first | exact gok_none | exact gok_run rfl rfl) (fun a ha => outc_mono (outc_st rfl rfl rfl (by (repeat (first | apply SetAt.here | apply SetAt.there)); done) a ha) (fun v M h => ⟨[M], And.intro h.1 (congrArg (fun x => [x]) h.2), rfl, by simp⟩)) (⟨_, _, And.intro rfl rfl, rfl⟩) ?_; rintro v Ms ⟨rfl, rfl⟩ _; simp only [setls, setl, reduceIte, Nat.reduceEqDiff]; (repeat (first | fail )))
        (refine HdM.nil ?_; intro H hH; simp only [Hp, fm, look, setl, List.flatMap_cons, List.flatMap_nil, reduceIte, Nat.reduceEqDiff, Option.getD_some, List.append_nil, List.cons_append, List.nil_append] at hH; subst hH)
        by_cases hpe : pe = 0
        · subst hpe
          rw [if_neg (by simp)]
          have ef : rdF r10.1 r10.2 0 = r10 := by unfold rdF; rw [if_neg (by simp)]
          rw [ef]
          (repeat (first | ((first | (apply wo_v; rfl) ); (· first | (apply pv_ev; rfl) )) | apply wc_seq | apply wc_region ))
          (refine wo_call (octErr g r10.1 r10.2) rfl (by (repeat (first | apply sub_nil )); done) (by first | exact fun _ h => h | (intro r hr; cases hr; done) | (simp; done) | exact fun _ h => List.mem_append_left _ h | (intro r hr; simp [hr]; done)) rfl ?_; rintro v L' R' ⟨rfl, rfl, rfl⟩ H' hH RR hR; simp only [List.cons_append, List.nil_append] at hH hR; subst hH; have hR := hR.symm; subst hR)
          (repeat (first | ((first | (apply wo_v; rfl) ); (· first | (apply pv_ev; rfl) | (apply g_load; first | (apply pv_lda; rfl; (· (repeat (first | apply sel_here | apply sel_there))); (· (repeat (first | apply Cut.here0 | apply Cut.here )))) ) )) | apply wo_nil | apply wc_seq | apply wc_region | apply wc_skip | apply wc_ret | (apply wc_true; rfl) | (apply wc_false; rfl) | (apply a_dec_t; rfl; (· first | assumption | omega)) | (apply a_dec_f; rfl; (· first | assumption | omega)) | (apply wo_sta; rfl; rfl; rfl; rfl; (· (repeat (first | apply sel_here | apply sel_there))); (· (repeat (first | apply LayAt.nil | apply LayAt.here ))); rfl) ))
          exact retv rfl (by (repeat (first | apply RV.nil | (apply RV.tmp; rfl) | (apply RV.agg; rfl; (· (repeat (first | apply sel_here ))); infer_instance; (· (repeat (first | apply Cut.here0 | apply Cut.here )))) )); done) (⟨ao, c, rfl, rfl, rfl⟩) (by (repeat (first | apply sub_nil | (apply sub_cons; (· (repeat (first | apply sel_here | apply sel_there)))))); done) (by first | exact fun _ h => h | (intro r hr; cases hr; done) | (simp; done) | exact fun _ h => List.mem_append_left _ h | (intro r hr; simp [hr]; done))
        · rw [if_pos hpe]
          have ef : rdF r10.1 r10.2 pe = (E0, pe) := by unfold rdF; rw [if_pos ⟨he, hpe⟩]
          rw [ef]
          refine wc_own0 30 1 ?_
          (repeat (first | ((first | (apply wo_v; rfl) ); (· first | (apply pv_ev; rfl) )) | apply wc_seq | apply wc_region ))
          (refine wo_call (octErr g E0 pe) rfl (by (repeat (first | apply sub_nil | (apply sub_cons; (· (repeat (first | apply sel_here | apply sel_there)))))); done) (by first | exact fun _ h => h | (intro r hr; cases hr; done) | (simp; done) | exact fun _ h => List.mem_append_left _ h | (intro r hr; simp [hr]; done)) rfl ?_; rintro v L' R' ⟨rfl, rfl, rfl⟩ H' hH RR hR; simp only [List.cons_append, List.nil_append] at hH hR; subst hH; have hR := hR.symm; subst hR)
          (repeat (first | ((first | (apply wo_v; rfl) ); (· first | (apply pv_ev; rfl) | (apply g_build; apply pv_build; (· (repeat (first | apply Bld.nil )))) )) | apply wo_nil | apply wc_seq | apply wc_region | apply wc_ret | (apply wc_true; rfl) | (apply wc_false; rfl) | (apply a_dec_t; rfl; (· first | assumption | omega)) | (apply wo_sta; rfl; rfl; rfl; rfl; (· (repeat (first | apply sel_here | apply sel_there))); (· (repeat (first | apply LayAt.nil | apply LayAt.here ))); rfl) ))
          exact retv rfl (by (repeat (first | apply RV.nil | (apply RV.tmp; rfl) | (apply RV.agg; rfl; (· (repeat (first | apply sel_here ))); infer_instance; (· (repeat (first | apply Cut.here0 | apply Cut.here )))) )); done) (⟨none, 0, rfl, rfl, rfl⟩) (by (repeat (first | apply sub_nil | (apply sub_cons; (· (repeat (first | apply sel_here | apply sel_there)))))); done) (by first | exact fun _ h => h | (intro r hr; cases hr; done) | (simp; done) | exact fun _ h => List.mem_append_left _ h | (intro r hr; simp [hr]; done))
    · rw [if_pos he]
      refine wo_own0 30 1 ?_
      (repeat (first | ((first | (apply wo_v; rfl) ); (· first | (apply pv_ev; rfl) | (apply g_pick; first | (apply pv_pick_t; rfl; rfl) | (apply pv_pick_f; rfl; rfl)) )) | apply wo_nil | apply wc_seq | apply wc_region | apply wc_skip | (apply wc_true; rfl) | (apply wc_false; rfl) | (apply wo_run; rfl; rfl) | (apply wo_skip; rfl; rfl; rfl; rfl) | (apply wo_skip_u; rfl; rfl; rfl) | (apply a_gt; rfl; rfl; (· first | assumption | omega)) | (apply a_gf; rfl; rfl; (· first | assumption | omega)) ))
      (refine wo_call (octErr g r10.1 r10.2) rfl (by (repeat (first | apply sub_nil | (apply sub_cons; (· (repeat (first | apply sel_here | apply sel_there)))))); done) (by first | exact fun _ h => h | (intro r hr; cases hr; done) | (simp; done) | exact fun _ h => List.mem_append_left _ h | (intro r hr; simp [hr]; done)) rfl ?_; rintro v L' R' ⟨rfl, rfl, rfl⟩ H' hH RR hR; simp only [List.cons_append, List.nil_append] at hH hR; subst hH; have hR := hR.symm; subst hR)
      (repeat (first | ((first | (apply wo_v; rfl) ); (· first | (apply pv_ev; rfl) | (apply g_build; apply pv_build; (· (repeat (first | apply Bld.nil )))) )) | apply wo_nil | apply wc_seq | apply wc_region | apply wc_ret | (apply wc_true; rfl) | (apply wc_false; rfl) | (apply a_dec_t; rfl; (· first | assumption | omega)) | (apply wo_sta; rfl; rfl; rfl; rfl; (· (repeat (first | apply sel_here | apply sel_there))); (· (repeat (first | apply LayAt.nil | apply LayAt.here ))); rfl) ))
      exact retv rfl (by (repeat (first | apply RV.nil | (apply RV.tmp; rfl) | (apply RV.agg; rfl; (· (repeat (first | apply sel_here ))); infer_instance; (· (repeat (first | apply Cut.here0 | apply Cut.here )))) )); done) (⟨none, 0, rfl, rfl, rfl⟩) (by (repeat (first | apply sub_nil | (apply sub_cons; (· (repeat (first | apply sel_here | apply sel_there)))))); done) (by first | exact fun _ h => h | (intro r hr; cases hr; done) | (simp; done) | exact fun _ h => List.mem_append_left _ h | (intro r hr; simp [hr]; done))
end Go.Proofs.Ytlhlidmhlhodiaa

/-
  The reference of rtp: ext.
-/
namespace Go.Proofs.Ytlhlidmhlhodiaa
set_option linter.unusedSimpArgs false
set_option linter.unusedVariables false
open Go.RowKit
attribute [local irreducible] Pv WO WC Fn
set_option maxRecDepth 100000
attribute [local irreducible] ByteArray.extract

theorem tK_err {k : Int} {r : Rs} (h : r.2 ≠ 0) : (tK k r).2 = r := by
  unfold tK rdB; rw [if_pos h]
theorem csN_err {r : Rs} (h : r.2 ≠ 0) : ∀ n, (csN r n).2 = r
  | 0 => rfl
  | n + 1 => by
    rw [csN]
    dsimp only
    rw [tK_err (by rw [csN_err h n]; exact h), csN_err h n]
theorem exR_err {b : Bool} {r : Rs} (h : r.2 ≠ 0) : (exR b r).2.2 = r := by
  unfold exR
  split
  · dsimp only
    have e1 := tK_err (k := 2) h
    have e2 : (tK 2 (tK 2 r).2).2 = r := by rw [tK_err (by rw [e1]; exact h), e1]
    rw [e2]; unfold rdB; rw [if_pos h]
  · rfl
theorem tK1_ok {s : ByteArray} (h : 1 ≤ s.size) : (tK 1 (s, 0)).2.2 = 0 := by
  unfold tK rdB
  dsimp only
  rw [if_neg (by simp), if_neg (by omega), if_neg (by omega)]
theorem prR_short {s : ByteArray} (h : s.size < 2) : prR s = (Rp0, 1) := by
  have e1 : (tK 1 (tK 1 (s, 0)).2).2.2 = 1 := by
    rcases t1_e (s, 0) rfl with h1 | h1
    · have h2 := t1_ok (r := (s, 0)) h1
      have h3 : s.size = 1 + (t1 (s, 0)).2.1.size := by
        have := congrArg ByteArray.size h2.2
        simpa [ByteArray.size_append, b1_size] using this
      have h4 : (t1 (s, 0)).2 = ((t1 (s, 0)).2.1, 0) := Prod.ext rfl h1
      show (t1 (t1 (s, 0)).2).2.2 = 1
      rw [h4]
      have h5 : (t1 (s, 0)).2.1 = E0 := ByteArray.size_eq_zero_iff.1 (by omega)
      rw [h5]; exact congrArg (fun x => x.2.2) t1_end
    · show (t1 (t1 (s, 0)).2).2.2 = 1
      rw [t1_err (r := (t1 (s, 0)).2) (by rw [h1]; omega)]; exact h1
  unfold prR
  rw [if_neg (by omega)]
  dsimp only
  rw [if_neg (by rw [e1]; omega)]
  have h0 : (tK 1 (tK 1 (s, 0)).2).2.2 ≠ 0 := by rw [e1]; omega
  generalize (tK 1 (tK 1 (s, 0)).2) = y at e1 h0 ⊢
  have g1 := tK_err (k := 2) h0
  have g2 : (tK 4 (tK 2 y.2).2).2 = y.2 := by rw [tK_err (by rw [g1]; exact h0), g1]
  have g3 : (tK 4 (tK 4 (tK 2 y.2).2).2).2 = y.2 := by rw [tK_err (by rw [g2]; exact h0), g2]
  have g4 : (csN (tK 4 (tK 4 (tK 2 y.2).2).2).2 ((tK 1 (s, 0)).1 % 16).toNat).2 = y.2 := by rw [g3]; exact csN_err h0 _
  unfold enR
  rw [exR_err (by rw [g4]; exact h0), g4]
  have g5 : (rdB y.2.1 y.2.2 y.2.1.size).2.2 = 1 := by unfold rdB; rw [if_pos h0]; exact e1
  rw [if_pos (by rw [g5]; omega), g5]
theorem tK4_b (r : Rs) : 0 ≤ (tK 4 r).1 ∧ (tK 4 r).1 ≤ 4294967295 := by
  have h : (rdB r.1 r.2 4).1.size ≤ 4 := by have := rdB_size r.1 r.2 4 (by omega); omega
  have h1 := valK_b (rdB r.1 r.2 4).1
  obtain ⟨v0, v1, v2, v3, v4, _⟩ := h1
  show 0 ≤ valK _ _ ∧ valK _ _ ≤ 4294967295
  have h2 : (rdB r.1 r.2 4).1.size = 0 ∨ (rdB r.1 r.2 4).1.size = 1 ∨ (rdB r.1 r.2 4).1.size = 2 ∨ (rdB r.1 r.2 4).1.size = 3 ∨ (rdB r.1 r.2 4).1.size = 4 := by omega
  rcases h2 with h2 | h2 | h2 | h2 | h2
  · rw [h2]; simp [valK]
  · rw [h2]; exact ⟨v0 1, by omega⟩
  · rw [h2]; exact ⟨v0 2, by omega⟩
  · rw [h2]; exact ⟨v0 3, by omega⟩
  · rw [h2]; exact ⟨v0 4, v4⟩
theorem sb_b1 {x : Int} (h : 0 ≤ x ∧ x ≤ 255) : sb (b1 x) 0 = x := by
  have := sb_last E0 h
  rwa [E0_append] at this
theorem two_front {s : ByteArray} (h : 2 ≤ s.size) : ∃ r1 : ByteArray, tK 1 (s, 0) = (sb s 0, (r1, 0)) ∧ tK 1 (r1, 0) = (sb s 1, (s.extract 2 s.size, 0)) := by
  have h1 := tK1_ok (s := s) (by omega)
  have hb := t1_b (s, 0)
  have h2 := (t1_ok (r := (s, 0)) h1).2
  rw [show t1 (s, 0) = tK 1 (s, 0) from rfl] at hb h2
  generalize tK 1 (s, 0) = x at h1 h2 hb ⊢
  obtain ⟨a, r1, e1⟩ := x
  dsimp only at h1 h2 hb ⊢
  subst h1
  have hs1 : s.size = 1 + r1.size := by rw [h2, ByteArray.size_append, b1_size]
  have h3 := tK1_ok (s := r1) (by omega)
  have hb2 := t1_b (r1, 0)
  have h4 := (t1_ok (r := (r1, 0)) h3).2
  rw [show t1 (r1, 0) = tK 1 (r1, 0) from rfl] at hb2 h4
  refine ⟨r1, ?_⟩
  generalize tK 1 (r1, 0) = x at h3 h4 hb2 ⊢
  obtain ⟨b, r2, e2⟩ := x
  dsimp only at h3 h4 hb2 ⊢
  subst h3
  have hs : s = b1 a ++ b1 b ++ r2 := by rw [h2, h4, ByteArray.append_assoc]
  have z : (b1 a ++ b1 b).size = 2 := by rw [ByteArray.size_append, b1_size, b1_size]
  have g0 : sb s 0 = a := by rw [h2, sb_left _ _ (by rw [b1_size]; omega), sb_b1 hb]
  have g1 : sb s 1 = b := by
    rw [hs, sb_left _ _ (by rw [z]; omega)]
    have := sb_last (b1 a) hb2
    rwa [b1_size] at this
  have g2 : s.extract 2 s.size = r2 := by
    have := ByteArray.extract_append_eq_right (a := b1 a ++ b1 b) (b := r2) (i := (b1 a ++ b1 b).size) rfl (by rw [ByteArray.size_append])
    rw [z] at this
    rw [hs, show (b1 a ++ b1 b ++ r2).size = 2 + r2.size by rw [ByteArray.size_append, z]]
    simp only [ByteArray.size_append, b1_size] at this
    exact this
  rw [g0, g1, g2]
  exact ⟨rfl, rfl⟩
end Go.Proofs.Ytlhlidmhlhodiaa

/-
  The laws of rtp: Same.
-/
namespace Go.Proofs.Ytlhlidmhlhodiaa
set_option linter.unusedSimpArgs false
set_option linter.unusedVariables false
set_option linter.unusedSimpArgs false
set_option linter.unusedVariables false
open Go.RowKit
attribute [local irreducible] Pv WO WC Fn
set_option maxRecDepth 100000

theorem crs_at {l : List Int} {i : Nat} {z : Int} (h : l[i]? = some z) : (crs l)[i]? = some [.int .u32 z] := by simp [crs, h]
def lenM (n : Nat) (ex : Bool) (dt pl : ByteArray) (pd : Int) : Int := 12 + 4 * n + pl.size + pd + (if ex = true then 4 + (dt.size : Int) else 0)
def chkR (kd : Int) (n : Nat) (ex : Bool) (pf : Int) (dt pl : ByteArray) (pd : Int) : Int :=
  if 127 < kd ∨ pd < 0 ∨ 255 < pd then 5 else if 15 < n then 4 else if dt.size % 4 ≠ 0 ∨ (ex = false ∧ (pf ≠ 0 ∨ dt ≠ E0)) then 2 else if 1500 < lenM n ex dt pl pd then 4 else 0
end Go.Proofs.Ytlhlidmhlhodiaa

/-
  The reference of rtp: Head.
-/
namespace Go.Proofs.Ytlhlidmhlhodiaa
set_option linter.unusedSimpArgs false
set_option linter.unusedVariables false
set_option linter.unusedSimpArgs false
set_option linter.unusedVariables false
open Go.RowKit
attribute [local irreducible] Pv WO WC Fn
set_option maxRecDepth 100000
attribute [local irreducible] ByteArray.extract

def bi (c : Bool) (n : Int) : Int := if c = true then n else 0
theorem bi_or (c : Bool) (n : Int) : bi c n = 0 ∨ bi c n = n := by cases c <;> simp [bi]
def csT (cs : List Int) : Nat → ByteArray
  | 0 => E0
  | i + 1 => match cs[i]? with
    | some z => csT cs i ++ numS 4 z
    | none => csT cs i
theorem csT_le (cs : List Int) : ∀ i, (csT cs i).size ≤ 4 * i
  | 0 => Nat.le_refl _
  | i + 1 => by
    have := csT_le cs i
    rw [csT]
    split
    · rw [ByteArray.size_append, numS_size]; omega
    · omega
def hdT (mrk : Bool) (kd sq t ss : Int) (cs : List Int) (ex : Bool) (pf : Int) (dt : ByteArray) (pd : Int) : ByteArray :=
  numS 1 (128 + bi (decide (0 < pd)) 32 + bi ex 16 + cs.length) ++ numS 1 (bi mrk 128 + kd) ++ (numS 2 sq ++ numS 4 t ++ numS 4 ss) ++ csT cs cs.length ++ (if ex = true then numS 2 pf ++ numS 2 (dt.size / 4 : Nat) ++ dt else E0)
def zrT : Nat → ByteArray
  | 0 => E0
  | i + 1 => zrT i ++ ⟨#[0]⟩
theorem zrT_size : ∀ i, (zrT i).size = i
  | 0 => rfl
  | i + 1 => by rw [zrT, ByteArray.size_append, zrT_size i]; rfl
theorem hdT_le (mrk : Bool) (kd sq t ss : Int) (cs : List Int) (ex : Bool) (pf : Int) (dt : ByteArray) (pd : Int) : (hdT mrk kd sq t ss cs ex pf dt pd).size ≤ 16 + 4 * cs.length + dt.size := by
  have h := csT_le cs cs.length
  unfold hdT
  cases ex with
  | true => rw [if_pos rfl]; simp only [ByteArray.size_append, numS_size]; omega
  | false => rw [if_neg (by simp)]; simp only [ByteArray.size_append, numS_size, show E0.size = 0 from rfl]; omega
def txR (mrk : Bool) (kd sq t ss : Int) (cs : List Int) (ex : Bool) (pf : Int) (dt pl : ByteArray) (pd : Int) : ByteArray :=
  hdT mrk kd sq t ss cs ex pf dt pd ++ pl ++ (if 0 < pd then zrT (pd.toNat - 1) ++ numS 1 pd else E0)
end Go.Proofs.Ytlhlidmhlhodiaa

/-
  The reference of rtp: Check.
-/
namespace Go.Proofs.Ytlhlidmhlhodiaa
set_option linter.unusedSimpArgs false
set_option linter.unusedVariables false
open Go.RowKit
attribute [local irreducible] Pv WO WC Fn
set_option maxRecDepth 100000
attribute [local irreducible] ByteArray.extract

theorem csT_size (cs : List Int) : ∀ i, i ≤ cs.length → (csT cs i).size = 4 * i
  | 0, _ => rfl
  | i + 1, h => by
    rw [csT, List.getElem?_eq_getElem (show i < cs.length by omega)]
    simp only
    rw [ByteArray.size_append, numS_size, csT_size cs i (by omega)]; omega
theorem txR_size (mrk : Bool) (kd sq t ss : Int) (cs : List Int) (ex : Bool) (pf : Int) (dt pl : ByteArray) (pd : Int) (hp : 0 ≤ pd) : ((txR mrk kd sq t ss cs ex pf dt pl pd).size : Int) = lenM cs.length ex dt pl pd := by
  have h := csT_size cs cs.length (Nat.le_refl _)
  have e0 : E0.size = 0 := rfl
  unfold txR hdT lenM
  cases ex with
  | true =>
    rw [if_pos rfl, if_pos rfl]
    by_cases h0 : 0 < pd
    · rw [if_pos h0]; simp only [ByteArray.size_append, numS_size, zrT_size, h]; omega
    · rw [if_neg h0]; simp only [ByteArray.size_append, numS_size, h, e0]; omega
  | false =>
    simp only [Bool.false_eq_true, if_false]
    by_cases h0 : 0 < pd
    · rw [if_pos h0]; simp only [ByteArray.size_append, numS_size, zrT_size, h, e0]; omega
    · rw [if_neg h0]; simp only [ByteArray.size_append, numS_size, h, e0]; omega
end Go.Proofs.Ytlhlidmhlhodiaa

/-
  The laws of rtp: Few.
-/
namespace Go.Proofs.Ytlhlidmhlhodiaa
set_option linter.unusedSimpArgs false
set_option linter.unusedVariables false
set_option linter.unusedSimpArgs false
set_option linter.unusedVariables false
open Go.RowKit
attribute [local irreducible] Pv WO WC Fn
set_option maxRecDepth 100000
attribute [local irreducible] ByteArray.extract

def tblFw (d0 p0 d1 p1 : ByteArray) (x y : It) : Nat → List (List It) → Value → List (List It) → Prop := fun k Ls v Ms => match k with
  | 1 => v = .string d0 ∧ Ms = Ls
  | 4 => v = .string p0 ∧ Ms = Ls
  | 2 => v = .string d1 ∧ Ms = [[]]
  | 5 => v = .string p1 ∧ Ms = [[]]
  | 7 => v = undef ∧ Ms = [[x]]
  | _ => v = undef ∧ Ms = [[y]]
theorem tblFw_rd {d0 p0 d1 p1 : ByteArray} {x y : It} : ∀ k ∈ [1, 4], Rdr (tblFw d0 p0 d1 p1 x y) k := fun k hk L v Ms h => by
  simp only [List.mem_cons, List.not_mem_nil, or_false] at hk
  rcases hk with rfl | rfl
  · exact h.2
  · exact h.2
theorem gFlag (b : Bool) (x r : Int) (h : (if b = true then x else 0) = r) : Fn Try.prog 71 #[.bool b, .int .u8 x] [] [] (fun v L' R' => v = .int .u8 r ∧ L' = [] ∧ R' = []) := by
  subst h
  cases b with
  | true =>
    refine fn_intro Try.func71 rfl Try.ntmps71 rfl (fun E => ?_)
    (repeat (first | ((first | (apply wo_v; rfl) ); (· first | (apply pv_ev; rfl) )) | apply wo_nil | apply wc_seq | apply wc_region | apply wc_ret | (apply wc_true; rfl) ))
    exact ret1 rfl rfl ⟨rfl, rfl, rfl⟩ ((by (repeat (first | apply sub_nil )); done) : List.Perm _ ([] ++ _)) (by first | exact fun _ h => h | (intro r hr; cases hr; done) | (simp; done) | exact fun _ h => List.mem_append_left _ h | (intro r hr; simp [hr]; done))
  | false =>
    refine fn_intro Try.func71 rfl Try.ntmps71 rfl (fun E => ?_)
    (repeat (first | ((first | (apply wo_v; rfl) ); (· first | (apply pv_ev; rfl) )) | apply wo_nil | apply wc_seq | apply wc_region | apply wc_skip | apply wc_ret | (apply wc_true; rfl) | (apply wc_false; rfl) ))
    exact ret1 rfl rfl ⟨rfl, rfl, rfl⟩ ((by (repeat (first | apply sub_nil )); done) : List.Perm _ ([] ++ _)) (by first | exact fun _ h => h | (intro r hr; cases hr; done) | (simp; done) | exact fun _ h => List.mem_append_left _ h | (intro r hr; simp [hr]; done))
end Go.Proofs.Ytlhlidmhlhodiaa

/-
  Package rtp: a packet's bytes.
-/
namespace Go.Proofs.Ytlhlidmhlhodiaa
set_option linter.unusedSimpArgs false
set_option linter.unusedVariables false
set_option linter.unusedSimpArgs false
set_option linter.unusedVariables false
open Go.RowKit
attribute [local irreducible] Pv WO WC Fn
set_option maxRecDepth 100000
attribute [local irreducible] ByteArray.extract

set_option maxHeartbeats 4000000 in
theorem wU32R (g c : Nat) (p ao : Option Addr) (s : ByteArray) (xs : List Int) (A : Option Addr) (n c2 : Nat) (R : List Ro) (hS : SQ R 1 A n c2 (crs xs)) (hx : ∀ x ∈ xs, 0 ≤ x ∧ x ≤ 4294967295) (hl : xs.length ≤ 1000000) (hw : WOk g p ao c s) (hz : s.size ≤ 1098000000000) :
    Fn Try.prog 72 #[.pointer (some ⟨g, 0, none⟩), .slice A n c2] (wrH g p ao c s) R
    (fun v L' R' => ∃ p' ao' c', v = .pointer (some ⟨g, 0, none⟩) ∧ L' = wrH g p' ao' c' (s ++ numsS 4 xs) ∧ R' = [] ∧ WOk g p' ao' c' (s ++ numsS 4 xs)) := by
  have hn : n = xs.length := by rw [← hS.len]; simp
  subst hn
  refine fn_intro Try.func72 rfl Try.ntmps72 rfl (fun E => ?_)
  (repeat (first | ((first | (apply wo_v; rfl) ); (· first | (apply pv_ev; rfl) | (apply g_bi; first | (apply pv_len_sl; rfl) ) )) | apply wo_nil | apply wc_seq | apply wc_region | apply wc_block ))
  refine wc_loop' (fun m st => ∃ (j : Nat) (p' ao' : Option Addr) (c' : Nat), m = xs.length - j ∧ st = ⟨[(0, .pointer (some ⟨g, 0, none⟩)), (7, .slice A xs.length c2), (8, .int .i64 xs.length), (9, .int .i64 j)], wrH g p' ao' c' (s ++ numsS 4 (xs.take j)), R⟩ ∧ j ≤ xs.length ∧ WOk g p' ao' c' (s ++ numsS 4 (xs.take j)))
    ⟨0, p, ao, c, rfl, by rw [List.take_zero, show numsS 4 [] = E0 from rfl, append_E0], Nat.zero_le _, by rw [List.take_zero, show numsS 4 [] = E0 from rfl, append_E0]; exact hw⟩ (wk_mk (by (repeat (first | apply wkf_nil | (apply wkf_cons; rfl))); done) (by (repeat (first | apply sub_nil )); done) (by first | exact fun _ h => h | (intro r hr; cases hr; done) | (simp; done) | exact fun _ h => List.mem_append_left _ h | (intro r hr; simp [hr]; done))) ?_
  clear hw p ao c
  rintro m st ⟨j, p, ao, c, rfl, rfl, hj, hw⟩
  by_cases hlt : j < xs.length
  · obtain ⟨x, he⟩ : ∃ x, xs[j]? = some x := ⟨_, List.getElem?_eq_getElem hlt⟩
    have hr : (crs xs)[j]? = some [.int .u32 x] := crs_at he
    have hxb := hx x (List.mem_of_getElem? he)
    have hS' : (s ++ numsS 4 (xs.take j)).size ≤ 1099000000000 := by
      rw [ByteArray.size_append, numsS_size, List.length_take]; omega
    have hnext := numsS_take (k := 4) he
    obtain ⟨S0, hS0⟩ : ∃ S0, s ++ numsS 4 (xs.take j) = S0 := ⟨_, rfl⟩
    have hnx : s ++ numsS 4 (xs.take (j + 1)) = S0 ++ numsS 4 [x] := by rw [hnext, ← ByteArray.append_assoc, hS0]; show S0 ++ numS 4 x = S0 ++ (numS 4 x ++ E0); rw [append_E0]
    rw [hS0] at hw hS' ⊢
    clear hnext hS0
    have hN := fun bl c2 => wNum g c bl c2 p ao S0 4 4 [x] rfl (by intro y hy; rcases List.mem_singleton.1 hy with rfl; omega) (by simp) hw hS'
    rw [← hnx] at hN
    obtain ⟨b1, o1, rfl, hmem⟩ := hS.pos (by omega)
    (repeat (first | ((first | (apply wo_v; rfl) ); (· first | (apply pv_ev; rfl) | (apply g_load; first | (apply pv_ld; rfl; (· (repeat (first | apply sel_there))); rfl) | (apply pv_ld_ownf; rfl; (· (repeat (first | fail ))); (· assumption); rfl) | (apply pv_ld_own1; rfl; (· (repeat (first | apply sel_there))); (· assumption)) | (apply pv_ld_rof; rfl; (· (first | assumption )); (· assumption); rfl) | (apply pv_ld_ro1; rfl; (· (first | assumption )); (· assumption)) ) | (apply g_conv; first | (apply a_conv; rfl; infer_instance; infer_instance; infer_instance; omega) ) | (apply g_idx; first | (apply pv_idx; rfl; rfl; omega) ) )) | apply wo_nil | apply wc_seq | apply wc_region | apply wc_block | apply wc_skip | (apply wc_true; rfl) | (apply wc_false; rfl) | (apply a_dec_t; rfl; (· first | assumption | omega)) | (apply wo_bsl; (· (repeat (first | apply Rws'.nil | (apply Rws'.one; rfl; rfl; rfl) ))); rfl; rfl; rfl; rfl; intro bx) ))
    (refine wo_call (hN _ _) rfl (by (repeat (first | apply sub_nil | (apply sub_cons; (· (repeat (first | apply sel_here | apply sel_there)))))); done) (by first | exact fun _ h => h | (intro r hr; cases hr; done) | (simp; done) | exact fun _ h => List.mem_append_left _ h | (intro r hr; simp [hr]; done)) rfl ?_; rintro v L' R' ⟨p', ao', c', rfl, rfl, rfl, hw'⟩ H' hH RR hR; simp only [List.cons_append, List.nil_append] at hH hR; subst hH; have hR := hR.symm; subst hR)
    (repeat (first | ((first | (apply wo_v; rfl) ); (· first | (apply pv_ev; rfl) | (apply g_bin; first | (apply a_add; rfl; rfl; infer_instance; omega) ) )) | apply wo_nil | apply wc_region ))
    exact loop_end ⟨j + 1, p', ao', c', rfl, rfl, by omega, hw'⟩ (by omega) (wk_mk (by (repeat (first | apply wkf_nil | (apply wkf_cons; rfl))); done) (by (repeat (first | apply sub_nil )); done) (by first | exact fun _ h => h | (intro r hr; cases hr; done) | (simp; done) | exact fun _ h => List.mem_append_left _ h | (intro r hr; simp [hr]; done)))
  · obtain rfl : j = xs.length := by omega
    rw [List.take_length] at hw ⊢
    (repeat (first | ((first | (apply wo_v; rfl) ); (· first | (apply pv_ev; rfl) )) | apply wo_nil | apply wc_seq | apply wc_region | (apply wc_exit; rfl) | apply wc_ret | (apply wc_true; rfl) | (apply wc_false; rfl) | (apply a_dec_t; rfl; (· first | assumption | omega)) | (apply a_dec_f; rfl; (· first | assumption | omega)) ))
    exact retv rfl (by (repeat (first | apply RV.nil | (apply RV.tmp; rfl) )); done) ⟨p, ao, c, rfl, rfl, rfl, hw⟩ (by (repeat (first | apply sub_nil )); done) (by first | exact fun _ h => h | (intro r hr; cases hr; done) | (simp; done) | exact fun _ h => List.mem_append_left _ h | (intro r hr; simp [hr]; done))
theorem numS1 {x : Int} (h : 0 ≤ x ∧ x ≤ 255) : numS 1 x = b1 x := by
  show E0 ++ b1 (x % 256) = b1 x
  rw [E0_append, Int.emod_eq_of_lt h.1 (by omega)]
theorem brows_two {x y : Int} (hx : 0 ≤ x ∧ x ≤ 255) (hy : 0 ≤ y ∧ y ≤ 255) : brows (b1 x ++ b1 y) = [[.int .u8 x], [.int .u8 y]] := by
  have e1 := b1_rows hx
  have e2 := b1_rows hy
  have : brows (b1 x ++ b1 y) = brows (b1 x) ++ brows (b1 y) := by simp [brows]
  rw [this, e1, e2]; rfl
theorem csT_take (cs : List Int) : ∀ i, i ≤ cs.length → csT cs i = numsS 4 (cs.take i)
  | 0, _ => rfl
  | i + 1, h => by
    have he := List.getElem?_eq_getElem (show i < cs.length by omega)
    rw [csT, he]
    simp only
    rw [numsS_take he, csT_take cs i (by omega)]
def pdB (pd : Int) : Nat → ByteArray
  | 0 => E0
  | i + 1 => pdB pd i ++ b1 (if (i : Int) = pd - 1 then pd else 0)
theorem pdB_size (pd : Int) : ∀ i, (pdB pd i).size = i
  | 0 => rfl
  | i + 1 => by rw [pdB, ByteArray.size_append, pdB_size pd i, b1_size]
theorem pdB_zr (pd : Int) : ∀ i : Nat, (i : Int) ≤ pd - 1 → pdB pd i = zrT i
  | 0, _ => rfl
  | i + 1, h => by
    rw [pdB, pdB_zr pd i (by omega), if_neg (by omega), zrT]; rfl
theorem pdB_end (pd : Int) (h0 : 0 ≤ pd ∧ pd ≤ 255) : pdB pd pd.toNat = (if 0 < pd then zrT (pd.toNat - 1) ++ numS 1 pd else E0) := by
  by_cases h : 0 < pd
  · rw [if_pos h]
    obtain ⟨i, hi⟩ : ∃ i, pd.toNat = i + 1 := ⟨pd.toNat - 1, by omega⟩
    rw [hi, pdB, pdB_zr pd i (by omega), if_pos (by omega), numS1 h0]; rfl
  · rw [if_neg h, show pd.toNat = 0 by omega]; rfl
abbrev wrQ1 (g : Nat) (t : ByteArray) (v : Value) (Ms : List (List It)) : Prop := ∃ (p ao : Option Addr) (c : Nat), v = .pointer (some ⟨g, 0, none⟩) ∧ Ms = [wrH g p ao c t] ∧ WOk g p ao c t
abbrev wrQ0 (g : Nat) (t : ByteArray) (v : Value) (Ms : List (List It)) : Prop := ∃ (p ao : Option Addr) (c : Nat), v = .pointer (some ⟨g, 0, none⟩) ∧ Ms = [wrH g p ao c t, []] ∧ WOk g p ao c t
abbrev newS (T : TypeId) (xs : List (List Value)) (v : Value) (Ms : List (List It)) : Prop := ∃ b, v = .slice (some ⟨b, 0, none⟩) xs.length xs.length ∧ Ms = [[.own T 1 (some ⟨b, 0, none⟩) xs.length xs.length xs]]
def tblA (g : Nat) (T1 : ByteArray) (A B x1 x2 x3 : Int) : Nat → List (List It) → Value → List (List It) → Prop := fun k Ls v Ms => match k with
  | 3 => v = .int .u8 x1 ∧ Ms = [[]]
  | 7 => v = .int .u8 x2 ∧ Ms = [[]]
  | 16 => v = .int .u8 x3 ∧ Ms = [[]]
  | 20 => newS 5 [[.int .u8 A], [.int .u8 B]] v Ms
  | _ => wrQ0 g T1 v Ms
def tblB (g : Nat) (sq t ss : Int) (T2 T3 T4 : ByteArray) : Nat → List (List It) → Value → List (List It) → Prop := fun k Ls v Ms => match k with
  | 2 => newS 24 [[.int .u16 sq]] v Ms
  | 3 => wrQ0 g T2 v Ms
  | 8 => newS 30 [[.int .u32 t], [.int .u32 ss]] v Ms
  | 9 => wrQ0 g T3 v Ms
  | _ => wrQ1 g T4 v Ms
def tblC5 (g : Nat) (pf ln : Int) (dt : ByteArray) (T5 T6 : ByteArray) : Nat → List (List It) → Value → List (List It) → Prop := fun k Ls v Ms => match k with
  | 7 => newS 24 [[.int .u16 pf], [.int .u16 ln]] v Ms
  | 8 => wrQ0 g T5 v Ms
  | 11 => newS 9 [[.string dt]] v Ms
  | _ => wrQ0 g T6 v Ms
set_option maxHeartbeats 64000000 in
theorem gText (mrk : Bool) (kd sq t ss : Int) (cs : List Int) (ex : Bool) (pf : Int) (dt pl : ByteArray) (pd : Int) (ao : Option Addr) (n c : Nat) (R : List Ro) (hS : SQ R 1 ao n c (crs cs)) (hn : cs.length ≤ 15) (hdt : dt.size ≤ 100000) (hpl : pl.size ≤ 100000) (hpd : 0 ≤ pd ∧ pd ≤ 255)
    (h1 : 0 ≤ kd ∧ kd ≤ 127) (h2 : 0 ≤ sq ∧ sq ≤ 65535) (h3 : 0 ≤ t ∧ t ≤ 4294967295) (h4 : 0 ≤ ss ∧ ss ≤ 4294967295) (h5 : 0 ≤ pf ∧ pf ≤ 65535) (h6 : ∀ z ∈ cs, 0 ≤ z ∧ z ≤ 4294967295) :
    Fn Try.prog 16 #[.agg (rpR mrk kd sq t ss (.slice ao n c) ex pf dt pl pd).toArray] [] R (fun v L' R' => v = .string (txR mrk kd sq t ss cs ex pf dt pl pd) ∧ L' = [] ∧ R' = []) := by
  have hnn : n = cs.length := by rw [← hS.len]; simp
  subst hnn
  obtain ⟨x1, hx1⟩ : ∃ x, bi (decide (0 < pd)) 32 = x := ⟨_, rfl⟩
  obtain ⟨x2, hx2⟩ : ∃ x, bi ex 16 = x := ⟨_, rfl⟩
  obtain ⟨x3, hx3⟩ : ∃ x, bi mrk 128 = x := ⟨_, rfl⟩
  have o1 := bi_or (decide (0 < pd)) 32
  have o2 := bi_or ex 16
  have o3 := bi_or mrk 128
  rw [hx1] at o1
  rw [hx2] at o2
  rw [hx3] at o3
  have q1 := gFlag (decide (0 < pd)) 32 x1 hx1
  have q2 := gFlag ex 16 x2 hx2
  have q3 := gFlag mrk 128 x3 hx3
  have hA : 0 ≤ 128 + x1 + x2 + cs.length ∧ 128 + x1 + x2 + cs.length ≤ 255 := by omega
  have hB : 0 ≤ x3 + kd ∧ x3 + kd ≤ 255 := by omega
  unfold txR hdT
  rw [hx1, hx2, hx3, numS1 hA, numS1 hB, csT_take cs cs.length (Nat.le_refl _), List.take_length, ← pdB_end pd hpd]
  obtain ⟨A, hAe⟩ : ∃ A, 128 + x1 + x2 + (cs.length : Int) = A := ⟨_, rfl⟩
  obtain ⟨B, hBe⟩ : ∃ B, x3 + kd = B := ⟨_, rfl⟩
  rw [hAe] at hA ⊢
  rw [hBe] at hB ⊢
  have hW1 := fun g bl => wU8 g 0 bl 2 none none E0 (b1 A ++ b1 B) ⟨.inl rfl, .inl ⟨rfl, rfl, rfl⟩⟩ (by rw [ByteArray.size_append, b1_size]; omega) (by rw [ByteArray.size_append, b1_size, b1_size]; decide)
  simp only [E0_append] at hW1
  rw [show byO = fun bl c z => It.own 5 1 (some ⟨bl, 0, none⟩) z.size c (brows z) from rfl] at hW1
  have zAB : (b1 A ++ b1 B).size = 2 := by rw [ByteArray.size_append, b1_size, b1_size]
  simp only [brows_two hA hB, zAB] at hW1
  refine fn_intro Try.func16 rfl Try.ntmps16 rfl (fun E => ?_)
  (repeat (first | ((first | (apply wo_v; rfl) ); (· first | (apply pv_ev; rfl) )) | apply wo_nil | apply wc_seq | apply wc_region | (apply wo_box1; rfl; rfl; rfl; intro bx) | (apply wo_boxa; rfl; rfl; intro bx) | (apply wo_alloc; rfl; intro bx) ))
  obtain ⟨g, hg⟩ : ∃ g, g = bx := ⟨_, rfl⟩
  subst hg
  obtain ⟨bp, hbp⟩ : ∃ b, b = bx := ⟨_, rfl⟩
  subst hbp
  refine wc_own0 5 1 ?_
  have hW1 := hW1 g
  generalize hT1 : b1 A ++ b1 B = T1 at hW1 zAB ⊢
  refine wc_join0 (fun st' => ∃ (p' ao' : Option Addr) (c' : Nat), st' = ⟨[(1, .pointer (some ⟨bp, 0, none⟩)), (3, .pointer (some ⟨g, 0, none⟩))], wrH g p' ao' c' T1 ++ [rpI bp mrk kd sq t ss (.slice ao cs.length c) ex pf dt pl pd], R⟩ ∧ WOk g p' ao' c' T1) ?_ ?_
  · (refine wc_regM [0, 1, 2, 3, 4] (aslL [(3, [2]), (7, [3]), (16, [4]), (20, [1]), (21, [0, 1])]) (tblA g T1 A B x1 x2 x3) ([rpI bp mrk kd sq t ss (.slice ao cs.length c) ex pf dt pl pd]) (fm [(0, wrH g none none 0 E0), (1, []), (2, []), (3, []), (4, [])]) mixed (by kernel_rfl) (by kernel_rfl) (by decide) (aslL_ok (by decide)) (by (repeat (first | (apply prm_cons; (· (repeat (first | apply sel_here | apply sel_there)))) | apply List.Perm.nil )); done) ?_; (repeat (first | (apply HdM.val; rfl; rfl; (· first | apply gok_none ); (· first | (apply pv_ev; rfl) | (apply pv_fld; rfl) | (apply g_load; first | (apply pv_ld; rfl; (· (repeat (first | apply sel_here ))); rfl) ) )) )))
    (refine hm_eff (cs := [2]) rfl (by decide) rfl rfl (by first | exact gok_none | exact gok_run rfl rfl) (fun a ha => outc_mono (outc_call (F1 := _) (T := fun v M => v = .int .u8 x1 ∧ M = []) (q1) rfl (by (repeat (first | apply sub_nil )); done) (by first | exact fun _ h => h | (intro r hr; cases hr; done) | (simp; done) | exact fun _ h => List.mem_append_left _ h | (intro r hr; simp [hr]; done)) (by rintro v L' R' ⟨rfl, rfl, _⟩; exact ⟨_, ⟨rfl, rfl⟩, (by (repeat (first | (apply prm_cons; (· (repeat (first | apply sel_here )))) | apply List.Perm.nil )); done)⟩) a ha) (fun v M h => ⟨[[]], And.intro h.1 rfl, rfl, h.2⟩)) ⟨_, _, And.intro rfl rfl, rfl⟩ ?_; rintro v Ms ⟨rfl, rfl⟩ _; simp only [setls, setl, reduceIte, Nat.reduceEqDiff]; (repeat (first | (apply HdM.val; rfl; rfl; (· first | apply gok_none ); (· first | (apply pv_ev; rfl) | (apply pv_fld; rfl) | (apply g_load; first | (apply pv_ld; rfl; (· (repeat (first | apply sel_here ))); rfl) ) | (apply g_bin; first | (apply (a_or 4); rfl; rfl; infer_instance; rfl; omega) | (apply (a_or 5); rfl; rfl; infer_instance; rfl; omega) | (apply (a_or 6); rfl; rfl; infer_instance; rfl; omega) ) )) )))
    (refine hm_eff (cs := [3]) rfl (by decide) rfl rfl (by first | exact gok_none | exact gok_run rfl rfl) (fun a ha => outc_mono (outc_call (F1 := _) (T := fun v M => v = .int .u8 x2 ∧ M = []) (q2) rfl (by (repeat (first | apply sub_nil )); done) (by first | exact fun _ h => h | (intro r hr; cases hr; done) | (simp; done) | exact fun _ h => List.mem_append_left _ h | (intro r hr; simp [hr]; done)) (by rintro v L' R' ⟨rfl, rfl, _⟩; exact ⟨_, ⟨rfl, rfl⟩, (by (repeat (first | (apply prm_cons; (· (repeat (first | apply sel_here )))) | apply List.Perm.nil )); done)⟩) a ha) (fun v M h => ⟨[[]], And.intro h.1 rfl, rfl, h.2⟩)) ⟨_, _, And.intro rfl rfl, rfl⟩ ?_; rintro v Ms ⟨rfl, rfl⟩ _; simp only [setls, setl, reduceIte, Nat.reduceEqDiff]; (repeat (first | (apply HdM.val; rfl; rfl; (· first | apply gok_none ); (· first | (apply pv_ev; rfl) | (apply pv_fld; rfl) | (apply g_load; first | (apply pv_ld; rfl; (· (repeat (first | apply sel_here ))); rfl) ) | (apply g_bin; first | (apply (a_or 4); rfl; rfl; infer_instance; rfl; omega) | (apply (a_or 5); rfl; rfl; infer_instance; rfl; omega) ) | (apply g_bi; first | (apply pv_len_sl; rfl) ) | (apply g_conv; first | (apply a_conv; rfl; infer_instance; infer_instance; infer_instance; omega) ) )) )))
    (refine hm_eff (cs := [4]) rfl (by decide) rfl rfl (by first | exact gok_none | exact gok_run rfl rfl) (fun a ha => outc_mono (outc_call (F1 := _) (T := fun v M => v = .int .u8 x3 ∧ M = []) (q3) rfl (by (repeat (first | apply sub_nil )); done) (by first | exact fun _ h => h | (intro r hr; cases hr; done) | (simp; done) | exact fun _ h => List.mem_append_left _ h | (intro r hr; simp [hr]; done)) (by rintro v L' R' ⟨rfl, rfl, _⟩; exact ⟨_, ⟨rfl, rfl⟩, (by (repeat (first | (apply prm_cons; (· (repeat (first | apply sel_here )))) | apply List.Perm.nil )); done)⟩) a ha) (fun v M h => ⟨[[]], And.intro h.1 rfl, rfl, h.2⟩)) ⟨_, _, And.intro rfl rfl, rfl⟩ ?_; rintro v Ms ⟨rfl, rfl⟩ _; simp only [setls, setl, reduceIte, Nat.reduceEqDiff]; (repeat (first | (apply HdM.val; rfl; rfl; (· first | apply gok_none ); (· first | (apply pv_ev; rfl) | (apply pv_fld; rfl) | (apply g_load; first | (apply pv_ld; rfl; (· (repeat (first | apply sel_here ))); rfl) ) | (apply g_bin; first | (apply (a_or 4); rfl; rfl; infer_instance; rfl; omega) | (apply (a_or 5); rfl; rfl; infer_instance; rfl; omega) | (apply (a_or 6); rfl; rfl; infer_instance; rfl; omega) | (apply (a_or 7); rfl; rfl; infer_instance; rfl; omega) ) )) )))
    (refine hm_eff (cs := [1]) rfl (by decide) rfl rfl (by first | exact gok_none | exact gok_run rfl rfl) (fun a ha => outc_mono (outc_bsl (by (repeat (first | apply Rws'.nil | (apply Rws'.one; rfl; rfl; rfl) )); done) rfl rfl rfl a ha) (fun v M h => by obtain ⟨b, h1, h2⟩ := h; rw [hAe, hBe] at h2; exact ⟨[M], ⟨b, h1, congrArg (fun x => [x]) h2⟩, rfl, by simp⟩)) (⟨_, _, Exists.intro 0 (And.intro rfl rfl), rfl⟩) ?_; rintro v Ms ⟨b20, rfl, rfl⟩ _; simp only [setls, setl, reduceIte, Nat.reduceEqDiff]; (repeat (first | (apply HdM.val; rfl; rfl; (· first | fail ); (· first | fail )) )))
    (refine hm_eff (cs := [0, 1]) rfl (by decide) rfl rfl (by first | exact gok_none | exact gok_run rfl rfl) (fun a ha => outc_mono (outc_call (F1 := _) (T := fun v M => ∃ (p ao : Option Addr) (c : Nat), v = .pointer (some ⟨g, 0, none⟩) ∧ M = wrH g p ao c T1 ∧ WOk g p ao c T1) (hW1 b20) rfl (by (repeat (first | apply sub_nil )); done) (by first | exact fun _ h => h | (intro r hr; cases hr; done) | (simp; done) | exact fun _ h => List.mem_append_left _ h | (intro r hr; simp [hr]; done)) (by rintro v L' R' ⟨p', ao', c', rfl, rfl, _, hw'⟩; exact ⟨_, ⟨p', ao', c', rfl, rfl, hw'⟩, (by (repeat (first | (apply prm_cons; (· (repeat (first | apply sel_here )))) | apply List.Perm.nil )); done)⟩) a ha) (fun v M h => Exists.elim h fun p h => Exists.elim h fun ao h => Exists.elim h fun c h => ⟨[M, []], Exists.intro p (Exists.intro ao (Exists.intro c (And.intro h.1 (And.intro (congrArg (fun x => [x, []]) h.2.1) h.2.2)))), rfl, by simp⟩)) ((by obtain ⟨p, ao, c, h⟩ := WOk.ex g T1; exact ⟨_, _, Exists.intro p (Exists.intro ao (Exists.intro c (And.intro rfl (And.intro rfl h)))), rfl⟩)) ?_; rintro v Ms ⟨p1, ao1, c1, rfl, rfl, hw1⟩ _; simp only [setls, setl, reduceIte, Nat.reduceEqDiff]; (repeat (first | fail )))
    (refine HdM.nil ?_; intro H hH; simp only [Hp, fm, look, setl, List.flatMap_cons, List.flatMap_nil, reduceIte, Nat.reduceEqDiff, Option.getD_some, List.append_nil, List.cons_append, List.nil_append] at hH; subst hH)
    exact cut_end ⟨p1, ao1, c1, rfl, hw1⟩ (wk_mk (by (repeat (first | apply wkf_nil | (apply wkf_cons; rfl))); done) (by (repeat (first | apply sub_nil | (apply sub_cons; (· (repeat (first | apply sel_here | apply sel_there)))))); done) (by first | exact fun _ h => h | (intro r hr; cases hr; done) | (simp; done) | exact fun _ h => List.mem_append_left _ h | (intro r hr; simp [hr]; done)))
  rintro st' ⟨p1, ao1, c1, rfl, hw1⟩
  clear hW1 q1 q2 q3 hx1 hx2 hx3
  obtain ⟨T2, hT2⟩ : ∃ T2, T1 ++ numsS 2 [sq] = T2 := ⟨_, rfl⟩
  obtain ⟨T3, hT3⟩ : ∃ T3, T2 ++ numsS 4 [t, ss] = T3 := ⟨_, rfl⟩
  obtain ⟨T4, hT4⟩ : ∃ T4, T3 ++ numsS 4 cs = T4 := ⟨_, rfl⟩
  have z2 : T2.size = 4 := by rw [← hT2, ByteArray.size_append, numsS_size, zAB]; rfl
  have z3 : T3.size = 12 := by rw [← hT3, ByteArray.size_append, numsS_size, z2]; rfl
  have z4 : T4.size = 12 + 4 * cs.length := by rw [← hT4, ByteArray.size_append, numsS_size, z3]
  have hW2 := fun bl => wU16 g c1 bl 1 p1 ao1 T1 [sq] (by intro y hy; rcases List.mem_singleton.1 hy with rfl; exact h2) (by simp) hw1 (by omega)
  rw [hT2] at hW2
  have hW3 := fun c2 p2 ao2 hw2 bl => wU32 g c2 bl 2 p2 ao2 T2 [t, ss] (by intro y hy; simp only [List.mem_cons, List.not_mem_nil, or_false] at hy; rcases hy with rfl | rfl; exact h3; exact h4) (by simp) hw2 (by omega)
  rw [hT3] at hW3
  have hW4 := fun c2 p2 ao2 hw2 => wU32R g c2 p2 ao2 T3 cs ao cs.length c R hS h6 (by omega) hw2 (by omega)
  rw [hT4] at hW4
  (repeat (first | apply wc_seq ))
  refine wc_join0 (fun st' => ∃ (p' ao' : Option Addr) (c' : Nat), st' = ⟨[(1, .pointer (some ⟨bp, 0, none⟩)), (3, .pointer (some ⟨g, 0, none⟩))], wrH g p' ao' c' T4 ++ [rpI bp mrk kd sq t ss (.slice ao cs.length c) ex pf dt pl pd], R⟩ ∧ WOk g p' ao' c' T4) ?_ ?_
  · (refine wc_regM [0, 1, 2] (aslL [(2, [1]), (3, [0, 1]), (8, [2]), (9, [0, 2]), (12, [0])]) (tblB g sq t ss T2 T3 T4) ([rpI bp mrk kd sq t ss (.slice ao cs.length c) ex pf dt pl pd]) (fm [(0, wrH g p1 ao1 c1 T1), (1, []), (2, [])]) mixed (by kernel_rfl) (by kernel_rfl) (by decide) (aslL_ok (by decide)) (by (repeat (first | (apply prm_cons; (· (repeat (first | apply sel_here | apply sel_there)))) | apply List.Perm.nil )); done) ?_; (repeat (first | (apply HdM.val; rfl; rfl; (· first | apply gok_none ); (· first | (apply pv_ev; rfl) | (apply pv_fld; rfl) | (apply g_load; first | (apply pv_ld; rfl; (· (repeat (first | apply sel_here ))); rfl) ) )) )))
    (refine hm_eff (cs := [1]) rfl (by decide) rfl rfl (by first | exact gok_none | exact gok_run rfl rfl) (fun a ha => outc_mono (outc_bsl (by (repeat (first | apply Rws'.nil | (apply Rws'.one; rfl; rfl; rfl) )); done) rfl rfl rfl a ha) (fun v M h => by obtain ⟨b, h1, h2⟩ := h; exact ⟨[M], ⟨b, h1, congrArg (fun x => [x]) h2⟩, rfl, by simp⟩)) (⟨_, _, Exists.intro 0 (And.intro rfl rfl), rfl⟩) ?_; rintro v Ms ⟨b29, rfl, rfl⟩ _; simp only [setls, setl, reduceIte, Nat.reduceEqDiff]; (repeat (first | (apply HdM.val; rfl; rfl; (· first | fail ); (· first | fail )) )))
    (refine hm_eff (cs := [0, 1]) rfl (by decide) rfl rfl (by first | exact gok_none | exact gok_run rfl rfl) (fun a ha => outc_mono (outc_call (F1 := _) (T := fun v M => ∃ (p ao : Option Addr) (c : Nat), v = .pointer (some ⟨g, 0, none⟩) ∧ M = wrH g p ao c T2 ∧ WOk g p ao c T2) (hW2 b29) rfl (by (repeat (first | apply sub_nil )); done) (by first | exact fun _ h => h | (intro r hr; cases hr; done) | (simp; done) | exact fun _ h => List.mem_append_left _ h | (intro r hr; simp [hr]; done)) (by rintro v L' R' ⟨p', ao', c', rfl, rfl, _, hw'⟩; exact ⟨_, ⟨p', ao', c', rfl, rfl, hw'⟩, (by (repeat (first | (apply prm_cons; (· (repeat (first | apply sel_here )))) | apply List.Perm.nil )); done)⟩) a ha) (fun v M h => Exists.elim h fun p h => Exists.elim h fun ao h => Exists.elim h fun c h => ⟨[M, []], Exists.intro p (Exists.intro ao (Exists.intro c (And.intro h.1 (And.intro (congrArg (fun x => [x, []]) h.2.1) h.2.2)))), rfl, by simp⟩)) ((by obtain ⟨p, ao, c, h⟩ := WOk.ex g T2; exact ⟨_, _, Exists.intro p (Exists.intro ao (Exists.intro c (And.intro rfl (And.intro rfl h)))), rfl⟩)) ?_; rintro v Ms ⟨p2, ao2, c2, rfl, rfl, hw2⟩ _; simp only [setls, setl, reduceIte, Nat.reduceEqDiff]; (repeat (first | (apply HdM.val; rfl; rfl; (· first | apply gok_none ); (· first | (apply pv_ev; rfl) | (apply pv_fld; rfl) | (apply g_load; first | (apply pv_ld; rfl; (· (repeat (first | apply sel_here ))); rfl) ) )) )))
    (refine hm_eff (cs := [2]) rfl (by decide) rfl rfl (by first | exact gok_none | exact gok_run rfl rfl) (fun a ha => outc_mono (outc_bsl (by (repeat (first | apply Rws'.nil | (apply Rws'.one; rfl; rfl; rfl) )); done) rfl rfl rfl a ha) (fun v M h => by obtain ⟨b, h1, h2⟩ := h; exact ⟨[M], ⟨b, h1, congrArg (fun x => [x]) h2⟩, rfl, by simp⟩)) (⟨_, _, Exists.intro 0 (And.intro rfl rfl), rfl⟩) ?_; rintro v Ms ⟨b35, rfl, rfl⟩ _; simp only [setls, setl, reduceIte, Nat.reduceEqDiff]; (repeat (first | (apply HdM.val; rfl; rfl; (· first | fail ); (· first | fail )) )))
    (refine hm_eff (cs := [0, 2]) rfl (by decide) rfl rfl (by first | exact gok_none | exact gok_run rfl rfl) (fun a ha => outc_mono (outc_call (F1 := _) (T := fun v M => ∃ (p ao : Option Addr) (c : Nat), v = .pointer (some ⟨g, 0, none⟩) ∧ M = wrH g p ao c T3 ∧ WOk g p ao c T3) (hW3 c2 p2 ao2 hw2 b35) rfl (by (repeat (first | apply sub_nil )); done) (by first | exact fun _ h => h | (intro r hr; cases hr; done) | (simp; done) | exact fun _ h => List.mem_append_left _ h | (intro r hr; simp [hr]; done)) (by rintro v L' R' ⟨p', ao', c', rfl, rfl, _, hw'⟩; exact ⟨_, ⟨p', ao', c', rfl, rfl, hw'⟩, (by (repeat (first | (apply prm_cons; (· (repeat (first | apply sel_here )))) | apply List.Perm.nil )); done)⟩) a ha) (fun v M h => Exists.elim h fun p h => Exists.elim h fun ao h => Exists.elim h fun c h => ⟨[M, []], Exists.intro p (Exists.intro ao (Exists.intro c (And.intro h.1 (And.intro (congrArg (fun x => [x, []]) h.2.1) h.2.2)))), rfl, by simp⟩)) ((by obtain ⟨p, ao, c, h⟩ := WOk.ex g T3; exact ⟨_, _, Exists.intro p (Exists.intro ao (Exists.intro c (And.intro rfl (And.intro rfl h)))), rfl⟩)) ?_; rintro v Ms ⟨p3, ao3, c3, rfl, rfl, hw3⟩ _; simp only [setls, setl, reduceIte, Nat.reduceEqDiff]; (repeat (first | (apply HdM.val; rfl; rfl; (· first | apply gok_none ); (· first | (apply pv_ev; rfl) | (apply pv_fld; rfl) | (apply g_load; first | (apply pv_ld; rfl; (· (repeat (first | apply sel_here ))); rfl) ) )) )))
    (refine hm_eff (cs := [0]) rfl (by decide) rfl rfl (by first | exact gok_none | exact gok_run rfl rfl) (fun a ha => outc_mono (outc_call (F1 := _) (T := fun v M => ∃ (p ao : Option Addr) (c : Nat), v = .pointer (some ⟨g, 0, none⟩) ∧ M = wrH g p ao c T4 ∧ WOk g p ao c T4) (hW4 c3 p3 ao3 hw3) rfl (by (repeat (first | apply sub_nil )); done) (by first | exact fun _ h => h | (intro r hr; cases hr; done) | (simp; done) | exact fun _ h => List.mem_append_left _ h | (intro r hr; simp [hr]; done)) (by rintro v L' R' ⟨p', ao', c', rfl, rfl, _, hw'⟩; exact ⟨_, ⟨p', ao', c', rfl, rfl, hw'⟩, (by (repeat (first | (apply prm_cons; (· (repeat (first | apply sel_here )))) | apply List.Perm.nil )); done)⟩) a ha) (fun v M h => by obtain ⟨p, ao, c, h1, h2, h3⟩ := h; exact ⟨[M], ⟨p, ao, c, h1, congrArg (fun x => [x]) h2, h3⟩, rfl, by simp⟩)) ((by obtain ⟨p, ao, c, h⟩ := WOk.ex g T4; exact ⟨_, _, Exists.intro p (Exists.intro ao (Exists.intro c (And.intro rfl (And.intro rfl h)))), rfl⟩)) ?_; rintro v Ms ⟨p4, ao4, c4, rfl, rfl, hw4⟩ _; simp only [setls, setl, reduceIte, Nat.reduceEqDiff]; (repeat (first | fail )))
    (refine HdM.nil ?_; intro H hH; simp only [Hp, fm, look, setl, List.flatMap_cons, List.flatMap_nil, reduceIte, Nat.reduceEqDiff, Option.getD_some, List.append_nil, List.cons_append, List.nil_append] at hH; subst hH)
    exact cut_end ⟨p4, ao4, c4, rfl, hw4⟩ (wk_mk (by (repeat (first | apply wkf_nil | (apply wkf_cons; rfl))); done) (by (repeat (first | apply sub_nil | (apply sub_cons; (· (repeat (first | apply sel_here | apply sel_there)))))); done) (by first | exact fun _ h => h | (intro r hr; cases hr; done) | (simp; done) | exact fun _ h => List.mem_append_left _ h | (intro r hr; simp [hr]; done)))
  rintro st' ⟨p4, ao4, c4, rfl, hw4⟩
  clear hW2 hW3 hW4 hw1
  obtain ⟨T5, hT5⟩ : ∃ T5, T4 ++ (if ex = true then numS 2 pf ++ numS 2 (dt.size / 4 : Nat) ++ dt else E0) = T5 := ⟨_, rfl⟩
  have z5 : T5.size ≤ 200000 := by
    have e0 : E0.size = 0 := rfl
    rw [← hT5]
    cases ex
    · simp only [ByteArray.size_append, z4, Bool.false_eq_true, if_false, e0]; omega
    · simp only [ByteArray.size_append, z4, if_true, numS_size]; omega
  (repeat (first | ((first | (apply wo_v; rfl) ); (· first | (apply pv_ev; rfl) | (apply pv_fld; rfl) | (apply g_load; first | (apply pv_ld; rfl; (· (repeat (first | apply sel_here | apply sel_there))); rfl) ) )) | apply wo_nil | apply wc_seq | apply wc_region | (apply wc_true; rfl) | (apply wc_false; rfl) | (apply a_dec_t; rfl; (· first | assumption | omega)) | (apply a_dec_f; rfl; (· first | assumption | omega)) | (apply a_dec_t; rfl; (· first | (simp; done) | (simp; omega))) | (apply a_dec_f; rfl; (· first | (simp; done) | (simp; omega))) ))
  refine wc_join0 (fun st' => ∃ (p' ao' : Option Addr) (c' : Nat), st' = ⟨[(1, .pointer (some ⟨bp, 0, none⟩)), (3, .pointer (some ⟨g, 0, none⟩))], wrH g p' ao' c' T5 ++ [rpI bp mrk kd sq t ss (.slice ao cs.length c) ex pf dt pl pd], R⟩ ∧ WOk g p' ao' c' T5) ?_ ?_
  · cases ex with
    | false =>
      rw [if_neg (by simp), append_E0] at hT5
      subst hT5
      (repeat (first | apply wc_skip | (apply wc_true; rfl) | (apply wc_false; rfl) ))
      exact cut_end ⟨p4, ao4, c4, rfl, hw4⟩ (wk_mk (by (repeat (first | apply wkf_nil | (apply wkf_cons; rfl))); done) (by (repeat (first | apply sub_nil )); done) (by first | exact fun _ h => h | (intro r hr; cases hr; done) | (simp; done) | exact fun _ h => List.mem_append_left _ h | (intro r hr; simp [hr]; done)))
    | true =>
      rw [if_pos rfl] at hT5
      have hq : ((dt.size / 4 : Nat) : Int) = (dt.size : Int) / 4 := by omega
      obtain ⟨T6, hT6⟩ : ∃ T6, T4 ++ numsS 2 [pf, (dt.size : Int) / 4] = T6 := ⟨_, rfl⟩
      have z6 : T6.size = T4.size + 4 := by rw [← hT6, ByteArray.size_append, numsS_size]; rfl
      have hT7 : T6 ++ catS [dt] = T5 := by
        rw [← hT5, ← hT6, hq]
        show T4 ++ (numS 2 pf ++ (numS 2 ((dt.size : Int) / 4) ++ E0)) ++ (dt ++ E0) = _
        simp only [append_E0, ByteArray.append_assoc]
      have hW5 := fun bl => wU16 g c4 bl 2 p4 ao4 T4 [pf, (dt.size : Int) / 4] (by intro y hy; simp only [List.mem_cons, List.not_mem_nil, or_false] at hy; rcases hy with rfl | rfl; exact h5; omega) (by simp) hw4 (by omega)
      rw [hT6] at hW5
      have hW6 := fun c2 p2 ao2 hw2 bl => wPut g c2 bl 1 p2 ao2 T6 [dt] (by intro y hy; rcases List.mem_singleton.1 hy with rfl; omega) (by simp) hw2 (by omega)
      rw [hT7] at hW6
      (repeat (first | (apply wc_true; rfl) ))
      (refine wc_regM [0, 1, 2] (aslL [(7, [1]), (8, [0, 1]), (11, [2]), (12, [0, 2])]) (tblC5 g pf ((dt.size : Int) / 4) dt T6 T5) ([rpI bp mrk kd sq t ss (.slice ao cs.length c) true pf dt pl pd]) (fm [(0, wrH g p4 ao4 c4 T4), (1, []), (2, [])]) mixed (by kernel_rfl) (by kernel_rfl) (by decide) (aslL_ok (by decide)) (by (repeat (first | (apply prm_cons; (· (repeat (first | apply sel_here | apply sel_there)))) | apply List.Perm.nil )); done) ?_; (repeat (first | (apply HdM.val; rfl; rfl; (· first | apply gok_none ); (· first | (apply pv_ev; rfl) | (apply pv_fld; rfl) | (apply g_load; first | (apply pv_ld; rfl; (· (repeat (first | apply sel_here ))); rfl) ) | (apply g_bin; first | (apply a_quo; rfl; rfl; infer_instance; omega) ) | (apply g_bi; first | (apply pv_len_str; rfl) ) | (apply g_conv; first | (apply a_conv; rfl; infer_instance; infer_instance; infer_instance; omega) ) )) )))
      (refine hm_eff (cs := [1]) rfl (by decide) rfl rfl (by first | exact gok_none | exact gok_run rfl rfl) (fun a ha => outc_mono (outc_bsl (by (repeat (first | apply Rws'.nil | (apply Rws'.one; rfl; rfl; rfl) )); done) rfl rfl rfl a ha) (fun v M h => by obtain ⟨b, h1, h2⟩ := h; exact ⟨[M], ⟨b, h1, congrArg (fun x => [x]) h2⟩, rfl, by simp⟩)) (⟨_, _, Exists.intro 0 (And.intro rfl rfl), rfl⟩) ?_; rintro v Ms ⟨b49, rfl, rfl⟩ _; simp only [setls, setl, reduceIte, Nat.reduceEqDiff]; (repeat (first | (apply HdM.val; rfl; rfl; (· first | fail ); (· first | fail )) )))
      (refine hm_eff (cs := [0, 1]) rfl (by decide) rfl rfl (by first | exact gok_none | exact gok_run rfl rfl) (fun a ha => outc_mono (outc_call (F1 := _) (T := fun v M => ∃ (p ao : Option Addr) (c : Nat), v = .pointer (some ⟨g, 0, none⟩) ∧ M = wrH g p ao c T6 ∧ WOk g p ao c T6) (hW5 b49) rfl (by (repeat (first | apply sub_nil )); done) (by first | exact fun _ h => h | (intro r hr; cases hr; done) | (simp; done) | exact fun _ h => List.mem_append_left _ h | (intro r hr; simp [hr]; done)) (by rintro v L' R' ⟨p', ao', c', rfl, rfl, _, hw'⟩; exact ⟨_, ⟨p', ao', c', rfl, rfl, hw'⟩, (by (repeat (first | (apply prm_cons; (· (repeat (first | apply sel_here )))) | apply List.Perm.nil )); done)⟩) a ha) (fun v M h => Exists.elim h fun p h => Exists.elim h fun ao h => Exists.elim h fun c h => ⟨[M, []], Exists.intro p (Exists.intro ao (Exists.intro c (And.intro h.1 (And.intro (congrArg (fun x => [x, []]) h.2.1) h.2.2)))), rfl, by simp⟩)) ((by obtain ⟨p, ao, c, h⟩ := WOk.ex g T6; exact ⟨_, _, Exists.intro p (Exists.intro ao (Exists.intro c (And.intro rfl (And.intro rfl h)))), rfl⟩)) ?_; rintro v Ms ⟨p5, ao5, c5, rfl, rfl, hw5⟩ _; simp only [setls, setl, reduceIte, Nat.reduceEqDiff]; (repeat (first | (apply HdM.val; rfl; rfl; (· first | apply gok_none ); (· first | (apply pv_ev; rfl) | (apply pv_fld; rfl) | (apply g_load; first | (apply pv_ld; rfl; (· (repeat (first | apply sel_here ))); rfl) ) )) )))
      (refine hm_eff (cs := [2]) rfl (by decide) rfl rfl (by first | exact gok_none | exact gok_run rfl rfl) (fun a ha => outc_mono (outc_bsl (by (repeat (first | apply Rws'.nil | (apply Rws'.one; rfl; rfl; rfl) )); done) rfl rfl rfl a ha) (fun v M h => by obtain ⟨b, h1, h2⟩ := h; exact ⟨[M], ⟨b, h1, congrArg (fun x => [x]) h2⟩, rfl, by simp⟩)) (⟨_, _, Exists.intro 0 (And.intro rfl rfl), rfl⟩) ?_; rintro v Ms ⟨b53, rfl, rfl⟩ _; simp only [setls, setl, reduceIte, Nat.reduceEqDiff]; (repeat (first | (apply HdM.val; rfl; rfl; (· first | fail ); (· first | fail )) )))
      (refine hm_eff (cs := [0, 2]) rfl (by decide) rfl rfl (by first | exact gok_none | exact gok_run rfl rfl) (fun a ha => outc_mono (outc_call (F1 := _) (T := fun v M => ∃ (p ao : Option Addr) (c : Nat), v = .pointer (some ⟨g, 0, none⟩) ∧ M = wrH g p ao c T5 ∧ WOk g p ao c T5) (hW6 c5 p5 ao5 hw5 b53) rfl (by (repeat (first | apply sub_nil )); done) (by first | exact fun _ h => h | (intro r hr; cases hr; done) | (simp; done) | exact fun _ h => List.mem_append_left _ h | (intro r hr; simp [hr]; done)) (by rintro v L' R' ⟨p', ao', c', rfl, rfl, _, hw'⟩; exact ⟨_, ⟨p', ao', c', rfl, rfl, hw'⟩, (by (repeat (first | (apply prm_cons; (· (repeat (first | apply sel_here )))) | apply List.Perm.nil )); done)⟩) a ha) (fun v M h => Exists.elim h fun p h => Exists.elim h fun ao h => Exists.elim h fun c h => ⟨[M, []], Exists.intro p (Exists.intro ao (Exists.intro c (And.intro h.1 (And.intro (congrArg (fun x => [x, []]) h.2.1) h.2.2)))), rfl, by simp⟩)) ((by obtain ⟨p, ao, c, h⟩ := WOk.ex g T5; exact ⟨_, _, Exists.intro p (Exists.intro ao (Exists.intro c (And.intro rfl (And.intro rfl h)))), rfl⟩)) ?_; rintro v Ms ⟨p6, ao6, c6, rfl, rfl, hw6⟩ _; simp only [setls, setl, reduceIte, Nat.reduceEqDiff]; (repeat (first | fail )))
      (refine HdM.nil ?_; intro H hH; simp only [Hp, fm, look, setl, List.flatMap_cons, List.flatMap_nil, reduceIte, Nat.reduceEqDiff, Option.getD_some, List.append_nil, List.cons_append, List.nil_append] at hH; subst hH)
      (repeat (first | fail ))
      exact cut_end ⟨p6, ao6, c6, rfl, hw6⟩ (wk_mk (by (repeat (first | apply wkf_nil | (apply wkf_cons; rfl))); done) (by (repeat (first | apply sub_nil | (apply sub_cons; (· (repeat (first | apply sel_here | apply sel_there)))))); done) (by first | exact fun _ h => h | (intro r hr; cases hr; done) | (simp; done) | exact fun _ h => List.mem_append_left _ h | (intro r hr; simp [hr]; done)))
  rintro st' ⟨p5, ao5, c5, rfl, hw5⟩
  obtain ⟨T6, hT6⟩ : ∃ T6, T5 ++ catS [pl] = T6 := ⟨_, rfl⟩
  have hW6 := fun bl => wPut g c5 bl 1 p5 ao5 T5 [pl] (by intro y hy; rcases List.mem_singleton.1 hy with rfl; omega) (by simp) hw5 (by omega)
  rw [hT6] at hW6
  have z6 : T6.size ≤ 400000 := by
    rw [← hT6, ByteArray.size_append]
    have : (catS [pl]).size = pl.size := congrArg ByteArray.size (append_E0 pl)
    omega
  (repeat (first | ((first | (apply wo_v; rfl) ); (· first | (apply pv_ev; rfl) | (apply pv_fld; rfl) | (apply g_load; first | (apply pv_ld; rfl; (· (repeat (first | apply sel_here | apply sel_there))); rfl) ) )) | apply wc_seq | apply wc_region | (apply wo_bsl; (· (repeat (first | apply Rws'.nil | (apply Rws'.one; rfl; rfl; rfl) ))); rfl; rfl; rfl; rfl; intro bx) ))
  (refine wo_call (hW6 _) rfl (by (repeat (first | apply sub_nil | (apply sub_cons; (· (repeat (first | apply sel_here | apply sel_there)))))); done) (by first | exact fun _ h => h | (intro r hr; cases hr; done) | (simp; done) | exact fun _ h => List.mem_append_left _ h | (intro r hr; simp [hr]; done)) rfl ?_; rintro v L' R' ⟨p6, ao6, c6, rfl, rfl, rfl, hw6⟩ H' hH RR hR; simp only [List.cons_append, List.nil_append] at hH hR; subst hH; have hR := hR.symm; subst hR)
  (repeat (first | ((first | (apply wo_v; rfl) ); (· first | (apply pv_ev; rfl) | (apply pv_fld; rfl) | (apply g_load; first | (apply pv_ld; rfl; (· (repeat (first | apply sel_here | apply sel_there))); rfl) ) )) | apply wo_nil | apply wc_seq | apply wc_region ))
  have hfin : T1 ++ (numS 2 sq ++ numS 4 t ++ numS 4 ss) ++ numsS 4 cs ++ (if ex = true then numS 2 pf ++ numS 2 (dt.size / 4 : Nat) ++ dt else E0) ++ pl = T6 := by
    rw [← hT6, ← hT5, ← hT4, ← hT3, ← hT2]
    show _ = T1 ++ (numS 2 sq ++ E0) ++ (numS 4 t ++ (numS 4 ss ++ E0)) ++ numsS 4 cs ++ _ ++ (pl ++ E0)
    simp only [append_E0, ByteArray.append_assoc]
  rw [hfin]
  refine wc_block ?_
  refine wc_loop' (fun q st => ∃ (i : Nat) (p' ao' : Option Addr) (c' : Nat), q = pd.toNat - i ∧ (i : Int) ≤ pd ∧ st = ⟨[(1, .pointer (some ⟨bp, 0, none⟩)), (3, .pointer (some ⟨g, 0, none⟩)), (60, .int .i64 pd), (61, .int .i64 i)], wrH g p' ao' c' (T6 ++ pdB pd i) ++ [rpI bp mrk kd sq t ss (.slice ao cs.length c) ex pf dt pl pd], R⟩ ∧ WOk g p' ao' c' (T6 ++ pdB pd i)) ⟨0, p6, ao6, c6, rfl, hpd.1, by rw [pdB, append_E0], by rw [pdB, append_E0]; exact hw6⟩ (wk_mk (by (repeat (first | apply wkf_nil | (apply wkf_cons; rfl))); done) (by (repeat (first | apply sub_nil )); done) (by first | exact fun _ h => h | (intro r hr; cases hr; done) | (simp; done) | exact fun _ h => List.mem_append_left _ h | (intro r hr; simp [hr]; done))) ?_
  clear hw6 p6 ao6 c6
  rintro q st ⟨i, p6, ao6, c6, rfl, hi, rfl, hw6⟩
  by_cases hlt : (i : Int) < pd
  · obtain ⟨y, hy⟩ : ∃ y : Int, (if (i : Int) = pd - 1 then pd else 0) = y := ⟨_, rfl⟩
    have hq := gFlag (decide ((i : Int) = pd - 1)) pd y (by rw [← hy]; simp)
    have hyb : 0 ≤ y ∧ y ≤ 255 := by rw [← hy]; split <;> omega
    have hnx : T6 ++ pdB pd (i + 1) = (T6 ++ pdB pd i) ++ b1 y := by rw [pdB, hy, ByteArray.append_assoc]
    have hz8 : (T6 ++ pdB pd i).size ≤ 500000 := by rw [ByteArray.size_append, pdB_size]; omega
    generalize T6 ++ pdB pd i = T7 at hw6 hnx hz8 ⊢
    have hW7 := fun bl => wU8 g c6 bl 1 p6 ao6 T7 (b1 y) hw6 (by rw [b1_size]; omega) (by rw [b1_size]; omega)
    simp only [b1_size] at hW7
    rw [← hnx] at hW7
    (repeat (first | ((first | (apply wo_v; rfl) ); (· first | (apply pv_ev; rfl) )) | apply wo_nil | apply wc_seq | apply wc_region | apply wc_skip | (apply wc_true; rfl) | (apply wc_false; rfl) | (apply a_dec_t; rfl; (· first | assumption | omega)) ))
    refine wc_block ?_
    (repeat (first | ((first | (apply wo_v; rfl) ); (· first | (apply pv_ev; rfl) | (apply pv_fld; rfl) | (apply g_load; first | (apply pv_ld; rfl; (· (repeat (first | apply sel_here | apply sel_there))); rfl) ) | (apply g_bin; first | (apply a_sub; rfl; rfl; infer_instance; omega) ) | (apply g_conv; first | (apply a_conv; rfl; infer_instance; infer_instance; infer_instance; omega) ) )) | apply wo_nil | apply wc_seq | apply wc_region ))
    (refine wo_call (hq) rfl (by (repeat (first | apply sub_nil )); done) (by first | exact fun _ h => h | (intro r hr; cases hr; done) | (simp; done) | exact fun _ h => List.mem_append_left _ h | (intro r hr; simp [hr]; done)) rfl ?_; rintro v L' R' ⟨rfl, rfl, rfl⟩ H' hH RR hR; simp only [List.cons_append, List.nil_append] at hH hR; subst hH; have hR := hR.symm; subst hR)
    (repeat (first | ((first | (apply wo_v; rfl) ); (· first | (apply pv_ev; rfl) )) | (apply wo_bsl; (· (repeat (first | apply Rws'.nil | (apply Rws'.one; rfl; rfl; rfl) ))); rfl; rfl; rfl; rfl; intro bx) ))
    rw [brows_one hyb]
    (refine wo_call (hW7 _) rfl (by (repeat (first | apply sub_nil | (apply sub_cons; (· (repeat (first | apply sel_here | apply sel_there)))))); done) (by first | exact fun _ h => h | (intro r hr; cases hr; done) | (simp; done) | exact fun _ h => List.mem_append_left _ h | (intro r hr; simp [hr]; done)) rfl ?_; rintro v L' R' ⟨p7, ao7, c7, rfl, rfl, rfl, hw7⟩ H' hH RR hR; simp only [List.cons_append, List.nil_append] at hH hR; subst hH; have hR := hR.symm; subst hR)
    (repeat (first | ((first | (apply wo_v; rfl) ); (· first | (apply pv_ev; rfl) | (apply g_bin; first | (apply a_add; rfl; rfl; infer_instance; omega) ) )) | apply wo_nil | apply wc_region ))
    exact loop_end ⟨i + 1, p7, ao7, c7, rfl, by omega, rfl, hw7⟩ (by omega) (wk_mk (by (repeat (first | apply wkf_nil | (apply wkf_cons; rfl))); done) (by (repeat (first | apply sub_nil )); done) (by first | exact fun _ h => h | (intro r hr; cases hr; done) | (simp; done) | exact fun _ h => List.mem_append_left _ h | (intro r hr; simp [hr]; done)))
  · have e : pd.toNat = i := by omega
    rw [e]
    (repeat (first | ((first | (apply wo_v; rfl) ); (· first | (apply pv_ev; rfl) )) | apply wo_nil | apply wc_seq | apply wc_region | (apply wc_exit; rfl) | (apply wc_true; rfl) | (apply wc_false; rfl) | (apply a_dec_t; rfl; (· first | assumption | omega)) | (apply a_dec_f; rfl; (· first | assumption | omega)) ))
    (refine wo_call (wText g c6 p6 ao6 _ hw6) rfl (by (repeat (first | apply sub_nil )); done) (by first | exact fun _ h => h | (intro r hr; cases hr; done) | (simp; done) | exact fun _ h => List.mem_append_left _ h | (intro r hr; simp [hr]; done)) rfl ?_; rintro v L' R' ⟨rfl, rfl, rfl⟩ H' hH RR hR; simp only [List.cons_append, List.nil_append] at hH hR; subst hH; have hR := hR.symm; subst hR)
    (repeat (first | ((first | (apply wo_v; rfl) ); (· first | (apply pv_ev; rfl) )) | apply wo_nil | apply wc_ret ))
    exact ret1 rfl rfl ⟨rfl, rfl, rfl⟩ ((by (repeat (first | apply sub_nil )); done) : List.Perm _ ([] ++ _)) (by first | exact fun _ h => h | (intro r hr; cases hr; done) | (simp; done) | exact fun _ h => List.mem_append_left _ h | (intro r hr; simp [hr]; done))
end Go.Proofs.Ytlhlidmhlhodiaa

/-
  Package rtp: plain laws of a packet's bytes.
-/
namespace Go.Proofs.Ytlhlidmhlhodiaa
set_option linter.unusedSimpArgs false
set_option linter.unusedVariables false
open Go.RowKit
set_option maxRecDepth 100000

theorem ext_all (s : ByteArray) (k : Nat) (h : k ≤ s.size) : s.extract 0 k ++ s.extract k s.size = s := by
  apply ByteArray.ext
  simp [ByteArray.data_extract]
theorem rdB_ok {s b r : ByteArray} {n : Int} (h : rdB s 0 n = (b, r, 0)) : s = b ++ r ∧ n = (b.size : Int) := by
  unfold rdB at h
  rw [if_neg (by simp)] at h
  split at h
  · cases h
  · split at h
    · cases h
    · rename_i h1 h2
      have e1 : s.extract 0 n.toNat = b := congrArg (fun x => x.1) h
      have e2 : s.extract n.toNat s.size = r := congrArg (fun x => x.2.1) h
      refine ⟨?_, ?_⟩
      · rw [← e1, ← e2, ext_all s n.toNat (by omega)]
      · rw [← e1, ByteArray.size_extract]; omega
attribute [local irreducible] ByteArray.extract
theorem last_split {k : Nat} {b : ByteArray} (h : b.size = k + 1) : ∃ b' x, b = b' ++ b1 x ∧ 0 ≤ x ∧ x ≤ 255 ∧ b'.size = k := by
  have e : b.data.toList.length = k + 1 := by simpa using h
  obtain ⟨l, u, hl⟩ : ∃ l u, b.data.toList = l ++ [u] := ⟨b.data.toList.dropLast, b.data.toList.getLast (by intro h0; rw [h0] at e; cases e), (List.dropLast_concat_getLast _).symm⟩
  refine ⟨⟨l.toArray⟩, (u.toNat : Int), ?_, by omega, by have := u.toNat_lt; omega, ?_⟩
  · have : b1 (u.toNat : Int) = ⟨#[u]⟩ := by simp [b1]
    rw [this]
    apply ByteArray.ext
    apply Array.toList_inj.1
    simp [hl]
  · rw [hl, List.length_append] at e
    simp only [List.length_cons, List.length_nil] at e
    show l.toArray.size = k
    simp; omega
theorem num_bytes : ∀ (k : Nat) (b : ByteArray), b.size = k → numS k (valK b k) = b
  | 0, b, h => (size_zero h).symm
  | k + 1, b, h => by
    obtain ⟨b', x, rfl, h1, h2, h3⟩ := last_split h
    have e := valK_b1 b' ⟨h1, h2⟩
    rw [h3] at e
    rw [e]
    show numS k ((valK b' k * 256 + x) / 256) ++ b1 ((valK b' k * 256 + x) % 256) = _
    rw [show (valK b' k * 256 + x) / 256 = valK b' k by omega, show (valK b' k * 256 + x) % 256 = x by omega, num_bytes k b' h3]
theorem val_num1 {x : Int} (h : 0 ≤ x ∧ x ≤ 255) : valK (numS 1 x) 1 = x := by rw [numS1 h]; exact val_b1 h
/-- what is read stands in front -/
theorem tK_ok {k : Nat} {s r : ByteArray} {x : Int} (h : tK k (s, 0) = (x, r, 0)) : s = numS k x ++ r ∧ valK (numS k x) k = x := by
  unfold tK at h
  rcases hq : rdB s 0 k with ⟨b, r2, e2⟩
  dsimp only at h
  rw [hq] at h
  dsimp only at h
  have e1 : valK b b.size = x := congrArg (fun x => x.1) h
  have e3 : r2 = r := congrArg (fun x => x.2.1) h
  have e4 : e2 = 0 := congrArg (fun x => x.2.2) h
  subst e3 e4
  obtain ⟨g1, g2⟩ := rdB_ok hq
  have hk : b.size = k := by omega
  rw [hk] at e1
  subst e1
  rw [num_bytes k b hk]
  exact ⟨g1, rfl⟩
theorem tK_frontN (k : Nat) {x : Int} (z : ByteArray) (hv : valK (numS k x) k = x) : tK k (numS k x ++ z, 0) = (x, z, 0) := by
  unfold tK
  dsimp only
  rw [rdB_front (numS k x) z k (by rw [numS_size])]
  dsimp only
  rw [numS_size, hv]
theorem tK_front1 {x : Int} (h : 0 ≤ x ∧ x ≤ 255) (z : ByteArray) : tK 1 (numS 1 x ++ z, 0) = (x, z, 0) := tK_frontN 1 z (val_num1 h)
theorem tK_front2 {x : Int} (h : 0 ≤ x ∧ x ≤ 65535) (z : ByteArray) : tK 2 (numS 2 x ++ z, 0) = (x, z, 0) := tK_frontN 2 z (val_num2 h)
theorem tK_front4 {x : Int} (h : 0 ≤ x ∧ x ≤ 4294967295) (z : ByteArray) : tK 4 (numS 4 x ++ z, 0) = (x, z, 0) := tK_frontN 4 z (val_num4 h)
theorem tK_more {k : Nat} {s r z : ByteArray} {x : Int} (h : tK k (s, 0) = (x, r, 0)) : tK k (s ++ z, 0) = (x, r ++ z, 0) := by
  obtain ⟨h1, h2⟩ := tK_ok h
  rw [h1, ByteArray.append_assoc]
  exact tK_frontN k _ h2
theorem tK_z {k : Int} {r : Rs} (h : (tK k r).2.2 = 0) : r.2 = 0 := by
  by_cases h0 : r.2 = 0
  · exact h0
  · rw [tK_err h0] at h; exact h
theorem tK_01 {k : Int} {r : Rs} (hk : 0 ≤ k) (h : r.2 = 0 ∨ r.2 = 1) : (tK k r).2.2 = 0 ∨ (tK k r).2.2 = 1 := by
  unfold tK rdB
  dsimp only
  rcases h with h | h
  · rw [if_neg (by simp [h]), if_neg (by omega)]
    split
    · exact .inr rfl
    · exact .inl rfl
  · rw [if_pos (by simp [h])]; exact .inr h
theorem csN_front (cs : List Int) (h6 : ∀ z ∈ cs, 0 ≤ z ∧ z ≤ 4294967295) : ∀ (i : Nat) (z : ByteArray), i ≤ cs.length → csN (numsS 4 (cs.take i) ++ z, 0) i = (cs.take i, z, 0)
  | 0, z, _ => by rw [List.take_zero]; show ([], (E0 ++ z, 0)) = _; rw [E0_append]
  | i + 1, z, h => by
    have he := List.getElem?_eq_getElem (show i < cs.length by omega)
    rw [numsS_take he, ByteArray.append_assoc, csN, csN_front cs h6 i _ (by omega)]
    dsimp only
    rw [tK_front4 (h6 _ (List.getElem_mem _)), List.take_add_one, he]
    rfl
theorem csN_z {r : Rs} : ∀ {n : Nat}, (csN r n).2.2 = 0 → r.2 = 0
  | 0, h => h
  | n + 1, h => by rw [csN] at h; exact csN_z (tK_z h)
theorem csN_01 {r : Rs} (h : r.2 = 0 ∨ r.2 = 1) : ∀ n : Nat, (csN r n).2.2 = 0 ∨ (csN r n).2.2 = 1
  | 0 => h
  | n + 1 => by rw [csN]; exact tK_01 (by omega) (csN_01 h n)
theorem csN_ok {s : ByteArray} : ∀ {n : Nat} {cs : List Int} {r : ByteArray}, csN (s, 0) n = (cs, r, 0) → s = numsS 4 cs ++ r ∧ cs.length = n ∧ ∀ z ∈ cs, 0 ≤ z ∧ z ≤ 4294967295
  | 0, cs, r, h => by
    have e1 : ([] : List Int) = cs := congrArg (fun x => x.1) h
    have e2 : s = r := congrArg (fun x => x.2.1) h
    subst e1 e2
    exact ⟨(E0_append _).symm, rfl, (fun z hz => by cases hz)⟩
  | n + 1, cs, r, h => by
    rw [csN] at h
    have hz : (csN (s, 0) n).2.2 = 0 := tK_z (congrArg (fun x => x.2.2) h)
    rcases hq : csN (s, 0) n with ⟨c2, r2, e2⟩
    rw [hq] at h hz
    dsimp only at h hz
    subst hz
    obtain ⟨g1, g2, g3⟩ := csN_ok hq
    have hb := tK4_b (r2, 0)
    rcases hq2 : tK 4 (r2, 0) with ⟨x, r3, e3⟩
    rw [hq2] at h hb
    dsimp only at h hb
    have e1 : c2 ++ [x] = cs := congrArg (fun x => x.1) h
    have e4 : r3 = r := congrArg (fun x => x.2.1) h
    have e5 : e3 = 0 := congrArg (fun x => x.2.2) h
    subst e1 e4 e5
    obtain ⟨g4, _⟩ := tK_ok (k := 4) hq2
    refine ⟨?_, by simp [g2], fun z hz => ?_⟩
    · rw [g1, g4, numsS_append, numsS_one, ByteArray.append_assoc]
    · rcases List.mem_append.1 hz with hz | hz
      · exact g3 z hz
      · rcases List.mem_singleton.1 hz with rfl; exact hb
theorem csN_more {s z : ByteArray} {n : Nat} {cs : List Int} {r : ByteArray} (h : csN (s, 0) n = (cs, r, 0)) : csN (s ++ z, 0) n = (cs, r ++ z, 0) := by
  obtain ⟨h1, h2, h3⟩ := csN_ok h
  have := csN_front cs h3 n (r ++ z) (by omega)
  rw [← h2, List.take_length] at this
  rw [h1, ByteArray.append_assoc, ← h2]; exact this
def exT (b : Bool) (pf : Int) (dt : ByteArray) : ByteArray := if b = true then numS 2 pf ++ numS 2 (dt.size / 4 : Nat) ++ dt else E0
theorem exR_front {b : Bool} {pf : Int} {dt : ByteArray} (h : b = true → 0 ≤ pf ∧ pf ≤ 65535 ∧ dt.size % 4 = 0 ∧ dt.size / 4 ≤ 65535) (h0 : b = false → pf = 0 ∧ dt = E0) (z : ByteArray) : exR b (exT b pf dt ++ z, 0) = (pf, dt, z, 0) := by
  cases b with
  | false =>
    obtain ⟨rfl, rfl⟩ := h0 rfl
    unfold exR exT
    simp only [Bool.false_eq_true, if_false, E0_append]
    rfl
  | true =>
    obtain ⟨h1, h2, h3, h4⟩ := h rfl
    unfold exR exT
    rw [if_pos rfl, if_pos rfl, ByteArray.append_assoc, ByteArray.append_assoc, tK_front2 ⟨h1, h2⟩]
    dsimp only
    rw [tK_front2 (x := ((dt.size / 4 : Nat) : Int)) (by omega)]
    dsimp only
    rw [rdB_front dt z _ (by omega)]
theorem exR_z {b : Bool} {r : Rs} (h : (exR b r).2.2.2 = 0) : r.2 = 0 := by
  by_cases h0 : r.2 = 0
  · exact h0
  · rw [exR_err h0] at h; exact h
theorem exR_ok {b : Bool} {s r : ByteArray} {pf : Int} {dt : ByteArray} (h : exR b (s, 0) = (pf, dt, r, 0)) : s = exT b pf dt ++ r ∧ (b = true → 0 ≤ pf ∧ pf ≤ 65535 ∧ dt.size % 4 = 0 ∧ dt.size / 4 ≤ 65535) ∧ (b = false → pf = 0 ∧ dt = E0) := by
  cases b with
  | false =>
    unfold exR at h
    rw [if_neg (by simp)] at h
    have e1 : (0 : Int) = pf := congrArg (fun x => x.1) h
    have e2 : ByteArray.empty = dt := congrArg (fun x => x.2.1) h
    have e3 : s = r := congrArg (fun x => x.2.2.1) h
    subst e1 e2 e3
    exact ⟨(E0_append _).symm, (fun h => by cases h), (fun _ => ⟨rfl, rfl⟩)⟩
  | true =>
    unfold exR at h
    rw [if_pos rfl] at h
    have v1 := tK2_b (s, 0)
    rcases q1 : tK 2 (s, 0) with ⟨p, r1, e1⟩
    rw [q1] at h v1
    dsimp only at h v1
    have v2 := tK2_b (r1, e1)
    rcases q2 : tK 2 (r1, e1) with ⟨l, r2, e2⟩
    rw [q2] at h v2
    dsimp only at h v2
    rcases q3 : rdB r2 e2 (4 * l) with ⟨d, r3, e3⟩
    rw [q3] at h
    dsimp only at h
    have g1 : p = pf := congrArg (fun x => x.1) h
    have g2 : d = dt := congrArg (fun x => x.2.1) h
    have g3 : r3 = r := congrArg (fun x => x.2.2.1) h
    have g4 : e3 = 0 := congrArg (fun x => x.2.2.2) h
    subst g1 g2 g3 g4
    have z2 : e2 = 0 := by
      by_cases h0 : e2 = 0
      · exact h0
      · unfold rdB at q3; rw [if_pos h0] at q3; exact congrArg (fun x => x.2.2) q3
    subst z2
    have z1 : e1 = 0 := tK_z (k := 2) (r := (r1, e1)) (by rw [q2])
    subst z1
    obtain ⟨t1, _⟩ := tK_ok (k := 2) q1
    obtain ⟨t2, _⟩ := tK_ok (k := 2) q2
    obtain ⟨t3, t4⟩ := rdB_ok q3
    have t5 : ((d.size / 4 : Nat) : Int) = l := by omega
    refine ⟨?_, (fun _ => ⟨v1.1, v1.2, by omega, by omega⟩), (fun h => by cases h)⟩
    unfold exT
    rw [if_pos rfl, t5, ByteArray.append_assoc, ByteArray.append_assoc, ← t3, ← t2, ← t1]
theorem exR_more {b : Bool} {s r z : ByteArray} {pf : Int} {dt : ByteArray} (h : exR b (s, 0) = (pf, dt, r, 0)) : exR b (s ++ z, 0) = (pf, dt, r ++ z, 0) := by
  obtain ⟨h1, h2, h3⟩ := exR_ok h
  rw [h1, ByteArray.append_assoc]
  exact exR_front h2 h3 _
theorem exR_01 {b : Bool} {r : Rs} (h : r.2 = 0 ∨ r.2 = 1) : (exR b r).2.2.2 = 0 ∨ (exR b r).2.2.2 = 1 := by
  unfold exR
  split
  · dsimp only
    have h2 := tK_01 (k := 2) (by omega) (tK_01 (k := 2) (by omega) h)
    have v := tK2_b (tK 2 r).2
    unfold rdB
    rcases h2 with h2 | h2
    · rw [if_neg (by simp [h2]), if_neg (by omega)]
      split
      · exact .inr rfl
      · exact .inl rfl
    · rw [if_pos (by simp [h2])]; exact .inr h2
  · exact h
end Go.Proofs.Ytlhlidmhlhodiaa

/-
  Package rtp: what is written is read, and what is read is written.
-/
namespace Go.Proofs.Ytlhlidmhlhodiaa
set_option linter.unusedSimpArgs false
set_option linter.unusedVariables false
open Go.RowKit
set_option maxRecDepth 100000
attribute [local irreducible] ByteArray.extract

abbrev txP (p : Rp) : ByteArray := txR p.mrk p.kd p.sq p.t p.ss p.cs p.ex p.pf p.dt p.pl p.pd
abbrev ckP (p : Rp) : Int := chkR p.kd p.cs.length p.ex p.pf p.dt p.pl p.pd
structure okR (p : Rp) : Prop where
  kd : 0 ≤ p.kd ∧ p.kd ≤ 255
  sq : 0 ≤ p.sq ∧ p.sq ≤ 65535
  t : 0 ≤ p.t ∧ p.t ≤ 4294967295
  ss : 0 ≤ p.ss ∧ p.ss ≤ 4294967295
  pf : 0 ≤ p.pf ∧ p.pf ≤ 65535
  cs : ∀ z ∈ p.cs, 0 ≤ z ∧ z ≤ 4294967295
structure Ck (p : Rp) : Prop where
  kd : p.kd ≤ 127
  pd : 0 ≤ p.pd ∧ p.pd ≤ 255
  cs : p.cs.length ≤ 15
  dt : p.dt.size % 4 = 0
  ex : p.ex = false → p.pf = 0 ∧ p.dt = E0
  len : lenM p.cs.length p.ex p.dt p.pl p.pd ≤ 1500
theorem ck_iff {p : Rp} : ckP p = 0 ↔ Ck p := by
  unfold ckP chkR
  constructor
  · intro h
    split at h
    · cases h
    · split at h
      · cases h
      · split at h
        · cases h
        · split at h
          · cases h
          · rename_i h1 h2 h3 h4
            refine ⟨by omega, by omega, by omega, ?_, ?_, by omega⟩
            · exact Classical.not_not.1 fun h => h3 (.inl h)
            · intro hx
              refine ⟨Classical.not_not.1 fun h => h3 (.inr ⟨hx, .inl h⟩), Classical.not_not.1 fun h => h3 (.inr ⟨hx, .inr h⟩)⟩
  · intro h
    rw [if_neg (by have := h.kd; have := h.pd; omega), if_neg (by have := h.cs; omega), if_neg, if_neg (by have := h.len; omega)]
    rintro (h1 | ⟨h1, h2 | h2⟩)
    · exact h1 h.dt
    · exact h2 (h.ex h1).1
    · exact h2 (h.ex h1).2
def fA (pd : Int) (ex : Bool) (n : Nat) : Int := 128 + bi (decide (0 < pd)) 32 + bi ex 16 + n
def tlR (pd : Int) : ByteArray := if 0 < pd then zrT (pd.toNat - 1) ++ numS 1 pd else E0
theorem tlR_size {pd : Int} (h : 0 ≤ pd) : (tlR pd).size = pd.toNat := by
  unfold tlR
  split
  · rw [ByteArray.size_append, zrT_size, numS_size]; omega
  · have : pd.toNat = 0 := by omega
    rw [this]; rfl
/-- the head's bytes ahead of what follows -/
def hdZ (p : Rp) (z : ByteArray) : ByteArray := numS 1 (fA p.pd p.ex p.cs.length) ++ (numS 1 (bi p.mrk 128 + p.kd) ++ (numS 2 p.sq ++ (numS 4 p.t ++ (numS 4 p.ss ++ (numsS 4 p.cs ++ (exT p.ex p.pf p.dt ++ z))))))
theorem hdZ_app (p : Rp) (y z : ByteArray) : hdZ p (y ++ z) = hdZ p y ++ z := by simp only [hdZ, ByteArray.append_assoc]
theorem hdZ_E (p : Rp) (z : ByteArray) : hdZ p z = hdZ p E0 ++ z := by rw [← hdZ_app, E0_append]
theorem exT_size (b : Bool) (pf : Int) (dt : ByteArray) : (exT b pf dt).size = if b = true then 4 + dt.size else 0 := by
  unfold exT
  cases b
  · rfl
  · simp only [if_true, ByteArray.size_append, numS_size]
theorem hdZ_size (p : Rp) (z : ByteArray) : (hdZ p z).size = 12 + 4 * p.cs.length + (if p.ex = true then 4 + p.dt.size else 0) + z.size := by
  simp only [hdZ, ByteArray.size_append, numS_size, numsS_size, exT_size]; omega
theorem txP_hd (p : Rp) : txP p = hdZ p (p.pl ++ tlR p.pd) := by
  unfold txP txR hdT hdZ fA tlR exT
  rw [csT_take p.cs _ (Nat.le_refl _), List.take_length]
  simp only [ByteArray.append_assoc]
def Parts (s : ByteArray) (a b sq t ss : Int) (cs : List Int) (pf : Int) (dt r : ByteArray) : Prop :=
  ∃ r1 r2 r3 r4 r5 r6, tK 1 (s, 0) = (a, r1, 0) ∧ tK 1 (r1, 0) = (b, r2, 0) ∧ tK 2 (r2, 0) = (sq, r3, 0) ∧ tK 4 (r3, 0) = (t, r4, 0) ∧ tK 4 (r4, 0) = (ss, r5, 0) ∧ csN (r5, 0) (a % 16).toNat = (cs, r6, 0) ∧ exR (decide (a / 16 % 2 = 1)) (r6, 0) = (pf, dt, r, 0)
theorem Parts.more {s : ByteArray} {a b sq t ss : Int} {cs : List Int} {pf : Int} {dt r : ByteArray} (h : Parts s a b sq t ss cs pf dt r) (z : ByteArray) : Parts (s ++ z) a b sq t ss cs pf dt (r ++ z) := by
  obtain ⟨r1, r2, r3, r4, r5, r6, h1, h2, h3, h4, h5, h6, h7⟩ := h
  exact ⟨r1 ++ z, r2 ++ z, r3 ++ z, r4 ++ z, r5 ++ z, r6 ++ z, tK_more (k := 1) h1, tK_more (k := 1) h2, tK_more (k := 2) h3, tK_more (k := 4) h4, tK_more (k := 4) h5, csN_more h6, exR_more h7⟩
theorem Parts.prR {s : ByteArray} {a b sq t ss : Int} {cs : List Int} {pf : Int} {dt r : ByteArray} (h : Parts s a b sq t ss cs pf dt r) (hs : s.size ≤ 1500) (ha : a / 64 = 2) :
    prR s = enR ⟨decide (127 < b), b % 128, sq, t, ss, cs, decide (a / 16 % 2 = 1), pf, dt, ByteArray.empty, 0⟩ (decide (a / 32 % 2 = 1)) (r, 0) := by
  obtain ⟨r1, r2, r3, r4, r5, r6, h1, h2, h3, h4, h5, h6, h7⟩ := h
  unfold Go.Proofs.Ytlhlidmhlhodiaa.prR
  rw [if_neg (by omega)]
  dsimp only
  rw [h1]; dsimp only
  rw [h2]; dsimp only
  rw [if_neg (fun h => h.2 ha), h3]; dsimp only
  rw [h4]; dsimp only
  rw [h5]; dsimp only
  rw [h6]; dsimp only
  rw [h7]
theorem Parts.bytes {s : ByteArray} {a b sq t ss : Int} {cs : List Int} {pf : Int} {dt r : ByteArray} (h : Parts s a b sq t ss cs pf dt r) :
    s = numS 1 a ++ (numS 1 b ++ (numS 2 sq ++ (numS 4 t ++ (numS 4 ss ++ (numsS 4 cs ++ (exT (decide (a / 16 % 2 = 1)) pf dt ++ r)))))) ∧ (0 ≤ a ∧ a ≤ 255) ∧ (0 ≤ b ∧ b ≤ 255) ∧ (0 ≤ sq ∧ sq ≤ 65535) ∧ (0 ≤ t ∧ t ≤ 4294967295) ∧ (0 ≤ ss ∧ ss ≤ 4294967295) ∧
      cs.length = (a % 16).toNat ∧ (∀ z ∈ cs, 0 ≤ z ∧ z ≤ 4294967295) ∧ (decide (a / 16 % 2 = 1) = true → 0 ≤ pf ∧ pf ≤ 65535 ∧ dt.size % 4 = 0 ∧ dt.size / 4 ≤ 65535) ∧ (decide (a / 16 % 2 = 1) = false → pf = 0 ∧ dt = E0) := by
  obtain ⟨r1, r2, r3, r4, r5, r6, h1, h2, h3, h4, h5, h6, h7⟩ := h
  have b1' := t1_b (s, 0)
  have b2' := t1_b (r1, 0)
  have b3 := tK2_b (r2, 0)
  have b4 := tK4_b (r3, 0)
  have b5 := tK4_b (r4, 0)
  rw [show t1 (s, 0) = tK 1 (s, 0) from rfl, h1] at b1'
  rw [show t1 (r1, 0) = tK 1 (r1, 0) from rfl, h2] at b2'
  rw [h3] at b3
  rw [h4] at b4
  rw [h5] at b5
  have g1 := (tK_ok (k := 1) h1).1
  have g2 := (tK_ok (k := 1) h2).1
  have g3 := (tK_ok (k := 2) h3).1
  have g4 := (tK_ok (k := 4) h4).1
  have g5 := (tK_ok (k := 4) h5).1
  obtain ⟨g6, g7, g8⟩ := csN_ok h6
  obtain ⟨g9, g10, g11⟩ := exR_ok h7
  exact ⟨by rw [← g9, ← g6, ← g5, ← g4, ← g3, ← g2, ← g1], b1', b2', b3, b4, b5, g7, g8, g10, g11⟩
theorem parts_hd {p : Rp} (hr : okR p) (hk : p.kd ≤ 127) (hc : p.cs.length ≤ 15) (hd : p.dt.size % 4 = 0 ∧ p.dt.size / 4 ≤ 65535) (he : p.ex = false → p.pf = 0 ∧ p.dt = E0) (z : ByteArray) :
    Parts (hdZ p z) (fA p.pd p.ex p.cs.length) (bi p.mrk 128 + p.kd) p.sq p.t p.ss p.cs p.pf p.dt z := by
  have o1 := bi_or (decide (0 < p.pd)) 32
  have o2 := bi_or p.ex 16
  have o3 := bi_or p.mrk 128
  have hk0 := hr.kd
  have e16 : (fA p.pd p.ex p.cs.length % 16).toNat = p.cs.length := by unfold fA; omega
  have eex : decide (fA p.pd p.ex p.cs.length / 16 % 2 = 1) = p.ex := by
    unfold fA
    have o1' := o1
    generalize bi (decide (0 < p.pd)) 32 = y at o1' ⊢
    cases h : p.ex
    · rw [decide_eq_false_iff_not]; simp only [bi, Bool.false_eq_true, if_false]; omega
    · rw [decide_eq_true_eq]; simp only [bi, if_true]; omega
  refine ⟨_, _, _, _, _, exT p.ex p.pf p.dt ++ z, tK_front1 (by unfold fA; omega) _, tK_front1 (by omega) _, tK_front2 hr.sq _, tK_front4 hr.t _, tK_front4 hr.ss _, ?_, ?_⟩
  · rw [e16]
    have := csN_front p.cs hr.cs p.cs.length (exT p.ex p.pf p.dt ++ z) (Nat.le_refl _)
    rwa [List.take_length] at this
  · rw [eex]; exact exR_front (fun _ => ⟨hr.pf.1, hr.pf.2, hd.1, hd.2⟩) he z
theorem fA_bits (pd : Int) (ex : Bool) (n : Nat) (h : n ≤ 15) : fA pd ex n / 64 = 2 ∧ decide (fA pd ex n / 16 % 2 = 1) = ex ∧ decide (fA pd ex n / 32 % 2 = 1) = decide (0 < pd) := by
  have o1 := bi_or (decide (0 < pd)) 32
  have o2 := bi_or ex 16
  refine ⟨by unfold fA; omega, ?_, ?_⟩
  · unfold fA
    generalize bi (decide (0 < pd)) 32 = y at o1 ⊢
    cases ex
    · rw [decide_eq_false_iff_not]; simp only [bi, Bool.false_eq_true, if_false]; omega
    · rw [decide_eq_true_eq]; simp only [bi, if_true]; omega
  · unfold fA
    generalize bi ex 16 = y at o2 ⊢
    cases decide (0 < pd)
    · rw [decide_eq_false_iff_not]; simp only [bi, Bool.false_eq_true, if_false]; omega
    · rw [decide_eq_true_eq]; simp only [bi, if_true]; omega
theorem enR_ok (p : Rp) (pa : Bool) (r : ByteArray) : enR p pa (r, 0) = if pa = true then (if (padM r).2 ≠ 0 then (Rp0, (padM r).2) else ({ p with pl := r.extract 0 ((r.size : Int) - (padM r).1).toNat, pd := (padM r).1 }, 0)) else ({ p with pl := r }, 0) := by
  have e : rdB r 0 r.size = (r, E0, 0) := by
    have := rdB_front r E0 r.size rfl
    rwa [append_E0] at this
  unfold enR
  dsimp only
  rw [e]
  dsimp only
  rw [if_neg (by simp)]
theorem padM_tl {pd : Int} (h : 0 < pd ∧ pd ≤ 255) (pl : ByteArray) : padM (pl ++ tlR pd) = (pd, 0) := by
  have e : pl ++ tlR pd = (pl ++ zrT (pd.toNat - 1)) ++ b1 pd := by
    unfold tlR; rw [if_pos h.1, numS1 (by omega), ByteArray.append_assoc]
  have hz : (pl ++ tlR pd).size = (pl ++ zrT (pd.toNat - 1)).size + 1 := by rw [e, ByteArray.size_append, b1_size]
  have hz2 : (pl ++ tlR pd).size = pl.size + pd.toNat := by rw [ByteArray.size_append, tlR_size (by omega)]
  have hl : sb (pl ++ tlR pd) ((pl ++ tlR pd).size - 1) = pd := by
    rw [hz, Nat.add_sub_cancel, e]; exact sb_last _ (by omega)
  unfold padM
  rw [if_neg (fun h0 => by rw [h0] at hz; cases hz), hl, if_neg (by omega), if_neg (by rw [hz2]; omega)]
theorem Rp_eta {p : Rp} {b ex' : Bool} {k : Int} (h1 : b = p.mrk) (h2 : k = p.kd) (h3 : ex' = p.ex) : (⟨b, k, p.sq, p.t, p.ss, p.cs, ex', p.pf, p.dt, p.pl, p.pd⟩ : Rp) = p := by subst h1 h2 h3; rfl
theorem mk_bits (mrk : Bool) {kd : Int} (h : 0 ≤ kd ∧ kd ≤ 127) : decide (127 < bi mrk 128 + kd) = mrk ∧ (bi mrk 128 + kd) % 128 = kd := by
  cases mrk
  · refine ⟨?_, ?_⟩
    · rw [decide_eq_false_iff_not]; simp only [bi, Bool.false_eq_true, if_false]; omega
    · simp only [bi, Bool.false_eq_true, if_false]; omega
  · refine ⟨?_, ?_⟩
    · rw [decide_eq_true_eq]; simp only [bi, if_true]; omega
    · simp only [bi, if_true]; omega
theorem txP_size {p : Rp} (hc : Ck p) : ((txP p).size : Int) = lenM p.cs.length p.ex p.dt p.pl p.pd := txR_size _ _ _ _ _ _ _ _ _ _ _ hc.pd.1
theorem ck_dt {p : Rp} (hc : Ck p) : p.dt.size / 4 ≤ 65535 := by
  have h := hc.len
  unfold lenM at h
  have := hc.pd
  cases hx : p.ex
  · rw [(hc.ex hx).2]; decide
  · rw [hx, if_pos rfl] at h; omega
theorem ck_dt2 {p : Rp} (hc : Ck p) : p.dt.size ≤ 1500 := by
  have h := hc.len
  unfold lenM at h
  have := hc.pd
  cases hx : p.ex
  · rw [(hc.ex hx).2]; decide
  · rw [hx, if_pos rfl] at h; omega
/-- what is written is read -/
theorem prR_txP {p : Rp} (hr : okR p) (hc : Ck p) : prR (txP p) = (p, 0) := by
  have hz := txP_size hc
  have hl := hc.len
  have hpt := parts_hd hr hc.kd hc.cs ⟨hc.dt, ck_dt hc⟩ hc.ex (p.pl ++ tlR p.pd)
  rw [← txP_hd] at hpt
  obtain ⟨f1, f2, f3⟩ := fA_bits p.pd p.ex p.cs.length hc.cs
  obtain ⟨m1, m2⟩ := mk_bits p.mrk (kd := p.kd) ⟨hr.kd.1, hc.kd⟩
  rw [hpt.prR (by omega) f1, enR_ok, f2, f3, m1, m2]
  by_cases h0 : 0 < p.pd
  · rw [if_pos (by simpa using h0), padM_tl ⟨h0, hc.pd.2⟩, if_neg (by simp)]
    dsimp only
    have e : ((p.pl ++ tlR p.pd).size - p.pd : Int).toNat = p.pl.size := by rw [ByteArray.size_append, tlR_size hc.pd.1]; omega
    rw [e, ext_head2]
  · rw [if_neg (by simpa using h0)]
    have e : tlR p.pd = E0 := by unfold tlR; rw [if_neg h0]
    have e0 : p.pd = 0 := by have := hc.pd; omega
    rw [e, append_E0]
    conv => rhs; rw [← Rp_eta (p := p) rfl rfl rfl]
    rw [e0]
end Go.Proofs.Ytlhlidmhlhodiaa

/-
  Package rtp: what is read is written; beginnings of packets.
-/
namespace Go.Proofs.Ytlhlidmhlhodiaa
set_option linter.unusedSimpArgs false
set_option linter.unusedVariables false
open Go.RowKit
set_option maxRecDepth 100000
attribute [local irreducible] ByteArray.extract

def hdS (s : ByteArray) : Rs :=
  let x := tK 1 (s, 0)
  let c := csN (tK 4 (tK 4 (tK 2 (tK 1 x.2).2).2).2).2 (x.1 % 16).toNat
  (exR (decide (x.1 / 16 % 2 = 1)) c.2).2.2
theorem hdS_01 (s : ByteArray) : (hdS s).2 = 0 ∨ (hdS s).2 = 1 :=
  exR_01 (csN_01 (tK_01 (by omega) (tK_01 (by omega) (tK_01 (by omega) (tK_01 (by omega) (tK_01 (by omega) (.inl rfl)))))) _)
theorem hdS_parts {s : ByteArray} (h : (hdS s).2 = 0) : ∃ a b sq t ss cs pf dt, Parts s a b sq t ss cs pf dt (hdS s).1 := by
  unfold hdS at h ⊢
  dsimp only at h ⊢
  have z6 := exR_z h
  have z5 := csN_z z6
  have z4 := tK_z z5
  have z3 := tK_z z4
  have z2 := tK_z z3
  have z1 := tK_z z2
  rcases h1 : tK 1 (s, 0) with ⟨a, r1, e1⟩
  rw [h1] at h z6 z5 z4 z3 z2 z1
  dsimp only at h z6 z5 z4 z3 z2 z1
  subst z1
  rcases h2 : tK 1 (r1, 0) with ⟨b, r2, e2⟩
  rw [h2] at h z6 z5 z4 z3 z2
  dsimp only at h z6 z5 z4 z3 z2
  subst z2
  rcases h3 : tK 2 (r2, 0) with ⟨sq, r3, e3⟩
  rw [h3] at h z6 z5 z4 z3
  dsimp only at h z6 z5 z4 z3
  subst z3
  rcases h4 : tK 4 (r3, 0) with ⟨t, r4, e4⟩
  rw [h4] at h z6 z5 z4
  dsimp only at h z6 z5 z4
  subst z4
  rcases h5 : tK 4 (r4, 0) with ⟨ss, r5, e5⟩
  rw [h5] at h z6 z5
  dsimp only at h z6 z5
  subst z5
  rcases h6 : csN (r5, 0) (a % 16).toNat with ⟨cs, r6, e6⟩
  rw [h6] at h z6
  dsimp only at h z6
  subst z6
  rcases h7 : exR (decide (a / 16 % 2 = 1)) (r6, 0) with ⟨pf, dt, r, e7⟩
  rw [h7] at h
  dsimp only at h
  subst h
  refine ⟨a, b, sq, t, ss, cs, pf, dt, r1, r2, r3, r4, r5, r6, h1, h2, h3, h4, h5, h6, ?_⟩
  simp only [h2, h3, h4, h5, h6, h7]
theorem parts_hdS {s : ByteArray} {a b sq t ss : Int} {cs : List Int} {pf : Int} {dt r : ByteArray} (h : Parts s a b sq t ss cs pf dt r) : hdS s = (r, 0) := by
  obtain ⟨r1, r2, r3, r4, r5, r6, h1, h2, h3, h4, h5, h6, h7⟩ := h
  unfold hdS
  simp only [h1, h2, h3, h4, h5, h6, h7]
theorem prR_err {s : ByteArray} (hs : s.size ≤ 1500) (h2 : (tK 1 (tK 1 (s, 0)).2).2.2 = 0 → (tK 1 (s, 0)).1 / 64 = 2) (h : (hdS s).2 ≠ 0) : prR s = (Rp0, (hdS s).2) := by
  have e : prR s = enR ⟨decide (127 < (tK 1 (tK 1 (s, 0)).2).1), (tK 1 (tK 1 (s, 0)).2).1 % 128, (tK 2 (tK 1 (tK 1 (s, 0)).2).2).1, (tK 4 (tK 2 (tK 1 (tK 1 (s, 0)).2).2).2).1, (tK 4 (tK 4 (tK 2 (tK 1 (tK 1 (s, 0)).2).2).2).2).1, (csN (tK 4 (tK 4 (tK 2 (tK 1 (tK 1 (s, 0)).2).2).2).2).2 ((tK 1 (s, 0)).1 % 16).toNat).1, decide ((tK 1 (s, 0)).1 / 16 % 2 = 1), (exR (decide ((tK 1 (s, 0)).1 / 16 % 2 = 1)) (csN (tK 4 (tK 4 (tK 2 (tK 1 (tK 1 (s, 0)).2).2).2).2).2 ((tK 1 (s, 0)).1 % 16).toNat).2).1, (exR (decide ((tK 1 (s, 0)).1 / 16 % 2 = 1)) (csN (tK 4 (tK 4 (tK 2 (tK 1 (tK 1 (s, 0)).2).2).2).2).2 ((tK 1 (s, 0)).1 % 16).toNat).2).2.1, ByteArray.empty, 0⟩ (decide ((tK 1 (s, 0)).1 / 32 % 2 = 1)) (hdS s) := by
    unfold prR
    rw [if_neg (by omega)]
    dsimp only
    rw [if_neg (fun h => h.2 (h2 h.1))]
    rfl
  rw [e]
  generalize hdS s = r at h
  unfold enR
  have e2 : (rdB r.1 r.2 r.1.size).2.2 = r.2 := by unfold rdB; rw [if_pos h]
  rw [if_pos (by rw [e2]; exact h), e2]
/-- a beginning that ends ahead of the payload -/
theorem prR_cut {p : Rp} (hr : okR p) (hc : Ck p) {s z : ByteArray} (h : s ++ z = txP p) (hs : s.size < (hdZ p E0).size) : prR s = (Rp0, 1) := by
  have hz := txP_size hc
  have hl := hc.len
  have hpt := parts_hd hr hc.kd hc.cs ⟨hc.dt, ck_dt hc⟩ hc.ex (p.pl ++ tlR p.pd)
  rw [← txP_hd] at hpt
  obtain ⟨f1, _, _⟩ := fA_bits p.pd p.ex p.cs.length hc.cs
  have hle : s.size ≤ 1500 := by rw [← h, ByteArray.size_append] at hz; omega
  have hne : (hdS s).2 ≠ 0 := fun h0 => by
    obtain ⟨a, b, sq, t, ss, cs, pf, dt, hp⟩ := hdS_parts h0
    have h1 := parts_hdS (hp.more z)
    rw [h, parts_hdS hpt] at h1
    have h2 : p.pl ++ tlR p.pd = (hdS s).1 ++ z := congrArg (fun x => x.1) h1
    have h3 := congrArg ByteArray.size h2
    have h4 := congrArg ByteArray.size h
    rw [txP_hd, hdZ_E] at h4
    simp only [ByteArray.size_append] at h3 h4
    omega
  have e1 : (hdS s).2 = 1 := (hdS_01 s).resolve_left hne
  rw [prR_err hle (fun h2 => ?_) hne, e1]
  have z1 := tK_z h2
  obtain ⟨r1, _, _, _, _, _, k1, _⟩ := hpt
  have k2 : tK 1 (s, 0) = ((tK 1 (s, 0)).1, (tK 1 (s, 0)).2.1, 0) := by
    exact Prod.ext rfl (Prod.ext rfl z1)
  have k3 := tK_more (k := 1) (z := z) k2
  rw [h] at k3
  have k4 := k1.symm.trans k3
  have k5 : fA p.pd p.ex p.cs.length = (tK 1 (s, 0)).1 := congrArg (fun x => x.1) k4
  rw [← k5]; exact f1
theorem pad_ok {r : ByteArray} (h : (padM r).2 = 0) : 0 < (padM r).1 ∧ (padM r).1 ≤ 255 ∧ (padM r).1 ≤ r.size := by
  have hb := sb_b r (r.size - 1)
  unfold padM at h ⊢
  split
  · rename_i h0; rw [if_pos h0] at h; cases h
  · rename_i h0
    rw [if_neg h0] at h
    split
    · rename_i h1; rw [if_pos h1] at h; cases h
    · rename_i h1
      rw [if_neg h1] at h
      split
      · rename_i h2; rw [if_pos h2] at h; cases h
      · dsimp only; omega
theorem lenM_hd (p : Rp) (hp : 0 ≤ p.pd) : lenM p.cs.length p.ex p.dt p.pl p.pd = ((hdZ p (p.pl ++ tlR p.pd)).size : Int) := by
  rw [hdZ_size, ByteArray.size_append, tlR_size hp]
  unfold lenM
  cases p.ex
  · simp only [Bool.false_eq_true, if_false]; omega
  · simp only [if_true]; omega
/-- what is read is written -/
theorem prR_back {s : ByteArray} {p : Rp} (h : prR s = (p, 0)) : okR p ∧ Ck p ∧ lenM p.cs.length p.ex p.dt p.pl p.pd = s.size ∧ (txP p).extract 0 (s.size - p.pd.toNat) = s.extract 0 (s.size - p.pd.toNat) := by
  have hs : s.size ≤ 1500 := by
    rcases Nat.lt_or_ge 1500 s.size with h1 | h1
    · unfold prR at h; rw [if_pos h1] at h
      exact absurd (congrArg (fun x => x.2) h) (by simp)
    · exact h1
  have h2 : (tK 1 (tK 1 (s, 0)).2).2.2 = 0 → (tK 1 (s, 0)).1 / 64 = 2 := fun h2 => Classical.not_not.1 fun hn => by
    unfold prR at h; rw [if_neg (by omega)] at h; dsimp only at h
    rw [if_pos ⟨h2, hn⟩] at h
    exact absurd (congrArg (fun x => x.2) h) (by simp)
  have h3 : (hdS s).2 = 0 := Classical.not_not.1 fun hn => by
    rw [prR_err hs h2 hn] at h
    exact hn (congrArg (fun x => x.2) h)
  obtain ⟨a, b, sq, t, ss, cs, pf, dt, hp⟩ := hdS_parts h3
  generalize (hdS s).1 = r at hp
  have ha : a / 64 = 2 := by
    obtain ⟨r1, r2, _, _, _, _, k1, k2, _⟩ := hp
    rw [k1] at h2; dsimp only at h2
    rw [k2] at h2; exact h2 rfl
  rw [hp.prR hs ha, enR_ok] at h
  obtain ⟨hb, ha2, hb2, hsq, ht, hss, hcn, hcs, hex1, hex0⟩ := hp.bytes
  have hpf : 0 ≤ pf ∧ pf ≤ 65535 := by
    cases hx : decide (a / 16 % 2 = 1)
    · rw [(hex0 hx).1]; omega
    · exact ⟨(hex1 hx).1, (hex1 hx).2.1⟩
  have hd4 : dt.size % 4 = 0 := by
    cases hx : decide (a / 16 % 2 = 1)
    · rw [(hex0 hx).2]; rfl
    · exact (hex1 hx).2.2.1
  have m1 : bi (decide (127 < b)) 128 + b % 128 = b := by
    by_cases hb' : 127 < b
    · rw [decide_eq_true hb']; simp only [bi, if_true]; omega
    · rw [decide_eq_false hb']; simp only [bi, Bool.false_eq_true, if_false]; omega
  have fin : ∀ (pl tail : ByteArray) (pd : Int), r = pl ++ tail → 0 ≤ pd ∧ pd ≤ 255 → tail.size = pd.toNat → decide (a / 32 % 2 = 1) = decide (0 < pd) →
      p = ⟨decide (127 < b), b % 128, sq, t, ss, cs, decide (a / 16 % 2 = 1), pf, dt, pl, pd⟩ →
      okR p ∧ Ck p ∧ lenM p.cs.length p.ex p.dt p.pl p.pd = s.size ∧ (txP p).extract 0 (s.size - p.pd.toNat) = s.extract 0 (s.size - p.pd.toNat) := by
    intro pl tail pd hrr hpd htl h32 hpe
    have f1 : fA pd (decide (a / 16 % 2 = 1)) cs.length = a := by
      unfold fA
      rw [← h32]
      by_cases c1 : a / 32 % 2 = 1 <;> by_cases c2 : a / 16 % 2 = 1
      · rw [decide_eq_true c1, decide_eq_true c2]; simp only [bi, if_true]; omega
      · rw [decide_eq_true c1, decide_eq_false c2]; simp only [bi, if_true, Bool.false_eq_true, if_false]; omega
      · rw [decide_eq_false c1, decide_eq_true c2]; simp only [bi, if_true, Bool.false_eq_true, if_false]; omega
      · rw [decide_eq_false c1, decide_eq_false c2]; simp only [bi, Bool.false_eq_true, if_false]; omega
    have hsb : s = hdZ p (pl ++ tail) := by
      rw [hb, hrr, hpe]
      unfold hdZ
      dsimp only
      rw [f1, m1]
    have ep : p.pd = pd := by rw [hpe]
    have epl : p.pl = pl := by rw [hpe]
    have esz : (hdZ p (pl ++ tail)).size = (hdZ p (p.pl ++ tlR p.pd)).size := by
      rw [hdZ_size, hdZ_size, ByteArray.size_append, ByteArray.size_append, htl, ep, tlR_size hpd.1, epl]
    have elen : lenM p.cs.length p.ex p.dt p.pl p.pd = s.size := by
      rw [lenM_hd p (by rw [ep]; exact hpd.1), ← esz, ← hsb]
    refine ⟨?_, ?_, elen, ?_⟩
    · rw [hpe]
      exact ⟨by dsimp only; omega, hsq, ht, hss, hpf, hcs⟩
    · refine ⟨by rw [hpe]; dsimp only; omega, by rw [ep]; exact hpd, by rw [hpe]; dsimp only; omega, by rw [hpe]; exact hd4, ?_, by rw [elen]; omega⟩
      rw [hpe]; exact hex0
    · have e1 : hdZ p (pl ++ tail) = hdZ p pl ++ tail := hdZ_app p pl tail
      have e2 : txP p = hdZ p pl ++ tlR pd := by rw [txP_hd, ep, epl]; exact hdZ_app p pl _
      have e3 : s.size - p.pd.toNat = (hdZ p pl).size := by rw [hsb, e1, ByteArray.size_append, htl, ep]; omega
      rw [e3, e2, hsb, e1, ext_head2, ext_head2]
  by_cases h32 : a / 32 % 2 = 1
  · rw [if_pos (by simpa using h32)] at h
    by_cases hpe : (padM r).2 = 0
    · obtain ⟨p1, p2, p3⟩ := pad_ok hpe
      rw [if_neg (by simp [hpe])] at h
      refine fin (r.extract 0 ((r.size : Int) - (padM r).1).toNat) (r.extract ((r.size : Int) - (padM r).1).toNat r.size) (padM r).1 (ext_all r _ (by omega)).symm ⟨by omega, p2⟩ ?_ ?_ (congrArg (fun x => x.1) h).symm
      · rw [ByteArray.size_extract]; omega
      · rw [decide_eq_true h32, decide_eq_true p1]
    · rw [if_pos hpe] at h
      exact absurd (congrArg (fun x => x.2) h) hpe
  · rw [if_neg (by simpa using h32)] at h
    refine fin r E0 0 (append_E0 r).symm (by omega) rfl ?_ (congrArg (fun x => x.1) h).symm
    rw [decide_eq_false h32]; rfl
theorem prR_Rp0 {s : ByteArray} (h : (prR s).2 ≠ 0) : (prR s).1 = Rp0 := by
  unfold prR at h ⊢
  split
  · rfl
  · rename_i h1
    rw [if_neg h1] at h
    dsimp only at h ⊢
    split
    · rfl
    · rename_i h2
      rw [if_neg h2] at h
      unfold enR at h ⊢
      split
      · rfl
      · rename_i h3
        rw [if_neg h3] at h
        split
        · rename_i h4
          rw [if_pos h4] at h
          split
          · rfl
          · rename_i h5; rw [if_neg h5] at h; exact absurd rfl h
        · rename_i h4; rw [if_neg h4] at h; exact absurd rfl h
end Go.Proofs.Ytlhlidmhlhodiaa

/-
  Packets of rtcp as values.
-/
namespace Go.Proofs.Ytlhlidmhlhodiaa
set_option linter.unusedSimpArgs false
set_option linter.unusedVariables false
open Go.RowKit

structure Bk where
  ss : Int
  lo : Int
  tt : Int
  la : Int
  ji : Int
  ls : Int
  dl : Int
def Bk.ok (b : Bk) : Prop := (0 ≤ b.ss ∧ b.ss ≤ 4294967295) ∧ (0 ≤ b.lo ∧ b.lo ≤ 255) ∧ (0 ≤ b.tt ∧ b.tt ≤ 4294967295) ∧ (0 ≤ b.la ∧ b.la ≤ 4294967295) ∧ (0 ≤ b.ji ∧ b.ji ≤ 4294967295) ∧ (0 ≤ b.ls ∧ b.ls ≤ 4294967295) ∧ (0 ≤ b.dl ∧ b.dl ≤ 4294967295)
def c16 (l : List Int) : List (List Value) := l.map fun z => [.int .u16 z]
def c32 (l : List Int) : List (List Value) := l.map fun z => [.int .u32 z]
def pairV (l : List (Int × Int)) : List (List Value) := l.map fun x => [.int .u16 x.1, .int .u16 x.2]
def ordV (l : List (Int × Int)) : List (List Value) := l.map fun x => [.int .u32 x.1, .int .u8 x.2]
def itmV (l : List (Int × ByteArray)) : List (List Value) := l.map fun x => [.int .u8 x.1, .string x.2]
def blkV (l : List Bk) : List (List Value) := l.map fun b => [.int .u32 b.ss, .int .u8 b.lo, .int .u32 b.tt, .int .u32 b.la, .int .u32 b.ji, .int .u32 b.ls, .int .u32 b.dl]
theorem c16_at {l : List Int} {i : Nat} {z : Int} (h : l[i]? = some z) : (c16 l)[i]? = some [.int .u16 z] := by simp [c16, h]
theorem c32_at {l : List Int} {i : Nat} {z : Int} (h : l[i]? = some z) : (c32 l)[i]? = some [.int .u32 z] := by simp [c32, h]
theorem pairV_at {l : List (Int × Int)} {i : Nat} {x : Int × Int} (h : l[i]? = some x) : (pairV l)[i]? = some [.int .u16 x.1, .int .u16 x.2] := by simp [pairV, h]
theorem ordV_at {l : List (Int × Int)} {i : Nat} {x : Int × Int} (h : l[i]? = some x) : (ordV l)[i]? = some [.int .u32 x.1, .int .u8 x.2] := by simp [ordV, h]
theorem itmV_at {l : List (Int × ByteArray)} {i : Nat} {x : Int × ByteArray} (h : l[i]? = some x) : (itmV l)[i]? = some [.int .u8 x.1, .string x.2] := by simp [itmV, h]
theorem blkV_at {l : List Bk} {i : Nat} {b : Bk} (h : l[i]? = some b) : (blkV l)[i]? = some [.int .u32 b.ss, .int .u8 b.lo, .int .u32 b.tt, .int .u32 b.la, .int .u32 b.ji, .int .u32 b.ls, .int .u32 b.dl] := by simp [blkV, h]
theorem c16_app (a b : List Int) : c16 (a ++ b) = c16 a ++ c16 b := by simp [c16]
theorem c16_len (a : List Int) : (c16 a).length = a.length := by simp [c16]
theorem c32_len (a : List Int) : (c32 a).length = a.length := by simp [c32]
theorem pairV_len (a : List (Int × Int)) : (pairV a).length = a.length := by simp [pairV]
theorem ordV_len (a : List (Int × Int)) : (ordV a).length = a.length := by simp [ordV]
theorem itmV_len (a : List (Int × ByteArray)) : (itmV a).length = a.length := by simp [itmV]
theorem blkV_len (a : List Bk) : (blkV a).length = a.length := by simp [blkV]
inductive Pkt where
  | sender (ss ntp t pk oc : Int) (bl : List Bk)
  | receiver (ss : Int) (bl : List Bk)
  | sdes (ch : List (Int × List (Int × ByteArray)))
  | bye (ss : List Int) (rs : ByteArray)
  | nack (fm to : Int) (ps : List (Int × Int))
  | pli (fm to : Int)
  | fir (fm : Int) (os : List (Int × Int))
  | remb (fm rt : Int) (ss : List Int)
  | other (kd ct : Int) (bd : ByteArray)
def ChV (R : List Ro) (c : Int × List (Int × ByteArray)) (row : List Value) : Prop := ∃ A n k, row = [.int .u32 c.1, .slice A n k] ∧ SQ R 2 A n k (itmV c.2)
def ChsV (R : List Ro) (l : List (Int × List (Int × ByteArray))) (rows : List (List Value)) : Prop := rows.length = l.length ∧ ∀ (i : Nat) c, l[i]? = some c → ∃ row, rows[i]? = some row ∧ ChV R c row
theorem ChV.mono {R R' : List Ro} (hR : ∀ r ∈ R, r ∈ R') {c : Int × List (Int × ByteArray)} {row : List Value} (h : ChV R c row) : ChV R' c row := by
  obtain ⟨A, n, k, h1, h2⟩ := h; exact ⟨A, n, k, h1, h2.mono hR⟩
theorem ChsV.mono {R R' : List Ro} (hR : ∀ r ∈ R, r ∈ R') {l : List (Int × List (Int × ByteArray))} {rows : List (List Value)} (h : ChsV R l rows) : ChsV R' l rows :=
  ⟨h.1, fun i c hc => by obtain ⟨row, h1, h2⟩ := h.2 i c hc; exact ⟨row, h1, h2.mono hR⟩⟩
/-- a packet's value -/
def PkV (R : List Ro) : Pkt → Value → Prop
  | .sender ss ntp t pk oc bl, v => ∃ A n c, v = .iface 267 (.agg #[.int .u32 ss, .int .u64 ntp, .int .u32 t, .int .u32 pk, .int .u32 oc, .slice A n c]) ∧ SQ R 7 A n c (blkV bl)
  | .receiver ss bl, v => ∃ A n c, v = .iface 269 (.agg #[.int .u32 ss, .slice A n c]) ∧ SQ R 7 A n c (blkV bl)
  | .sdes ch, v => ∃ A n c rows, v = .iface 312 (.agg #[.slice A n c]) ∧ SQ R 2 A n c rows ∧ ChsV R ch rows
  | .bye ss rs, v => ∃ A n c, v = .iface 197 (.agg #[.slice A n c, .string rs]) ∧ SQ R 1 A n c (c32 ss)
  | .nack fm to ps, v => ∃ A n c, v = .iface 75 (.agg #[.int .u32 fm, .int .u32 to, .slice A n c]) ∧ SQ R 2 A n c (pairV ps)
  | .pli fm to, v => v = .iface 77 (.agg #[.int .u32 fm, .int .u32 to])
  | .fir fm os, v => ∃ A n c, v = .iface 190 (.agg #[.int .u32 fm, .slice A n c]) ∧ SQ R 2 A n c (ordV os)
  | .remb fm rt ss, v => ∃ A n c, v = .iface 194 (.agg #[.int .u32 fm, .int .u64 rt, .slice A n c]) ∧ SQ R 1 A n c (c32 ss)
  | .other kd ct bd, v => v = .iface 273 (.agg #[.int .u8 kd, .int .u8 ct, .string bd])
theorem PkV.mono {R R' : List Ro} (hR : ∀ r ∈ R, r ∈ R') : ∀ {p : Pkt} {v : Value}, PkV R p v → PkV R' p v
  | .sender .., _, h => by obtain ⟨A, n, c, h1, h2⟩ := h; exact ⟨A, n, c, h1, h2.mono hR⟩
  | .receiver .., _, h => by obtain ⟨A, n, c, h1, h2⟩ := h; exact ⟨A, n, c, h1, h2.mono hR⟩
  | .sdes .., _, h => by obtain ⟨A, n, c, rows, h1, h2, h3⟩ := h; exact ⟨A, n, c, rows, h1, h2.mono hR, h3.mono hR⟩
  | .bye .., _, h => by obtain ⟨A, n, c, h1, h2⟩ := h; exact ⟨A, n, c, h1, h2.mono hR⟩
  | .nack .., _, h => by obtain ⟨A, n, c, h1, h2⟩ := h; exact ⟨A, n, c, h1, h2.mono hR⟩
  | .pli .., _, h => h
  | .fir .., _, h => by obtain ⟨A, n, c, h1, h2⟩ := h; exact ⟨A, n, c, h1, h2.mono hR⟩
  | .remb .., _, h => by obtain ⟨A, n, c, h1, h2⟩ := h; exact ⟨A, n, c, h1, h2.mono hR⟩
  | .other .., _, h => h
theorem PkV.one {R : List Ro} : ∀ {p : Pkt} {v : Value}, PkV R p v → v.oneCell' = true
  | .sender .., _, h => by obtain ⟨A, n, c, rfl, h2⟩ := h; rfl
  | .receiver .., _, h => by obtain ⟨A, n, c, rfl, h2⟩ := h; rfl
  | .sdes .., _, h => by obtain ⟨A, n, c, rows, rfl, h2, h3⟩ := h; rfl
  | .bye .., _, h => by obtain ⟨A, n, c, rfl, h2⟩ := h; rfl
  | .nack .., _, h => by obtain ⟨A, n, c, rfl, h2⟩ := h; rfl
  | .pli .., _, h => by obtain rfl := h; rfl
  | .fir .., _, h => by obtain ⟨A, n, c, rfl, h2⟩ := h; rfl
  | .remb .., _, h => by obtain ⟨A, n, c, rfl, h2⟩ := h; rfl
  | .other .., _, h => by obtain rfl := h; rfl
/-- a packet's numbers lie in their ranges, its lists are not too long -/
def in8 (x : Int) : Prop := 0 ≤ x ∧ x ≤ 255
def in16 (x : Int) : Prop := 0 ≤ x ∧ x ≤ 65535
def in32 (x : Int) : Prop := 0 ≤ x ∧ x ≤ 4294967295
def in64 (x : Int) : Prop := 0 ≤ x ∧ x ≤ 18446744073709551615
def Pkt.ok (m : Nat) : Pkt → Prop
  | .sender ss ntp t pk oc bl => in32 ss ∧ in64 ntp ∧ in32 t ∧ in32 pk ∧ in32 oc ∧ (∀ b ∈ bl, b.ok) ∧ bl.length ≤ m
  | .receiver ss bl => in32 ss ∧ (∀ b ∈ bl, b.ok) ∧ bl.length ≤ m
  | .sdes ch => (∀ c ∈ ch, in32 c.1 ∧ c.2.length ≤ m ∧ ∀ x ∈ c.2, in8 x.1 ∧ x.2.size ≤ m) ∧ ch.length ≤ m
  | .bye ss rs => (∀ x ∈ ss, in32 x) ∧ ss.length ≤ m ∧ rs.size ≤ m
  | .nack fm to ps => in32 fm ∧ in32 to ∧ (∀ x ∈ ps, in16 x.1 ∧ in16 x.2) ∧ ps.length ≤ m
  | .pli fm to => in32 fm ∧ in32 to
  | .fir fm os => in32 fm ∧ (∀ x ∈ os, in32 x.1 ∧ in8 x.2) ∧ os.length ≤ m
  | .remb fm rt ss => in32 fm ∧ in64 rt ∧ (∀ x ∈ ss, in32 x) ∧ ss.length ≤ m
  | .other kd ct bd => in8 kd ∧ in8 ct ∧ bd.size ≤ m
/-- packets in a slice: interface values -/
def PksV (R : List Ro) (l : List Pkt) (vs : List Value) : Prop := vs.length = l.length ∧ ∀ (i : Nat) p, l[i]? = some p → ∃ v, vs[i]? = some v ∧ PkV R p v
def one1 (vs : List Value) : List (List Value) := vs.map fun v => [v]
theorem one1_at {vs : List Value} {i : Nat} {v : Value} (h : vs[i]? = some v) : (one1 vs)[i]? = some [v] := by simp [one1, h]
theorem one1_len (vs : List Value) : (one1 vs).length = vs.length := by simp [one1]
theorem one1_app (a b : List Value) : one1 (a ++ b) = one1 a ++ one1 b := by simp [one1]
theorem PksV.mono {R R' : List Ro} (hR : ∀ r ∈ R, r ∈ R') {l : List Pkt} {vs : List Value} (h : PksV R l vs) : PksV R' l vs :=
  ⟨h.1, fun i p hp => by obtain ⟨v, h1, h2⟩ := h.2 i p hp; exact ⟨v, h1, h2.mono hR⟩⟩
theorem PksV.nil (R : List Ro) : PksV R [] [] := ⟨rfl, fun i p h => by simp at h⟩
theorem PksV.snoc {R : List Ro} {l : List Pkt} {vs : List Value} {p : Pkt} {v : Value} (h : PksV R l vs) (hp : PkV R p v) : PksV R (l ++ [p]) (vs ++ [v]) := by
  refine ⟨by simp [h.1], fun i q hq => ?_⟩
  by_cases hi : i < l.length
  · rw [List.getElem?_append_left hi] at hq
    obtain ⟨u, h1, h2⟩ := h.2 i q hq
    exact ⟨u, by rw [List.getElem?_append_left (by rw [h.1]; exact hi)]; exact h1, h2⟩
  · rw [List.getElem?_append_right (by omega)] at hq
    have : i - l.length = 0 := by
      rcases Nat.eq_zero_or_pos (i - l.length) with h0 | h0
      · exact h0
      · rw [List.getElem?_eq_none (by simp; omega)] at hq; cases hq
    rw [this] at hq
    simp only [List.getElem?_cons_zero, Option.some.injEq] at hq
    subst hq
    exact ⟨v, by rw [List.getElem?_append_right (by rw [h.1]; omega), h.1, this]; rfl, hp⟩
end Go.Proofs.Ytlhlidmhlhodiaa

/-
  Package rtcp: Text, by what each packet writes; Pli and Nack.
-/
namespace Go.Proofs.Ytlhlidmhlhodiaa
set_option linter.unusedSimpArgs false
set_option linter.unusedVariables false
open Go.RowKit
attribute [local irreducible] Pv WO WC Fn
set_option maxRecDepth 100000
attribute [local irreducible] ByteArray.extract

def HdC (v : Value) (kd ct : Int) : Prop := ∃ T w f, v = .iface T w ∧ TInv Try.prog T "Head" f ∧ HasBody Try.prog f ∧ Fn Try.prog f #[w] [] [] (fun u L' R' => u = .tuple #[.int .u8 kd, .int .u8 ct] ∧ L' = [] ∧ R' = [])
def PtC (R : List Ro) (v : Value) (tx : ByteArray) : Prop := ∀ g, Fn Try.prog 88 #[.pointer (some ⟨g, 0, none⟩), v] (wrH g none none 0 E0) R (fun u L' R' => ∃ p ao c, u = .tuple #[] ∧ L' = wrH g p ao c tx ∧ R' = [] ∧ WOk g p ao c tx)
theorem wo_head {N : Nat} {E : Env} {fr : List (Nat × Value)} {hp : List It} {ro : List Ro} {x : Operand} {v : Value} {kd ct : Int} {Kn : St → Prop} {ops : Array Oper} {rest : List Oper} {dst : Option Tmp} {ty : TypeId} {pos : String} {af : Array Edge} {ats : Array TypeId}
    (hx : opd fr x = some v) (hH : HdC v kd ct) (hd : dstOk dst N = true) (h : WO Try.prog N E ops rest ⟨putF dst (.tuple #[.int .u8 kd, .int .u8 ct]) fr, hp, ro⟩ Kn) :
    WO Try.prog N E ops (⟨dst, .call ⟨.invoke x "Head", #[], ats⟩, ty, pos, af, none⟩ :: rest) ⟨fr, hp, ro⟩ Kn := by
  obtain ⟨T, w, f, rfl, hT, hB, hF⟩ := hH
  haveI := hB
  refine wo_inv (l := []) (vs := []) (F := hp) hx hT hF rfl (.refl _) (fun r hr => by cases hr) hd ?_
  rintro v L' R' ⟨rfl, rfl, rfl⟩ H hH RR hR
  subst hH
  subst hR
  exact h
theorem zb_pad (s : ByteArray) : (s ++ zb (padJ s.size 4)).size % 4 = 0 := by
  rw [ByteArray.size_append, zb_size]; exact padJ_eq _ (by omega)
/-- a text, filled up to words of four bytes -/
def pad4 (s : ByteArray) : ByteArray := s ++ zb (padJ s.size 4)
theorem pad4_size (s : ByteArray) : (pad4 s).size ≤ s.size + 3 := by
  unfold pad4
  rw [ByteArray.size_append, zb_size]
  have := padJ_lt s.size (T := 4) (by omega)
  omega
theorem pad4_mod (s : ByteArray) : (pad4 s).size % 4 = 0 := zb_pad s
theorem pad4_id {s : ByteArray} (h : s.size % 4 = 0) : pad4 s = s := by
  unfold pad4 padJ
  rw [h]
  show s ++ E0 = s
  exact append_E0 s
def hd4 (kd ct : Int) (n : Nat) : ByteArray := b1 (128 + ct % 32) ++ b1 kd ++ numS 2 ((n / 4 : Nat) : Int)
/-- a packet's bytes -/
def one4 (x : Int × Int × ByteArray) : ByteArray := hd4 x.1 x.2.1 (pad4 x.2.2).size ++ pad4 x.2.2
def all4 : List (Int × Int × ByteArray) → ByteArray
  | [] => E0
  | x :: l => one4 x ++ all4 l
theorem all4_app : ∀ a b, all4 (a ++ b) = all4 a ++ all4 b
  | [], b => (E0_append _).symm
  | x :: a, b => by
    show one4 x ++ all4 (a ++ b) = (one4 x ++ all4 a) ++ all4 b
    rw [all4_app a b, ByteArray.append_assoc]
theorem all4_take {l : List (Int × Int × ByteArray)} {j : Nat} {x : Int × Int × ByteArray} (h : l[j]? = some x) : all4 (l.take (j + 1)) = all4 (l.take j) ++ one4 x := by
  rw [List.take_add_one, h, all4_app]
  show all4 (l.take j) ++ (one4 x ++ E0) = _
  rw [append_E0]
theorem one4_size (x : Int × Int × ByteArray) : (one4 x).size = 4 + (pad4 x.2.2).size := by
  unfold one4 hd4
  simp only [ByteArray.size_append, b1_size, numS_size]
theorem all4_size : ∀ {l : List (Int × Int × ByteArray)} {m : Nat}, (∀ x ∈ l, x.2.2.size ≤ m) → (all4 l).size ≤ (m + 7) * l.length
  | [], m, _ => Nat.le_refl _
  | x :: l, m, h => by
    have h1 := h x (.head _)
    have h2 := all4_size (fun y hy => h y (.tail _ hy))
    have h3 := one4_size x
    have h4 := pad4_size x.2.2
    show (one4 x ++ all4 l).size ≤ _
    rw [ByteArray.size_append, List.length_cons, Nat.mul_add]; omega
theorem or_128 {a : Int} : 0 ≤ a ∧ a ≤ 255 → bits .or .u8 128 (bits .and .u8 a 31) = 128 + a % 32 := u8_all (p := fun a => bits .or .u8 128 (bits .and .u8 a 31) = 128 + a % 32) (by decide +kernel)
theorem brows_two' {x y : Int} (hx : 0 ≤ x ∧ x ≤ 255) (hy : 0 ≤ y ∧ y ≤ 255) : [[Value.int .u8 x], [.int .u8 y]] = brows (b1 x ++ b1 y) := by
  have e1 := b1_rows hx
  have e2 := b1_rows hy
  have : brows (b1 x ++ b1 y) = brows (b1 x) ++ brows (b1 y) := by simp [brows]
  rw [this, e1, e2]; rfl
set_option maxHeartbeats 16000000 in
theorem tText (l : List (Int × Int × ByteArray)) (vs : List Value) (A : Option Addr) (n c : Nat) (R : List Ro) (hS : SQ R 1 A n c (one1 vs)) (hn : vs.length = l.length) (hl : l.length ≤ 1000) (hz : ∀ x ∈ l, x.2.2.size ≤ 200000) (hr : ∀ x ∈ l, in8 x.1 ∧ in8 x.2.1)
    (hH : ∀ (i : Nat) x v, l[i]? = some x → vs[i]? = some v → HdC v x.1 x.2.1 ∧ PtC R v x.2.2) :
    Fn Try.prog 36 #[.slice A n c] [] R (fun v L' R' => v = .string (all4 l) ∧ L' = [] ∧ R' = []) := by
  have hnl : n = l.length := by rw [← hS.len, one1_len, hn]
  subst hnl
  refine fn_intro Try.func36 rfl Try.ntmps36 rfl (fun E => ?_)
  (repeat (first | ((first | (apply wo_v; rfl) ); (· first | (apply pv_ev; rfl) | (apply g_bi; first | (apply pv_len_sl; rfl) ) )) | apply wo_nil | apply wc_seq | apply wc_region | (apply wo_alloc; rfl; intro bx) ))
  obtain ⟨go, hgo⟩ : ∃ g, g = bx := ⟨_, rfl⟩
  subst hgo
  refine wc_own0 5 1 ?_
  refine wc_join0 (fun st => ∃ p ao c', st = ⟨[(3, .pointer (some ⟨go, 0, none⟩))], wrH go p ao c' (all4 l), R⟩ ∧ WOk go p ao c' (all4 l)) ?_ ?_
  · refine wc_block ?_
    refine wc_loop' (fun q st => ∃ (i : Nat) (p ao : Option Addr) (c' : Nat) (s : ByteArray), q = l.length - i ∧ i ≤ l.length ∧ s = all4 (l.take i) ∧ WOk go p ao c' s ∧ st = ⟨[(3, .pointer (some ⟨go, 0, none⟩)), (9, .slice A l.length c), (10, .int .i64 l.length), (11, .int .i64 i)], wrH go p ao c' s, R⟩) ⟨0, none, none, 0, E0, rfl, Nat.zero_le _, rfl, ⟨.inl rfl, .inl ⟨rfl, rfl, rfl⟩⟩, rfl⟩ (wk_mk (by (repeat (first | apply wkf_nil | (apply wkf_cons; rfl))); done) (by (repeat (first | apply sub_nil | (apply sub_cons; (· (repeat (first | apply sel_here | apply sel_there)))))); done) (by first | exact fun _ h => h | (intro r hr; cases hr; done) | (simp; done) | exact fun _ h => List.mem_append_left _ h | (intro r hr; simp [hr]; done))) ?_
    rintro q st ⟨i, p, ao, c', s, rfl, hi, hs, hw, rfl⟩
    by_cases hlt : i < l.length
    · obtain ⟨x, hx⟩ : ∃ x, l[i]? = some x := ⟨_, List.getElem?_eq_getElem hlt⟩
      obtain ⟨v, hv⟩ : ∃ v, vs[i]? = some v := ⟨_, List.getElem?_eq_getElem (by omega)⟩
      obtain ⟨hHd, hPt⟩ := hH i x v hx hv
      have hrow := one1_at hv
      have hxm := List.mem_of_getElem? hx
      have hxz := hz x hxm
      obtain ⟨hk, hc⟩ := hr x hxm
      have hnx := all4_take hx
      rw [← hs] at hnx
      have hsz : s.size ≤ 200007 * i := by
        have := all4_size (l := l.take i) (m := 200000) (fun y hy => hz y (List.mem_of_mem_take hy))
        rw [← hs, List.length_take] at this
        have h2 : (200000 + 7) * min i l.length ≤ 200007 * i := Nat.mul_le_mul_left _ (by omega)
        omega
      obtain ⟨kd, ct, tx⟩ := x
      dsimp only at hHd hPt hxz hk hc hnx
      obtain ⟨a0, o0, rfl, hmem⟩ := hS.pos (by omega)
      (repeat (first | ((first | (apply wo_v; rfl) ); (· first | (apply pv_ev; rfl) )) | apply wo_nil | apply wc_seq | apply wc_region | apply wc_skip | (apply wc_true; rfl) | (apply wc_false; rfl) | (apply a_dec_t; rfl; (· first | assumption | omega)) ))
      refine wc_block ?_
      (repeat (first | ((first | (apply wo_v; rfl) ); (· first | (apply pv_ev; rfl) | (apply g_load; first | (apply pv_ld; rfl; (· (repeat (first | apply sel_there))); rfl) | (apply pv_ld_ownf; rfl; (· (repeat (first | fail ))); (· assumption); rfl) | (apply pv_ld_own1; rfl; (· (repeat (first | apply sel_there))); (· assumption)) | (apply pv_ld_rof; rfl; (· (first | assumption )); (· assumption); rfl) | (apply pv_ld_ro1; rfl; (· (first | assumption )); (· assumption)) ) | (apply g_idx; first | (apply pv_idx; rfl; rfl; omega) ) )) | apply wo_nil | apply wc_seq | apply wc_region ))
      refine wo_head rfl hHd rfl ?_
      (repeat (first | ((first | (apply wo_v; rfl) ); (· first | (apply pv_ev; rfl) )) | apply wo_nil | apply wc_seq | apply wc_region | (apply wo_alloc; rfl; intro bx) ))
      obtain ⟨gw, hgw⟩ : ∃ g, g = bx := ⟨_, rfl⟩
      subst hgw
      refine wo_own0 5 1 ?_
      (refine wo_call (hPt gw) rfl (by (repeat (first | apply sub_nil | (apply sub_cons; (· (repeat (first | apply sel_here | apply sel_there)))))); done) (by first | exact fun _ h => h | (intro r hr; cases hr; done) | (simp; done) | exact fun _ h => List.mem_append_left _ h | (intro r hr; simp [hr]; done)) rfl ?_; rintro v L' R' ⟨p1, ao1, c1, rfl, rfl, rfl, hw1⟩ H' hH RR hR; simp only [List.cons_append, List.nil_append] at hH hR; subst hH; have hR := hR.symm; subst hR)
      (repeat (first | ((first | (apply wo_v; rfl) ); (· first | (apply pv_ev; rfl) )) | apply wo_nil | apply wc_seq | apply wc_region ))
      have hpad := wPad gw c1 p1 ao1 tx 4 4 rfl (by omega) hw1 (by omega)
      rw [show tx ++ zb (padJ tx.size 4) = pad4 tx from rfl] at hpad
      have hpz := pad4_size tx
      rw [show one4 (kd, ct, tx) = hd4 kd ct (pad4 tx).size ++ pad4 tx from rfl] at hnx
      generalize pad4 tx = px at hpad hpz hnx
      (refine wo_call (hpad) rfl (by (repeat (first | apply sub_nil )); done) (by first | exact fun _ h => h | (intro r hr; cases hr; done) | (simp; done) | exact fun _ h => List.mem_append_left _ h | (intro r hr; simp [hr]; done)) rfl ?_; rintro v L' R' ⟨p2, ao2, c2, rfl, rfl, rfl, hw2⟩ H' hH RR hR; simp only [List.cons_append, List.nil_append] at hH hR; subst hH; have hR := hR.symm; subst hR)
      (repeat (first | ((first | (apply wo_v; rfl) ); (· first | (apply pv_ev; rfl) | (apply g_bin; first | (apply pv_and; rfl; rfl) | (apply (a_or 4); rfl; rfl; infer_instance; rfl; omega) | (apply (a_or 5); rfl; rfl; infer_instance; rfl; omega) | (apply (a_or 6); rfl; rfl; infer_instance; rfl; omega) | (apply (a_or 7); rfl; rfl; infer_instance; rfl; omega) | (apply (a_or 8); rfl; rfl; infer_instance; rfl; omega) | (apply (a_or 16); rfl; rfl; infer_instance; rfl; omega) | (apply (a_or 24); rfl; rfl; infer_instance; rfl; omega) | (apply (a_or 32); rfl; rfl; infer_instance; rfl; omega) | (apply pv_or; rfl; rfl) ) )) | apply wo_nil | apply wc_region | (apply wo_bsl; (· (repeat (first | apply Rws'.nil | (apply Rws'.one; rfl; rfl; rfl) ))); rfl; rfl; rfl; rfl; intro bx) ))
      have hct := or_128 hc
      have hk0 : 0 ≤ 128 + ct % 32 ∧ 128 + ct % 32 ≤ 255 := by omega
      have z1 : (b1 (128 + ct % 32) ++ b1 kd).size = 2 := by rw [ByteArray.size_append, b1_size, b1_size]
      rw [hct, brows_two' hk0 hk]
      have hW1 := fun bl => wU8 go c' bl 2 p ao s (b1 (128 + ct % 32) ++ b1 kd) hw (by rw [z1]; omega) (by rw [z1]; omega)
      simp only [z1] at hW1
      obtain ⟨s1, hs1⟩ : ∃ s1, s ++ (b1 (128 + ct % 32) ++ b1 kd) = s1 := ⟨_, rfl⟩
      have zs1 : s1.size = s.size + 2 := by rw [← hs1, ByteArray.size_append, z1]
      rw [hs1] at hW1
      (refine wo_call (hW1 _) rfl (by (repeat (first | apply sub_nil | (apply sub_cons; (· (repeat (first | apply sel_here | apply sel_there)))))); done) (by first | exact fun _ h => h | (intro r hr; cases hr; done) | (simp; done) | exact fun _ h => List.mem_append_left _ h | (intro r hr; simp [hr]; done)) rfl ?_; rintro v L' R' ⟨p3, ao3, c3, rfl, rfl, rfl, hw3⟩ H' hH RR hR; simp only [List.cons_append, List.nil_append] at hH hR; subst hH; have hR := hR.symm; subst hR)
      (repeat (first | ((first | (apply wo_v; rfl) ); (· first | (apply pv_ev; rfl) )) ))
      (refine wo_call (wLen gw c2 p2 ao2 px.size) rfl (by (repeat (first | apply sub_nil | (apply sub_cons; (· (repeat (first | apply sel_here | apply sel_there)))))); done) (by first | exact fun _ h => h | (intro r hr; cases hr; done) | (simp; done) | exact fun _ h => List.mem_append_left _ h | (intro r hr; simp [hr]; done)) rfl ?_; rintro v L' R' ⟨rfl, rfl, rfl⟩ H' hH RR hR; simp only [List.cons_append, List.nil_append] at hH hR; subst hH; have hR := hR.symm; subst hR)
      have ed : ((px.size / 4 : Nat) : Int) = (px.size : Int) / 4 := by omega
      have hW2 := fun bl => wU16 go c3 bl 1 p3 ao3 s1 [(px.size : Int) / 4] (by intro y hy; rcases List.mem_singleton.1 hy with rfl; omega) (by simp) hw3 (by omega)
      rw [numsS_one, ← ed] at hW2
      obtain ⟨s2, hs2⟩ : ∃ s2, s1 ++ numS 2 ((px.size / 4 : Nat) : Int) = s2 := ⟨_, rfl⟩
      have zs2 : s2.size = s.size + 4 := by rw [← hs2, ByteArray.size_append, numS_size, zs1]
      rw [hs2] at hW2
      (repeat (first | ((first | (apply wo_v; rfl) ); (· first | (apply pv_ev; rfl) | (apply g_bin; first | (apply a_quo; rfl; rfl; infer_instance; omega) ) | (apply g_conv; first | (apply a_conv; rfl; infer_instance; infer_instance; infer_instance; omega) ) )) | (apply wo_bsl; (· (repeat (first | apply Rws'.nil | (apply Rws'.one; rfl; rfl; rfl) ))); rfl; rfl; rfl; rfl; intro bx) ))
      rw [← ed]
      (refine wo_call (hW2 _) rfl (by (repeat (first | apply sub_nil | (apply sub_cons; (· (repeat (first | apply sel_here | apply sel_there)))))); done) (by first | exact fun _ h => h | (intro r hr; cases hr; done) | (simp; done) | exact fun _ h => List.mem_append_left _ h | (intro r hr; simp [hr]; done)) rfl ?_; rintro v L' R' ⟨p4, ao4, c4, rfl, rfl, rfl, hw4⟩ H' hH RR hR; simp only [List.cons_append, List.nil_append] at hH hR; subst hH; have hR := hR.symm; subst hR)
      (repeat (first | ((first | (apply wo_v; rfl) ); (· first | (apply pv_ev; rfl) )) ))
      (refine wo_call (wText gw c2 p2 ao2 px hw2) rfl (by (repeat (first | apply sub_nil | (apply sub_cons; (· (repeat (first | apply sel_here | apply sel_there)))))); done) (by first | exact fun _ h => h | (intro r hr; cases hr; done) | (simp; done) | exact fun _ h => List.mem_append_left _ h | (intro r hr; simp [hr]; done)) rfl ?_; rintro v L' R' ⟨rfl, rfl, rfl⟩ H' hH RR hR; simp only [List.cons_append, List.nil_append] at hH hR; subst hH; have hR := hR.symm; subst hR)
      (repeat (first | ((first | (apply wo_v; rfl) ); (· first | (apply pv_ev; rfl) )) | (apply wo_bsl; (· (repeat (first | apply Rws'.nil | (apply Rws'.one; rfl; rfl; rfl) ))); rfl; rfl; rfl; rfl; intro bx) ))
      have hW3 := fun bl => wPut go c4 bl 1 p4 ao4 s2 [px] (by intro y hy; rcases List.mem_singleton.1 hy with rfl; omega) (by simp) hw4 (by omega)
      rw [show catS [px] = px from append_E0 px] at hW3
      have hfin : s2 ++ px = all4 (l.take (i + 1)) := by
        rw [hnx, ← hs2, ← hs1]
        unfold hd4
        simp only [ByteArray.append_assoc]
      rw [hfin] at hW3
      (refine wo_call (hW3 _) rfl (by (repeat (first | apply sub_nil | (apply sub_cons; (· (repeat (first | apply sel_here | apply sel_there)))))); done) (by first | exact fun _ h => h | (intro r hr; cases hr; done) | (simp; done) | exact fun _ h => List.mem_append_left _ h | (intro r hr; simp [hr]; done)) rfl ?_; rintro v L' R' ⟨p5, ao5, c5, rfl, rfl, rfl, hw5⟩ H' hH RR hR; simp only [List.cons_append, List.nil_append] at hH hR; subst hH; have hR := hR.symm; subst hR)
      (repeat (first | ((first | (apply wo_v; rfl) ); (· first | (apply pv_ev; rfl) | (apply g_bin; first | (apply a_add; rfl; rfl; infer_instance; omega) ) )) | apply wo_nil | apply wc_region ))
      exact loop_end ⟨i + 1, p5, ao5, c5, _, rfl, by omega, rfl, hw5, rfl⟩ (by omega) (wk_mk (by (repeat (first | apply wkf_nil | (apply wkf_cons; rfl))); done) (by (repeat (first | apply sub_nil )); done) (by first | exact fun _ h => h | (intro r hr; cases hr; done) | (simp; done) | exact fun _ h => List.mem_append_left _ h | (intro r hr; simp [hr]; done)))
    · have e : i = l.length := by omega
      subst e
      rw [List.take_length] at hs
      subst hs
      (repeat (first | ((first | (apply wo_v; rfl) ); (· first | (apply pv_ev; rfl) )) | apply wo_nil | apply wc_seq | apply wc_region | (apply wc_exit; rfl) | (apply wc_true; rfl) | (apply wc_false; rfl) | (apply a_dec_t; rfl; (· first | assumption | omega)) | (apply a_dec_f; rfl; (· first | assumption | omega)) ))
      exact cut_end ⟨p, ao, c', rfl, hw⟩ (wk_mk (by (repeat (first | apply wkf_nil | (apply wkf_cons; rfl))); done) (by (repeat (first | apply sub_nil )); done) (by first | exact fun _ h => h | (intro r hr; cases hr; done) | (simp; done) | exact fun _ h => List.mem_append_left _ h | (intro r hr; simp [hr]; done)))
  rintro st ⟨p, ao, c', rfl, hw⟩
  (repeat (first | ((first | (apply wo_v; rfl) ); (· first | (apply pv_ev; rfl) )) | apply wc_seq | apply wc_region ))
  (refine wo_call (wText go c' p ao _ hw) rfl (by (repeat (first | apply sub_nil )); done) (by first | exact fun _ h => h | (intro r hr; cases hr; done) | (simp; done) | exact fun _ h => List.mem_append_left _ h | (intro r hr; simp [hr]; done)) rfl ?_; rintro v L' R' ⟨rfl, rfl, rfl⟩ H' hH RR hR; simp only [List.cons_append, List.nil_append] at hH hR; subst hH; have hR := hR.symm; subst hR)
  (repeat (first | ((first | (apply wo_v; rfl) ); (· first | (apply pv_ev; rfl) )) | apply wo_nil | apply wc_ret ))
  exact ret1 rfl rfl ⟨rfl, rfl, rfl⟩ ((by (repeat (first | apply sub_nil )); done) : List.Perm _ ([] ++ _)) (by first | exact fun _ h => h | (intro r hr; cases hr; done) | (simp; done) | exact fun _ h => List.mem_append_left _ h | (intro r hr; simp [hr]; done))
/-! ## Pli and Nack -/
theorem hPli (f0 to : Int) : Fn Try.prog 221 #[.agg #[.int .u32 f0, .int .u32 to]] [] [] (fun u L' R' => u = .tuple #[.int .u8 206, .int .u8 1] ∧ L' = [] ∧ R' = []) := by
  refine fn_intro Try.func221 rfl Try.ntmps221 rfl (fun E => ?_)
  (repeat (first | ((first | (apply wo_v; rfl) ); (· first | (apply pv_ev; rfl) )) | apply wo_nil | apply wc_seq | apply wc_region | apply wc_ret | (apply wo_box1; rfl; rfl; rfl; intro bx) | (apply wo_boxa; rfl; rfl; intro bx) ))
  exact retv rfl (by (repeat (first | apply RV.nil | (apply RV.tmp; rfl) )); done) (⟨rfl, rfl, rfl⟩) (by (repeat (first | apply sub_nil )); done) (by first | exact fun _ h => h | (intro r hr; cases hr; done) | (simp; done) | exact fun _ h => List.mem_append_left _ h | (intro r hr; simp [hr]; done))
theorem hNack (f0 to : Int) (w : Value) (hw : w.oneCell' = true) : Fn Try.prog 219 #[.agg #[.int .u32 f0, .int .u32 to, w]] [] [] (fun u L' R' => u = .tuple #[.int .u8 205, .int .u8 1] ∧ L' = [] ∧ R' = []) := by
  refine fn_intro Try.func219 rfl Try.ntmps219 rfl (fun E => ?_)
  (repeat (first | ((first | (apply wo_v; rfl) ); (· first | (apply pv_ev; rfl) )) | apply wo_nil | apply wc_seq | apply wc_region | apply wc_ret | (apply wo_box1; rfl; rfl; rfl; intro bx) | (apply wo_boxa; rfl; rfl; intro bx) ))
  exact retv rfl (by (repeat (first | apply RV.nil | (apply RV.tmp; rfl) )); done) (⟨rfl, rfl, rfl⟩) (by (repeat (first | apply sub_nil )); done) (by first | exact fun _ h => h | (intro r hr; cases hr; done) | (simp; done) | exact fun _ h => List.mem_append_left _ h | (intro r hr; simp [hr]; done))
abbrev PtF (f : FuncId) (R : List Ro) (g : Nat) (w : Value) (tx : ByteArray) : Prop := Fn Try.prog f #[w, .pointer (some ⟨g, 0, none⟩)] (wrH g none none 0 E0) R (fun u L' R' => ∃ p ao c, u = .tuple #[] ∧ L' = wrH g p ao c tx ∧ R' = [] ∧ WOk g p ao c tx)
theorem w0 (g : Nat) : WOk g none none 0 E0 := ⟨.inl rfl, .inl ⟨rfl, rfl, rfl⟩⟩
theorem pPli (R : List Ro) (g : Nat) (f0 to : Int) (h1 : in32 f0) (h2 : in32 to) : PtF 222 R g (.agg #[.int .u32 f0, .int .u32 to]) (numsS 4 [f0, to]) := by
  have hW := fun bl => wU32 g 0 bl 2 none none E0 [f0, to] (by intro y hy; simp only [List.mem_cons, List.not_mem_nil, or_false] at hy; rcases hy with rfl | rfl; exact h1; exact h2) (by simp) (w0 g) (by decide)
  rw [E0_append] at hW
  refine fn_intro Try.func222 rfl Try.ntmps222 rfl (fun E => ?_)
  (repeat (first | ((first | (apply wo_v; rfl) ); (· first | (apply pv_ev; rfl) | (apply pv_fld; rfl) | (apply g_load; first | (apply pv_ld; rfl; (· (repeat (first | apply sel_here ))); rfl) ) )) | apply wo_nil | apply wc_seq | apply wc_region | (apply wo_box1; rfl; rfl; rfl; intro bx) | (apply wo_boxa; rfl; rfl; intro bx) | (apply wo_bsl; (· (repeat (first | apply Rws'.nil | (apply Rws'.one; rfl; rfl; rfl) ))); rfl; rfl; rfl; rfl; intro bx) ))
  (refine wo_call (hW _) rfl (by (repeat (first | apply sub_nil | (apply sub_cons; (· (repeat (first | apply sel_here | apply sel_there)))))); done) (by first | exact fun _ h => h | (intro r hr; cases hr; done) | (simp; done) | exact fun _ h => List.mem_append_left _ h | (intro r hr; simp [hr]; done)) rfl ?_; rintro v L' R' ⟨p5, ao5, c5, rfl, rfl, rfl, hw5⟩ H' hH RR hR; simp only [List.cons_append, List.nil_append] at hH hR; subst hH; have hR := hR.symm; subst hR)
  (repeat (first | apply wo_nil ))
  exact ret0 rfl ⟨p5, ao5, c5, rfl, rfl, rfl, hw5⟩ (by (repeat (first | apply sub_nil )); done) (by first | exact fun _ h => h | (intro r hr; cases hr; done) | (simp; done) | exact fun _ h => List.mem_append_left _ h | (intro r hr; simp [hr]; done))
def prsT : List (Int × Int) → ByteArray
  | [] => E0
  | x :: l => numsS 2 [x.1, x.2] ++ prsT l
theorem prsT_app : ∀ a b, prsT (a ++ b) = prsT a ++ prsT b
  | [], b => (E0_append _).symm
  | x :: a, b => by
    show numsS 2 [x.1, x.2] ++ prsT (a ++ b) = (numsS 2 [x.1, x.2] ++ prsT a) ++ prsT b
    rw [prsT_app a b, ByteArray.append_assoc]
theorem prsT_take {l : List (Int × Int)} {j : Nat} {x : Int × Int} (h : l[j]? = some x) : prsT (l.take (j + 1)) = prsT (l.take j) ++ numsS 2 [x.1, x.2] := by
  rw [List.take_add_one, h, prsT_app]
  show prsT (l.take j) ++ (numsS 2 [x.1, x.2] ++ E0) = _
  rw [append_E0]
theorem prsT_size : ∀ l : List (Int × Int), (prsT l).size = 4 * l.length
  | [] => rfl
  | x :: l => by
    show (numsS 2 [x.1, x.2] ++ prsT l).size = _
    simp only [ByteArray.size_append, prsT_size l, numsS_size, List.length_cons, List.length_nil]; omega
set_option maxHeartbeats 8000000 in
theorem pNack (R : List Ro) (g : Nat) (f0 to : Int) (l : List (Int × Int)) (A : Option Addr) (n c : Nat) (hS : SQ R 2 A n c (pairV l)) (hl : l.length ≤ 10000) (h1 : in32 f0) (h2 : in32 to) (hb : ∀ x ∈ l, in16 x.1 ∧ in16 x.2) :
    PtF 220 R g (.agg #[.int .u32 f0, .int .u32 to, .slice A n c]) (numsS 4 [f0, to] ++ prsT l) := by
  have hn : n = l.length := by rw [← hS.len, pairV_len]
  subst hn
  have hW := fun bl => wU32 g 0 bl 2 none none E0 [f0, to] (by intro y hy; simp only [List.mem_cons, List.not_mem_nil, or_false] at hy; rcases hy with rfl | rfl; exact h1; exact h2) (by simp) (w0 g) (by decide)
  rw [E0_append] at hW
  have zh : (numsS 4 [f0, to]).size = 8 := by rw [numsS_size]; rfl
  generalize numsS 4 [f0, to] = th at hW zh
  refine fn_intro Try.func220 rfl Try.ntmps220 rfl (fun E => ?_)
  (repeat (first | ((first | (apply wo_v; rfl) ); (· first | (apply pv_ev; rfl) | (apply pv_fld; rfl) | (apply g_load; first | (apply pv_ld; rfl; (· (repeat (first | apply sel_here ))); rfl) ) )) | apply wo_nil | apply wc_seq | apply wc_region | (apply wo_box1; rfl; rfl; rfl; intro bx) | (apply wo_boxa; rfl; rfl; intro bx) | (apply wo_bsl; (· (repeat (first | apply Rws'.nil | (apply Rws'.one; rfl; rfl; rfl) ))); rfl; rfl; rfl; rfl; intro bx) ))
  (refine wo_call (hW _) rfl (by (repeat (first | apply sub_nil | (apply sub_cons; (· (repeat (first | apply sel_here | apply sel_there)))))); done) (by first | exact fun _ h => h | (intro r hr; cases hr; done) | (simp; done) | exact fun _ h => List.mem_append_left _ h | (intro r hr; simp [hr]; done)) rfl ?_; rintro v L' R' ⟨p5, ao5, c5, rfl, rfl, rfl, hw5⟩ H' hH RR hR; simp only [List.cons_append, List.nil_append] at hH hR; subst hH; have hR := hR.symm; subst hR)
  (repeat (first | ((first | (apply wo_v; rfl) ); (· first | (apply pv_ev; rfl) | (apply pv_fld; rfl) | (apply g_load; first | (apply pv_ld; rfl; (· (repeat (first | apply sel_here | apply sel_there))); rfl) ) | (apply g_bi; first | (apply pv_len_sl; rfl) ) )) | apply wo_nil | apply wc_seq | apply wc_region ))
  refine wc_block ?_
  refine wc_loop' (fun q st => ∃ (i : Nat) (p ao : Option Addr) (c' : Nat) (s : ByteArray), q = l.length - i ∧ i ≤ l.length ∧ s = th ++ prsT (l.take i) ∧ WOk g p ao c' s ∧ st = ⟨[(1, .pointer (some ⟨g, 0, none⟩)), (14, .slice A l.length c), (15, .int .i64 l.length), (16, .int .i64 i)], wrH g p ao c' s, R⟩) ⟨0, p5, ao5, c5, th, rfl, Nat.zero_le _, (append_E0 _).symm, hw5, rfl⟩ (wk_mk (by (repeat (first | apply wkf_nil | (apply wkf_cons; rfl))); done) (by (repeat (first | apply sub_nil )); done) (by first | exact fun _ h => h | (intro r hr; cases hr; done) | (simp; done) | exact fun _ h => List.mem_append_left _ h | (intro r hr; simp [hr]; done))) ?_
  clear hw5 hW p5 ao5 c5
  rintro q st ⟨i, p, ao, c', s, rfl, hi, hs, hw, rfl⟩
  by_cases hlt : i < l.length
  · obtain ⟨x, hx⟩ : ∃ x, l[i]? = some x := ⟨_, List.getElem?_eq_getElem hlt⟩
    have hr := pairV_at hx
    obtain ⟨⟨x1, x2⟩, x3, x4⟩ := hb _ (List.mem_of_getElem? hx)
    have hnx := prsT_take hx
    have hsz := prsT_size (l.take i)
    obtain ⟨a, b⟩ := x
    dsimp only at hr x1 x2 x3 x4 hnx
    have hsz2 : s.size ≤ 8 + 4 * i := by rw [hs, ByteArray.size_append, zh, hsz, List.length_take]; omega
    have hnx2 : s ++ numsS 2 [a, b] = th ++ prsT (l.take (i + 1)) := by rw [hnx, hs, ByteArray.append_assoc]
    obtain ⟨a0, o0, rfl, hmem⟩ := hS.pos (by omega)
    have hW2 := fun bl => wU16 g c' bl 2 p ao s [a, b] (by intro y hy; simp only [List.mem_cons, List.not_mem_nil, or_false] at hy; rcases hy with rfl | rfl; exact ⟨x1, x2⟩; exact ⟨x3, x4⟩) (by simp) hw (by omega)
    rw [hnx2] at hW2
    (repeat (first | ((first | (apply wo_v; rfl) ); (· first | (apply pv_ev; rfl) )) | apply wo_nil | apply wc_seq | apply wc_region | apply wc_skip | (apply wc_true; rfl) | (apply wc_false; rfl) | (apply a_dec_t; rfl; (· first | assumption | omega)) ))
    refine wc_block ?_
    (repeat (first | ((first | (apply wo_v; rfl) ); (· first | (apply pv_ev; rfl) | (apply pv_fld; rfl) | (apply g_load; first | (apply pv_ld; rfl; (· (repeat (first | apply sel_here ))); rfl) | (apply pv_lda; rfl; (· (repeat (first | apply sel_there))); (· (repeat (first | fail )))) | (apply pv_ld_owna; rfl; (· (repeat (first | apply sel_there))); (· assumption)) | (apply pv_ld_roa; rfl; (· (first | assumption )); (· assumption))) | (apply g_idx; first | (apply pv_idx; rfl; rfl; omega) ) )) | apply wo_nil | apply wc_seq | apply wc_region | (apply wo_alloc; rfl; intro bx) | (apply wo_bsl; (· (repeat (first | apply Rws'.nil | (apply Rws'.one; rfl; rfl; rfl) ))); rfl; rfl; rfl; rfl; intro bx) | (apply wo_sta; rfl; rfl; rfl; rfl; (· (repeat (first | apply sel_here ))); (· (repeat (first | apply LayAt.nil | apply LayAt.here ))); rfl) ))
    (refine wo_call (hW2 _) rfl (by (repeat (first | apply sub_nil | (apply sub_cons; (· (repeat (first | apply sel_here | apply sel_there)))))); done) (by first | exact fun _ h => h | (intro r hr; cases hr; done) | (simp; done) | exact fun _ h => List.mem_append_left _ h | (intro r hr; simp [hr]; done)) rfl ?_; rintro v L' R' ⟨p6, ao6, c6, rfl, rfl, rfl, hw6⟩ H' hH RR hR; simp only [List.cons_append, List.nil_append] at hH hR; subst hH; have hR := hR.symm; subst hR)
    (repeat (first | ((first | (apply wo_v; rfl) ); (· first | (apply pv_ev; rfl) | (apply g_bin; first | (apply a_add; rfl; rfl; infer_instance; omega) ) )) | apply wo_nil | apply wc_region ))
    exact loop_end ⟨i + 1, p6, ao6, c6, _, rfl, by omega, rfl, hw6, rfl⟩ (by omega) (wk_mk (by (repeat (first | apply wkf_nil | (apply wkf_cons; rfl))); done) (by (repeat (first | apply sub_nil )); done) (by first | exact fun _ h => h | (intro r hr; cases hr; done) | (simp; done) | exact fun _ h => List.mem_append_left _ h | (intro r hr; simp [hr]; done)))
  · have e : i = l.length := by omega
    subst e
    rw [List.take_length] at hs
    subst hs
    (repeat (first | ((first | (apply wo_v; rfl) ); (· first | (apply pv_ev; rfl) )) | apply wo_nil | apply wc_seq | apply wc_region | (apply wc_exit; rfl) | (apply wc_true; rfl) | (apply wc_false; rfl) | (apply a_dec_t; rfl; (· first | assumption | omega)) | (apply a_dec_f; rfl; (· first | assumption | omega)) ))
    exact ret0 rfl ⟨p, ao, c', rfl, rfl, rfl, hw⟩ (by (repeat (first | apply sub_nil )); done) (by first | exact fun _ h => h | (intro r hr; cases hr; done) | (simp; done) | exact fun _ h => List.mem_append_left _ h | (intro r hr; simp [hr]; done))
/-- through the interface -/
theorem tPli (R : List Ro) (f0 to : Int) (h1 : in32 f0) (h2 : in32 to) : PtC R (.iface 77 (.agg #[.int .u32 f0, .int .u32 to])) (numsS 4 [f0, to]) := fun g => by
  refine fn_intro Try.func88 rfl Try.ntmps88 rfl (fun E => ?_)
  (repeat (first | ((first | (apply wo_v; rfl) ); (· first | (apply pv_ev; rfl) | (apply pv_tas; rfl; infer_instance) )) | apply wo_nil | apply wc_seq | apply wc_region | (apply wc_true; rfl) ))
  (refine wo_inv rfl inferInstance (pPli R g f0 to h1 h2) rfl (by (repeat (first | apply sub_nil )); done) (by first | exact fun _ h => h | (intro r hr; cases hr; done) | (simp; done) | exact fun _ h => List.mem_append_left _ h | (intro r hr; simp [hr]; done)) rfl ?_; rintro v L' R' ⟨p5, ao5, c5, rfl, rfl, rfl, hw5⟩ H' hH RR hR; simp only [List.cons_append, List.nil_append] at hH hR; subst hH; have hR := hR.symm; subst hR)
  (repeat (first | apply wo_nil ))
  exact ret0 rfl ⟨p5, ao5, c5, rfl, rfl, rfl, hw5⟩ (by (repeat (first | apply sub_nil )); done) (by first | exact fun _ h => h | (intro r hr; cases hr; done) | (simp; done) | exact fun _ h => List.mem_append_left _ h | (intro r hr; simp [hr]; done))
theorem tNack (R : List Ro) (f0 to : Int) (l : List (Int × Int)) (A : Option Addr) (n c : Nat) (hS : SQ R 2 A n c (pairV l)) (hl : l.length ≤ 10000) (h1 : in32 f0) (h2 : in32 to) (hb : ∀ x ∈ l, in16 x.1 ∧ in16 x.2) :
    PtC R (.iface 75 (.agg #[.int .u32 f0, .int .u32 to, .slice A n c])) (numsS 4 [f0, to] ++ prsT l) := fun g => by
  refine fn_intro Try.func88 rfl Try.ntmps88 rfl (fun E => ?_)
  (repeat (first | ((first | (apply wo_v; rfl) ); (· first | (apply pv_ev; rfl) | (apply pv_tas; rfl; infer_instance) )) | apply wo_nil | apply wc_seq | apply wc_region | (apply wc_true; rfl) ))
  (refine wo_inv rfl inferInstance (pNack R g f0 to l A n c hS hl h1 h2 hb) rfl (by (repeat (first | apply sub_nil )); done) (by first | exact fun _ h => h | (intro r hr; cases hr; done) | (simp; done) | exact fun _ h => List.mem_append_left _ h | (intro r hr; simp [hr]; done)) rfl ?_; rintro v L' R' ⟨p5, ao5, c5, rfl, rfl, rfl, hw5⟩ H' hH RR hR; simp only [List.cons_append, List.nil_append] at hH hR; subst hH; have hR := hR.symm; subst hR)
  (repeat (first | apply wo_nil ))
  exact ret0 rfl ⟨p5, ao5, c5, rfl, rfl, rfl, hw5⟩ (by (repeat (first | apply sub_nil )); done) (by first | exact fun _ h => h | (intro r hr; cases hr; done) | (simp; done) | exact fun _ h => List.mem_append_left _ h | (intro r hr; simp [hr]; done))
theorem dPli (f0 to : Int) : HdC (.iface 77 (.agg #[.int .u32 f0, .int .u32 to])) 206 1 := ⟨_, _, _, rfl, inferInstance, inferInstance, hPli f0 to⟩
theorem dNack (f0 to : Int) (A : Option Addr) (n c : Nat) : HdC (.iface 75 (.agg #[.int .u32 f0, .int .u32 to, .slice A n c])) 205 1 := ⟨_, _, _, rfl, inferInstance, inferInstance, hNack f0 to _ rfl⟩
end Go.Proofs.Ytlhlidmhlhodiaa

/-
  The laws through the layers: live.
-/
namespace Go.Proofs.Ytlhlidmhlhodiaa
set_option linter.unusedSimpArgs false
set_option linter.unusedVariables false
open Go.RowKit
attribute [local irreducible] Pv WO WC Fn
set_option maxRecDepth 100000
attribute [local irreducible] ByteArray.extract

theorem live1 : txt ⟨false, false, 0, -1, false, -1, -1, false, -1⟩ = ⟨#[0]⟩ := by decide
theorem live2 : all4 [(206, 1, numsS 4 [1, 2])] = ⟨#[129, 206, 0, 2, 0, 0, 0, 1, 0, 0, 0, 2]⟩ := by decide
theorem alive : Fn Try.prog 12 #[] [] [] (fun v L' R' => v = .bool true ∧ L' = [] ∧ R' = []) := by
  have hck : Ck ⟨false, 96, 1, 0, 0, [], false, 0, E0, ⟨#[120]⟩, 0⟩ := ⟨by decide, by decide, by decide, by decide, (fun _ => ⟨rfl, rfl⟩), by decide⟩
  have hokr : okR ⟨false, 96, 1, 0, 0, [], false, 0, E0, ⟨#[120]⟩, 0⟩ := ⟨by decide, by decide, by decide, by decide, by decide, (fun z hz => by cases hz)⟩
  have hx := prR_txP hokr hck
  have hz := txP_size hck
  have wT := gText false 96 1 0 0 [] false 0 E0 ⟨#[120]⟩ 0 none 0 0 [] (SQ.nil _ _ _ _) (by decide) (by decide) (by decide) (by decide) (by decide) (by decide) (by decide) (by decide) (by decide) (fun z hz => by cases hz)
  unfold txP at hx hz
  dsimp only at hx hz
  rw [show lenM ([] : List Int).length false E0 ⟨#[120]⟩ 0 = 13 by decide] at hz
  generalize txR false 96 1 0 0 [] false 0 E0 ⟨#[120]⟩ 0 = x at hx hz wT
  have wP := pParse x (by omega)
  rw [hx] at wP
  dsimp only [List.length_nil] at wP
  have wV := vText false false 0 (-1) false (-1) (-1) false (-1) (by decide) (by decide)
  rw [live1] at wV
  have wR := fun A c R hS => tText [(206, 1, numsS 4 [1, 2])] [.iface 77 (.agg #[.int .u32 1, .int .u32 2])] A 1 c R hS rfl (by decide) (by decide) (by intro x hx; rcases List.mem_singleton.1 hx with rfl; exact ⟨by unfold in8; dsimp only; omega, by unfold in8; dsimp only; omega⟩)
    (fun i x v h1 h2 => by
      match i, h1, h2 with
      | 0, h1, h2 =>
        simp only [List.getElem?_cons_zero, Option.some.injEq] at h1 h2
        subst h1 h2
        exact ⟨dPli 1 2, tPli R 1 2 (by unfold in32; omega) (by unfold in32; omega)⟩)
  rw [live2] at wR
  refine fn_intro Try.func12 rfl Try.ntmps12 rfl (fun E => ?_)
  (repeat (first | ((first | (apply wo_v; rfl) ); (· first | (apply pv_ev; rfl) | (apply g_load; first | (apply pv_lda; rfl; (· (repeat (first | apply sel_here ))); (· (repeat (first | apply Cut.here0 | apply Cut.here )))) ) | (apply g_build; apply pv_build; (· (repeat (first | apply Bld.nil | (apply Bld.one; rfl; rfl; (· (repeat (first | apply SetAt.here | apply SetAt.there)))) )))) )) | apply wo_nil | apply wc_seq | apply wc_region | (apply wo_alloc; rfl; intro bx) | (apply wo_sta; rfl; rfl; rfl; rfl; (· (repeat (first | apply sel_here ))); (· (repeat (first | apply LayAt.nil | apply LayAt.here ))); rfl) ))
  (refine wo_call (wT) rfl (by (repeat (first | apply sub_nil )); done) (by first | exact fun _ h => h | (intro r hr; cases hr; done) | (simp; done) | exact fun _ h => List.mem_append_left _ h | (intro r hr; simp [hr]; done)) rfl ?_; rintro v L' R' ⟨rfl, rfl, rfl⟩ H' hH RR hR; simp only [List.cons_append, List.nil_append] at hH hR; subst hH; have hR := hR.symm; subst hR)
  (repeat (first | ((first | (apply wo_v; rfl) ); (· first | (apply pv_ev; rfl) )) ))
  (refine wo_call (wP) rfl (by (repeat (first | apply sub_nil )); done) (by first | exact fun _ h => h | (intro r hr; cases hr; done) | (simp; done) | exact fun _ h => List.mem_append_left _ h | (intro r hr; simp [hr]; done)) rfl ?_; rintro v L' R' ⟨ao, c, rfl, rfl, rfl⟩ H' hH RR hR; simp only [List.cons_append, List.nil_append] at hH hR; subst hH; have hR := hR.symm; subst hR)
  (repeat (first | ((first | (apply wo_v; rfl) ); (· first | (apply pv_ev; rfl) )) | apply wo_nil | apply wc_seq | apply wc_region | (apply wo_alloc; rfl; intro bx) | (apply wo_sta; rfl; rfl; rfl; rfl; (· (repeat (first | apply sel_here ))); (· (repeat (first | apply LayAt.nil | apply LayAt.here ))); rfl) ))
  (refine wo_call (vPlain) rfl (by (repeat (first | apply sub_nil )); done) (by first | exact fun _ h => h | (intro r hr; cases hr; done) | (simp; done) | exact fun _ h => List.mem_append_left _ h | (intro r hr; simp [hr]; done)) rfl ?_; rintro v L' R' ⟨rfl, rfl, rfl⟩ H' hH RR hR; simp only [List.cons_append, List.nil_append] at hH hR; subst hH; have hR := hR.symm; subst hR)
  (repeat (first | ((first | (apply wo_v; rfl) ); (· first | (apply pv_ev; rfl) | (apply pv_fld; rfl) | (apply g_load; first | (apply pv_ld; rfl; (· (repeat (first | apply sel_here | apply sel_there))); rfl) | (apply pv_lda; rfl; (· (repeat (first | apply sel_here ))); (· (repeat (first | apply Cut.here0 | apply Cut.here )))) ) | (apply g_pick; first | (apply pv_pick_t; rfl; rfl) ) | (apply g_bin; first | (apply pv_eql_s; rfl; rfl) ) )) | apply wo_nil | apply wc_seq | apply wc_region | (apply wo_run; rfl; rfl) | (apply wo_alloc; rfl; intro bx) | (apply wo_sta; rfl; rfl; rfl; rfl; (· (repeat (first | apply sel_here ))); (· (repeat (first | apply LayAt.nil | apply LayAt.here ))); rfl) ))
  (refine wo_call (wV) rfl (by (repeat (first | apply sub_nil )); done) (by first | exact fun _ h => h | (intro r hr; cases hr; done) | (simp; done) | exact fun _ h => List.mem_append_left _ h | (intro r hr; simp [hr]; done)) rfl ?_; rintro v L' R' ⟨rfl, rfl, rfl⟩ H' hH RR hR; simp only [List.cons_append, List.nil_append] at hH hR; subst hH; have hR := hR.symm; subst hR)
  (repeat (first | ((first | (apply wo_v; rfl) ); (· first | (apply pv_ev; rfl) | (apply g_pick; first | (apply pv_pick_t; rfl; rfl) ) | (apply g_bi; first | (apply pv_len_str; rfl) ) | (apply g_build; apply pv_build; (· (repeat (first | apply Bld.nil | (apply Bld.one; rfl; rfl; (· (repeat (first | apply SetAt.here | apply SetAt.there)))) )))) | (apply pv_mki; rfl; infer_instance) )) | (apply wo_run; rfl; rfl) | (apply wo_bsl; (· (repeat (first | apply Rws'.nil | (apply Rws'.one; rfl; rfl; rfl) ))); rfl; rfl; rfl; rfl; intro bx) ))
  refine wo_still (ao := some ⟨bx, 0, none⟩) (n := 1) (c := 1) (by (repeat (first | apply sel_here )); done) (fun R1 hS1 => ?_)
  have wR2 := wR _ _ _ hS1.sq
  have hy1 : sb ⟨#[129, 206, 0, 2, 0, 0, 0, 1, 0, 0, 0, 2]⟩ (Int.toNat 1) = 206 := by decide
  have hy2 : (⟨#[129, 206, 0, 2, 0, 0, 0, 1, 0, 0, 0, 2]⟩ : ByteArray).size = 12 := rfl
  generalize (⟨#[129, 206, 0, 2, 0, 0, 0, 1, 0, 0, 0, 2]⟩ : ByteArray) = y at wR2 hy1 hy2
  (refine wo_call (wR2) rfl (by (repeat (first | apply sub_nil )); done) (by first | exact fun _ h => h | (intro r hr; cases hr; done) | (simp; done) | exact fun _ h => List.mem_append_left _ h | (intro r hr; simp [hr]; done)) rfl ?_; rintro v L' R' ⟨rfl, rfl, rfl⟩ H' hH RR hR; simp only [List.cons_append, List.nil_append] at hH hR; subst hH; have hR := hR.symm; subst hR)
  (repeat (first | ((first | (apply wo_v; rfl) ); (· first | (apply pv_ev; rfl) | (apply g_pick; first | (apply pv_pick_t; rfl; rfl) ) | (apply pv_index_sn; rfl; rfl; omega) | (apply pv_index_s; rfl; rfl; omega) )) | apply wo_nil | apply wc_ret | (apply wo_run; rfl; rfl) ))
  exact ret1 rfl rfl ⟨by rw [hy1]; simp, rfl, rfl⟩ ((by (repeat (first | apply sub_nil )); done) : List.Perm _ ([] ++ _)) (by first | exact fun _ h => h | (intro r hr; cases hr; done) | (simp; done) | exact fun _ h => List.mem_append_left _ h | (intro r hr; simp [hr]; done))
end Go.Proofs.Ytlhlidmhlhodiaa
