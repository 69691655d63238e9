/-
  Package rtp: what is written is read, and what is read is written.
-/
import Derived.Test.YtlhlidmhlhodiaaRtpL
namespace Go.Proofs.Ytlhlidmhlhodiaa
set_option linter.unusedSimpArgs false
set_option linter.unusedVariables false
open Go.RowKit
set_option maxRecDepth 100000
attribute [local irreducible] ByteArray.extract

abbrev txP (p : Rp) : ByteArray := txR p.mrk p.kd p.sq p.t p.ss p.cs p.ex p.pf p.dt p.pl p.pd
abbrev ckP (p : Rp) : Int := chkR p.kd p.cs.length p.ex p.pf p.dt p.pl p.pd
structure okR (p : Rp) : Prop where
  kd : 0 ≤ p.kd ∧ p.kd ≤ 255
  sq : 0 ≤ p.sq ∧ p.sq ≤ 65535
  t : 0 ≤ p.t ∧ p.t ≤ 4294967295
  ss : 0 ≤ p.ss ∧ p.ss ≤ 4294967295
  pf : 0 ≤ p.pf ∧ p.pf ≤ 65535
  cs : ∀ z ∈ p.cs, 0 ≤ z ∧ z ≤ 4294967295
structure Ck (p : Rp) : Prop where
  kd : p.kd ≤ 127
  pd : 0 ≤ p.pd ∧ p.pd ≤ 255
  cs : p.cs.length ≤ 15
  dt : p.dt.size % 4 = 0
  ex : p.ex = false → p.pf = 0 ∧ p.dt = E0
  len : lenM p.cs.length p.ex p.dt p.pl p.pd ≤ 1500
theorem ck_iff {p : Rp} : ckP p = 0 ↔ Ck p := by
  unfold ckP chkR
  constructor
  · intro h
    split at h
    · cases h
    · split at h
      · cases h
      · split at h
        · cases h
        · split at h
          · cases h
          · rename_i h1 h2 h3 h4
            refine ⟨by omega, by omega, by omega, ?_, ?_, by omega⟩
            · exact Classical.not_not.1 fun h => h3 (.inl h)
            · intro hx
              refine ⟨Classical.not_not.1 fun h => h3 (.inr ⟨hx, .inl h⟩), Classical.not_not.1 fun h => h3 (.inr ⟨hx, .inr h⟩)⟩
  · intro h
    rw [if_neg (by have := h.kd; have := h.pd; omega), if_neg (by have := h.cs; omega), if_neg, if_neg (by have := h.len; omega)]
    rintro (h1 | ⟨h1, h2 | h2⟩)
    · exact h1 h.dt
    · exact h2 (h.ex h1).1
    · exact h2 (h.ex h1).2
def fA (pd : Int) (ex : Bool) (n : Nat) : Int := 128 + bi (decide (0 < pd)) 32 + bi ex 16 + n
def tlR (pd : Int) : ByteArray := if 0 < pd then zrT (pd.toNat - 1) ++ numS 1 pd else E0
theorem tlR_size {pd : Int} (h : 0 ≤ pd) : (tlR pd).size = pd.toNat := by
  unfold tlR
  split
  · rw [ByteArray.size_append, zrT_size, numS_size]; omega
  · have : pd.toNat = 0 := by omega
    rw [this]; rfl
/-- the head's bytes ahead of what follows -/
def hdZ (p : Rp) (z : ByteArray) : ByteArray := numS 1 (fA p.pd p.ex p.cs.length) ++ (numS 1 (bi p.mrk 128 + p.kd) ++ (numS 2 p.sq ++ (numS 4 p.t ++ (numS 4 p.ss ++ (numsS 4 p.cs ++ (exT p.ex p.pf p.dt ++ z))))))
theorem hdZ_app (p : Rp) (y z : ByteArray) : hdZ p (y ++ z) = hdZ p y ++ z := by simp only [hdZ, ByteArray.append_assoc]
theorem hdZ_E (p : Rp) (z : ByteArray) : hdZ p z = hdZ p E0 ++ z := by rw [← hdZ_app, E0_append]
theorem exT_size (b : Bool) (pf : Int) (dt : ByteArray) : (exT b pf dt).size = if b = true then 4 + dt.size else 0 := by
  unfold exT
  cases b
  · rfl
  · simp only [if_true, ByteArray.size_append, numS_size]
theorem hdZ_size (p : Rp) (z : ByteArray) : (hdZ p z).size = 12 + 4 * p.cs.length + (if p.ex = true then 4 + p.dt.size else 0) + z.size := by
  simp only [hdZ, ByteArray.size_append, numS_size, numsS_size, exT_size]; omega
theorem txP_hd (p : Rp) : txP p = hdZ p (p.pl ++ tlR p.pd) := by
  unfold txP txR hdT hdZ fA tlR exT
  rw [csT_take p.cs _ (Nat.le_refl _), List.take_length]
  simp only [ByteArray.append_assoc]
def Parts (s : ByteArray) (a b sq t ss : Int) (cs : List Int) (pf : Int) (dt r : ByteArray) : Prop :=
  ∃ r1 r2 r3 r4 r5 r6, tK 1 (s, 0) = (a, r1, 0) ∧ tK 1 (r1, 0) = (b, r2, 0) ∧ tK 2 (r2, 0) = (sq, r3, 0) ∧ tK 4 (r3, 0) = (t, r4, 0) ∧ tK 4 (r4, 0) = (ss, r5, 0) ∧ csN (r5, 0) (a % 16).toNat = (cs, r6, 0) ∧ exR (decide (a / 16 % 2 = 1)) (r6, 0) = (pf, dt, r, 0)
theorem Parts.more {s : ByteArray} {a b sq t ss : Int} {cs : List Int} {pf : Int} {dt r : ByteArray} (h : Parts s a b sq t ss cs pf dt r) (z : ByteArray) : Parts (s ++ z) a b sq t ss cs pf dt (r ++ z) := by
  obtain ⟨r1, r2, r3, r4, r5, r6, h1, h2, h3, h4, h5, h6, h7⟩ := h
  exact ⟨r1 ++ z, r2 ++ z, r3 ++ z, r4 ++ z, r5 ++ z, r6 ++ z, tK_more (k := 1) h1, tK_more (k := 1) h2, tK_more (k := 2) h3, tK_more (k := 4) h4, tK_more (k := 4) h5, csN_more h6, exR_more h7⟩
theorem Parts.prR {s : ByteArray} {a b sq t ss : Int} {cs : List Int} {pf : Int} {dt r : ByteArray} (h : Parts s a b sq t ss cs pf dt r) (hs : s.size ≤ 1500) (ha : a / 64 = 2) :
    prR s = enR ⟨decide (127 < b), b % 128, sq, t, ss, cs, decide (a / 16 % 2 = 1), pf, dt, ByteArray.empty, 0⟩ (decide (a / 32 % 2 = 1)) (r, 0) := by
  obtain ⟨r1, r2, r3, r4, r5, r6, h1, h2, h3, h4, h5, h6, h7⟩ := h
  unfold Go.Proofs.Ytlhlidmhlhodiaa.prR
  rw [if_neg (by omega)]
  dsimp only
  rw [h1]; dsimp only
  rw [h2]; dsimp only
  rw [if_neg (fun h => h.2 ha), h3]; dsimp only
  rw [h4]; dsimp only
  rw [h5]; dsimp only
  rw [h6]; dsimp only
  rw [h7]
theorem Parts.bytes {s : ByteArray} {a b sq t ss : Int} {cs : List Int} {pf : Int} {dt r : ByteArray} (h : Parts s a b sq t ss cs pf dt r) :
    s = numS 1 a ++ (numS 1 b ++ (numS 2 sq ++ (numS 4 t ++ (numS 4 ss ++ (numsS 4 cs ++ (exT (decide (a / 16 % 2 = 1)) pf dt ++ r)))))) ∧ (0 ≤ a ∧ a ≤ 255) ∧ (0 ≤ b ∧ b ≤ 255) ∧ (0 ≤ sq ∧ sq ≤ 65535) ∧ (0 ≤ t ∧ t ≤ 4294967295) ∧ (0 ≤ ss ∧ ss ≤ 4294967295) ∧
      cs.length = (a % 16).toNat ∧ (∀ z ∈ cs, 0 ≤ z ∧ z ≤ 4294967295) ∧ (decide (a / 16 % 2 = 1) = true → 0 ≤ pf ∧ pf ≤ 65535 ∧ dt.size % 4 = 0 ∧ dt.size / 4 ≤ 65535) ∧ (decide (a / 16 % 2 = 1) = false → pf = 0 ∧ dt = E0) := by
  obtain ⟨r1, r2, r3, r4, r5, r6, h1, h2, h3, h4, h5, h6, h7⟩ := h
  have b1' := t1_b (s, 0)
  have b2' := t1_b (r1, 0)
  have b3 := tK2_b (r2, 0)
  have b4 := tK4_b (r3, 0)
  have b5 := tK4_b (r4, 0)
  rw [show t1 (s, 0) = tK 1 (s, 0) from rfl, h1] at b1'
  rw [show t1 (r1, 0) = tK 1 (r1, 0) from rfl, h2] at b2'
  rw [h3] at b3
  rw [h4] at b4
  rw [h5] at b5
  have g1 := (tK_ok (k := 1) h1).1
  have g2 := (tK_ok (k := 1) h2).1
  have g3 := (tK_ok (k := 2) h3).1
  have g4 := (tK_ok (k := 4) h4).1
  have g5 := (tK_ok (k := 4) h5).1
  obtain ⟨g6, g7, g8⟩ := csN_ok h6
  obtain ⟨g9, g10, g11⟩ := exR_ok h7
  exact ⟨by rw [← g9, ← g6, ← g5, ← g4, ← g3, ← g2, ← g1], b1', b2', b3, b4, b5, g7, g8, g10, g11⟩
theorem parts_hd {p : Rp} (hr : okR p) (hk : p.kd ≤ 127) (hc : p.cs.length ≤ 15) (hd : p.dt.size % 4 = 0 ∧ p.dt.size / 4 ≤ 65535) (he : p.ex = false → p.pf = 0 ∧ p.dt = E0) (z : ByteArray) :
    Parts (hdZ p z) (fA p.pd p.ex p.cs.length) (bi p.mrk 128 + p.kd) p.sq p.t p.ss p.cs p.pf p.dt z := by
  have o1 := bi_or (decide (0 < p.pd)) 32
  have o2 := bi_or p.ex 16
  have o3 := bi_or p.mrk 128
  have hk0 := hr.kd
  have e16 : (fA p.pd p.ex p.cs.length % 16).toNat = p.cs.length := by unfold fA; omega
  have eex : decide (fA p.pd p.ex p.cs.length / 16 % 2 = 1) = p.ex := by
    unfold fA
    have o1' := o1
    generalize bi (decide (0 < p.pd)) 32 = y at o1' ⊢
    cases h : p.ex
    · rw [decide_eq_false_iff_not]; simp only [bi, Bool.false_eq_true, if_false]; omega
    · rw [decide_eq_true_eq]; simp only [bi, if_true]; omega
  refine ⟨_, _, _, _, _, exT p.ex p.pf p.dt ++ z, tK_front1 (by unfold fA; omega) _, tK_front1 (by omega) _, tK_front2 hr.sq _, tK_front4 hr.t _, tK_front4 hr.ss _, ?_, ?_⟩
  · rw [e16]
    have := csN_front p.cs hr.cs p.cs.length (exT p.ex p.pf p.dt ++ z) (Nat.le_refl _)
    rwa [List.take_length] at this
  · rw [eex]; exact exR_front (fun _ => ⟨hr.pf.1, hr.pf.2, hd.1, hd.2⟩) he z
theorem fA_bits (pd : Int) (ex : Bool) (n : Nat) (h : n ≤ 15) : fA pd ex n / 64 = 2 ∧ decide (fA pd ex n / 16 % 2 = 1) = ex ∧ decide (fA pd ex n / 32 % 2 = 1) = decide (0 < pd) := by
  have o1 := bi_or (decide (0 < pd)) 32
  have o2 := bi_or ex 16
  refine ⟨by unfold fA; omega, ?_, ?_⟩
  · unfold fA
    generalize bi (decide (0 < pd)) 32 = y at o1 ⊢
    cases ex
    · rw [decide_eq_false_iff_not]; simp only [bi, Bool.false_eq_true, if_false]; omega
    · rw [decide_eq_true_eq]; simp only [bi, if_true]; omega
  · unfold fA
    generalize bi ex 16 = y at o2 ⊢
    cases decide (0 < pd)
    · rw [decide_eq_false_iff_not]; simp only [bi, Bool.false_eq_true, if_false]; omega
    · rw [decide_eq_true_eq]; simp only [bi, if_true]; omega
theorem enR_ok (p : Rp) (pa : Bool) (r : ByteArray) : enR p pa (r, 0) = if pa = true then (if (padM r).2 ≠ 0 then (Rp0, (padM r).2) else ({ p with pl := r.extract 0 ((r.size : Int) - (padM r).1).toNat, pd := (padM r).1 }, 0)) else ({ p with pl := r }, 0) := by
  have e : rdB r 0 r.size = (r, E0, 0) := by
    have := rdB_front r E0 r.size rfl
    rwa [append_E0] at this
  unfold enR
  dsimp only
  rw [e]
  dsimp only
  rw [if_neg (by simp)]
theorem padM_tl {pd : Int} (h : 0 < pd ∧ pd ≤ 255) (pl : ByteArray) : padM (pl ++ tlR pd) = (pd, 0) := by
  have e : pl ++ tlR pd = (pl ++ zrT (pd.toNat - 1)) ++ b1 pd := by
    unfold tlR; rw [if_pos h.1, numS1 (by omega), ByteArray.append_assoc]
  have hz : (pl ++ tlR pd).size = (pl ++ zrT (pd.toNat - 1)).size + 1 := by rw [e, ByteArray.size_append, b1_size]
  have hz2 : (pl ++ tlR pd).size = pl.size + pd.toNat := by rw [ByteArray.size_append, tlR_size (by omega)]
  have hl : sb (pl ++ tlR pd) ((pl ++ tlR pd).size - 1) = pd := by
    rw [hz, Nat.add_sub_cancel, e]; exact sb_last _ (by omega)
  unfold padM
  rw [if_neg (fun h0 => by rw [h0] at hz; cases hz), hl, if_neg (by omega), if_neg (by rw [hz2]; omega)]
theorem Rp_eta {p : Rp} {b ex' : Bool} {k : Int} (h1 : b = p.mrk) (h2 : k = p.kd) (h3 : ex' = p.ex) : (⟨b, k, p.sq, p.t, p.ss, p.cs, ex', p.pf, p.dt, p.pl, p.pd⟩ : Rp) = p := by subst h1 h2 h3; rfl
theorem mk_bits (mrk : Bool) {kd : Int} (h : 0 ≤ kd ∧ kd ≤ 127) : decide (127 < bi mrk 128 + kd) = mrk ∧ (bi mrk 128 + kd) % 128 = kd := by
  cases mrk
  · refine ⟨?_, ?_⟩
    · rw [decide_eq_false_iff_not]; simp only [bi, Bool.false_eq_true, if_false]; omega
    · simp only [bi, Bool.false_eq_true, if_false]; omega
  · refine ⟨?_, ?_⟩
    · rw [decide_eq_true_eq]; simp only [bi, if_true]; omega
    · simp only [bi, if_true]; omega
theorem txP_size {p : Rp} (hc : Ck p) : ((txP p).size : Int) = lenM p.cs.length p.ex p.dt p.pl p.pd := txR_size _ _ _ _ _ _ _ _ _ _ _ hc.pd.1
theorem ck_dt {p : Rp} (hc : Ck p) : p.dt.size / 4 ≤ 65535 := by
  have h := hc.len
  unfold lenM at h
  have := hc.pd
  cases hx : p.ex
  · rw [(hc.ex hx).2]; decide
  · rw [hx, if_pos rfl] at h; omega
theorem ck_dt2 {p : Rp} (hc : Ck p) : p.dt.size ≤ 1500 := by
  have h := hc.len
  unfold lenM at h
  have := hc.pd
  cases hx : p.ex
  · rw [(hc.ex hx).2]; decide
  · rw [hx, if_pos rfl] at h; omega
/-- what is written is read -/
theorem prR_txP {p : Rp} (hr : okR p) (hc : Ck p) : prR (txP p) = (p, 0) := by
  have hz := txP_size hc
  have hl := hc.len
  have hpt := parts_hd hr hc.kd hc.cs ⟨hc.dt, ck_dt hc⟩ hc.ex (p.pl ++ tlR p.pd)
  rw [← txP_hd] at hpt
  obtain ⟨f1, f2, f3⟩ := fA_bits p.pd p.ex p.cs.length hc.cs
  obtain ⟨m1, m2⟩ := mk_bits p.mrk (kd := p.kd) ⟨hr.kd.1, hc.kd⟩
  rw [hpt.prR (by omega) f1, enR_ok, f2, f3, m1, m2]
  by_cases h0 : 0 < p.pd
  · rw [if_pos (by simpa using h0), padM_tl ⟨h0, hc.pd.2⟩, if_neg (by simp)]
    dsimp only
    have e : ((p.pl ++ tlR p.pd).size - p.pd : Int).toNat = p.pl.size := by rw [ByteArray.size_append, tlR_size hc.pd.1]; omega
    rw [e, ext_head2]
  · rw [if_neg (by simpa using h0)]
    have e : tlR p.pd = E0 := by unfold tlR; rw [if_neg h0]
    have e0 : p.pd = 0 := by have := hc.pd; omega
    rw [e, append_E0]
    conv => rhs; rw [← Rp_eta (p := p) rfl rfl rfl]
    rw [e0]
end Go.Proofs.Ytlhlidmhlhodiaa
