/-
  Package rtp: what is read is written; beginnings of packets.
-/
import Derived.Test.YtlhlidmhlhodiaaRtpM
namespace Go.Proofs.Ytlhlidmhlhodiaa
set_option linter.unusedSimpArgs false
set_option linter.unusedVariables false
open Go.RowKit
set_option maxRecDepth 100000
attribute [local irreducible] ByteArray.extract

def hdS (s : ByteArray) : Rs :=
  let x := tK 1 (s, 0)
  let c := csN (tK 4 (tK 4 (tK 2 (tK 1 x.2).2).2).2).2 (x.1 % 16).toNat
  (exR (decide (x.1 / 16 % 2 = 1)) c.2).2.2
theorem hdS_01 (s : ByteArray) : (hdS s).2 = 0 ∨ (hdS s).2 = 1 :=
  exR_01 (csN_01 (tK_01 (by omega) (tK_01 (by omega) (tK_01 (by omega) (tK_01 (by omega) (tK_01 (by omega) (.inl rfl)))))) _)
theorem hdS_parts {s : ByteArray} (h : (hdS s).2 = 0) : ∃ a b sq t ss cs pf dt, Parts s a b sq t ss cs pf dt (hdS s).1 := by
  unfold hdS at h ⊢
  dsimp only at h ⊢
  have z6 := exR_z h
  have z5 := csN_z z6
  have z4 := tK_z z5
  have z3 := tK_z z4
  have z2 := tK_z z3
  have z1 := tK_z z2
  rcases h1 : tK 1 (s, 0) with ⟨a, r1, e1⟩
  rw [h1] at h z6 z5 z4 z3 z2 z1
  dsimp only at h z6 z5 z4 z3 z2 z1
  subst z1
  rcases h2 : tK 1 (r1, 0) with ⟨b, r2, e2⟩
  rw [h2] at h z6 z5 z4 z3 z2
  dsimp only at h z6 z5 z4 z3 z2
  subst z2
  rcases h3 : tK 2 (r2, 0) with ⟨sq, r3, e3⟩
  rw [h3] at h z6 z5 z4 z3
  dsimp only at h z6 z5 z4 z3
  subst z3
  rcases h4 : tK 4 (r3, 0) with ⟨t, r4, e4⟩
  rw [h4] at h z6 z5 z4
  dsimp only at h z6 z5 z4
  subst z4
  rcases h5 : tK 4 (r4, 0) with ⟨ss, r5, e5⟩
  rw [h5] at h z6 z5
  dsimp only at h z6 z5
  subst z5
  rcases h6 : csN (r5, 0) (a % 16).toNat with ⟨cs, r6, e6⟩
  rw [h6] at h z6
  dsimp only at h z6
  subst z6
  rcases h7 : exR (decide (a / 16 % 2 = 1)) (r6, 0) with ⟨pf, dt, r, e7⟩
  rw [h7] at h
  dsimp only at h
  subst h
  refine ⟨a, b, sq, t, ss, cs, pf, dt, r1, r2, r3, r4, r5, r6, h1, h2, h3, h4, h5, h6, ?_⟩
  simp only [h2, h3, h4, h5, h6, h7]
theorem parts_hdS {s : ByteArray} {a b sq t ss : Int} {cs : List Int} {pf : Int} {dt r : ByteArray} (h : Parts s a b sq t ss cs pf dt r) : hdS s = (r, 0) := by
  obtain ⟨r1, r2, r3, r4, r5, r6, h1, h2, h3, h4, h5, h6, h7⟩ := h
  unfold hdS
  simp only [h1, h2, h3, h4, h5, h6, h7]
theorem prR_err {s : ByteArray} (hs : s.size ≤ 1500) (h2 : (tK 1 (tK 1 (s, 0)).2).2.2 = 0 → (tK 1 (s, 0)).1 / 64 = 2) (h : (hdS s).2 ≠ 0) : prR s = (Rp0, (hdS s).2) := by
  have e : prR s = enR ⟨decide (127 < (tK 1 (tK 1 (s, 0)).2).1), (tK 1 (tK 1 (s, 0)).2).1 % 128, (tK 2 (tK 1 (tK 1 (s, 0)).2).2).1, (tK 4 (tK 2 (tK 1 (tK 1 (s, 0)).2).2).2).1, (tK 4 (tK 4 (tK 2 (tK 1 (tK 1 (s, 0)).2).2).2).2).1, (csN (tK 4 (tK 4 (tK 2 (tK 1 (tK 1 (s, 0)).2).2).2).2).2 ((tK 1 (s, 0)).1 % 16).toNat).1, decide ((tK 1 (s, 0)).1 / 16 % 2 = 1), (exR (decide ((tK 1 (s, 0)).1 / 16 % 2 = 1)) (csN (tK 4 (tK 4 (tK 2 (tK 1 (tK 1 (s, 0)).2).2).2).2).2 ((tK 1 (s, 0)).1 % 16).toNat).2).1, (exR (decide ((tK 1 (s, 0)).1 / 16 % 2 = 1)) (csN (tK 4 (tK 4 (tK 2 (tK 1 (tK 1 (s, 0)).2).2).2).2).2 ((tK 1 (s, 0)).1 % 16).toNat).2).2.1, ByteArray.empty, 0⟩ (decide ((tK 1 (s, 0)).1 / 32 % 2 = 1)) (hdS s) := by
    unfold prR
    rw [if_neg (by omega)]
    dsimp only
    rw [if_neg (fun h => h.2 (h2 h.1))]
    rfl
  rw [e]
  generalize hdS s = r at h
  unfold enR
  have e2 : (rdB r.1 r.2 r.1.size).2.2 = r.2 := by unfold rdB; rw [if_pos h]
  rw [if_pos (by rw [e2]; exact h), e2]
/-- a beginning that ends ahead of the payload -/
theorem prR_cut {p : Rp} (hr : okR p) (hc : Ck p) {s z : ByteArray} (h : s ++ z = txP p) (hs : s.size < (hdZ p E0).size) : prR s = (Rp0, 1) := by
  have hz := txP_size hc
  have hl := hc.len
  have hpt := parts_hd hr hc.kd hc.cs ⟨hc.dt, ck_dt hc⟩ hc.ex (p.pl ++ tlR p.pd)
  rw [← txP_hd] at hpt
  obtain ⟨f1, _, _⟩ := fA_bits p.pd p.ex p.cs.length hc.cs
  have hle : s.size ≤ 1500 := by rw [← h, ByteArray.size_append] at hz; omega
  have hne : (hdS s).2 ≠ 0 := fun h0 => by
    obtain ⟨a, b, sq, t, ss, cs, pf, dt, hp⟩ := hdS_parts h0
    have h1 := parts_hdS (hp.more z)
    rw [h, parts_hdS hpt] at h1
    have h2 : p.pl ++ tlR p.pd = (hdS s).1 ++ z := congrArg (fun x => x.1) h1
    have h3 := congrArg ByteArray.size h2
    have h4 := congrArg ByteArray.size h
    rw [txP_hd, hdZ_E] at h4
    simp only [ByteArray.size_append] at h3 h4
    omega
  have e1 : (hdS s).2 = 1 := (hdS_01 s).resolve_left hne
  rw [prR_err hle (fun h2 => ?_) hne, e1]
  have z1 := tK_z h2
  obtain ⟨r1, _, _, _, _, _, k1, _⟩ := hpt
  have k2 : tK 1 (s, 0) = ((tK 1 (s, 0)).1, (tK 1 (s, 0)).2.1, 0) := by
    exact Prod.ext rfl (Prod.ext rfl z1)
  have k3 := tK_more (k := 1) (z := z) k2
  rw [h] at k3
  have k4 := k1.symm.trans k3
  have k5 : fA p.pd p.ex p.cs.length = (tK 1 (s, 0)).1 := congrArg (fun x => x.1) k4
  rw [← k5]; exact f1
theorem pad_ok {r : ByteArray} (h : (padM r).2 = 0) : 0 < (padM r).1 ∧ (padM r).1 ≤ 255 ∧ (padM r).1 ≤ r.size := by
  have hb := sb_b r (r.size - 1)
  unfold padM at h ⊢
  split
  · rename_i h0; rw [if_pos h0] at h; cases h
  · rename_i h0
    rw [if_neg h0] at h
    split
    · rename_i h1; rw [if_pos h1] at h; cases h
    · rename_i h1
      rw [if_neg h1] at h
      split
      · rename_i h2; rw [if_pos h2] at h; cases h
      · dsimp only; omega
theorem lenM_hd (p : Rp) (hp : 0 ≤ p.pd) : lenM p.cs.length p.ex p.dt p.pl p.pd = ((hdZ p (p.pl ++ tlR p.pd)).size : Int) := by
  rw [hdZ_size, ByteArray.size_append, tlR_size hp]
  unfold lenM
  cases p.ex
  · simp only [Bool.false_eq_true, if_false]; omega
  · simp only [if_true]; omega
/-- what is read is written -/
theorem prR_back {s : ByteArray} {p : Rp} (h : prR s = (p, 0)) : okR p ∧ Ck p ∧ lenM p.cs.length p.ex p.dt p.pl p.pd = s.size ∧ (txP p).extract 0 (s.size - p.pd.toNat) = s.extract 0 (s.size - p.pd.toNat) := by
  have hs : s.size ≤ 1500 := by
    rcases Nat.lt_or_ge 1500 s.size with h1 | h1
    · unfold prR at h; rw [if_pos h1] at h
      exact absurd (congrArg (fun x => x.2) h) (by simp)
    · exact h1
  have h2 : (tK 1 (tK 1 (s, 0)).2).2.2 = 0 → (tK 1 (s, 0)).1 / 64 = 2 := fun h2 => Classical.not_not.1 fun hn => by
    unfold prR at h; rw [if_neg (by omega)] at h; dsimp only at h
    rw [if_pos ⟨h2, hn⟩] at h
    exact absurd (congrArg (fun x => x.2) h) (by simp)
  have h3 : (hdS s).2 = 0 := Classical.not_not.1 fun hn => by
    rw [prR_err hs h2 hn] at h
    exact hn (congrArg (fun x => x.2) h)
  obtain ⟨a, b, sq, t, ss, cs, pf, dt, hp⟩ := hdS_parts h3
  generalize (hdS s).1 = r at hp
  have ha : a / 64 = 2 := by
    obtain ⟨r1, r2, _, _, _, _, k1, k2, _⟩ := hp
    rw [k1] at h2; dsimp only at h2
    rw [k2] at h2; exact h2 rfl
  rw [hp.prR hs ha, enR_ok] at h
  obtain ⟨hb, ha2, hb2, hsq, ht, hss, hcn, hcs, hex1, hex0⟩ := hp.bytes
  have hpf : 0 ≤ pf ∧ pf ≤ 65535 := by
    cases hx : decide (a / 16 % 2 = 1)
    · rw [(hex0 hx).1]; omega
    · exact ⟨(hex1 hx).1, (hex1 hx).2.1⟩
  have hd4 : dt.size % 4 = 0 := by
    cases hx : decide (a / 16 % 2 = 1)
    · rw [(hex0 hx).2]; rfl
    · exact (hex1 hx).2.2.1
  have m1 : bi (decide (127 < b)) 128 + b % 128 = b := by
    by_cases hb' : 127 < b
    · rw [decide_eq_true hb']; simp only [bi, if_true]; omega
    · rw [decide_eq_false hb']; simp only [bi, Bool.false_eq_true, if_false]; omega
  have fin : ∀ (pl tail : ByteArray) (pd : Int), r = pl ++ tail → 0 ≤ pd ∧ pd ≤ 255 → tail.size = pd.toNat → decide (a / 32 % 2 = 1) = decide (0 < pd) →
      p = ⟨decide (127 < b), b % 128, sq, t, ss, cs, decide (a / 16 % 2 = 1), pf, dt, pl, pd⟩ →
      okR p ∧ Ck p ∧ lenM p.cs.length p.ex p.dt p.pl p.pd = s.size ∧ (txP p).extract 0 (s.size - p.pd.toNat) = s.extract 0 (s.size - p.pd.toNat) := by
    intro pl tail pd hrr hpd htl h32 hpe
    have f1 : fA pd (decide (a / 16 % 2 = 1)) cs.length = a := by
      unfold fA
      rw [← h32]
      by_cases c1 : a / 32 % 2 = 1 <;> by_cases c2 : a / 16 % 2 = 1
      · rw [decide_eq_true c1, decide_eq_true c2]; simp only [bi, if_true]; omega
      · rw [decide_eq_true c1, decide_eq_false c2]; simp only [bi, if_true, Bool.false_eq_true, if_false]; omega
      · rw [decide_eq_false c1, decide_eq_true c2]; simp only [bi, if_true, Bool.false_eq_true, if_false]; omega
      · rw [decide_eq_false c1, decide_eq_false c2]; simp only [bi, Bool.false_eq_true, if_false]; omega
    have hsb : s = hdZ p (pl ++ tail) := by
      rw [hb, hrr, hpe]
      unfold hdZ
      dsimp only
      rw [f1, m1]
    have ep : p.pd = pd := by rw [hpe]
    have epl : p.pl = pl := by rw [hpe]
    have esz : (hdZ p (pl ++ tail)).size = (hdZ p (p.pl ++ tlR p.pd)).size := by
      rw [hdZ_size, hdZ_size, ByteArray.size_append, ByteArray.size_append, htl, ep, tlR_size hpd.1, epl]
    have elen : lenM p.cs.length p.ex p.dt p.pl p.pd = s.size := by
      rw [lenM_hd p (by rw [ep]; exact hpd.1), ← esz, ← hsb]
    refine ⟨?_, ?_, elen, ?_⟩
    · rw [hpe]
      exact ⟨by dsimp only; omega, hsq, ht, hss, hpf, hcs⟩
    · refine ⟨by rw [hpe]; dsimp only; omega, by rw [ep]; exact hpd, by rw [hpe]; dsimp only; omega, by rw [hpe]; exact hd4, ?_, by rw [elen]; omega⟩
      rw [hpe]; exact hex0
    · have e1 : hdZ p (pl ++ tail) = hdZ p pl ++ tail := hdZ_app p pl tail
      have e2 : txP p = hdZ p pl ++ tlR pd := by rw [txP_hd, ep, epl]; exact hdZ_app p pl _
      have e3 : s.size - p.pd.toNat = (hdZ p pl).size := by rw [hsb, e1, ByteArray.size_append, htl, ep]; omega
      rw [e3, e2, hsb, e1, ext_head2, ext_head2]
  by_cases h32 : a / 32 % 2 = 1
  · rw [if_pos (by simpa using h32)] at h
    by_cases hpe : (padM r).2 = 0
    · obtain ⟨p1, p2, p3⟩ := pad_ok hpe
      rw [if_neg (by simp [hpe])] at h
      refine fin (r.extract 0 ((r.size : Int) - (padM r).1).toNat) (r.extract ((r.size : Int) - (padM r).1).toNat r.size) (padM r).1 (ext_all r _ (by omega)).symm ⟨by omega, p2⟩ ?_ ?_ (congrArg (fun x => x.1) h).symm
      · rw [ByteArray.size_extract]; omega
      · rw [decide_eq_true h32, decide_eq_true p1]
    · rw [if_pos hpe] at h
      exact absurd (congrArg (fun x => x.2) h) hpe
  · rw [if_neg (by simpa using h32)] at h
    refine fin r E0 0 (append_E0 r).symm (by omega) rfl ?_ (congrArg (fun x => x.1) h).symm
    rw [decide_eq_false h32]; rfl
theorem prR_Rp0 {s : ByteArray} (h : (prR s).2 ≠ 0) : (prR s).1 = Rp0 := by
  unfold prR at h ⊢
  split
  · rfl
  · rename_i h1
    rw [if_neg h1] at h
    dsimp only at h ⊢
    split
    · rfl
    · rename_i h2
      rw [if_neg h2] at h
      unfold enR at h ⊢
      split
      · rfl
      · rename_i h3
        rw [if_neg h3] at h
        split
        · rename_i h4
          rw [if_pos h4] at h
          split
          · rfl
          · rename_i h5; rw [if_neg h5] at h; exact absurd rfl h
        · rename_i h4; rw [if_neg h4] at h; exact absurd rfl h
end Go.Proofs.Ytlhlidmhlhodiaa
