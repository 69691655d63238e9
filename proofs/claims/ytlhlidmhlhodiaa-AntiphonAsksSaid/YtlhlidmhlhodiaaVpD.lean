/-
  Layer 4, plain: descriptors.
-/
import Derived.Test.YtlhlidmhlhodiaaVpM
namespace Go.Proofs.Ytlhlidmhlhodiaa
set_option linter.unusedSimpArgs false
set_option linter.unusedVariables false
open Go.RowKit
attribute [local irreducible] ByteArray.extract

structure Dc where
  nr : Bool
  st : Bool
  pt : Int
  pic : Int
  wd : Bool
  lv : Int
  ly : Int
  sy : Bool
  ky : Int
  deriving DecidableEq
def Dc0 : Dc := ⟨false, false, 0, 0, false, 0, 0, false, 0⟩
def sFl (a : Int) (r : Rs) : Int × Rs := if 127 < a then t1 r else (0, r)
def sPic (f : Int) (r : Rs) : Int × Bool × Rs :=
  if f / 128 % 2 = 1 then (if 127 < (t1 r).1 then ((t1 r).1 % 128 * 256 + (t1 (t1 r).2).1, true, (t1 (t1 r).2).2) else ((t1 r).1, false, (t1 r).2)) else (-1, false, r)
def sLv (f : Int) (r : Rs) : Int × Rs := if f / 64 % 2 = 1 then t1 r else (-1, r)
def sLast (f : Int) (r : Rs) : Int × Bool × Int × Rs :=
  if 0 < f / 16 % 4 then (if f / 32 % 2 = 1 then (t1 r).1 / 64 else -1, decide (f / 32 % 2 = 1) && decide ((t1 r).1 / 32 % 2 = 1), if f / 16 % 2 = 1 then (t1 r).1 % 32 else -1, (t1 r).2) else (-1, false, -1, r)
def mkD (a : Int) (p : Int × Bool × Rs) (l : Int × Rs) (q : Int × Bool × Int × Rs) : Dc × ByteArray × Int :=
  if q.2.2.2.2 ≠ 0 then (Dc0, E0, q.2.2.2.2) else (⟨decide (a / 32 % 2 = 1), decide (a / 16 % 2 = 1), a % 8, p.1, p.2.1, l.1, q.1, q.2.1, q.2.2.1⟩, q.2.2.2.1, 0)
def prs (s : ByteArray) : Dc × ByteArray × Int :=
  let a := t1 (s, 0)
  let f := sFl a.1 a.2
  let p := sPic f.1 f.2
  let l := sLv f.1 p.2.2
  mkD a.1 p l (sLast f.1 l.2)
/-- which descriptors are valid -/
def okA (d : Dc) : Prop := 0 ≤ d.pt ∧ d.pt ≤ 7 ∧ -1 ≤ d.pic ∧ d.pic ≤ 32767 ∧ -1 ≤ d.lv ∧ d.lv ≤ 255 ∧ -1 ≤ d.ly ∧ d.ly ≤ 3 ∧ -1 ≤ d.ky ∧ d.ky ≤ 31
def okF (d : Dc) : Prop := ¬ (d.pic < 0 ∧ d.wd = true) ∧ ¬ (127 < d.pic ∧ d.wd = false) ∧ ¬ (d.ly < 0 ∧ d.sy = true)
instance (d : Dc) : Decidable (okA d) := inferInstanceAs (Decidable (_ ∧ _))
instance (d : Dc) : Decidable (okF d) := inferInstanceAs (Decidable (_ ∧ _))
def chk (d : Dc) : Int := if ¬ okA d then 5 else if ¬ okF d then 2 else 0
def bt (c : Bool) (n : Int) : Int := if c = true then n else 0
def fls (d : Dc) : Int := bt (decide (0 ≤ d.pic)) 128 + bt (decide (0 ≤ d.lv)) 64 + bt (decide (0 ≤ d.ly)) 32 + bt (decide (0 ≤ d.ky)) 16
def moreB (d : Dc) : Bool := decide (0 ≤ d.pic) || decide (0 ≤ d.lv) || decide (0 ≤ d.ly) || decide (0 ≤ d.ky)
def tPic (d : Dc) : ByteArray := if 0 ≤ d.pic then (if d.wd = true then numS 2 (d.pic + 32768) else b1 (d.pic % 128)) else E0
def tLv (d : Dc) : ByteArray := if 0 ≤ d.lv then b1 d.lv else E0
def tLast (d : Dc) : ByteArray := if 0 ≤ d.ly ∨ 0 ≤ d.ky then b1 (max d.ly 0 * 64 + bt d.sy 32 + max d.ky 0) else E0
def txt (d : Dc) : ByteArray := b1 (bt (moreB d) 128 + bt d.nr 32 + bt d.st 16 + d.pt) ++ (if moreB d = true then b1 (fls d) ++ (tPic d ++ (tLv d ++ tLast d)) else E0)
theorem bt_or (c : Bool) (n : Int) : bt c n = 0 ∨ bt c n = n := by cases c <;> simp [bt]
theorem bt_t (n : Int) : bt true n = n := rfl
theorem bt_f (n : Int) : bt false n = 0 := rfl
theorem fls_b (d : Dc) : 0 ≤ fls d ∧ fls d ≤ 240 := by
  unfold fls
  have h1 := bt_or (decide (0 ≤ d.pic)) 128
  have h2 := bt_or (decide (0 ≤ d.lv)) 64
  have h3 := bt_or (decide (0 ≤ d.ly)) 32
  have h4 := bt_or (decide (0 ≤ d.ky)) 16
  omega
theorem fls_more (d : Dc) : moreB d = decide (fls d ≠ 0) := by
  unfold moreB fls
  by_cases h1 : 0 ≤ d.pic <;> by_cases h2 : 0 ≤ d.lv <;> by_cases h3 : 0 ≤ d.ly <;> by_cases h4 : 0 ≤ d.ky <;> simp [h1, h2, h3, h4, bt]
theorem fls_bits (d : Dc) : fls d / 128 % 2 = bt (decide (0 ≤ d.pic)) 1 ∧ fls d / 64 % 2 = bt (decide (0 ≤ d.lv)) 1 ∧ fls d / 32 % 2 = bt (decide (0 ≤ d.ly)) 1 ∧ fls d / 16 % 2 = bt (decide (0 ≤ d.ky)) 1 ∧ fls d / 16 % 4 = bt (decide (0 ≤ d.ly)) 2 + bt (decide (0 ≤ d.ky)) 1 := by
  unfold fls
  by_cases h1 : 0 ≤ d.pic <;> by_cases h2 : 0 ≤ d.lv <;> by_cases h3 : 0 ≤ d.ly <;> by_cases h4 : 0 ≤ d.ky <;> simp [h1, h2, h3, h4, bt]
theorem E0_app (z : ByteArray) : E0 ++ z = z := E0_append z
/-- each part is read back -/
theorem sPic_txt {d : Dc} (ha : okA d) (hf : okF d) (z : ByteArray) : sPic (fls d) (tPic d ++ z, 0) = (d.pic, d.wd, z, 0) := by
  obtain ⟨h1, h2, h3, h4, h5, h6, h7, h8, h9, h10⟩ := ha
  obtain ⟨g1, g2, g3⟩ := hf
  unfold sPic tPic
  rw [(fls_bits d).1]
  by_cases hp : 0 ≤ d.pic
  · rw [if_pos (by simp [hp, bt]), if_pos hp]
    by_cases hw : d.wd = true
    · rw [if_pos hw]
      have e : numS 2 (d.pic + 32768) = b1 (128 + d.pic / 256) ++ b1 (d.pic % 256) := by
        simp only [numS]
        rw [show (d.pic + 32768) / 256 % 256 = 128 + d.pic / 256 by omega, show (d.pic + 32768) % 256 = d.pic % 256 by omega, E0_append]
      rw [e, ByteArray.append_assoc, t1_front (by omega), if_pos (by simp only; omega)]
      simp only
      rw [t1_front (by omega), hw, show (128 + d.pic / 256) % 128 * 256 + d.pic % 256 = d.pic by omega]
    · have hw' : d.wd = false := by simpa using hw
      rw [if_neg hw]
      have hle : d.pic ≤ 127 := by
        rcases Int.lt_or_le 127 d.pic with h | h
        · exact absurd ⟨h, hw'⟩ g2
        · exact h
      rw [t1_front (by omega), if_neg (by simp only; omega), hw', show d.pic % 128 = d.pic by omega]
  · have hw : d.wd = false := by
      cases h : d.wd with
      | false => rfl
      | true => exact absurd ⟨by omega, h⟩ g1
    rw [if_neg (by simp [hp, bt]), if_neg hp, hw, E0_append, show d.pic = -1 by omega]
theorem sLv_txt {d : Dc} (ha : okA d) (z : ByteArray) : sLv (fls d) (tLv d ++ z, 0) = (d.lv, z, 0) := by
  obtain ⟨h1, h2, h3, h4, h5, h6, h7, h8, h9, h10⟩ := ha
  unfold sLv tLv
  rw [(fls_bits d).2.1]
  by_cases hp : 0 ≤ d.lv
  · rw [if_pos (by simp [hp, bt]), if_pos hp, t1_front (by omega)]
  · rw [if_neg (by simp [hp, bt]), if_neg hp, E0_append, show d.lv = -1 by omega]
theorem sLast_txt {d : Dc} (ha : okA d) (hf : okF d) (z : ByteArray) : sLast (fls d) (tLast d ++ z, 0) = (d.ly, d.sy, d.ky, z, 0) := by
  obtain ⟨h1, h2, h3, h4, h5, h6, h7, h8, h9, h10⟩ := ha
  obtain ⟨g1, g2, g3⟩ := hf
  obtain ⟨_, _, e3, e4, e5⟩ := fls_bits d
  unfold sLast tLast
  rw [e3, e4, e5]
  by_cases h : 0 ≤ d.ly ∨ 0 ≤ d.ky
  · have hb := bt_or d.sy 32
    rw [if_pos (by rcases h with h | h <;> (simp only [h, decide_true, bt_t]; have := bt_or (decide (0 ≤ d.ly)) 2; have := bt_or (decide (0 ≤ d.ky)) 1; omega)), if_pos h, t1_front (by omega)]
    simp only
    by_cases hl : 0 ≤ d.ly
    · have e1 : (max d.ly 0 * 64 + bt d.sy 32 + max d.ky 0) / 64 = d.ly := by omega
      have e2 : (max d.ly 0 * 64 + bt d.sy 32 + max d.ky 0) / 32 % 2 = bt d.sy 1 := by
        cases d.sy <;> simp only [bt_t, bt_f] <;> omega
      rw [e1, e2]
      have e6 : (if bt (decide (0 ≤ d.ky)) 1 = 1 then (max d.ly 0 * 64 + bt d.sy 32 + max d.ky 0) % 32 else -1) = d.ky := by
        by_cases hk : 0 ≤ d.ky
        · simp only [hk, decide_true, bt_t, if_true]; omega
        · simp only [hk, decide_false, bt_f]; rw [if_neg (by omega)]; omega
      rw [e6]
      simp only [hl, decide_true, bt_t, if_true, Bool.true_and]
      cases d.sy <;> simp [bt]
    · have hs : d.sy = false := by
        cases h' : d.sy with
        | false => rfl
        | true => exact absurd ⟨by omega, h'⟩ g3
      have hk : 0 ≤ d.ky := by omega
      simp only [hl, hk, hs, decide_true, decide_false, bt_t, bt_f, if_true, Bool.false_and]
      rw [if_neg (by omega), show max d.ly 0 * 64 + 0 + max d.ky 0 = d.ky by omega, show d.ky % 32 = d.ky by omega, show d.ly = -1 by omega]
      simp
  · have hl : ¬ 0 ≤ d.ly := fun h' => h (.inl h')
    have hk : ¬ 0 ≤ d.ky := fun h' => h (.inr h')
    have hs : d.sy = false := by
      cases h' : d.sy with
      | false => rfl
      | true => exact absurd ⟨by omega, h'⟩ g3
    rw [if_neg (by simp [hl, hk, bt]), if_neg h, E0_append, hs, show d.ly = -1 by omega, show d.ky = -1 by omega]
theorem first_b (d : Dc) (ha : okA d) : 0 ≤ bt (moreB d) 128 + bt d.nr 32 + bt d.st 16 + d.pt ∧ bt (moreB d) 128 + bt d.nr 32 + bt d.st 16 + d.pt ≤ 255 := by
  obtain ⟨h1, h2, _⟩ := ha
  have := bt_or (moreB d) 128; have := bt_or d.nr 32; have := bt_or d.st 16
  omega
/-- a valid descriptor's bytes are read back -/
theorem prs_txt {d : Dc} (ha : okA d) (hf : okF d) (z : ByteArray) : prs (txt d ++ z) = (d, z, 0) := by
  have hb := first_b d ha
  have h1 := ha.1
  have h2 := ha.2.1
  unfold prs txt
  rw [ByteArray.append_assoc, t1_front hb]
  obtain ⟨x, hx⟩ : ∃ x, bt (moreB d) 128 + bt d.nr 32 + bt d.st 16 + d.pt = x := ⟨_, rfl⟩
  have e1 : decide (x / 32 % 2 = 1) = d.nr := by
    have f1 : x / 32 % 2 = bt d.nr 1 := by
      subst hx
      have := bt_or (moreB d) 128; have := bt_or d.st 16; have := bt_or d.nr 1
      have h' : bt d.nr 32 = 32 * bt d.nr 1 := by cases d.nr <;> rfl
      omega
    rw [f1]; cases d.nr <;> rfl
  have e2 : decide (x / 16 % 2 = 1) = d.st := by
    have f1 : x / 16 % 2 = bt d.st 1 := by
      subst hx
      have := bt_or (moreB d) 128; have := bt_or d.nr 32; have := bt_or d.st 1
      have h' : bt d.st 16 = 16 * bt d.st 1 := by cases d.st <;> rfl
      omega
    rw [f1]; cases d.st <;> rfl
  have e3 : x % 8 = d.pt := by
    subst hx
    have := bt_or (moreB d) 128; have := bt_or d.nr 32; have := bt_or d.st 16
    omega
  have e4 : (127 < x) ↔ moreB d = true := by
    subst hx
    have := bt_or d.nr 32; have := bt_or d.st 16
    cases moreB d <;> simp only [bt_t, bt_f] <;> simp <;> omega
  rw [hx]
  simp only
  have hmain : ∀ r, sFl x ((if moreB d = true then b1 (fls d) ++ (tPic d ++ (tLv d ++ tLast d)) else E0) ++ z, 0) = r → r = (fls d, tPic d ++ (tLv d ++ (tLast d ++ z)), 0) := by
    intro r hr
    subst hr
    unfold sFl
    by_cases hm : moreB d = true
    · have := fls_b d
      rw [if_pos (e4.2 hm), if_pos hm, ByteArray.append_assoc, t1_front (by omega), ByteArray.append_assoc, ByteArray.append_assoc]
    · have hz : fls d = 0 := by
        have := fls_more d
        by_cases h0 : fls d = 0
        · exact h0
        · rw [this] at hm; simp [h0] at hm
      rw [if_neg (fun h => hm (e4.1 h)), if_neg hm, hz]
      have hb2 := fls_bits d
      rw [hz] at hb2
      obtain ⟨f1, f2, f3, f4, _⟩ := hb2
      have g1 : ¬ 0 ≤ d.pic := fun h => by simp [h, bt] at f1
      have g2 : ¬ 0 ≤ d.lv := fun h => by simp [h, bt] at f2
      have g3 : ¬ 0 ≤ d.ly := fun h => by simp [h, bt] at f3
      have g4 : ¬ 0 ≤ d.ky := fun h => by simp [h, bt] at f4
      unfold tPic tLv tLast
      rw [if_neg g1, if_neg g2, if_neg (by omega)]
      simp only [E0_append]
  rw [hmain _ rfl]
  simp only
  rw [sPic_txt ha hf]
  simp only
  rw [sLv_txt ha]
  simp only
  rw [sLast_txt ha hf]
  unfold mkD
  simp only
  rw [if_neg (by simp), e1, e2, e3]
end Go.Proofs.Ytlhlidmhlhodiaa
