/-
  GateKeys: the walk.
-/
import Derived.Test.YtdjbdlfdknfcaaaGatePaused
namespace Go.Proofs.Ytdjbdlfdknfcaaa
set_option linter.unusedSimpArgs false
set_option linter.unusedVariables false
open Go.RowKit

structure KInv (x : RG) (last : Int) (fresh : Bool) (k : Nat) : Prop where
  vid : x.vid = true
  fr : fresh = decide (x.at_ < 0)
  la : fresh = false → x.at_ = last
  aim : 0 ≤ x.aim
  shu : 0 ≤ x.shu ∧ x.shu ≤ k
  tur : 0 ≤ x.tur ∧ x.tur ≤ k
theorem KInv.ok {x : RG} {last : Int} {fresh : Bool} {k : Nat} (h : KInv x last fresh k) (hk : k ≤ 150) : x.ok := by
  have h1 := h.shu; have h2 := h.tur
  unfold RG.ok; omega
theorem KInv.close {x : RG} {last : Int} {fresh : Bool} {k : Nat} (h : KInv x last fresh k) (p : Bool) : KInv ⟨x.close.vid, p, x.close.at_, x.close.aim, x.close.shu, x.close.tur⟩ last true (k + 1) := by
  obtain ⟨v, f, l, a, s, t⟩ := h
  refine ⟨v, by simp [RG.close], fun h => (by cases h), a, ?_, by simp only [RG.close]; omega⟩
  simp only [RG.close]; split <;> omega
theorem KInv.pass {x : RG} {last : Int} {fresh : Bool} {k : Nat} (h : KInv x last fresh k) (lay : Int) (key : Bool) (hl : 0 ≤ lay) :
    ∃ y r, x.pass lay key = (y, r) ∧ y.aim = x.aim ∧ (r = true → KInv y lay false (k + 1) ∧ ((key = true ∧ lay = x.aim) ∨ (fresh = false ∧ lay = last))) ∧ (r = false → KInv y last fresh (k + 1)) := by
  obtain ⟨v, f, l, a, s, t⟩ := h
  obtain ⟨xv, xp, xa, xm, xs, xt⟩ := x
  simp only at v f l a s t
  subst v
  cases xp
  · by_cases hk : ((lay == xm) && key) = true
    · have hk2 := hk
      simp only [Bool.and_eq_true, beq_iff_eq] at hk2
      refine ⟨⟨true, false, lay, xm, xs, if 0 ≤ xa ∧ xa ≠ lay then xt + 1 else xt⟩, true, by simp only [RG.pass, Bool.false_eq_true, if_false, Bool.not_true, hk, if_true], rfl, fun _ => ⟨⟨rfl, ?_, fun _ => rfl, a, ?_, ?_⟩, .inl ⟨hk2.2, hk2.1⟩⟩, fun h => (by cases h)⟩
      · simp; omega
      · simp only; omega
      · simp only; split <;> omega
    · refine ⟨⟨true, false, xa, xm, xs, xt⟩, decide (0 ≤ xa) && (xa == lay), by simp only [RG.pass, Bool.false_eq_true, if_false, Bool.not_true, hk], rfl, fun h => ?_, fun h => ⟨rfl, f, l, a, ?_, ?_⟩⟩
      · simp only [Bool.and_eq_true, decide_eq_true_eq, beq_iff_eq] at h
        have hf : fresh = false := by rw [f]; simp; omega
        have hla := l hf
        refine ⟨⟨rfl, ?_, fun _ => h.2, a, ?_, ?_⟩, .inr ⟨hf, by omega⟩⟩
        · simp; omega
        · simp only; omega
        · simp only; omega
      · simp only; omega
      · simp only; omega
  · refine ⟨⟨true, true, xa, xm, xs, xt⟩, false, by simp only [RG.pass, if_true], rfl, fun h => (by cases h), fun _ => ⟨rfl, f, l, a, ?_, ?_⟩⟩
    · simp only; omega
    · simp only; omega

theorem doesV (x y : RG) (kd ly : Int) (key on r : Bool) (hd : x.does kd ly key on = (y, r)) (g : Nat) (w : World) (h : GB w g x) (ho : x.ok) :
    Calls Try.prog 17 #[.pointer (some ⟨g, 0, none⟩), .agg x.vals, .agg #[.int .i64 kd, .int .i64 ly, .bool key, .bool on]] w fun e w' =>
      e = .returned (.tuple #[.agg y.vals, .bool r, .bool true]) ∧ GB w' g y ∧ w.grownBy w' (some g) := by
  have := doesAll x kd ly key on g w h ho
  rwa [hd] at this

end Go.Proofs.Ytdjbdlfdknfcaaa
