/-
  The reference of rtp: Check.
-/
import Derived.Test.YtlhlidmhlhodiaaRtpH
namespace Go.Proofs.Ytlhlidmhlhodiaa
set_option linter.unusedSimpArgs false
set_option linter.unusedVariables false
open Go.RowKit
attribute [local irreducible] Pv WO WC Fn
set_option maxRecDepth 100000
attribute [local irreducible] ByteArray.extract

theorem csT_size (cs : List Int) : ∀ i, i ≤ cs.length → (csT cs i).size = 4 * i
  | 0, _ => rfl
  | i + 1, h => by
    rw [csT, List.getElem?_eq_getElem (show i < cs.length by omega)]
    simp only
    rw [ByteArray.size_append, numS_size, csT_size cs i (by omega)]; omega
theorem txR_size (mrk : Bool) (kd sq t ss : Int) (cs : List Int) (ex : Bool) (pf : Int) (dt pl : ByteArray) (pd : Int) (hp : 0 ≤ pd) : ((txR mrk kd sq t ss cs ex pf dt pl pd).size : Int) = lenM cs.length ex dt pl pd := by
  have h := csT_size cs cs.length (Nat.le_refl _)
  have e0 : E0.size = 0 := rfl
  unfold txR hdT lenM
  cases ex with
  | true =>
    rw [if_pos rfl, if_pos rfl]
    by_cases h0 : 0 < pd
    · rw [if_pos h0]; simp only [ByteArray.size_append, numS_size, zrT_size, h]; omega
    · rw [if_neg h0]; simp only [ByteArray.size_append, numS_size, h, e0]; omega
  | false =>
    simp only [Bool.false_eq_true, if_false]
    by_cases h0 : 0 < pd
    · rw [if_pos h0]; simp only [ByteArray.size_append, numS_size, zrT_size, h, e0]; omega
    · rw [if_neg h0]; simp only [ByteArray.size_append, numS_size, h, e0]; omega
end Go.Proofs.Ytlhlidmhlhodiaa
