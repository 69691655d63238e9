/-
  The laws of rtp: Same.
-/
import Derived.Test.YtlhlidmhlhodiaaRtpR
import Derived.Test.YtlhlidmhlhodiaaSq
namespace Go.Proofs.Ytlhlidmhlhodiaa
set_option linter.unusedSimpArgs false
set_option linter.unusedVariables false
set_option linter.unusedSimpArgs false
set_option linter.unusedVariables false
open Go.RowKit
attribute [local irreducible] Pv WO WC Fn
set_option maxRecDepth 100000

theorem crs_at {l : List Int} {i : Nat} {z : Int} (h : l[i]? = some z) : (crs l)[i]? = some [.int .u32 z] := by simp [crs, h]
def lenM (n : Nat) (ex : Bool) (dt pl : ByteArray) (pd : Int) : Int := 12 + 4 * n + pl.size + pd + (if ex = true then 4 + (dt.size : Int) else 0)
def chkR (kd : Int) (n : Nat) (ex : Bool) (pf : Int) (dt pl : ByteArray) (pd : Int) : Int :=
  if 127 < kd ∨ pd < 0 ∨ 255 < pd then 5 else if 15 < n then 4 else if dt.size % 4 ≠ 0 ∨ (ex = false ∧ (pf ≠ 0 ∨ dt ≠ E0)) then 2 else if 1500 < lenM n ex dt pl pd then 4 else 0
end Go.Proofs.Ytlhlidmhlhodiaa
