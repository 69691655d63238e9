/-
  The reference of rtp: Head.
-/
import Derived.Test.YtlhlidmhlhodiaaRtpS
namespace Go.Proofs.Ytlhlidmhlhodiaa
set_option linter.unusedSimpArgs false
set_option linter.unusedVariables false
set_option linter.unusedSimpArgs false
set_option linter.unusedVariables false
open Go.RowKit
attribute [local irreducible] Pv WO WC Fn
set_option maxRecDepth 100000
attribute [local irreducible] ByteArray.extract

def bi (c : Bool) (n : Int) : Int := if c = true then n else 0
theorem bi_or (c : Bool) (n : Int) : bi c n = 0 ∨ bi c n = n := by cases c <;> simp [bi]
def csT (cs : List Int) : Nat → ByteArray
  | 0 => E0
  | i + 1 => match cs[i]? with
    | some z => csT cs i ++ numS 4 z
    | none => csT cs i
theorem csT_le (cs : List Int) : ∀ i, (csT cs i).size ≤ 4 * i
  | 0 => Nat.le_refl _
  | i + 1 => by
    have := csT_le cs i
    rw [csT]
    split
    · rw [ByteArray.size_append, numS_size]; omega
    · omega
def hdT (mrk : Bool) (kd sq t ss : Int) (cs : List Int) (ex : Bool) (pf : Int) (dt : ByteArray) (pd : Int) : ByteArray :=
  numS 1 (128 + bi (decide (0 < pd)) 32 + bi ex 16 + cs.length) ++ numS 1 (bi mrk 128 + kd) ++ (numS 2 sq ++ numS 4 t ++ numS 4 ss) ++ csT cs cs.length ++ (if ex = true then numS 2 pf ++ numS 2 (dt.size / 4 : Nat) ++ dt else E0)
def zrT : Nat → ByteArray
  | 0 => E0
  | i + 1 => zrT i ++ ⟨#[0]⟩
theorem zrT_size : ∀ i, (zrT i).size = i
  | 0 => rfl
  | i + 1 => by rw [zrT, ByteArray.size_append, zrT_size i]; rfl
theorem hdT_le (mrk : Bool) (kd sq t ss : Int) (cs : List Int) (ex : Bool) (pf : Int) (dt : ByteArray) (pd : Int) : (hdT mrk kd sq t ss cs ex pf dt pd).size ≤ 16 + 4 * cs.length + dt.size := by
  have h := csT_le cs cs.length
  unfold hdT
  cases ex with
  | true => rw [if_pos rfl]; simp only [ByteArray.size_append, numS_size]; omega
  | false => rw [if_neg (by simp)]; simp only [ByteArray.size_append, numS_size, show E0.size = 0 from rfl]; omega
def txR (mrk : Bool) (kd sq t ss : Int) (cs : List Int) (ex : Bool) (pf : Int) (dt pl : ByteArray) (pd : Int) : ByteArray :=
  hdT mrk kd sq t ss cs ex pf dt pd ++ pl ++ (if 0 < pd then zrT (pd.toNat - 1) ++ numS 1 pd else E0)
end Go.Proofs.Ytlhlidmhlhodiaa
