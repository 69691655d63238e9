/-
  Sparse frames: strings, arrays with a computed index. No program in sight.
-/
import Derived.Test.YtlhlidmhlhodiaaSpS
namespace Go.Proofs.Ytlhlidmhlhodiaa
set_option linter.unusedSimpArgs false
set_option linter.unusedVariables false
open Go.RowKit

section
variable {P : Program} {fr : List (Nat × Value)} {hp : List It} {ro : List Ro} {T t t' : TypeId} {x y c : Operand} {v u : Value} {F : List It}
theorem str_beq (a b : ByteArray) : (a.toList == b.toList) = decide (a = b) := by
  rw [ByteArray.toList_eq, ByteArray.toList_eq]
  rw [Bool.eq_iff_iff]
  simp only [beq_iff_eq, decide_eq_true_eq]
  exact ⟨fun h => ByteArray.ext (Array.toList_inj.mp h), fun h => by rw [h]⟩
theorem pv_eql_s {a b : ByteArray} (hx : opd fr x = some (.string a)) (hy : opd fr y = some (.string b)) : Pv P ⟨fr, hp, ro⟩ (.binOp .eql t x y t') (.bool (decide (a = b))) := fun N E ac w dst ty pos af g ok => by
  simp only [execOp, ok.h.eval hx, ok.h.eval hy]; simp [eqGuard, binOp, Op.stringOp, str_beq, go_sem]
theorem pv_neq_s {a b : ByteArray} (hx : opd fr x = some (.string a)) (hy : opd fr y = some (.string b)) : Pv P ⟨fr, hp, ro⟩ (.binOp .neq t x y t') (.bool (decide (a ≠ b))) := fun N E ac w dst ty pos af g ok => by
  simp only [execOp, ok.h.eval hx, ok.h.eval hy]; simp [eqGuard, binOp, Op.stringOp, str_beq, go_sem]
theorem pv_add_s {a b : ByteArray} (hx : opd fr x = some (.string a)) (hy : opd fr y = some (.string b)) (h : a.size + b.size ≤ 9223372036854775807) : Pv P ⟨fr, hp, ro⟩ (.binOp .add t x y t') (.string (a ++ b)) := fun N E ac w dst ty pos af g ok => by
  simp only [execOp, ok.h.eval hx, ok.h.eval hy]; simp [eqGuard, binOp, Op.stringOp, go_sem]; omega
theorem pv_idx_ar_e {n e sz bl o : Nat} {k : IntKind} {z : Int} (i : Nat) [h : TAr P t n e sz] (hx : opd fr x = some (.pointer (some ⟨bl, o, none⟩))) (hy : opd fr y = some (.int k z)) (hz : z = (i : Int)) (hi : i < n) (hn : 1 < n) :
    Pv P ⟨fr, hp, ro⟩ (.indexAddr t x y) (.pointer (some ⟨bl, o + i * sz, none⟩)) := by subst hz; exact pv_idx_ar hx hy hi hn
end
end Go.Proofs.Ytlhlidmhlhodiaa
