/-
  Sparse frames: the lemmas once more, with the classes as premises behind what fixes them, so that 'apply' can use them ('exact' with a wrong lemma costs a tenth of a second).
-/
import Derived.Test.YtlhlidmhlhodiaaSpJ
namespace Go.Proofs.Ytlhlidmhlhodiaa
set_option linter.unusedSimpArgs false
set_option linter.unusedVariables false
open Go.RowKit
theorem eqr {α : Sort _} (a : α) : a = a := rfl
section
variable {P : Program} {fr : List (Nat × Value)} {hp : List It} {ro : List Ro} {T : TypeId} {x y c : Operand} {v u : Value} {F : List It} {k k' : IntKind} {a b lo hi m : Int} {t t' : TypeId}
theorem a_add (hx : opd fr x = some (.int k a)) (hy : opd fr y = some (.int k b)) (hk : KB k lo hi) (h : lo ≤ a + b ∧ a + b ≤ hi) : Pv P ⟨fr, hp, ro⟩ (.binOp .add t x y t') (.int k (a + b)) := pv_add hx hy h
theorem a_sub (hx : opd fr x = some (.int k a)) (hy : opd fr y = some (.int k b)) (hk : KB k lo hi) (h : lo ≤ a - b ∧ a - b ≤ hi) : Pv P ⟨fr, hp, ro⟩ (.binOp .sub t x y t') (.int k (a - b)) := pv_sub hx hy h
theorem a_mul (hx : opd fr x = some (.int k a)) (hy : opd fr y = some (.int k b)) (hk : KB k lo hi) (h : lo ≤ a * b ∧ a * b ≤ hi) : Pv P ⟨fr, hp, ro⟩ (.binOp .mul t x y t') (.int k (a * b)) := pv_mul hx hy h
theorem a_quo (hx : opd fr x = some (.int k a)) (hy : opd fr y = some (.int k b)) (hk : KB k lo hi) (h : 0 ≤ a ∧ 1 ≤ b ∧ lo ≤ 0 ∧ a ≤ hi) : Pv P ⟨fr, hp, ro⟩ (.binOp .quo t x y t') (.int k (a / b)) := pv_quo hx hy h
theorem a_add_u (hx : opd fr x = some (.int k a)) (hy : opd fr y = some (.int k b)) (hk : KU k m) : Pv P ⟨fr, hp, ro⟩ (.binOp .add t x y t') (.int k ((a + b) % m)) := pv_add_u hx hy
theorem a_sub_u (hx : opd fr x = some (.int k a)) (hy : opd fr y = some (.int k b)) (hk : KU k m) : Pv P ⟨fr, hp, ro⟩ (.binOp .sub t x y t') (.int k ((a - b) % m)) := pv_sub_u hx hy
theorem a_mul_u (hx : opd fr x = some (.int k a)) (hy : opd fr y = some (.int k b)) (hk : KU k m) : Pv P ⟨fr, hp, ro⟩ (.binOp .mul t x y t') (.int k ((a * b) % m)) := pv_mul_u hx hy
theorem a_neg (hx : opd fr x = some (.int k a)) (hk : KB k lo hi) (h : lo ≤ -a ∧ -a ≤ hi) : Pv P ⟨fr, hp, ro⟩ (.unOp .neg t x) (.int k (-a)) := pv_neg hx h
theorem a_conv (hx : opd fr x = some (.int k a)) (h1 : TInt P t k) (h2 : TInt P t' k') (hk : KB k' lo hi) (h : lo ≤ a ∧ a ≤ hi) : Pv P ⟨fr, hp, ro⟩ (.convert t t' x) (.int k' a) := pv_conv hx h
theorem a_conv_u (hx : opd fr x = some (.int k a)) (h1 : TInt P t k) (h2 : TInt P t' k') (hk : KU k' m) : Pv P ⟨fr, hp, ro⟩ (.convert t t' x) (.int k' (a % m)) := pv_conv_u hx
theorem a_conv_w (hx : opd fr x = some (.int k a)) (h1 : TInt P t k) (h2 : TInt P t' k') : Pv P ⟨fr, hp, ro⟩ (.convert t t' x) (.int k' (k'.wrap a)) := pv_conv_w hx
theorem a_not_d {p : Prop} {d : Decidable p} (hx : opd fr x = some (.bool (@decide p d))) : Pv P ⟨fr, hp, ro⟩ (.unOp .not t x) (.bool (decide (¬p))) := pv_not_d hx
end
section
variable {P : Program} {N : Nat} {E : Env} {fr : List (Nat × Value)} {hp : List It} {ro : List Ro} {Kn Kr : St → Prop} {Kx : List (Nat × (St → Prop))} {ops : Array Oper} {rest : List Oper} {dst : Option Tmp} {op : Op} {ty : TypeId} {pos : String} {af : Array Edge} {j s : Nat} {c : Bool} {p : Prop} {d : Decidable p} {o : Operand} {x y : Code}
theorem a_gt (hg : gslot ops j = some s) (hs : fget fr s = some (.bool (@decide p d))) (hpp : p) (h : WO P N E ops (⟨dst, op, ty, pos, af, some (j, c)⟩ :: rest) ⟨(s, .bool true) :: fr, hp, ro⟩ Kn) : WO P N E ops (⟨dst, op, ty, pos, af, some (j, c)⟩ :: rest) ⟨fr, hp, ro⟩ Kn := wo_gt hg hs hpp h
theorem a_gf (hg : gslot ops j = some s) (hs : fget fr s = some (.bool (@decide p d))) (hpp : ¬p) (h : WO P N E ops (⟨dst, op, ty, pos, af, some (j, c)⟩ :: rest) ⟨(s, .bool false) :: fr, hp, ro⟩ Kn) : WO P N E ops (⟨dst, op, ty, pos, af, some (j, c)⟩ :: rest) ⟨fr, hp, ro⟩ Kn := wo_gf hg hs hpp h
theorem a_dec_t (hc : opd fr o = some (.bool (@decide p d))) (hpp : p) (h : WC P N E x ⟨fr, hp, ro⟩ Kn Kx Kr) : WC P N E (.cond o x y) ⟨fr, hp, ro⟩ Kn Kx Kr := wc_dec_t hc hpp h
theorem a_dec_f (hc : opd fr o = some (.bool (@decide p d))) (hpp : ¬p) (h : WC P N E y ⟨fr, hp, ro⟩ Kn Kx Kr) : WC P N E (.cond o x y) ⟨fr, hp, ro⟩ Kn Kx Kr := wc_dec_f hc hpp h
variable {calls : Bool} {K : List (Nat × Value) → Prop}
theorem ah_gt (hg : gslot ops j = some s) (hs : fget fr s = some (.bool (@decide p d))) (hp' : p) (h : Hd P N calls ops hp ro K (⟨dst, op, ty, pos, af, some (j, c)⟩ :: rest) ((s, .bool true) :: fr)) : Hd P N calls ops hp ro K (⟨dst, op, ty, pos, af, some (j, c)⟩ :: rest) fr := hd_gt hg hs hp' h
theorem ah_gf (hg : gslot ops j = some s) (hs : fget fr s = some (.bool (@decide p d))) (hp' : ¬p) (h : Hd P N calls ops hp ro K (⟨dst, op, ty, pos, af, some (j, c)⟩ :: rest) ((s, .bool false) :: fr)) : Hd P N calls ops hp ro K (⟨dst, op, ty, pos, af, some (j, c)⟩ :: rest) fr := hd_gf hg hs hp' h
variable {B0 : List It} {cls : Nat → Option Nat} {tbl : Nat → List It → Value → List It → Prop} {K : List (Nat × Value) → (Nat → List It) → Prop} {k : Nat} {m : Nat → List It}
theorem ae_gt (hg : gslot ops j = some s) (hs : fget fr s = some (.bool (@decide p d))) (hp' : p) (h : HdE P N E B0 ro ops cls tbl K k (⟨dst, op, ty, pos, af, some (j, c)⟩ :: rest) ((s, .bool true) :: fr) m) : HdE P N E B0 ro ops cls tbl K k (⟨dst, op, ty, pos, af, some (j, c)⟩ :: rest) fr m := he_gt hg hs hp' h
theorem ae_gf (hg : gslot ops j = some s) (hs : fget fr s = some (.bool (@decide p d))) (hp' : ¬p) (h : HdE P N E B0 ro ops cls tbl K k (⟨dst, op, ty, pos, af, some (j, c)⟩ :: rest) ((s, .bool false) :: fr) m) : HdE P N E B0 ro ops cls tbl K k (⟨dst, op, ty, pos, af, some (j, c)⟩ :: rest) fr m := he_gf hg hs hp' h
end
end Go.Proofs.Ytlhlidmhlhodiaa
