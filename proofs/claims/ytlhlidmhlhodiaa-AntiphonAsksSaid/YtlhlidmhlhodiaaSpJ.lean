/-
  Sparse frames: where ways meet again.
-/
import Derived.Test.YtlhlidmhlhodiaaSpR
namespace Go.Proofs.Ytlhlidmhlhodiaa
set_option linter.unusedSimpArgs false
set_option linter.unusedVariables false
open Go.RowKit
theorem wc_join {P : Program} {N : Nat} {E : Env} {x y : Code} {st : St} {Kn Kr Kr2 : St → Prop} {Kx Kx2 : List (Nat × (St → Prop))} (J : St → Prop) (h : WC P N E x st (fun st' => ∃ st'', Wk st' st'' ∧ J st'') Kx Kr) (hy : ∀ st'', J st'' → WC P N E y st'' Kn Kx2 Kr2) :
    WC P N E x st (fun st' => WC P N E y st' Kn Kx2 Kr2) Kx Kr := fun a w ok =>
  Code.wp_mono (fun e a w q => by
    cases e with
    | normal =>
      obtain ⟨st', ⟨st'', h1, h2⟩, ok'⟩ := q
      exact ⟨st', fun a2 w2 ok2 => hy st'' h2 a2 w2 (ok2.weak h1), ok'⟩
    | _ => exact q) (h a w ok)
theorem pv_conv_rs {P : Program} {fr : List (Nat × Value)} {hp : List It} {ro : List Ro} {t t' : TypeId} {x : Operand} {k : IntKind} {a : Int} [TInt P t k] [ht : TStr P t'] (hx : opd fr x = some (.int k a)) : Pv P ⟨fr, hp, ro⟩ (.convert t t' x) (.string (Utf8.encode a)) := fun N E ac w dst ty pos af g ok => by
  simp only [execOp, ok.h.eval hx]; simp [convert, run_underlying (TInt.h (P := P) (T := t)), run_underlying ht.h, Conv.intToString, go_sem]
/-- the same, for a part that leaves by no way but its end (or a return): the rest of the code is out of sight in it -/
theorem wc_join0 {P : Program} {N : Nat} {E : Env} {x y : Code} {st : St} {Kn Kr Kr2 : St → Prop} {Kx Kx2 : List (Nat × (St → Prop))} (J : St → Prop) (h : WC P N E x st (fun st' => ∃ st'', Wk st' st'' ∧ J st'') [] Kr) (hy : ∀ st'', J st'' → WC P N E y st'' Kn Kx2 Kr2) :
    WC P N E x st (fun st' => WC P N E y st' Kn Kx2 Kr2) Kx Kr := fun a w ok =>
  Code.wp_mono (fun e a w q => by
    cases e with
    | normal =>
      obtain ⟨st', ⟨st'', h1, h2⟩, ok'⟩ := q
      exact ⟨st', fun a2 w2 ok2 => hy st'' h2 a2 w2 (ok2.weak h1), ok'⟩
    | exit id => obtain ⟨st', K, h1, _⟩ := q; cases h1
    | _ => exact q) (h a w ok)
end Go.Proofs.Ytlhlidmhlhodiaa
