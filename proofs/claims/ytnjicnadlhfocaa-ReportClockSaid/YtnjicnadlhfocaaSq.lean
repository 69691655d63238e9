/-
  Sparse frames: slices that are only read, whatever they are where they are empty.
-/
import Derived.Test.YtnjicnadlhfocaaSpU
namespace Go.Proofs.Ytnjicnadlhfocaa
set_option linter.unusedSimpArgs false
set_option linter.unusedVariables false
open Go.RowKit

/-- a slice that is only read, of which nothing is known where it is empty -/
structure SQ (R : List Ro) (sz : Nat) (ao : Option Addr) (n c : Nat) (xs : List (List Value)) : Prop where
  len : xs.length = n
  pos : 0 < n → ∃ b o, ao = some ⟨b, o, none⟩ ∧ ⟨b, o, sz, xs⟩ ∈ R
theorem SR.sq {R : List Ro} {sz : Nat} {ao : Option Addr} {n c : Nat} {xs : List (List Value)} (h : SR R sz ao n c xs) : SQ R sz ao n c xs := ⟨h.len, h.pos⟩
theorem SQ.mono {R R' : List Ro} {sz : Nat} {ao : Option Addr} {n c : Nat} {xs : List (List Value)} (h : SQ R sz ao n c xs) (hR : ∀ r ∈ R, r ∈ R') : SQ R' sz ao n c xs :=
  ⟨h.len, fun h0 => by obtain ⟨b, o, e, m⟩ := h.pos h0; exact ⟨b, o, e, hR _ m⟩⟩
theorem SQ.nil (R : List Ro) (sz : Nat) (ao : Option Addr) (c : Nat) : SQ R sz ao 0 c [] := ⟨rfl, fun h => absurd h (by omega)⟩
end Go.Proofs.Ytnjicnadlhfocaa
