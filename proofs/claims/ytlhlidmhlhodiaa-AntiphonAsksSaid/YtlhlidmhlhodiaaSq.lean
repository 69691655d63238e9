/-
  Sparse frames: slices that are only read, whatever they are where they are empty.
-/
import Derived.Test.YtlhlidmhlhodiaaSpU
namespace Go.Proofs.Ytlhlidmhlhodiaa
set_option linter.unusedSimpArgs false
set_option linter.unusedVariables false
open Go.RowKit

/-- a slice that is only read, of which nothing is known where it is empty -/
structure SQ (R : List Ro) (sz : Nat) (ao : Option Addr) (n c : Nat) (xs : List (List Value)) : Prop where
  len : xs.length = n
  pos : 0 < n → ∃ b o, ao = some ⟨b, o, none⟩ ∧ ⟨b, o, sz, xs⟩ ∈ R
theorem SR.sq {R : List Ro} {sz : Nat} {ao : Option Addr} {n c : Nat} {xs : List (List Value)} (h : SR R sz ao n c xs) : SQ R sz ao n c xs := ⟨h.len, h.pos⟩
theorem SQ.mono {R R' : List Ro} {sz : Nat} {ao : Option Addr} {n c : Nat} {xs : List (List Value)} (h : SQ R sz ao n c xs) (hR : ∀ r ∈ R, r ∈ R') : SQ R' sz ao n c xs :=
  ⟨h.len, fun h0 => by obtain ⟨b, o, e, m⟩ := h.pos h0; exact ⟨b, o, e, hR _ m⟩⟩
theorem SQ.nil (R : List Ro) (sz : Nat) (ao : Option Addr) (c : Nat) : SQ R sz ao 0 c [] := ⟨rfl, fun h => absurd h (by omega)⟩
/-- a callee that only reads a slice, handed an owned one -/
theorem Fn.own {P : Program} {f : FuncId} {args : Array Value} {T sz n c : Nat} {ao : Option Addr} {xs : List (List Value)} {Q : Value → List It → Prop}
    (h : ∀ R, SQ R sz ao n c xs → Fn P f args [] R (fun v L' R' => Q v L' ∧ R' = [])) : Fn P f args [.own T sz ao n c xs] [] (fun v L' R' => ∃ L0, Q v L0 ∧ L' = L0 ++ [.own T sz ao n c xs] ∧ R' = []) := by
  intro w hw
  have hO : OwnSat w T sz ao n c xs := hw.sat _ (.head _)
  have key : ∀ R : List Ro, (∀ r ∈ R, r.sat w) → SQ R sz ao n c xs → Calls P f args w fun e w' => ∃ v L' R', e = .returned v ∧ (∃ L0, Q v L0 ∧ L' = L0 ++ [.own T sz ao n c xs] ∧ R' = []) ∧ Sat w (feet [It.own T sz ao n c xs]) (blks []) L' R' w' := fun R hR hS => by
    have h0 : Sat w (feet []) (blks R) [] R w := ⟨Frm.refl _ _, (fun x hx => by cases hx), (fun x hx => by cases hx), .nil, hR, (fun r hr x hx => by cases hx), fun r hr => .inr (.inl (mem_blks.2 ⟨r, hr, rfl⟩))⟩
    refine (h R hS w h0).mono fun e w' ⟨v, L', R', he, ⟨hq, hR'⟩, hs⟩ => ?_
    subst hR'
    have hs2 : Sat w (feet []) [] L' [] w' := ⟨hs.frm, hs.sat, hs.own, hs.dis, (fun r hr => by cases hr), (fun r hr => by cases hr), (fun r hr => by cases hr)⟩
    have := hw.step (F := [.own T sz ao n c xs]) (.refl _) (fun b hb => by cases hb) hs2
    exact ⟨v, _, _, he, ⟨L', hq, rfl, rfl⟩, by simpa using this⟩
  cases ao with
  | none =>
    have := hO.nil rfl
    have h1 := hO.le
    have h2 := hO.len
    obtain rfl : n = 0 := by omega
    obtain rfl : xs = [] := List.eq_nil_of_length_eq_zero h2
    exact key [] (fun r hr => by cases hr) (SQ.nil _ _ _ _)
  | some a =>
    obtain ⟨hsp, cur, hcur, hfit, hseg⟩ := hO.at_ a rfl
    obtain ⟨b, o, s⟩ := a
    simp only at hsp hcur hseg
    subst hsp
    exact key [⟨b, o, sz, xs⟩] (fun r hr => by rcases List.mem_singleton.1 hr with rfl; exact ⟨hO.rows, cur, T, (0, 0), hcur, hseg⟩) ⟨hO.len, fun _ => ⟨b, o, rfl, .head _⟩⟩
end Go.Proofs.Ytlhlidmhlhodiaa
