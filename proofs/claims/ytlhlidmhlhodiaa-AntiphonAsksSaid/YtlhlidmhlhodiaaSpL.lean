/-
  Sparse frames: from a contract to a law's walk; what came in, as segments.
-/
import Derived.Test.YtlhlidmhlhodiaaSpS
import Derived.Test.YtlhlidmhlhodiaaArgs
namespace Go.Proofs.Ytlhlidmhlhodiaa
set_option linter.unusedSimpArgs false
set_option linter.unusedVariables false
open Go.RowKit

theorem sat_start {w : World} {R : List Ro} (h : ∀ r ∈ R, r.sat w) : Sat w (feet []) (blks R) [] R w :=
  ⟨Frm.refl _ _, (by intro x hx; cases hx), (by intro x hx; cases hx), .nil, h, (by intro r _ x hx; cases hx), fun r hr => .inr (.inl (mem_blks.2 ⟨r, hr, rfl⟩))⟩
theorem walk_of {P : Program} {f : FuncId} {args : Array Value} {R : List Ro} {w : World} (hF : Fn P f args [] R (fun v _ _ => v = .bool true)) (hR : ∀ r ∈ R, r.sat w) :
    Calls P f args w fun e w' => e = .returned (.bool true) ∧ Below w.heap.size w w' :=
  (hF w (sat_start hR)).mono fun _ _ ⟨_, _, _, he, hv, hS⟩ => ⟨by rw [he, hv], hS.frm.below⟩

def rowsOf (ks : List TypeDesc) (V : Nat → Nat → Value) (n : Nat) : List (List Value) := (List.range n).map fun i => (List.range ks.length).map fun j => V i j
theorem rowsOf_at {ks : List TypeDesc} {V : Nat → Nat → Value} {n i : Nat} (hi : i < n) : (rowsOf ks V n)[i]? = some ((List.range ks.length).map fun j => V i j) := by
  simp [rowsOf, hi]
theorem rowsOf_len {ks : List TypeDesc} {V : Nat → Nat → Value} {n : Nat} : (rowsOf ks V n).length = n := by simp [rowsOf]
theorem fk_one {k : TypeDesc} {v : Value} (h : FKok k v) : v.oneCell' = true := by
  cases k <;> simp only [FKok] at h <;> first | exact h.elim | skip
  · obtain ⟨b, rfl⟩ := h; rfl
  · obtain ⟨n, rfl, _⟩ := h; rfl
  · obtain ⟨s, rfl, _⟩ := h; rfl
theorem block_of_cell {w : World} {b o : Nat} {v : Value} (h : w.cell? ⟨b, o, none⟩ = some v) : ∃ cur t fz, w.heap[b]? = some (.cells cur t fz) ∧ cur[o]? = some v := by
  unfold World.cell? at h
  split at h
  · rename_i c e fz hc
    exact ⟨c, e, fz, hc, by simpa using h⟩
  · cases h
theorem rws_ro {ks : List TypeDesc} {w : World} {A : Option Addr} {n c : Nat} {V : Nat → Nat → Value} (h : Rws ks w A n c V) (hk : 0 < ks.length) :
    ∃ R : List Ro, (∀ r ∈ R, r.sat w) ∧ (0 < n → ∃ b o, A = some ⟨b, o, none⟩ ∧ ⟨b, o, ks.length, rowsOf ks V n⟩ ∈ R) := by
  obtain ⟨h1, h2, h3, h4⟩ := h
  rcases Nat.eq_zero_or_pos n with h0 | h0
  · exact ⟨[], (by intro r hr; cases hr), fun h => by omega⟩
  · obtain ⟨b, o, rfl, hlt, hc⟩ := h3 h0
    refine ⟨[⟨b, o, ks.length, rowsOf ks V n⟩], fun r hr => ?_, fun _ => ⟨b, o, rfl, .head _⟩⟩
    rcases List.mem_singleton.1 hr with rfl
    obtain ⟨cur, t, fz, hb, _⟩ := block_of_cell (hc 0 0 h0 hk)
    have hrows : RowsOk ks.length (rowsOf ks V n) := by
      intro row hrow
      obtain ⟨i, hi, rfl⟩ := List.mem_map.1 hrow
      refine ⟨by simp, fun u hu => ?_⟩
      obtain ⟨j, hj, rfl⟩ := List.mem_map.1 hu
      have hj' := List.mem_range.1 hj
      exact fk_one (h4 i j ks[j] (List.mem_range.1 hi) (List.getElem?_eq_getElem hj'))
    refine ⟨hrows, cur, t, fz, hb, (seg_iff hrows.lens).2 ?_⟩
    intro i row hi j u hj
    have hil : i < n := by have := (List.getElem?_eq_some_iff.1 hi).1; rw [rowsOf_len] at this; exact this
    rw [rowsOf_at hil] at hi
    simp only [Option.some.injEq] at hi
    subst hi
    have hjl : j < ks.length := by have := (List.getElem?_eq_some_iff.1 hj).1; simpa using this
    simp [hjl] at hj
    subst hj
    have := hc i j hil hjl
    unfold World.cell? at this
    rw [hb] at this
    simpa using this
end Go.Proofs.Ytlhlidmhlhodiaa
