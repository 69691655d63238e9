/-
  More words for memory: the caller's own new blocks, behind a call that may change block g alone.
-/
import Derived.Test.YtdlajpakdgbhiaaMem
namespace Go.Proofs.Ytdlajpakdgbhiaa
set_option linter.unusedSimpArgs false
set_option linter.unusedVariables false
open Go.RowKit

theorem gnew {W w1 : World} {g n b : Nat} (hb : W.grownBy w1 (some g)) (hn : g < n) (hnb : n ≤ b) (hlt : b < W.heap.size) :
    (∀ o, w1.cell? ⟨b, o, none⟩ = W.cell? ⟨b, o, none⟩) ∧ (∀ o, w1.frozen? ⟨b, o, none⟩ = W.frozen? ⟨b, o, none⟩) ∧ b < w1.heap.size :=
  ⟨fun _ => World.cell?_of_block (hb.block _ hlt (fun e => by injection e with e; simp only at e; omega)), fun _ => World.frozen?_of_block (hb.block _ hlt (fun e => by injection e with e; simp only at e; omega)), Nat.lt_of_lt_of_le hlt hb.size⟩
theorem bnew {W w1 : World} {b : Nat} (hb : Below W.heap.size W w1) (hlt : b < W.heap.size) :
    (∀ o, w1.cell? ⟨b, o, none⟩ = W.cell? ⟨b, o, none⟩) ∧ (∀ o, w1.frozen? ⟨b, o, none⟩ = W.frozen? ⟨b, o, none⟩) ∧ b < w1.heap.size :=
  ⟨fun _ => World.cell?_of_block (hb.block _ hlt), fun _ => World.frozen?_of_block (hb.block _ hlt), Nat.lt_of_lt_of_le hlt hb.size⟩
theorem Blk.newAt (w : World) (t : TypeId) (cs : Array Value) (b : Nat) (hb : b = w.heap.size) : Blk (w.alloc (.cells cs t)) b t cs := by
  subst hb; exact Blk.new w t cs
theorem neg_ {g n b : Nat} (hn : g < n) (hb : n ≤ b) : some b ≠ some g := by intro e; injection e; omega
end Go.Proofs.Ytdlajpakdgbhiaa
