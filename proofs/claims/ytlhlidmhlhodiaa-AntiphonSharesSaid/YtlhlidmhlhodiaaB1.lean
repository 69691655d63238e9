/-
  Texts of this proof, laid together (part 1 of 7).
-/
import Derived.WalkKit
import Derived.Below
import Derived.Lib.Hide
import Derived.Laws.BitsAllLaws
import Derived.Laws.BitsLemmas
import Derived.Laws.OwnMore
import Derived.Deep.Draws
import Derived.Laws.Rows
import Derived.Deep.Quiet
import Derived.StillTail
import Derived.OwnWalk
import Derived.Deep.LoopGhost
import Derived.IntWalk
import Derived.WalkSpells
import Derived.ArgAppend
import Derived.Test.YtlhlidmhlhodiaaProg
import Derived.KernelRfl
import Derived.Shelf.SlIterI.Nil
/-
  Small words that every proof of this seat uses: results of calls as equations, arithmetic of unsigned kinds. No program in sight.
-/
namespace Go.Proofs.Ytlhlidmhlhodiaa
set_option linter.unusedSimpArgs false
set_option linter.unusedVariables false
open Go.RowKit

theorem ret_int {k : IntKind} {a b : Int} (h : a = b) : Ending.returned (.int k a) = .returned (.int k b) := by rw [h]
theorem ret_bool {a b : Bool} (h : a = b) : Ending.returned (.bool a) = .returned (.bool b) := by rw [h]
theorem hide {p : Prop} (h : p) : Hid p := h
theorem unhide {p : Prop} (h : Hid p) : p := h

/-- '&' with a number of ones, on an int: the remainder -/
theorem and_ones (x : Int) (k : Nat) (hk : k ≤ 62) : bits .and .i64 x ((2 ^ k - 1 : Nat) : Int) = x % (2 ^ k : Nat) := by
  have h2 : (2 : Nat) ^ k ≤ 2 ^ 62 := Nat.pow_le_pow_right (by omega) hk
  have hp : 0 < (2 : Nat) ^ k := Nat.two_pow_pos k
  have hx : ∀ a : Nat, a < 9223372036854775808 → (BitVec.ofInt 64 (a : Int)).toNat = a := fun a ha => by
    rw [BitVec.ofInt_natCast, BitVec.toNat_ofNat]; exact Nat.mod_eq_of_lt (by omega)
  show IntKind.i64.wrap ((BitVec.ofInt 64 x &&& BitVec.ofInt 64 ((2 ^ k - 1 : Nat) : Int)).toNat : Int) = _
  rw [BitVec.toNat_and, hx (2 ^ k - 1) (by omega), Nat.and_two_pow_sub_one_eq_mod, IntKind.wrap_i64, BitVec.toNat_ofInt]
  have hm : ((x % ((2 ^ 64 : Nat) : Int)).toNat : Int) = x % ((2 ^ 64 : Nat) : Int) := Int.toNat_of_nonneg (Int.emod_nonneg _ (by decide))
  rw [Int.natCast_emod, hm, Int.emod_emod_of_dvd x (by exact_mod_cast Nat.pow_dvd_pow 2 (by omega : k ≤ 64))]
  have h3 := Int.emod_nonneg x (show ((2 ^ k : Nat) : Int) ≠ 0 by omega)
  have h4 := Int.emod_lt_of_pos x (show (0 : Int) < ((2 ^ k : Nat) : Int) by omega)
  omega
theorem and_7 (x : Int) : bits .and .i64 x 7 = x % 8 := and_ones x 3 (by omega)
theorem and_15 (x : Int) : bits .and .i64 x 15 = x % 16 := and_ones x 4 (by omega)
theorem and_31 (x : Int) : bits .and .i64 x 31 = x % 32 := and_ones x 5 (by omega)
theorem and_63 (x : Int) : bits .and .i64 x 63 = x % 64 := and_ones x 6 (by omega)
theorem and_127 (x : Int) : bits .and .i64 x 127 = x % 128 := and_ones x 7 (by omega)
theorem and_16383 (x : Int) : bits .and .i64 x 16383 = x % 16384 := and_ones x 14 (by omega)
theorem and_65535 (x : Int) : bits .and .i64 x 65535 = x % 65536 := and_ones x 16 (by omega)
end Go.Proofs.Ytlhlidmhlhodiaa

/-
  Words for memory that every proof of this seat uses: a block that is known whole ('Blk'), what a call may change ('World.grownBy', 'Below'). No program in sight.
-/
namespace Go.Proofs.Ytlhlidmhlhodiaa
set_option linter.unusedSimpArgs false
set_option linter.unusedVariables false
open Go.RowKit

/-- block g is just these cells, of this element type; none is frozen -/
def Blk (w : World) (g : Nat) (t : TypeId) (cs : Array Value) : Prop := w.heap[g]? = some (.cells cs t (0, 0))

section
variable {w w' : World} {g : Nat} {t : TypeId} {cs : Array Value}
theorem Blk.lt (h : Blk w g t cs) : g < w.heap.size := by
  rcases Nat.lt_or_ge g w.heap.size with hlt | hge
  · exact hlt
  · unfold Blk at h; rw [Array.getElem?_eq_none hge] at h; cases h
theorem Blk.cell (h : Blk w g t cs) (i : Nat) : w.cell? ⟨g, i, none⟩ = cs[i]? := by
  unfold Blk at h; simp [World.cell?, h]
theorem Blk.frz (h : Blk w g t cs) (i : Nat) : w.frozen? ⟨g, i, none⟩ = false := by
  unfold Blk at h; simp [World.frozen?, h]
theorem Blk.new (w : World) (t : TypeId) (cs : Array Value) : Blk (w.alloc (.cells cs t)) w.heap.size t cs :=
  heap_alloc_new w _
theorem Blk.drew (h : Blk w g t cs) : Blk w.drew g t cs := h
theorem Blk.drewN (h : Blk w g t cs) (n : Nat) : Blk (w.drewN n) g t cs := h
theorem Blk.alloc (h : Blk w g t cs) (o : Obj) : Blk (w.alloc o) g t cs := (Below.heap_alloc w o g h.lt).trans h
theorem Blk.set (h : Blk w g t cs) (i : Nat) (u : Value) : Blk (w.setCell ⟨g, i, none⟩ u) g t (cs.setIfInBounds i u) := by
  unfold Blk at h ⊢
  simp [World.setCell, Array.getElem?_modify, h]
theorem Blk.far (h : Blk w g t cs) {p : Addr} (hp : g ≠ p.block) (u : Value) : Blk (w.setCell p u) g t cs := (Below.heap_setCell w p u g hp).trans h
theorem Blk.below {B : Nat} (h : Blk w g t cs) (hb : Below B w w') (hg : g < B) : Blk w' g t cs := (hb.block g hg).trans h
theorem Blk.grown {row : Option Nat} (h : Blk w g t cs) (hb : w.grownBy w' row) (hg : some g ≠ row) : Blk w' g t cs := (hb.block g h.lt hg).trans h
theorem Blk.diff {g' : Nat} {t' : TypeId} {cs' : Array Value} (h : Blk w g t cs) (h' : Blk w g' t' cs') (hne : t ≠ t') : g ≠ g' := by
  rintro rfl
  unfold Blk at h h'
  rw [h] at h'
  injection h' with h'
  injection h' with _ ht
  exact hne ht
end

theorem blk_close {w : World} {g : Nat} {t : TypeId} {cs cs' : Array Value} (h : Blk w g t cs) (e : cs = cs') : Blk w g t cs' := e ▸ h
/-- a block's cells, some of them stored anew: for 'simp only' at the end of a walk -/
def setIn (i : Nat) (u : Value) : Obj → Obj
  | .cells c e f => .cells (c.setIfInBounds i u) e f
  | o => o
theorem setIn_cells (i : Nat) (u : Value) (c : Array Value) (e : TypeId) (f : Nat × Nat) : setIn i u (.cells c e f) = .cells (c.setIfInBounds i u) e f := rfl
theorem heap_set_self (w : World) (g i : Nat) (u : Value) : (w.setCell ⟨g, i, none⟩ u).heap[g]? = (w.heap[g]?).map (setIn i u) := by
  simp only [World.setCell, Array.getElem?_modify, ↓reduceIte]
  cases w.heap[g]? with
  | none => rfl
  | some o => cases o <;> rfl
theorem heap_drewN (w : World) (n : Nat) : (w.drewN n).heap = w.heap := rfl
theorem heap_drew (w : World) : w.drew.heap = w.heap := rfl
theorem bcell {W w1 : World} (hb : Below W.heap.size W w1) :
    (∀ b o, b < W.heap.size → w1.cell? ⟨b, o, none⟩ = W.cell? ⟨b, o, none⟩) ∧ (∀ b o, b < W.heap.size → w1.frozen? ⟨b, o, none⟩ = W.frozen? ⟨b, o, none⟩) ∧ W.heap.size ≤ w1.heap.size :=
  ⟨fun b o h => World.cell?_of_block (hb.block b h), fun b o h => World.frozen?_of_block (hb.block b h), hb.size⟩
theorem gcell {W w1 : World} {g : Nat} (hb : W.grownBy w1 (some g)) :
    (∀ b o, b < W.heap.size → b ≠ g → w1.cell? ⟨b, o, none⟩ = W.cell? ⟨b, o, none⟩) ∧ (∀ b o, b < W.heap.size → b ≠ g → w1.frozen? ⟨b, o, none⟩ = W.frozen? ⟨b, o, none⟩) ∧ W.heap.size ≤ w1.heap.size :=
  ⟨fun b o h hn => World.cell?_of_block (hb.block b h (fun e => hn (by injection e))), fun b o h hn => World.frozen?_of_block (hb.block b h (fun e => hn (by injection e))), hb.size⟩

/-- behind a call that may change block g alone: the caller's own new blocks, numbered from n on, read as before -/
theorem gcell2 {W w1 : World} {g n : Nat} (hb : W.grownBy w1 (some g)) (hn : g < n) :
    (∀ o, n < W.heap.size → w1.cell? ⟨n, o, none⟩ = W.cell? ⟨n, o, none⟩) ∧ (∀ i o, n + i < W.heap.size → w1.cell? ⟨n + i, o, none⟩ = W.cell? ⟨n + i, o, none⟩) ∧
    (∀ o, n < W.heap.size → w1.frozen? ⟨n, o, none⟩ = W.frozen? ⟨n, o, none⟩) ∧ (∀ i o, n + i < W.heap.size → w1.frozen? ⟨n + i, o, none⟩ = W.frozen? ⟨n + i, o, none⟩) ∧ W.heap.size ≤ w1.heap.size :=
  ⟨fun _ h => World.cell?_of_block (hb.block _ h (fun e => by injection e with e; simp only at e; omega)), fun _ _ h => World.cell?_of_block (hb.block _ h (fun e => by injection e with e; simp only at e; omega)),
    fun _ h => World.frozen?_of_block (hb.block _ h (fun e => by injection e with e; simp only at e; omega)), fun _ _ h => World.frozen?_of_block (hb.block _ h (fun e => by injection e with e; simp only at e; omega)), hb.size⟩

section
variable {a w w' : World} {row : Option Nat} {g : Nat}
theorem g_refl (w : World) (row : Option Nat) : w.grownBy w row := ⟨rfl, rfl, rfl, Nat.le_refl _, fun _ _ _ => rfl⟩
theorem g_drew (h : a.grownBy w row) : a.grownBy w.drew row := ⟨h.os, h.tape, h.output, h.size, h.block⟩
theorem g_drewN (h : a.grownBy w row) (n : Nat) : a.grownBy (w.drewN n) row := ⟨h.os, h.tape, h.output, h.size, h.block⟩
theorem g_alloc (h : a.grownBy w row) (o : Obj) : a.grownBy (w.alloc o) row :=
  ⟨h.os, h.tape, h.output, Nat.le_trans h.size (by simp), fun i hi hne => (Below.heap_alloc w o i (Nat.lt_of_lt_of_le hi h.size)).trans (h.block i hi hne)⟩
theorem g_set (h : a.grownBy w (some g)) (i : Nat) (u : Value) : a.grownBy (w.setCell ⟨g, i, none⟩ u) (some g) :=
  ⟨h.os, h.tape, h.output, by simpa [World.setCell] using h.size, fun k hk hne => (Below.heap_setCell w _ u k (by rintro rfl; exact hne rfl)).trans (h.block k hk hne)⟩
theorem g_new (h : a.grownBy w row) {p : Addr} (hp : a.heap.size ≤ p.block) (u : Value) : a.grownBy (w.setCell p u) row :=
  ⟨h.os, h.tape, h.output, by simpa [World.setCell] using h.size, fun k hk hne => (Below.heap_setCell w _ u k (by omega)).trans (h.block k hk hne)⟩
theorem g_trans {b c : World} (h : a.grownBy b row) (k : b.grownBy c row) : a.grownBy c row :=
  ⟨k.os.trans h.os, k.tape.trans h.tape, k.output.trans h.output, Nat.le_trans h.size k.size, fun i hi hne => (k.block i (Nat.lt_of_lt_of_le hi h.size) hne).trans (h.block i hi hne)⟩
theorem g_below (h : Below a.heap.size a w) (row : Option Nat) : a.grownBy w row := ⟨h.os, h.tape, h.output, h.size, fun k hk _ => h.block k hk⟩
theorem g_none (h : a.grownBy w none) : Below a.heap.size a w := ⟨h.os, h.tape, h.output, h.size, fun k hk => h.block k hk (by simp)⟩
theorem g_weak (h : a.grownBy w none) (row : Option Nat) : a.grownBy w row := ⟨h.os, h.tape, h.output, h.size, fun k hk _ => h.block k hk (by simp)⟩
theorem b_drewN {B : Nat} (h : Below B a w) (n : Nat) : Below B a (w.drewN n) := ⟨h.os, h.tape, h.output, h.size, h.block⟩
theorem b_grown {B : Nat} (h : Below B a w) (hg : w.grownBy w' (some g)) (hB : B ≤ w.heap.size) (hr : B ≤ g) : Below B a w' :=
  h.grown hg hB (fun k e => by injection e with e; omega)
theorem b_below {B : Nat} (h : Below B a w) (hg : Below w.heap.size w w') (hB : B ≤ w.heap.size) : Below B a w' := h.trans (hg.mono hB)
end

theorem Blk.f1 {w : World} {g : Nat} {t : TypeId} {c0 : Value} (h : Blk w g t #[c0]) : (∀ i, w.frozen? ⟨g, i, none⟩ = false) ∧ g < w.heap.size ∧ w.cell? ⟨g, 0, none⟩ = some c0 :=
  ⟨h.frz, h.lt, h.cell 0⟩
theorem Blk.f2 {w : World} {g : Nat} {t : TypeId} {c0 c1 : Value} (h : Blk w g t #[c0, c1]) : (∀ i, w.frozen? ⟨g, i, none⟩ = false) ∧ g < w.heap.size ∧ w.cell? ⟨g, 0, none⟩ = some c0 ∧ w.cell? ⟨g, 1, none⟩ = some c1 :=
  ⟨h.frz, h.lt, h.cell 0, h.cell 1⟩
theorem Blk.f3 {w : World} {g : Nat} {t : TypeId} {c0 c1 c2 : Value} (h : Blk w g t #[c0, c1, c2]) : (∀ i, w.frozen? ⟨g, i, none⟩ = false) ∧ g < w.heap.size ∧ w.cell? ⟨g, 0, none⟩ = some c0 ∧ w.cell? ⟨g, 1, none⟩ = some c1 ∧ w.cell? ⟨g, 2, none⟩ = some c2 :=
  ⟨h.frz, h.lt, h.cell 0, h.cell 1, h.cell 2⟩
theorem Blk.f4 {w : World} {g : Nat} {t : TypeId} {c0 c1 c2 c3 : Value} (h : Blk w g t #[c0, c1, c2, c3]) : (∀ i, w.frozen? ⟨g, i, none⟩ = false) ∧ g < w.heap.size ∧ w.cell? ⟨g, 0, none⟩ = some c0 ∧ w.cell? ⟨g, 1, none⟩ = some c1 ∧ w.cell? ⟨g, 2, none⟩ = some c2 ∧ w.cell? ⟨g, 3, none⟩ = some c3 :=
  ⟨h.frz, h.lt, h.cell 0, h.cell 1, h.cell 2, h.cell 3⟩
theorem Blk.f5 {w : World} {g : Nat} {t : TypeId} {c0 c1 c2 c3 c4 : Value} (h : Blk w g t #[c0, c1, c2, c3, c4]) : (∀ i, w.frozen? ⟨g, i, none⟩ = false) ∧ g < w.heap.size ∧ w.cell? ⟨g, 0, none⟩ = some c0 ∧ w.cell? ⟨g, 1, none⟩ = some c1 ∧ w.cell? ⟨g, 2, none⟩ = some c2 ∧ w.cell? ⟨g, 3, none⟩ = some c3 ∧ w.cell? ⟨g, 4, none⟩ = some c4 :=
  ⟨h.frz, h.lt, h.cell 0, h.cell 1, h.cell 2, h.cell 3, h.cell 4⟩
theorem Blk.f6 {w : World} {g : Nat} {t : TypeId} {c0 c1 c2 c3 c4 c5 : Value} (h : Blk w g t #[c0, c1, c2, c3, c4, c5]) : (∀ i, w.frozen? ⟨g, i, none⟩ = false) ∧ g < w.heap.size ∧ w.cell? ⟨g, 0, none⟩ = some c0 ∧ w.cell? ⟨g, 1, none⟩ = some c1 ∧ w.cell? ⟨g, 2, none⟩ = some c2 ∧ w.cell? ⟨g, 3, none⟩ = some c3 ∧ w.cell? ⟨g, 4, none⟩ = some c4 ∧ w.cell? ⟨g, 5, none⟩ = some c5 :=
  ⟨h.frz, h.lt, h.cell 0, h.cell 1, h.cell 2, h.cell 3, h.cell 4, h.cell 5⟩
theorem Blk.f7 {w : World} {g : Nat} {t : TypeId} {c0 c1 c2 c3 c4 c5 c6 : Value} (h : Blk w g t #[c0, c1, c2, c3, c4, c5, c6]) : (∀ i, w.frozen? ⟨g, i, none⟩ = false) ∧ g < w.heap.size ∧ w.cell? ⟨g, 0, none⟩ = some c0 ∧ w.cell? ⟨g, 1, none⟩ = some c1 ∧ w.cell? ⟨g, 2, none⟩ = some c2 ∧ w.cell? ⟨g, 3, none⟩ = some c3 ∧ w.cell? ⟨g, 4, none⟩ = some c4 ∧ w.cell? ⟨g, 5, none⟩ = some c5 ∧ w.cell? ⟨g, 6, none⟩ = some c6 :=
  ⟨h.frz, h.lt, h.cell 0, h.cell 1, h.cell 2, h.cell 3, h.cell 4, h.cell 5, h.cell 6⟩
theorem Blk.f8 {w : World} {g : Nat} {t : TypeId} {c0 c1 c2 c3 c4 c5 c6 c7 : Value} (h : Blk w g t #[c0, c1, c2, c3, c4, c5, c6, c7]) : (∀ i, w.frozen? ⟨g, i, none⟩ = false) ∧ g < w.heap.size ∧ w.cell? ⟨g, 0, none⟩ = some c0 ∧ w.cell? ⟨g, 1, none⟩ = some c1 ∧ w.cell? ⟨g, 2, none⟩ = some c2 ∧ w.cell? ⟨g, 3, none⟩ = some c3 ∧ w.cell? ⟨g, 4, none⟩ = some c4 ∧ w.cell? ⟨g, 5, none⟩ = some c5 ∧ w.cell? ⟨g, 6, none⟩ = some c6 ∧ w.cell? ⟨g, 7, none⟩ = some c7 :=
  ⟨h.frz, h.lt, h.cell 0, h.cell 1, h.cell 2, h.cell 3, h.cell 4, h.cell 5, h.cell 6, h.cell 7⟩
theorem Blk.f9 {w : World} {g : Nat} {t : TypeId} {c0 c1 c2 c3 c4 c5 c6 c7 c8 : Value} (h : Blk w g t #[c0, c1, c2, c3, c4, c5, c6, c7, c8]) : (∀ i, w.frozen? ⟨g, i, none⟩ = false) ∧ g < w.heap.size ∧ w.cell? ⟨g, 0, none⟩ = some c0 ∧ w.cell? ⟨g, 1, none⟩ = some c1 ∧ w.cell? ⟨g, 2, none⟩ = some c2 ∧ w.cell? ⟨g, 3, none⟩ = some c3 ∧ w.cell? ⟨g, 4, none⟩ = some c4 ∧ w.cell? ⟨g, 5, none⟩ = some c5 ∧ w.cell? ⟨g, 6, none⟩ = some c6 ∧ w.cell? ⟨g, 7, none⟩ = some c7 ∧ w.cell? ⟨g, 8, none⟩ = some c8 :=
  ⟨h.frz, h.lt, h.cell 0, h.cell 1, h.cell 2, h.cell 3, h.cell 4, h.cell 5, h.cell 6, h.cell 7, h.cell 8⟩
theorem Blk.f10 {w : World} {g : Nat} {t : TypeId} {c0 c1 c2 c3 c4 c5 c6 c7 c8 c9 : Value} (h : Blk w g t #[c0, c1, c2, c3, c4, c5, c6, c7, c8, c9]) : (∀ i, w.frozen? ⟨g, i, none⟩ = false) ∧ g < w.heap.size ∧ w.cell? ⟨g, 0, none⟩ = some c0 ∧ w.cell? ⟨g, 1, none⟩ = some c1 ∧ w.cell? ⟨g, 2, none⟩ = some c2 ∧ w.cell? ⟨g, 3, none⟩ = some c3 ∧ w.cell? ⟨g, 4, none⟩ = some c4 ∧ w.cell? ⟨g, 5, none⟩ = some c5 ∧ w.cell? ⟨g, 6, none⟩ = some c6 ∧ w.cell? ⟨g, 7, none⟩ = some c7 ∧ w.cell? ⟨g, 8, none⟩ = some c8 ∧ w.cell? ⟨g, 9, none⟩ = some c9 :=
  ⟨h.frz, h.lt, h.cell 0, h.cell 1, h.cell 2, h.cell 3, h.cell 4, h.cell 5, h.cell 6, h.cell 7, h.cell 8, h.cell 9⟩
theorem Blk.f11 {w : World} {g : Nat} {t : TypeId} {c0 c1 c2 c3 c4 c5 c6 c7 c8 c9 c10 : Value} (h : Blk w g t #[c0, c1, c2, c3, c4, c5, c6, c7, c8, c9, c10]) : (∀ i, w.frozen? ⟨g, i, none⟩ = false) ∧ g < w.heap.size ∧ w.cell? ⟨g, 0, none⟩ = some c0 ∧ w.cell? ⟨g, 1, none⟩ = some c1 ∧ w.cell? ⟨g, 2, none⟩ = some c2 ∧ w.cell? ⟨g, 3, none⟩ = some c3 ∧ w.cell? ⟨g, 4, none⟩ = some c4 ∧ w.cell? ⟨g, 5, none⟩ = some c5 ∧ w.cell? ⟨g, 6, none⟩ = some c6 ∧ w.cell? ⟨g, 7, none⟩ = some c7 ∧ w.cell? ⟨g, 8, none⟩ = some c8 ∧ w.cell? ⟨g, 9, none⟩ = some c9 ∧ w.cell? ⟨g, 10, none⟩ = some c10 :=
  ⟨h.frz, h.lt, h.cell 0, h.cell 1, h.cell 2, h.cell 3, h.cell 4, h.cell 5, h.cell 6, h.cell 7, h.cell 8, h.cell 9, h.cell 10⟩
theorem Blk.f12 {w : World} {g : Nat} {t : TypeId} {c0 c1 c2 c3 c4 c5 c6 c7 c8 c9 c10 c11 : Value} (h : Blk w g t #[c0, c1, c2, c3, c4, c5, c6, c7, c8, c9, c10, c11]) : (∀ i, w.frozen? ⟨g, i, none⟩ = false) ∧ g < w.heap.size ∧ w.cell? ⟨g, 0, none⟩ = some c0 ∧ w.cell? ⟨g, 1, none⟩ = some c1 ∧ w.cell? ⟨g, 2, none⟩ = some c2 ∧ w.cell? ⟨g, 3, none⟩ = some c3 ∧ w.cell? ⟨g, 4, none⟩ = some c4 ∧ w.cell? ⟨g, 5, none⟩ = some c5 ∧ w.cell? ⟨g, 6, none⟩ = some c6 ∧ w.cell? ⟨g, 7, none⟩ = some c7 ∧ w.cell? ⟨g, 8, none⟩ = some c8 ∧ w.cell? ⟨g, 9, none⟩ = some c9 ∧ w.cell? ⟨g, 10, none⟩ = some c10 ∧ w.cell? ⟨g, 11, none⟩ = some c11 :=
  ⟨h.frz, h.lt, h.cell 0, h.cell 1, h.cell 2, h.cell 3, h.cell 4, h.cell 5, h.cell 6, h.cell 7, h.cell 8, h.cell 9, h.cell 10, h.cell 11⟩
end Go.Proofs.Ytlhlidmhlhodiaa

/-
  A logic of sparse frames: a state is a list of known slots, a list of items of the heap (whole blocks, owned slices), and a list of segments that are only read. No program in sight.
-/
namespace Go.Proofs.Ytlhlidmhlhodiaa
set_option linter.unusedSimpArgs false
set_option linter.unusedVariables false
open Go.RowKit

/-! ## Frames -/
def fget : List (Nat × Value) → Nat → Option Value
  | [], _ => none
  | (s, v) :: l, t => bif Nat.beq s t then some v else fget l t

def opd (fr : List (Nat × Value)) : Operand → Option Value
  | .tmp t => fget fr t
  | .const v => some v
  | .global g => some (.pointer (some ⟨g, 0, none⟩))
  | .func f => some (.func (.func f) #[] #[])

structure Holds (N : Nat) (fr : List (Nat × Value)) (a : Act) : Prop where
  defers : a.defers = []
  size : a.tmps.size = N
  slot : ∀ t v, fget fr t = some v → a.tmps[t]? = some v

section
variable {N : Nat} {fr : List (Nat × Value)} {a : Act} {v : Value}
theorem Holds.tmp (h : Holds N fr a) {t : Nat} (ht : fget fr t = some v) : a.tmps.getD t undef = v := by
  rw [Array.getD_eq_getD_getElem?, h.slot t v ht]; rfl
theorem Holds.eval (h : Holds N fr a) {x : Operand} (hx : opd fr x = some v) : a.eval x = v := by
  cases x with
  | tmp t => exact h.tmp hx
  | const u => simpa [opd, Act.eval] using hx
  | global g => simpa [opd, Act.eval] using hx
  | func f => simpa [opd, Act.eval] using hx
theorem Holds.put (h : Holds N fr a) {d : Nat} (hd : d < N) (v : Value) : Holds N ((d, v) :: fr) (a.put (some d) v) := by
  refine ⟨h.defers, by simp [Act.put, h.size], fun t u hu => ?_⟩
  unfold fget at hu
  cases hb : Nat.beq d t with
  | false =>
    have hne : d ≠ t := fun e => by rw [e, Nat.beq_refl] at hb; cases hb
    rw [hb] at hu
    simp only [cond_false] at hu
    simp [Act.put, Array.getElem?_setIfInBounds_ne hne, h.slot t u hu]
  | true =>
    have he : d = t := Nat.eq_of_beq_eq_true hb
    rw [hb] at hu
    simp only [cond_true, Option.some.injEq] at hu
    subst he; subst hu
    simp [Act.put, h.size, hd]
theorem Holds.none (h : Holds N fr a) (v : Value) : Holds N fr (a.put none v) := h
/-- a slot's value, told otherwise -/
theorem Holds.same (h : Holds N fr a) {s : Nat} {u : Value} (hs : fget fr s = some v) (e : v = u) : Holds N ((s, u) :: fr) a := by
  subst e
  refine ⟨h.defers, h.size, fun t u hu => ?_⟩
  unfold fget at hu
  cases hb : Nat.beq s t with
  | false => rw [hb] at hu; exact h.slot t u hu
  | true =>
    have he : s = t := Nat.eq_of_beq_eq_true hb
    rw [hb] at hu
    simp only [cond_true, Option.some.injEq] at hu
    subst he; subst hu
    exact h.slot s _ hs
theorem Holds.weak (h : Holds N fr a) {fr' : List (Nat × Value)} (hw : ∀ x ∈ fr', fget fr x.1 = some x.2) : Holds N fr' a := by
  refine ⟨h.defers, h.size, fun t u hu => h.slot t u ?_⟩
  clear h
  induction fr' with
  | nil => cases hu
  | cons x l ih =>
    obtain ⟨s, w⟩ := x
    unfold fget at hu
    cases hb : Nat.beq s t with
    | false => rw [hb] at hu; exact ih (fun y hy => hw y (.tail _ hy)) hu
    | true =>
      have he : s = t := Nat.eq_of_beq_eq_true hb
      rw [hb] at hu
      simp only [cond_true, Option.some.injEq] at hu
      subst he; subst hu
      exact hw (s, w) (.head _)
end

/-! ## The heap in items -/
inductive It where
  /-- block b is exactly o -/
  | ob (b : Nat) (o : Obj)
  /-- a slice of n elements (of type t, sz cells each) with the rows xs, which alone knows its block -/
  | own (t : TypeId) (sz : Nat) (ao : Option Addr) (n c : Nat) (xs : List (List Value))

/-- a segment that is only read: the rows xs from offset o of block b on -/
structure Ro where
  b : Nat
  o : Nat
  sz : Nat
  xs : List (List Value)

def SegIn (cur : Array Value) (o : Nat) (xs : List (List Value)) : Prop := ∀ j u, xs.flatten[j]? = some u → cur[o + j]? = some u
def RowsOk (sz : Nat) (xs : List (List Value)) : Prop := ∀ r ∈ xs, r.length = sz ∧ ∀ u ∈ r, u.oneCell' = true

def It.foot : It → Option Nat
  | .ob b _ => some b
  | .own _ _ ao _ _ _ => ao.map (·.block)
structure OwnSat (w : World) (t : TypeId) (sz : Nat) (ao : Option Addr) (n c : Nat) (xs : List (List Value)) : Prop where
  len : xs.length = n
  rows : RowsOk sz xs
  le : n ≤ c
  max : c ≤ maxLen
  nil : ao = none → c = 0
  at_ : ∀ a, ao = some a → a.spot = none ∧ ∃ cur, w.heap[a.block]? = some (.cells cur t (0, 0)) ∧ a.off + c * sz ≤ cur.size ∧ SegIn cur a.off xs
def It.sat (w : World) : It → Prop
  | .ob b o => w.heap[b]? = some o
  | .own t sz ao n c xs => OwnSat w t sz ao n c xs
def Ro.sat (w : World) (r : Ro) : Prop := RowsOk r.sz r.xs ∧ ∃ cur t fz, w.heap[r.b]? = some (.cells cur t fz) ∧ SegIn cur r.o r.xs

def feet (L : List It) : List Nat := L.filterMap It.foot
def blks (R : List Ro) : List Nat := R.map Ro.b

structure Frm (S : List Nat) (w w' : World) : Prop where
  os : w'.os = w.os
  tape : w'.tape = w.tape
  output : w'.output = w.output
  size : w.heap.size ≤ w'.heap.size
  block : ∀ k, k < w.heap.size → k ∉ S → w'.heap[k]? = w.heap[k]?

theorem Frm.refl (S : List Nat) (w : World) : Frm S w w := ⟨rfl, rfl, rfl, Nat.le_refl _, fun _ _ _ => rfl⟩
theorem Frm.below {w w' : World} (h : Frm [] w w') : Below w.heap.size w w' := ⟨h.os, h.tape, h.output, h.size, fun k hk => h.block k hk (by simp)⟩
theorem Frm.grown {w w' : World} {row : Option Nat} (h : w.grownBy w' row) : Frm row.toList w w' :=
  ⟨h.os, h.tape, h.output, h.size, fun k hk hn => h.block k hk (by cases row <;> simp_all)⟩

theorem size_of_some {w : World} {b : Nat} {o : Obj} (h : w.heap[b]? = some o) : b < w.heap.size := by
  rcases Nat.lt_or_ge b w.heap.size with h' | h'
  · exact h'
  · rw [Array.getElem?_eq_none h'] at h; cases h
theorem It.lt {w : World} {x : It} {b : Nat} (h : x.sat w) (hf : x.foot = some b) : b < w.heap.size := by
  cases x with
  | ob b' o => simp only [It.foot, Option.some.injEq] at hf; subst hf; exact size_of_some h
  | own t sz ao n c xs =>
    cases ao with
    | none => cases hf
    | some a =>
      simp only [It.foot, Option.map_some, Option.some.injEq] at hf
      subst hf
      obtain ⟨_, cur, hc, _⟩ := OwnSat.at_ h a rfl
      exact size_of_some hc
theorem It.congr {w w' : World} {x : It} (hf : ∀ b, x.foot = some b → w'.heap[b]? = w.heap[b]?) (h : x.sat w) : x.sat w' := by
  cases x with
  | ob b o => exact (hf b rfl).trans h
  | own t sz ao n c xs =>
    refine ⟨h.len, h.rows, h.le, h.max, h.nil, fun a ha => ?_⟩
    obtain ⟨h1, cur, h2, h3⟩ := h.at_ a ha
    exact ⟨h1, cur, (hf a.block (by simp [It.foot, ha])).trans h2, h3⟩
theorem Ro.lt {w : World} {r : Ro} (h : r.sat w) : r.b < w.heap.size := by
  obtain ⟨_, cur, t, fz, hc, _⟩ := h; exact size_of_some hc
theorem Ro.congr {w w' : World} {r : Ro} (hf : w'.heap[r.b]? = w.heap[r.b]?) (h : r.sat w) : r.sat w' := by
  obtain ⟨h1, cur, t, fz, hc, h2⟩ := h; exact ⟨h1, cur, t, fz, hf.trans hc, h2⟩

def Apart (x y : It) : Prop := ∀ b, x.foot = some b → y.foot = some b → False
theorem Apart.symm {x y : It} (h : Apart x y) : Apart y x := fun b h1 h2 => h b h2 h1

structure Sat (B : World) (S T : List Nat) (hp : List It) (ro : List Ro) (w : World) : Prop where
  frm : Frm S B w
  sat : ∀ x ∈ hp, x.sat w
  own : ∀ x ∈ hp, ∀ b, x.foot = some b → b ∈ S ∨ B.heap.size ≤ b
  dis : hp.Pairwise Apart
  rds : ∀ r ∈ ro, r.sat w
  rod : ∀ r ∈ ro, ∀ x ∈ hp, x.foot ≠ some r.b
  rok : ∀ r ∈ ro, r.b ∈ S ∨ r.b ∈ T ∨ B.heap.size ≤ r.b

theorem mem_feet {L : List It} {b : Nat} : b ∈ feet L ↔ ∃ x ∈ L, x.foot = some b := by simp [feet]
theorem mem_blks {R : List Ro} {b : Nat} : b ∈ blks R ↔ ∃ r ∈ R, r.b = b := by simp [blks]

section
variable {B : World} {S T : List Nat} {hp hp' L F L' : List It} {ro ro' R R' : List Ro} {w w' : World}
theorem Sat.perm (h : Sat B S T hp ro w) (hpm : hp.Perm hp') : Sat B S T hp' ro w :=
  ⟨h.frm, fun x hx => h.sat x (hpm.mem_iff.2 hx), fun x hx => h.own x (hpm.mem_iff.2 hx), (hpm.pairwise_iff Apart.symm).1 h.dis, h.rds,
    fun r hr x hx => h.rod r hr x (hpm.mem_iff.2 hx), h.rok⟩
theorem Sat.left (h : Sat B S T (L ++ F) ro w) : Sat B S T L ro w :=
  ⟨h.frm, fun x hx => h.sat x (List.mem_append_left _ hx), fun x hx => h.own x (List.mem_append_left _ hx), (List.pairwise_append.1 h.dis).1, h.rds,
    fun r hr x hx => h.rod r hr x (List.mem_append_left _ hx), h.rok⟩
theorem Sat.some_ro (h : Sat B S T hp ro w) (hs : ∀ r ∈ ro', r ∈ ro) : Sat B S T hp ro' w :=
  ⟨h.frm, h.sat, h.own, h.dis, fun r hr => h.rds r (hs r hr), fun r hr => h.rod r (hs r hr), fun r hr => h.rok r (hs r hr)⟩
/-- what a callee is handed -/
theorem Sat.start (h : Sat B S T hp ro w) (hs : hp.Perm (L ++ F)) (hr : ∀ r ∈ R, r ∈ ro) : Sat w (feet L) (blks R) L R w :=
  let h1 := ((h.perm hs).left.some_ro hr)
  ⟨Frm.refl _ _, h1.sat, fun x hx b hb => .inl (mem_feet.2 ⟨x, hx, hb⟩), h1.dis, h1.rds, h1.rod, fun r hr => .inr (.inl (mem_blks.2 ⟨r, hr, rfl⟩))⟩
/-- behind a step that may touch the items L alone, and makes L', R' of them -/
theorem Sat.step {T' : List Nat} (h0 : Sat B S T hp ro w) (hs : hp.Perm (L ++ F)) (hT : ∀ b ∈ T', b ∈ blks ro) (h' : Sat w (feet L) T' L' R' w') : Sat B S T (L' ++ F) (R' ++ ro) w' := by
  have h := h0.perm hs
  have hF : ∀ x ∈ F, ∀ b, x.foot = some b → b < w.heap.size ∧ b ∉ feet L := by
    intro x hx b hb
    refine ⟨It.lt (h.sat x (List.mem_append_right _ hx)) hb, fun hm => ?_⟩
    obtain ⟨y, hy, hyb⟩ := mem_feet.1 hm
    exact (List.pairwise_append.1 h.dis).2.2 y hy x hx b hyb hb
  have hFs : ∀ x ∈ F, x.sat w' := fun x hx => It.congr (fun b hb => h'.frm.block b (hF x hx b hb).1 (hF x hx b hb).2) (h.sat x (List.mem_append_right _ hx))
  have hR : ∀ r ∈ ro, r.b < w.heap.size ∧ r.b ∉ feet L := by
    intro r hr
    refine ⟨Ro.lt (h.rds r hr), fun hm => ?_⟩
    obtain ⟨y, hy, hyb⟩ := mem_feet.1 hm
    exact h.rod r hr y (List.mem_append_left _ hy) hyb
  have hLb : ∀ b ∈ feet L, b ∈ S ∨ B.heap.size ≤ b := by
    intro b hb
    obtain ⟨y, hy, hyb⟩ := mem_feet.1 hb
    exact h.own y (List.mem_append_left _ hy) b hyb
  refine ⟨⟨h'.frm.os.trans h.frm.os, h'.frm.tape.trans h.frm.tape, h'.frm.output.trans h.frm.output, Nat.le_trans h.frm.size h'.frm.size, fun k hk hn => ?_⟩, ?_, ?_, ?_, ?_, ?_, ?_⟩
  · refine (h'.frm.block k (Nat.lt_of_lt_of_le hk h.frm.size) fun hm => ?_).trans (h.frm.block k hk hn)
    rcases hLb k hm with h1 | h1
    · exact hn h1
    · omega
  · intro x hx
    rcases List.mem_append.1 hx with hx | hx
    · exact h'.sat x hx
    · exact hFs x hx
  · intro x hx b hb
    rcases List.mem_append.1 hx with hx | hx
    · rcases h'.own x hx b hb with h1 | h1
      · exact hLb b h1
      · exact .inr (Nat.le_trans h.frm.size h1)
    · exact h.own x (List.mem_append_right _ hx) b hb
  · refine List.pairwise_append.2 ⟨h'.dis, (List.pairwise_append.1 h.dis).2.1, fun x hx y hy b hxb hyb => ?_⟩
    have hy2 := hF y hy b hyb
    rcases h'.own x hx b hxb with h1 | h1
    · exact hy2.2 h1
    · omega
  · intro r hr
    rcases List.mem_append.1 hr with hr | hr
    · exact h'.rds r hr
    · exact Ro.congr (h'.frm.block _ (hR r hr).1 (hR r hr).2) (h.rds r hr)
  · intro r hr x hx hxr
    rcases List.mem_append.1 hr with hr | hr
    · rcases List.mem_append.1 hx with hx | hx
      · exact h'.rod r hr x hx hxr
      · have hx2 := hF x hx _ hxr
        rcases h'.rok r hr with h1 | h1 | h1
        · exact hx2.2 h1
        · obtain ⟨r2, hr2, e2⟩ := mem_blks.1 (hT _ h1)
          exact h.rod r2 hr2 x (List.mem_append_right _ hx) (by rw [hxr, e2])
        · omega
    · rcases List.mem_append.1 hx with hx | hx
      · rcases h'.own x hx _ hxr with h1 | h1
        · exact (hR r hr).2 h1
        · have := (hR r hr).1; omega
      · exact h.rod r hr x (List.mem_append_right _ hx) hxr
  · intro r hr
    rcases List.mem_append.1 hr with hr | hr
    · rcases h'.rok r hr with h1 | h1 | h1
      · rcases hLb _ h1 with h2 | h2
        · exact .inl h2
        · exact .inr (.inr h2)
      · obtain ⟨r2, hr2, e2⟩ := mem_blks.1 (hT _ h1)
        have := h.rok r2 hr2
        rwa [e2] at this
      · exact .inr (.inr (Nat.le_trans h.frm.size h1))
    · exact h.rok r hr
end

/-- one item becomes another one (or none is there before): what stores, appends, new blocks do -/
theorem Sat.one {w w' : World} {L : List It} {y : It} (hf : Frm (feet L) w w') (hs : y.sat w') (ho : ∀ b, y.foot = some b → b ∈ feet L ∨ w.heap.size ≤ b) : Sat w (feet L) [] [y] [] w' :=
  ⟨hf, fun x hx => by rcases List.mem_singleton.1 hx with rfl; exact hs, fun x hx b hb => by rcases List.mem_singleton.1 hx with rfl; exact ho b hb,
    List.pairwise_singleton _ _, (by intro r hr; cases hr), (by intro r hr; cases hr), (by intro r hr; cases hr)⟩
theorem Frm.drawn {S : List Nat} {B w : World} (h : Frm S B w) (n : Nat) : Frm S B { w with drawn := n } := ⟨h.os, h.tape, h.output, h.size, h.block⟩
theorem Sat.drawn {B : World} {S T : List Nat} {hp : List It} {ro : List Ro} {w : World} (h : Sat B S T hp ro w) (n : Nat) : Sat B S T hp ro { w with drawn := n } :=
  ⟨h.frm.drawn n, fun x hx => It.congr (w := w) (fun _ _ => rfl) (h.sat x hx), h.own, h.dis, fun r hr => Ro.congr (w := w) rfl (h.rds r hr), h.rod, h.rok⟩

/-! ## Contracts and judgements -/
structure St where
  fr : List (Nat × Value)
  hp : List It
  ro : List Ro
structure Env where
  B : World
  S : List Nat
  T : List Nat

def Fn (P : Program) (f : FuncId) (args : Array Value) (L : List It) (R : List Ro) (Post : Value → List It → List Ro → Prop) : Prop :=
  ∀ w, Sat w (feet L) (blks R) L R w → Calls P f args w fun e w' => ∃ v L' R', e = .returned v ∧ Post v L' R' ∧ Sat w (feet L) (blks R) L' R' w'

structure Ok (N : Nat) (E : Env) (st : St) (a : Act) (w : World) : Prop where
  h : Holds N st.fr a
  s : Sat E.B E.S E.T st.hp st.ro w

def post (N : Nat) (E : Env) (Kn : St → Prop) (Kx : List (Nat × (St → Prop))) (Kr : St → Prop) : Exit → Act → World → Prop
  | .normal, a, w => ∃ st, Kn st ∧ Ok N E st a w
  | .exit id, a, w => ∃ st K, Kx.lookup id = some K ∧ K st ∧ Ok N E st a w
  | .ret, a, w => ∃ st, Kr st ∧ Ok N E st a w
  | _, _, _ => False

def WC (P : Program) (N : Nat) (E : Env) (c : Code) (st : St) (Kn : St → Prop) (Kx : List (Nat × (St → Prop))) (Kr : St → Prop) : Prop :=
  ∀ a w, Ok N E st a w → c.wp P (post N E Kn Kx Kr) a w
def WO (P : Program) (N : Nat) (E : Env) (ops : Array Oper) (rest : List Oper) (st : St) (Kn : St → Prop) : Prop :=
  ∀ Q : Exit → Act → World → Prop, (∀ st' a w, Kn st' → Ok N E st' a w → Q .normal a w) → ∀ a w, Ok N E st a w → wpList P ops Q rest a w
/-- an operation that yields v and leaves the world alone -/
def Pv (P : Program) (st : St) (op : Op) (v : Value) : Prop :=
  ∀ (N : Nat) (E : Env) (a : Act) (w : World) (dst : Option Tmp) (ty : TypeId) (pos : String) (af : Array Edge) (g : Option (Nat × Bool)), Ok N E st a w →
    (execOp a.eval ⟨dst, op, ty, pos, af, g⟩).run P w = .ok (.value v) w

section
variable {P : Program} {N : Nat} {E : Env} {fr : List (Nat × Value)} {hp : List It} {ro : List Ro} {Kn Kr : St → Prop} {Kx : List (Nat × (St → Prop))}
theorem wc_skip (h : Kn ⟨fr, hp, ro⟩) : WC P N E .skip ⟨fr, hp, ro⟩ Kn Kx Kr := fun a w ok => wp_skip ⟨⟨fr, hp, ro⟩, h, ok⟩
theorem wc_ret (h : Kr ⟨fr, hp, ro⟩) : WC P N E .ret ⟨fr, hp, ro⟩ Kn Kx Kr := fun a w ok => wp_ret ⟨⟨fr, hp, ro⟩, h, ok⟩
theorem wc_exit {id : Nat} {K : St → Prop} (hl : Kx.lookup id = some K) (h : K ⟨fr, hp, ro⟩) : WC P N E (.exit id) ⟨fr, hp, ro⟩ Kn Kx Kr := fun a w ok => wp_exit ⟨⟨fr, hp, ro⟩, K, hl, h, ok⟩
theorem wc_seq {x y : Code} (h : WC P N E x ⟨fr, hp, ro⟩ (fun st' => WC P N E y st' Kn Kx Kr) Kx Kr) : WC P N E (.seq x y) ⟨fr, hp, ro⟩ Kn Kx Kr := fun a w ok =>
  wp_seq (Code.wp_mono (fun e a w q => by
    cases e with
    | normal => obtain ⟨st', h1, h2⟩ := q; exact h1 a w h2
    | _ => exact q) (h a w ok))
theorem wc_block {id : Nat} {c : Code} (h : WC P N E c ⟨fr, hp, ro⟩ Kn ((id, Kn) :: Kx) Kr) : WC P N E (.block id c) ⟨fr, hp, ro⟩ Kn Kx Kr := fun a w ok =>
  wp_block (Code.wp_mono (fun e a w q => by
    cases e with
    | exit id' =>
      obtain ⟨st', K, hl, hk, ok'⟩ := q
      simp only [Exit.inBlock]
      by_cases he : id' = id
      · subst he
        simp only [List.lookup, beq_self_eq_true, Option.some.injEq] at hl
        subst hl
        rw [if_pos rfl]; exact ⟨st', hk, ok'⟩
      · rw [if_neg he]
        have hb : (id' == id) = false := by simpa using he
        simp only [List.lookup, hb] at hl
        exact ⟨st', K, hl, hk, ok'⟩
    | _ => exact q) (h a w ok))
theorem wc_cond {c : Operand} {x y : Code} {b : Bool} (hc : opd fr c = some (.bool b)) (ht : b = true → WC P N E x ⟨fr, hp, ro⟩ Kn Kx Kr) (hf : b = false → WC P N E y ⟨fr, hp, ro⟩ Kn Kx Kr) :
    WC P N E (.cond c x y) ⟨fr, hp, ro⟩ Kn Kx Kr := fun a w ok => wp_cond_split (ok.h.eval hc) (fun h => ht h a w ok) (fun h => hf h a w ok)
theorem wc_true {c : Operand} {x y : Code} (hc : opd fr c = some (.bool true)) (h : WC P N E x ⟨fr, hp, ro⟩ Kn Kx Kr) : WC P N E (.cond c x y) ⟨fr, hp, ro⟩ Kn Kx Kr :=
  wc_cond hc (fun _ => h) (fun h => by cases h)
theorem wc_false {c : Operand} {x y : Code} (hc : opd fr c = some (.bool false)) (h : WC P N E y ⟨fr, hp, ro⟩ Kn Kx Kr) : WC P N E (.cond c x y) ⟨fr, hp, ro⟩ Kn Kx Kr :=
  wc_cond hc (fun h => by cases h) (fun _ => h)
theorem wc_dec {c : Operand} {x y : Code} {p : Prop} [Decidable p] (hc : opd fr c = some (.bool (decide p))) (ht : p → WC P N E x ⟨fr, hp, ro⟩ Kn Kx Kr) (hf : ¬p → WC P N E y ⟨fr, hp, ro⟩ Kn Kx Kr) :
    WC P N E (.cond c x y) ⟨fr, hp, ro⟩ Kn Kx Kr := wc_cond hc (fun h => ht (of_decide_eq_true h)) (fun h => hf (of_decide_eq_false h))
theorem wc_dec_t {c : Operand} {x y : Code} {p : Prop} [Decidable p] (hc : opd fr c = some (.bool (decide p))) (hpp : p) (h : WC P N E x ⟨fr, hp, ro⟩ Kn Kx Kr) : WC P N E (.cond c x y) ⟨fr, hp, ro⟩ Kn Kx Kr :=
  wc_dec hc (fun _ => h) (fun hn => absurd hpp hn)
theorem wc_dec_f {c : Operand} {x y : Code} {p : Prop} [Decidable p] (hc : opd fr c = some (.bool (decide p))) (hpp : ¬p) (h : WC P N E y ⟨fr, hp, ro⟩ Kn Kx Kr) : WC P N E (.cond c x y) ⟨fr, hp, ro⟩ Kn Kx Kr :=
  wc_dec hc (fun h => absurd h hpp) (fun _ => h)
theorem wc_region {id : Nat} {l : List Oper} (h : WO P N E l.toArray l ⟨fr, hp, ro⟩ Kn) : WC P N E (.region id l.toArray false) ⟨fr, hp, ro⟩ Kn Kx Kr := fun a w ok =>
  wp_region_lit (h _ (fun st' _ _ hk ok' => ⟨st', hk, ok'⟩) a w ok)

/-! weakening -/
structure Wk (st st' : St) : Prop where
  fr : ∀ x ∈ st'.fr, fget st.fr x.1 = some x.2
  hp : ∃ F, st.hp.Perm (st'.hp ++ F)
  ro : ∀ r ∈ st'.ro, r ∈ st.ro
theorem Ok.weak {st' : St} {a : Act} {w : World} (h : Ok N E ⟨fr, hp, ro⟩ a w) (hw : Wk ⟨fr, hp, ro⟩ st') : Ok N E st' a w :=
  ⟨h.h.weak hw.fr, let ⟨_, hF⟩ := hw.hp; ((h.s.perm hF).left).some_ro hw.ro⟩
theorem wc_weak {c : Code} {st' : St} (hw : Wk ⟨fr, hp, ro⟩ st') (h : WC P N E c st' Kn Kx Kr) : WC P N E c ⟨fr, hp, ro⟩ Kn Kx Kr := fun a w ok => h a w (ok.weak hw)

def WkF (fr fr' : List (Nat × Value)) : Prop := ∀ x ∈ fr', fget fr x.1 = some x.2
theorem wkf_nil {fr : List (Nat × Value)} : WkF fr [] := fun x hx => by cases hx
theorem wkf_cons {fr fr' : List (Nat × Value)} {s : Nat} {v : Value} (h : fget fr s = some v) (hr : WkF fr fr') : WkF fr ((s, v) :: fr') := fun x hx => by
  rcases List.mem_cons.1 hx with rfl | hx
  · exact h
  · exact hr x hx
theorem wk_mk {fr' : List (Nat × Value)} {hp' F : List It} {ro' : List Ro} (hf : WkF fr fr') (hh : hp.Perm (hp' ++ F)) (hr : ∀ r ∈ ro', r ∈ ro) : Wk ⟨fr, hp, ro⟩ ⟨fr', hp', ro'⟩ := ⟨hf, ⟨F, hh⟩, hr⟩
theorem loop_end {I : Nat → St → Prop} {m m' : Nat} {st' st'' : St} (hI : I m' st'') (hlt : m' < m) (hw : Wk st' st'') : ∃ m' st'', m' < m ∧ Wk st' st'' ∧ I m' st'' := ⟨m', st'', hlt, hw, hI⟩
theorem cut_end {J : St → Prop} {st' st'' : St} (hJ : J st'') (hw : Wk st' st'') : ∃ st'', Wk st' st'' ∧ J st'' := ⟨st'', hw, hJ⟩
theorem wc_loop {c : Code} (I : Nat → St → Prop) (m : Nat) (st0 : St) (hw : Wk ⟨fr, hp, ro⟩ st0) (h0 : I m st0)
    (hr : ∀ m st, I m st → WC P N E c st (fun st' => ∃ m' st'', m' < m ∧ Wk st' st'' ∧ I m' st'') Kx Kr) : WC P N E (.loop c) ⟨fr, hp, ro⟩ Kn Kx Kr := by
  intro a w ok
  refine wp_loop_ghost (fun m a w => ∃ st, I m st ∧ Ok N E st a w) m ⟨st0, h0, ok.weak hw⟩ ?_
  rintro n a w ⟨st, hI, ok⟩
  refine wp_mono (hr n st hI a w ok) fun e a w q => ?_
  cases e with
  | normal =>
    obtain ⟨st', ⟨m', st'', h1, h2, h3⟩, ok'⟩ := q
    exact ⟨m', h1, st'', h3, ok'.weak h2⟩
  | _ => exact q
theorem wc_loop' {c : Code} (I : Nat → St → Prop) {m : Nat} {st0 : St} (h0 : I m st0) (hw : Wk ⟨fr, hp, ro⟩ st0)
    (hr : ∀ m st, I m st → WC P N E c st (fun st' => ∃ m' st'', m' < m ∧ Wk st' st'' ∧ I m' st'') Kx Kr) : WC P N E (.loop c) ⟨fr, hp, ro⟩ Kn Kx Kr := by
  intro a w ok
  exact wc_loop I m st0 hw h0 hr a w ok
/-- a sequence, with a relation between: where ways meet again -/
theorem wc_cut {x y : Code} (J : St → Prop) (h : WC P N E x ⟨fr, hp, ro⟩ (fun st' => ∃ st'', Wk st' st'' ∧ J st'') Kx Kr) (hy : ∀ st', J st' → WC P N E y st' Kn Kx Kr) : WC P N E (.seq x y) ⟨fr, hp, ro⟩ Kn Kx Kr := fun a w ok =>
  wp_seq (Code.wp_mono (fun e a w q => by
    cases e with
    | normal => obtain ⟨st', ⟨st'', h1, h2⟩, ok'⟩ := q; exact hy st'' h2 a w (ok'.weak h1)
    | _ => exact q) (h a w ok))

/-! ### operations -/
def gslot (ops : Array Oper) (j : Nat) : Option Nat := (ops[j]?).bind (·.dst)
theorem yielded_of {ops : Array Oper} {a : Act} {fr : List (Nat × Value)} {j s : Nat} {b : Bool} (h : Holds N fr a) (hg : gslot ops j = some s) (hs : fget fr s = some (.bool b)) : yielded ops a.tmps j = some b := by
  unfold gslot at hg
  unfold yielded
  rw [hg]
  simp [h.slot s _ hs]
theorem yielded_undef {ops : Array Oper} {a : Act} {fr : List (Nat × Value)} {j s : Nat} (h : Holds N fr a) (hg : gslot ops j = some s) (hs : fget fr s = some undef) : yielded ops a.tmps j = none := by
  unfold gslot at hg
  unfold yielded
  rw [hg]
  simp [h.slot s _ hs, undef]
variable {ops : Array Oper} {rest : List Oper} {dst : Option Tmp} {op : Op} {ty : TypeId} {pos : String} {af : Array Edge}
theorem wo_nil (h : Kn ⟨fr, hp, ro⟩) : WO P N E ops [] ⟨fr, hp, ro⟩ Kn := fun _ hQ a w ok => hQ ⟨fr, hp, ro⟩ a w h ok
theorem wo_run {j s : Nat} {b : Bool} (hg : gslot ops j = some s) (hs : fget fr s = some (.bool b)) (h : WO P N E ops (⟨dst, op, ty, pos, af, none⟩ :: rest) ⟨fr, hp, ro⟩ Kn) :
    WO P N E ops (⟨dst, op, ty, pos, af, some (j, b)⟩ :: rest) ⟨fr, hp, ro⟩ Kn := by
  intro Q hQ a w ok
  have h1 := h Q hQ a w ok
  unfold wpList at h1 ⊢
  rw [if_pos (by simp [Region.wanted])] at h1
  rw [if_pos (by simp [Region.wanted, yielded_of ok.h hg hs])]
  exact h1
theorem wo_skip {j s d : Nat} {b c : Bool} (hg : gslot ops j = some s) (hs : fget fr s = some (.bool b)) (hb : (b == c) = false) (hd : Nat.ble (d + 1) N = true) (h : WO P N E ops rest ⟨(d, undef) :: fr, hp, ro⟩ Kn) :
    WO P N E ops (⟨some d, op, ty, pos, af, some (j, c)⟩ :: rest) ⟨fr, hp, ro⟩ Kn := by
  intro Q hQ a w ok
  unfold wpList
  rw [if_neg (by simp [Region.wanted, yielded_of ok.h hg hs]; simpa using hb)]
  exact h Q hQ _ w ⟨ok.h.put (Nat.le_of_ble_eq_true hd) _, ok.s⟩
theorem wo_skip_u {j s d : Nat} {c : Bool} (hg : gslot ops j = some s) (hs : fget fr s = some undef) (hd : Nat.ble (d + 1) N = true) (h : WO P N E ops rest ⟨(d, undef) :: fr, hp, ro⟩ Kn) :
    WO P N E ops (⟨some d, op, ty, pos, af, some (j, c)⟩ :: rest) ⟨fr, hp, ro⟩ Kn := by
  intro Q hQ a w ok
  unfold wpList
  rw [if_neg (by simp [Region.wanted, yielded_undef ok.h hg hs])]
  exact h Q hQ _ w ⟨ok.h.put (Nat.le_of_ble_eq_true hd) _, ok.s⟩
theorem wo_dec {s : Nat} {p : Prop} [Decidable p] (hs : fget fr s = some (.bool (decide p))) (ht : p → WO P N E ops rest ⟨(s, .bool true) :: fr, hp, ro⟩ Kn) (hf : ¬p → WO P N E ops rest ⟨(s, .bool false) :: fr, hp, ro⟩ Kn) :
    WO P N E ops rest ⟨fr, hp, ro⟩ Kn := by
  intro Q hQ a w ok
  by_cases hpp : p
  · exact ht hpp Q hQ a w ⟨ok.h.same hs (by simp [hpp]), ok.s⟩
  · exact hf hpp Q hQ a w ⟨ok.h.same hs (by simp [hpp]), ok.s⟩
theorem wo_gt {j s : Nat} {c : Bool} {p : Prop} [Decidable p] (hg : gslot ops j = some s) (hs : fget fr s = some (.bool (decide p))) (hpp : p) (h : WO P N E ops (⟨dst, op, ty, pos, af, some (j, c)⟩ :: rest) ⟨(s, .bool true) :: fr, hp, ro⟩ Kn) :
    WO P N E ops (⟨dst, op, ty, pos, af, some (j, c)⟩ :: rest) ⟨fr, hp, ro⟩ Kn := wo_dec hs (fun _ => h) (fun hn => absurd hpp hn)
theorem wo_gf {j s : Nat} {c : Bool} {p : Prop} [Decidable p] (hg : gslot ops j = some s) (hs : fget fr s = some (.bool (decide p))) (hpp : ¬p) (h : WO P N E ops (⟨dst, op, ty, pos, af, some (j, c)⟩ :: rest) ⟨(s, .bool false) :: fr, hp, ro⟩ Kn) :
    WO P N E ops (⟨dst, op, ty, pos, af, some (j, c)⟩ :: rest) ⟨fr, hp, ro⟩ Kn := wo_dec hs (fun h => absurd h hpp) (fun _ => h)
theorem wo_gs {j s : Nat} {c : Bool} {p : Prop} [Decidable p] (hg : gslot ops j = some s) (hs : fget fr s = some (.bool (decide p))) (ht : p → WO P N E ops (⟨dst, op, ty, pos, af, some (j, c)⟩ :: rest) ⟨(s, .bool true) :: fr, hp, ro⟩ Kn)
    (hf : ¬p → WO P N E ops (⟨dst, op, ty, pos, af, some (j, c)⟩ :: rest) ⟨(s, .bool false) :: fr, hp, ro⟩ Kn) : WO P N E ops (⟨dst, op, ty, pos, af, some (j, c)⟩ :: rest) ⟨fr, hp, ro⟩ Kn := wo_dec hs ht hf
theorem wo_gb {j s : Nat} {b c : Bool} (hg : gslot ops j = some s) (hs : fget fr s = some (.bool b)) (ht : b = true → WO P N E ops (⟨dst, op, ty, pos, af, some (j, c)⟩ :: rest) ⟨(s, .bool true) :: fr, hp, ro⟩ Kn)
    (hf : b = false → WO P N E ops (⟨dst, op, ty, pos, af, some (j, c)⟩ :: rest) ⟨(s, .bool false) :: fr, hp, ro⟩ Kn) : WO P N E ops (⟨dst, op, ty, pos, af, some (j, c)⟩ :: rest) ⟨fr, hp, ro⟩ Kn := by
  cases b
  · exact fun Q hQ a w ok => hf rfl Q hQ a w ⟨ok.h.same hs rfl, ok.s⟩
  · exact fun Q hQ a w ok => ht rfl Q hQ a w ⟨ok.h.same hs rfl, ok.s⟩
theorem wo_val {d : Nat} {v : Value} (hv : Pv P ⟨fr, hp, ro⟩ op v) (hd : Nat.ble (d + 1) N = true) (h : WO P N E ops rest ⟨(d, v) :: fr, hp, ro⟩ Kn) :
    WO P N E ops (⟨some d, op, ty, pos, af, none⟩ :: rest) ⟨fr, hp, ro⟩ Kn := by
  intro Q hQ a w ok
  unfold wpList
  rw [if_pos (by simp [Region.wanted])]
  refine .inl ?_
  unfold Oper.wp
  rw [hv N E a w (some d) ty pos af none ok]
  exact h Q hQ _ w ⟨ok.h.put (Nat.le_of_ble_eq_true hd) _, ok.s⟩
theorem wo_v {d : Nat} {v : Value} (hd : Nat.ble (d + 1) N = true) (hv : Pv P ⟨fr, hp, ro⟩ op v) (h : WO P N E ops rest ⟨(d, v) :: fr, hp, ro⟩ Kn) :
    WO P N E ops (⟨some d, op, ty, pos, af, none⟩ :: rest) ⟨fr, hp, ro⟩ Kn := wo_val hv hd h
def opdL (fr : List (Nat × Value)) : List Operand → Option (List Value)
  | [] => some []
  | x :: l => match opd fr x, opdL fr l with
    | some v, some vs => some (v :: vs)
    | _, _ => none
theorem Holds.evalL {fr : List (Nat × Value)} {a : Act} (h : Holds N fr a) : ∀ {l : List Operand} {vs : List Value}, opdL fr l = some vs → l.map a.eval = vs
  | [], vs, e => by simpa [opdL] using e
  | x :: l, vs, e => by
    unfold opdL at e
    split at e
    · rename_i v vs' h1 h2
      simp only [Option.some.injEq] at e
      subst e
      simp [h.eval h1, h.evalL h2]
    · cases e
def putF (dst : Option Nat) (v : Value) (fr : List (Nat × Value)) : List (Nat × Value) := match dst with | some d => (d, v) :: fr | none => fr
def dstOk (dst : Option Nat) (N : Nat) : Bool := match dst with | some d => Nat.ble (d + 1) N | none => true
theorem Holds.putF {fr : List (Nat × Value)} {a : Act} (h : Holds N fr a) (hd : dstOk dst N = true) (v : Value) : Holds N (putF dst v fr) (a.put dst v) := by
  cases dst with
  | none => exact h
  | some d => exact h.put (Nat.le_of_ble_eq_true hd) v
theorem blks_mem {ro : List Ro} : ∀ b ∈ ([] : List Nat), b ∈ blks ro := by intro b hb; cases hb
/-- an operation that turns the items L into others, and yields a value -/
theorem wo_eff {L F : List It} (hs : hp.Perm (L ++ F)) (hd : dstOk dst N = true)
    (h : ∀ (a : Act) (w : World), Ok N E ⟨fr, hp, ro⟩ a w → ∃ v L' w', (execOp a.eval ⟨dst, op, ty, pos, af, none⟩).run P w = .ok (.value v) w' ∧ Sat w (feet L) [] L' [] w' ∧
      WO P N E ops rest ⟨putF dst v fr, L' ++ F, ro⟩ Kn) : WO P N E ops (⟨dst, op, ty, pos, af, none⟩ :: rest) ⟨fr, hp, ro⟩ Kn := by
  intro Q hQ a w ok
  unfold wpList
  rw [if_pos (by simp [Region.wanted])]
  refine .inl ?_
  obtain ⟨v, L', w', hr, hS, hK⟩ := h a w ok
  unfold Oper.wp
  rw [hr]
  exact hK Q hQ _ w' ⟨ok.h.putF hd v, ok.s.step hs blks_mem hS⟩
theorem wo_eff_skip {L F : List It} (hs : hp.Perm (L ++ F)) (hd : dstOk dst N = true)
    (h : ∀ (a : Act) (w : World), Ok N E ⟨fr, hp, ro⟩ a w → ∃ L' w', (execOp a.eval ⟨dst, op, ty, pos, af, none⟩).run P w = .ok .skip w' ∧ Sat w (feet L) [] L' [] w' ∧
      WO P N E ops rest ⟨putF dst undef fr, L' ++ F, ro⟩ Kn) : WO P N E ops (⟨dst, op, ty, pos, af, none⟩ :: rest) ⟨fr, hp, ro⟩ Kn := by
  intro Q hQ a w ok
  unfold wpList
  rw [if_pos (by simp [Region.wanted])]
  refine .inl ?_
  obtain ⟨L', w', hr, hS, hK⟩ := h a w ok
  unfold Oper.wp
  rw [hr]
  exact hK Q hQ _ w' ⟨ok.h.putF hd _, ok.s.step hs blks_mem hS⟩

theorem enter_of {f : FuncId} {fn : Func} (hf : P.funcs[f]? = some fn) (hb : fn.body.isSome = true) (hn : fn.name ≠ "runtime.NumGoroutine") {a : Act} {l : List Operand} {ats : Array TypeId} {g : Option (Nat × Bool)} (w : World) :
    (execOp a.eval ⟨dst, .call ⟨.value (.func f), l.toArray, ats⟩, ty, pos, af, g⟩).run P w = .ok (.enter f (l.map a.eval).toArray) w := by
  have hb' : fn.body.isNone = false := by cases h : fn.body <;> simp_all
  simp [execOp, resolve, Deferred.ofValue, Act.eval, invoke, callFunc, hf, hn, hb', go_sem]
  intro h0; rw [h0] at hb; cases hb
/-- a function that has a body: what a call of it needs to know -/
class HasBody (P : Program) (f : FuncId) : Prop where
  h : (match P.funcs[f]? with | some fn => fn.body.isSome && !(fn.name == "runtime.NumGoroutine") | none => false) = true
theorem HasBody.enter {f : FuncId} [hf : HasBody P f] {a : Act} {l : List Operand} {ats : Array TypeId} {g : Option (Nat × Bool)} (w : World) :
    (execOp a.eval ⟨dst, .call ⟨.value (.func f), l.toArray, ats⟩, ty, pos, af, g⟩).run P w = .ok (.enter f (l.map a.eval).toArray) w := by
  have h := hf.h
  split at h
  · rename_i fn hfn
    simp only [Bool.and_eq_true, Bool.not_eq_true', beq_eq_false_iff_ne] at h
    exact enter_of hfn h.1 h.2 w
  · cases h
theorem wo_call {f : FuncId} [HasBody P f] {vs : List Value} {L F : List It} {R : List Ro} {Post : Value → List It → List Ro → Prop} {l : List Operand} {ats : Array TypeId}
    (hF : Fn P f vs.toArray L R Post) (ha : opdL fr l = some vs) (hs : hp.Perm (L ++ F)) (hr : ∀ r ∈ R, r ∈ ro) (hd : dstOk dst N = true)
    (h : ∀ v L' R', Post v L' R' → ∀ H, H = L' ++ F → ∀ RR, RR = R' ++ ro → WO P N E ops rest ⟨putF dst v fr, H, RR⟩ Kn) :
    WO P N E ops (⟨dst, .call ⟨.value (.func f), l.toArray, ats⟩, ty, pos, af, none⟩ :: rest) ⟨fr, hp, ro⟩ Kn := by
  intro Q hQ a w ok
  unfold wpList
  rw [if_pos (by simp [Region.wanted])]
  refine .inl ?_
  unfold Oper.wp
  rw [HasBody.enter w, ok.h.evalL ha]
  refine (hF w (ok.s.start hs hr)).mono fun e w' ⟨v, L', R', he, hP, hS⟩ => ?_
  subst he
  exact h v L' R' hP _ rfl _ rfl Q hQ _ w' ⟨ok.h.putF hd v, ok.s.step hs (fun b hb => by
    obtain ⟨r, h1, h2⟩ := mem_blks.1 hb; exact mem_blks.2 ⟨r, hr r h1, h2⟩) hS⟩

/-! ### regions that draw their order -/
end
inductive Hd (P : Program) (N : Nat) (calls : Bool) (ops : Array Oper) (hp : List It) (ro : List Ro) (K : List (Nat × Value) → Prop) : List Oper → List (Nat × Value) → Prop
  | nil {fr : List (Nat × Value)} (h : K fr) : Hd P N calls ops hp ro K [] fr
  | val {fr : List (Nat × Value)} {op ty pos af rest d v} (hv : Pv P ⟨fr, hp, ro⟩ op v) (hd : Nat.ble (d + 1) N = true) (h : Hd P N calls ops hp ro K rest ((d, v) :: fr)) : Hd P N calls ops hp ro K (⟨some d, op, ty, pos, af, none⟩ :: rest) fr
  | call {fr : List (Nat × Value)} {f ty pos af rest d v vs L F R l ats} (hc : calls = true) (hb : HasBody P f) (hF : Fn P f (List.toArray vs) L R (fun v' L' _ => v' = v ∧ L' = L)) (ha : opdL fr l = some vs) (hs : hp.Perm (L ++ F))
      (hr : ∀ r ∈ R, r ∈ ro) (hd : Nat.ble (d + 1) N = true) (h : Hd P N calls ops hp ro K rest ((d, v) :: fr)) : Hd P N calls ops hp ro K (⟨some d, .call ⟨.value (.func f), l.toArray, ats⟩, ty, pos, af, none⟩ :: rest) fr
  | run {fr : List (Nat × Value)} {dst op ty pos af rest j s b} (hg : gslot ops j = some s) (hs : fget fr s = some (.bool b)) (h : Hd P N calls ops hp ro K (⟨dst, op, ty, pos, af, none⟩ :: rest) fr) :
      Hd P N calls ops hp ro K (⟨dst, op, ty, pos, af, some (j, b)⟩ :: rest) fr
  | skip {fr : List (Nat × Value)} {d op ty pos af rest j s b c} (hg : gslot ops j = some s) (hs : fget fr s = some (.bool b)) (hb : (b == c) = false) (hd : Nat.ble (d + 1) N = true) (h : Hd P N calls ops hp ro K rest ((d, undef) :: fr)) :
      Hd P N calls ops hp ro K (⟨some d, op, ty, pos, af, some (j, c)⟩ :: rest) fr
  | skipu {fr : List (Nat × Value)} {d op ty pos af rest j s c} (hg : gslot ops j = some s) (hs : fget fr s = some undef) (hd : Nat.ble (d + 1) N = true) (h : Hd P N calls ops hp ro K rest ((d, undef) :: fr)) :
      Hd P N calls ops hp ro K (⟨some d, op, ty, pos, af, some (j, c)⟩ :: rest) fr
  | dec {fr : List (Nat × Value)} {rest s} {p : Prop} [Decidable p] (hs : fget fr s = some (.bool (decide p))) (ht : p → Hd P N calls ops hp ro K rest ((s, .bool true) :: fr)) (hf : ¬p → Hd P N calls ops hp ro K rest ((s, .bool false) :: fr)) :
      Hd P N calls ops hp ro K rest fr

section
variable {P : Program} {N : Nat} {E : Env} {fr : List (Nat × Value)} {hp : List It} {ro : List Ro} {Kn Kr : St → Prop} {Kx : List (Nat × (St → Prop))} {ops : Array Oper} {rest : List Oper} {dst : Option Tmp} {op : Op} {ty : TypeId} {pos : String} {af : Array Edge}
section
variable {calls : Bool} {hp : List It} {ro : List Ro} {K : List (Nat × Value) → Prop} {fr : List (Nat × Value)} {j s : Nat} {c : Bool} {p : Prop} [Decidable p]
theorem hd_v {d : Nat} {v : Value} (hd : Nat.ble (d + 1) N = true) (hv : Pv P ⟨fr, hp, ro⟩ op v) (h : Hd P N calls ops hp ro K rest ((d, v) :: fr)) : Hd P N calls ops hp ro K (⟨some d, op, ty, pos, af, none⟩ :: rest) fr := .val hv hd h
theorem hd_gt (hg : gslot ops j = some s) (hs : fget fr s = some (.bool (decide p))) (hp' : p) (h : Hd P N calls ops hp ro K (⟨dst, op, ty, pos, af, some (j, c)⟩ :: rest) ((s, .bool true) :: fr)) : Hd P N calls ops hp ro K (⟨dst, op, ty, pos, af, some (j, c)⟩ :: rest) fr :=
  .dec hs (fun _ => h) (fun hn => absurd hp' hn)
theorem hd_gf (hg : gslot ops j = some s) (hs : fget fr s = some (.bool (decide p))) (hp' : ¬p) (h : Hd P N calls ops hp ro K (⟨dst, op, ty, pos, af, some (j, c)⟩ :: rest) ((s, .bool false) :: fr)) : Hd P N calls ops hp ro K (⟨dst, op, ty, pos, af, some (j, c)⟩ :: rest) fr :=
  .dec hs (fun h => absurd h hp') (fun _ => h)
theorem hd_gs (hg : gslot ops j = some s) (hs : fget fr s = some (.bool (decide p))) (ht : p → Hd P N calls ops hp ro K (⟨dst, op, ty, pos, af, some (j, c)⟩ :: rest) ((s, .bool true) :: fr))
    (hf : ¬p → Hd P N calls ops hp ro K (⟨dst, op, ty, pos, af, some (j, c)⟩ :: rest) ((s, .bool false) :: fr)) : Hd P N calls ops hp ro K (⟨dst, op, ty, pos, af, some (j, c)⟩ :: rest) fr := .dec hs ht hf
theorem hd_gb {b : Bool} (hg : gslot ops j = some s) (hs : fget fr s = some (.bool b)) (ht : b = true → Hd P N calls ops hp ro K (⟨dst, op, ty, pos, af, some (j, c)⟩ :: rest) ((s, .bool true) :: fr))
    (hf : b = false → Hd P N calls ops hp ro K (⟨dst, op, ty, pos, af, some (j, c)⟩ :: rest) ((s, .bool false) :: fr)) : Hd P N calls ops hp ro K (⟨dst, op, ty, pos, af, some (j, c)⟩ :: rest) fr :=
  .dec (p := b = true) (by rw [hs]; cases b <;> rfl) ht (fun h => hf (by simpa using h))
end
theorem Sat.same {B : World} {S T : List Nat} {hp L F : List It} {ro R : List Ro} {w w' : World} {R' : List Ro} (h : Sat B S T hp ro w) (hs : hp.Perm (L ++ F)) (hr : ∀ r ∈ R, r ∈ ro) (h' : Sat w (feet L) (blks R) L R' w') : Sat B S T hp ro w' :=
  ((h.step hs (fun b hb => by obtain ⟨r, h1, h2⟩ := mem_blks.1 hb; exact mem_blks.2 ⟨r, hr r h1, h2⟩) h').some_ro (fun r hr => List.mem_append_right _ hr)).perm hs.symm
theorem Hd.quiet {calls : Bool} {hp : List It} {ro : List Ro} {K : List (Nat × Value) → Prop} {l : List Oper} {fr : List (Nat × Value)} (h : Hd P N calls ops hp ro K l fr) (E : Env) {D : Act → Prop}
    (hD : ∀ fr a, K fr → Holds N fr a → D a) : ∀ a, Holds N fr a → wpQuiet P ops (Sat E.B E.S E.T hp ro) D l a := by
  induction h with
  | nil h => exact fun a ha => hD _ a h ha
  | val hv hd _ ih =>
    intro a ha
    unfold wpQuiet
    rw [if_pos (by simp [Region.wanted])]
    refine ⟨_, fun w hw => ?_, ih _ (ha.put (Nat.le_of_ble_eq_true hd) _)⟩
    unfold Oper.quietAt
    rw [hv N E a w _ _ _ _ _ ⟨ha, hw⟩]
    exact ⟨rfl, rfl⟩
  | call hc hb hF ha' hs hr hd _ ih =>
    intro a ha
    unfold wpQuiet
    rw [if_pos (by simp [Region.wanted])]
    refine ⟨_, fun w hw => ?_, ih _ (ha.put (Nat.le_of_ble_eq_true hd) _)⟩
    unfold Oper.quietAt
    rw [hb.enter w, ha.evalL ha']
    refine ⟨rfl, (hF w (hw.start hs hr)).mono fun e w' ⟨v, L', R', he, hP, hS⟩ => ?_⟩
    obtain ⟨rfl, rfl⟩ := hP
    exact ⟨he, hw.same hs hr hS⟩
  | run hg hs _ ih =>
    intro a ha
    have h1 := ih a ha
    unfold wpQuiet at h1 ⊢
    rw [if_pos (by simp [Region.wanted])] at h1
    rw [if_pos (by simp [Region.wanted, yielded_of ha hg hs])]
    exact h1
  | skip hg hs hb hd _ ih =>
    intro a ha
    unfold wpQuiet
    rw [if_neg (by simp [Region.wanted, yielded_of ha hg hs]; simpa using hb)]
    exact ih _ (ha.put (Nat.le_of_ble_eq_true hd) _)
  | skipu hg hs hd _ ih =>
    intro a ha
    unfold wpQuiet
    rw [if_neg (by simp [Region.wanted, yielded_undef ha hg hs])]
    exact ih _ (ha.put (Nat.le_of_ble_eq_true hd) _)
  | @dec fr rest s p _ hs _ _ iht ihf =>
    intro a ha
    by_cases hp : p
    · exact iht hp a (ha.same hs (by simp [hp]))
    · exact ihf hp a (ha.same hs (by simp [hp]))
theorem Hd.still {hp : List It} {ro : List Ro} {K : List (Nat × Value) → Prop} {l : List Oper} {fr : List (Nat × Value)} (h : Hd P N false ops hp ro K l fr) (E : Env) {D : Act → Prop}
    (hD : ∀ fr a, K fr → Holds N fr a → D a) (w : World) (hw : Sat E.B E.S E.T hp ro w) : ∀ a, Holds N fr a → wpStill P ops w D l a := by
  induction h with
  | nil h => exact fun a ha => hD _ a h ha
  | val hv hd _ ih =>
    intro a ha
    unfold wpStill
    rw [if_pos (by simp [Region.wanted])]
    unfold Oper.still
    rw [hv N E a w _ _ _ _ _ ⟨ha, hw⟩]
    exact ⟨rfl, ih _ (ha.put (Nat.le_of_ble_eq_true hd) _)⟩
  | call hc => cases hc
  | run hg hs _ ih =>
    intro a ha
    have h1 := ih a ha
    unfold wpStill at h1 ⊢
    rw [if_pos (by simp [Region.wanted])] at h1
    rw [if_pos (by simp [Region.wanted, yielded_of ha hg hs])]
    exact h1
  | skip hg hs hb hd _ ih =>
    intro a ha
    unfold wpStill
    rw [if_neg (by simp [Region.wanted, yielded_of ha hg hs]; simpa using hb)]
    exact ih _ (ha.put (Nat.le_of_ble_eq_true hd) _)
  | skipu hg hs hd _ ih =>
    intro a ha
    unfold wpStill
    rw [if_neg (by simp [Region.wanted, yielded_undef ha hg hs])]
    exact ih _ (ha.put (Nat.le_of_ble_eq_true hd) _)
  | @dec fr rest s p _ hs _ _ iht ihf =>
    intro a ha
    by_cases hp : p
    · exact iht hp a (ha.same hs (by simp [hp]))
    · exact ihf hp a (ha.same hs (by simp [hp]))
theorem wc_quiet {id : Nat} {l : List Oper} (hm : P.follows .mixedOrders = true) (hB : Region.lexB .any l.toArray = true) (h : Hd P N true l.toArray hp ro (fun fr => Kn ⟨fr, hp, ro⟩) l fr) :
    WC P N E (.region id l.toArray true) ⟨fr, hp, ro⟩ Kn Kx Kr := fun a w ok =>
  wp_region_quiet (C := Sat E.B E.S E.T hp ro) hm hB (ok.s.drawn _) (by
    simpa using h.quiet E (D := fun a' => ∀ w', Sat E.B E.S E.T hp ro w' → post N E Kn Kx Kr .normal a' w') (fun fr a hk ha w' hw' => ⟨_, hk, ha, hw'⟩) a ok.h)
theorem wc_tail {id : Nat} {l : List Oper} (n : Nat) (hm : P.follows .mixedOrders = true) (hB : Region.lexTailB .any l.toArray n = true)
    (h : Hd P N false l.toArray hp ro (fun fr => WO P N E l.toArray (l.drop n) ⟨fr, hp, ro⟩ Kn) (l.take n) fr) :
    WC P N E (.region id l.toArray true) ⟨fr, hp, ro⟩ Kn Kx Kr := fun a w ok =>
  wp_region_still_tail n hm hB (h.still E (fun fr a hk ha => hk _ (fun st' _ _ hk ok' => ⟨st', hk, ok'⟩) a _ ⟨ha, ok.s.drawn _⟩) _ (ok.s.drawn _) a ok.h)

/-! ### functions -/
def argf : Nat → List Value → List (Nat × Value)
  | _, [] => []
  | k, v :: l => (k, v) :: argf (k + 1) l
theorem fget_argf : ∀ (l : List Value) (k t : Nat) (v : Value), fget (argf k l) t = some v → k ≤ t ∧ l[t - k]? = some v
  | [], _, _, _, h => by cases h
  | u :: l, k, t, v, h => by
    unfold argf fget at h
    cases hb : Nat.beq k t with
    | true =>
      have he : k = t := Nat.eq_of_beq_eq_true hb
      rw [hb] at h
      simp only [cond_true, Option.some.injEq] at h
      subst he; subst h
      simp
    | false =>
      rw [hb] at h
      obtain ⟨h1, h2⟩ := fget_argf l (k + 1) t v h
      refine ⟨by omega, ?_⟩
      rw [show t - k = (t - (k + 1)) + 1 by omega]
      simpa using h2
def Res (P : Program) (fn : Func) (st : St) (v : Value) : Prop := ∀ (N : Nat) (E : Env) (a : Act) (w : World), Ok N E st a w → (results fn a.tmps).run P w = .ok v w
def Ret (P : Program) (fn : Func) (Post : Value → List It → List Ro → Prop) (st : St) : Prop :=
  ∃ v hp' ro', Res P fn st v ∧ (∃ F, st.hp.Perm (hp' ++ F)) ∧ (∀ r ∈ ro', r ∈ st.ro) ∧ Post v hp' ro'
theorem fn_intro {f : FuncId} {fn : Func} {c : Code} {vs : List Value} {L : List It} {R : List Ro} {Post : Value → List It → List Ro → Prop} (hf : P.funcs[f]? = some fn) (hb : fn.body = some c) (hN : fn.ntmps = N)
    (ha : Nat.ble vs.length N = true) (h : ∀ E : Env, WC P N E c ⟨argf 0 vs, L, R⟩ (Ret P fn Post) [] (Ret P fn Post)) : Fn P f vs.toArray L R Post := by
  intro w hw
  have hle := Nat.le_of_ble_eq_true ha
  refine calls_of_wp hf hb (Code.wp_mono (fun e a w' q => ?_) (h ⟨w, feet L, blks R⟩ _ w ⟨⟨rfl, ?_, ?_⟩, hw⟩))
  · have key : ∀ st, Ret P fn Post st → Ok N ⟨w, feet L, blks R⟩ st a w' → a.defers = [] ∧ ∃ v, (results fn a.tmps).run P w' = .ok v w' ∧ ∃ v' L' R', Ending.returned v = .returned v' ∧ Post v' L' R' ∧ Sat w (feet L) (blks R) L' R' w' := by
      rintro st ⟨v, hp', ro', h1, ⟨F, h2⟩, h3, h4⟩ ok
      exact ⟨ok.h.defers, v, h1 N _ a w' ok, v, hp', ro', rfl, h4, ((ok.s.perm h2).left).some_ro h3⟩
    cases e with
    | normal => obtain ⟨st, h1, ok⟩ := q; exact key st h1 ok
    | ret => obtain ⟨st, h1, ok⟩ := q; exact key st h1 ok
    | exit id => obtain ⟨st, K, hl, _⟩ := q; cases hl
    | _ => exact False.elim q
  · simp [hN]; omega
  · intro t v ht
    obtain ⟨_, h2⟩ := fget_argf vs 0 t v ht
    have hlt : t < vs.length := (List.getElem?_eq_some_iff.1 h2).1
    rw [Array.getElem?_append_left (by simpa using hlt)]
    simpa using h2
theorem Fn.mono {f : FuncId} {args : Array Value} {L : List It} {R : List Ro} {Post Post' : Value → List It → List Ro → Prop} (h : Fn P f args L R Post) (hp : ∀ v L' R', Post v L' R' → Post' v L' R') : Fn P f args L R Post' :=
  fun w hw => (h w hw).mono fun _ _ ⟨v, L', R', h1, h2, h3⟩ => ⟨v, L', R', h1, hp _ _ _ h2, h3⟩

theorem sub_nil {hp : List It} : hp.Perm ([] ++ hp) := .refl _
theorem sub_cons {hp hp1 L F : List It} {x : It} (hs : hp.Perm (x :: hp1)) (h : hp1.Perm (L ++ F)) : hp.Perm ((x :: L) ++ F) := hs.trans (h.cons x)
theorem sel_here {x : It} {l : List It} : (x :: l).Perm (x :: l) := .refl _
theorem sel_there {x y : It} {l l' : List It} (h : l.Perm (x :: l')) : (y :: l).Perm (x :: y :: l') := (h.cons y).trans (.swap x y l')

section
variable {fn : Func} {Post : Value → List It → List Ro → Prop} {hp' F : List It} {ro' : List Ro}
theorem ret0 (hr : fn.results = #[]) (hP : Post (.tuple #[]) hp' ro') (hpm : hp.Perm (hp' ++ F)) (ho : ∀ r ∈ ro', r ∈ ro) : Ret P fn Post ⟨fr, hp, ro⟩ :=
  ⟨_, hp', ro', fun _ _ _ w _ => results_none hr _ _ w, ⟨F, hpm⟩, ho, hP⟩
theorem ret1 {r : Nat} {v : Value} (hr : fn.results = #[.tmp r]) (hv : fget fr r = some v) (hP : Post v hp' ro') (hpm : hp.Perm (hp' ++ F)) (ho : ∀ r ∈ ro', r ∈ ro) : Ret P fn Post ⟨fr, hp, ro⟩ :=
  ⟨_, hp', ro', fun _ _ _ w ok => by rw [results_tmp hr, ok.h.tmp hv], ⟨F, hpm⟩, ho, hP⟩
theorem ret2 {r s : Nat} {v u : Value} (hr : fn.results = #[.tmp r, .tmp s]) (hv : fget fr r = some v) (hu : fget fr s = some u) (hP : Post (.tuple #[v, u]) hp' ro') (hpm : hp.Perm (hp' ++ F)) (ho : ∀ r ∈ ro', r ∈ ro) : Ret P fn Post ⟨fr, hp, ro⟩ :=
  ⟨_, hp', ro', fun _ _ _ w ok => by rw [results_tmp2 hr, ok.h.tmp hv, ok.h.tmp hu], ⟨F, hpm⟩, ho, hP⟩
theorem ret3 {r s t : Nat} {v u x : Value} (hr : fn.results = #[.tmp r, .tmp s, .tmp t]) (hv : fget fr r = some v) (hu : fget fr s = some u) (hx : fget fr t = some x) (hP : Post (.tuple #[v, u, x]) hp' ro') (hpm : hp.Perm (hp' ++ F)) (ho : ∀ r ∈ ro', r ∈ ro) : Ret P fn Post ⟨fr, hp, ro⟩ :=
  ⟨_, hp', ro', fun _ _ _ w ok => by simp [results, hr, -Array.getD_eq_getD_getElem?, ok.h.tmp hv, ok.h.tmp hu, ok.h.tmp hx], ⟨F, hpm⟩, ho, hP⟩
end
end
end Go.Proofs.Ytlhlidmhlhodiaa

/-
  Sparse frames: the operations that yield a value and leave the world alone. No program in sight.
-/
namespace Go.Proofs.Ytlhlidmhlhodiaa
set_option linter.unusedSimpArgs false
set_option linter.unusedVariables false
open Go.RowKit

/-! ## what a program's types are -/
def plainD : TypeDesc → Bool
  | .struct _ => false
  | .array _ _ => false
  | _ => true
def oneB (P : Program) (T : TypeId) : Bool := match P.underlying T with
  | none => false
  | some d => match P.info? T with
    | none => false
    | some i => plainD d && i.size == 1
def aggB (P : Program) (T : TypeId) : Option Nat := match P.underlying T, P.info? T with
  | some (.struct _), some i | some (.array _ _), some i => some i.size
  | _, _ => none
def foB (P : Program) (T i : Nat) : Option (Nat × Nat) := match P.underlying T with
  | some (.struct fs) => match fs[i]? with
    | some f => match P.info? f.type with
      | some inf => if inf.size = 0 then none else some (f.offset, inf.size)
      | none => none
    | none => none
  | _ => none
def slB (P : Program) (T : TypeId) : Option (TypeId × Nat × Nat) := match P.underlying T with
  | some (.slice e) => match P.info? e with
    | some i => match i.zero with
      | some z => if z.cells.size = i.size ∧ 0 < i.size then some (e, i.size, i.bytes) else none
      | none => none
    | none => none
  | _ => none
def arB (P : Program) (T : TypeId) : Option (Nat × TypeId × Nat) := match P.underlying T with
  | some (.array n e) => match P.info? e with
    | some i => some (n, e, i.size)
    | none => none
  | _ => none
def zeB (P : Program) (T : TypeId) : Option (List Value) := match P.info? T with
  | some i => i.zero.map (·.cells.toList)
  | none => none
class TOne (P : Program) (T : TypeId) : Prop where h : oneB P T = true
class TAgg (P : Program) (T : TypeId) (n : outParam Nat) : Prop where h : aggB P T = some n
class FS (P : Program) (T i : Nat) (off sz : outParam Nat) : Prop where h : foB P T i = some (off, sz)
class TSl (P : Program) (T : TypeId) (e sz by_ : outParam Nat) : Prop where h : slB P T = some (e, sz, by_)
class TAr (P : Program) (T : TypeId) (n e sz : outParam Nat) : Prop where h : arB P T = some (n, e, sz)
class TZ (P : Program) (T : TypeId) (z : outParam (List Value)) : Prop where h : zeB P T = some z
class TInt (P : Program) (T : TypeId) (k : outParam IntKind) : Prop where h : P.underlying T = some (.int k)
class TBool (P : Program) (T : TypeId) : Prop where h : P.underlying T = some .bool
class TStr (P : Program) (T : TypeId) : Prop where h : P.underlying T = some .string
class TPtr (P : Program) (T : TypeId) (e : outParam TypeId) : Prop where h : P.underlying T = some (.pointer e)
class KB (k : IntKind) (lo hi : outParam Int) : Prop where h : ∀ n, lo ≤ n → n ≤ hi → k.wrap n = n
class KU (k : IntKind) (m : outParam Int) : Prop where h : ∀ n, k.wrap n = n % m
instance : KB .i8 (-128) 127 := ⟨fun n a b => IntWalk.i8_in n ⟨a, b⟩⟩
instance : KB .i16 (-32768) 32767 := ⟨fun n a b => IntWalk.i16_in n ⟨a, b⟩⟩
instance : KB .i32 (-2147483648) 2147483647 := ⟨fun n a b => IntWalk.i32_in n ⟨a, b⟩⟩
instance : KB .i64 (-9223372036854775808) 9223372036854775807 := ⟨fun n a b => IntWalk.i64_in n ⟨a, b⟩⟩
instance : KB .u8 0 255 := ⟨fun n a b => IntWalk.u8_in n ⟨a, b⟩⟩
instance : KB .u16 0 65535 := ⟨fun n a b => IntWalk.u16_in n ⟨a, b⟩⟩
instance : KB .u32 0 4294967295 := ⟨fun n a b => IntWalk.u32_in n ⟨a, b⟩⟩
instance : KB .u64 0 18446744073709551615 := ⟨fun n a b => IntWalk.u64_in n ⟨a, b⟩⟩
instance : KU .u8 256 := ⟨IntKind.wrap_u8⟩
instance : KU .u16 65536 := ⟨IntKind.wrap_u16⟩
instance : KU .u32 4294967296 := ⟨IntKind.wrap_u32⟩
instance : KU .u64 18446744073709551616 := ⟨IntKind.wrap_u64⟩

section
variable {P : Program} {T : TypeId} {w : World}
theorem one_und (h : oneB P T = true) : ∃ d i, P.underlying T = some d ∧ P.info? T = some i ∧ i.size = 1 ∧ plainD d = true := by
  unfold oneB at h
  split at h <;> first | (exfalso; revert h; simp; done) | skip
  rename_i d h1
  split at h <;> first | (exfalso; revert h; simp; done) | skip
  rename_i i h2
  simp only [Bool.and_eq_true, beq_iff_eq] at h
  exact ⟨d, i, h1, h2, h.2, h.1⟩
theorem run_isAgg_one [h : TOne P T] : (isAgg T).run P w = .ok false w := by
  obtain ⟨d, i, h1, h2, h3, h4⟩ := one_und h.h
  simp only [isAgg, Sem.run_bind, run_underlying h1, Result.andThen_ok]
  cases d <;> first | rfl | cases h4
theorem run_sizeOf_one [h : TOne P T] : (sizeOf T).run P w = .ok 1 w := by
  obtain ⟨d, i, h1, h2, h3, _⟩ := one_und h.h
  simp [sizeOf, typeInfo, h2, h3, go_sem]
theorem agg_und {n : Nat} (h : aggB P T = some n) : ∃ d i, P.underlying T = some d ∧ P.info? T = some i ∧ i.size = n ∧ ((∃ f, d = .struct f) ∨ ∃ n e, d = .array n e) := by
  unfold aggB at h
  split at h <;> first | (exfalso; revert h; simp; done) | skip
  · rename_i h1 h2; exact ⟨_, _, h1, h2, Option.some.inj h, .inl ⟨_, rfl⟩⟩
  · rename_i h1 h2; exact ⟨_, _, h1, h2, Option.some.inj h, .inr ⟨_, _, rfl⟩⟩
theorem run_isAgg_agg {n : Nat} [h : TAgg P T n] : (isAgg T).run P w = .ok true w := by
  obtain ⟨d, i, h1, h2, h3, h4⟩ := agg_und h.h
  simp only [isAgg, Sem.run_bind, run_underlying h1, Result.andThen_ok]
  rcases h4 with ⟨f, rfl⟩ | ⟨m, e, rfl⟩ <;> rfl
theorem run_sizeOf_agg {n : Nat} [h : TAgg P T n] : (sizeOf T).run P w = .ok n w := by
  obtain ⟨d, i, h1, h2, h3, _⟩ := agg_und h.h
  simp [sizeOf, typeInfo, h2, h3, go_sem]
theorem fs_und {i off sz : Nat} (h : foB P T i = some (off, sz)) : ∃ fs f inf, P.underlying T = some (.struct fs) ∧ fs[i]? = some f ∧ P.info? f.type = some inf ∧ inf.size = sz ∧ f.offset = off ∧ 0 < sz := by
  unfold foB at h
  split at h <;> first | (exfalso; revert h; simp; done) | skip
  rename_i fs h1
  split at h <;> first | (exfalso; revert h; simp; done) | skip
  rename_i f h2
  split at h <;> first | (exfalso; revert h; simp; done) | skip
  rename_i inf h3
  split at h <;> first | (exfalso; revert h; simp; done) | skip
  rename_i h4
  simp only [Option.some.injEq, Prod.mk.injEq] at h
  exact ⟨fs, f, inf, h1, h2, h3, h.2, h.1, by omega⟩
theorem run_fieldAt {i off sz : Nat} [h : FS P T i off sz] (b o : Nat) : (Instr.fieldAt T (.pointer (some ⟨b, o, none⟩)) i).run P w = .ok (.pointer (some ⟨b, o + off, none⟩)) w := by
  obtain ⟨fs, f, inf, h1, h2, h3, h4, h5, h6⟩ := fs_und h.h
  have hne : inf.size ≠ 0 := by omega
  simp [Instr.fieldAt, run_underlying h1, h2, Instr.sureAddr, fieldPlace, sizeOf, typeInfo, h3, hne, h5, Addr.add_lit, go_sem]
theorem sl_und {e sz by_ : Nat} (h : slB P T = some (e, sz, by_)) : ∃ i z, P.underlying T = some (.slice e) ∧ P.info? e = some i ∧ i.zero = some z ∧ z.cells.size = sz ∧ i.size = sz ∧ i.bytes = by_ ∧ 0 < sz := by
  unfold slB at h
  split at h <;> first | (exfalso; revert h; simp; done) | skip
  rename_i e' h1
  split at h <;> first | (exfalso; revert h; simp; done) | skip
  rename_i i h2
  split at h <;> first | (exfalso; revert h; simp; done) | skip
  rename_i z h3
  split at h <;> first | (exfalso; revert h; simp; done) | skip
  rename_i h4
  simp only [Option.some.injEq, Prod.mk.injEq] at h
  obtain ⟨rfl, rfl, rfl⟩ := h
  exact ⟨i, z, h1, h2, h3, h4.1, rfl, rfl, h4.2⟩
theorem ar_und {n e sz : Nat} (h : arB P T = some (n, e, sz)) : ∃ i, P.underlying T = some (.array n e) ∧ P.info? e = some i ∧ i.size = sz := by
  unfold arB at h
  split at h <;> first | (exfalso; revert h; simp; done) | skip
  rename_i n' e' h1
  split at h <;> first | (exfalso; revert h; simp; done) | skip
  rename_i i h2
  simp only [Option.some.injEq, Prod.mk.injEq] at h
  obtain ⟨rfl, rfl, rfl⟩ := h
  exact ⟨i, h1, h2, rfl⟩
theorem ze_und {z : List Value} (h : zeB P T = some z) : ∃ i v, P.info? T = some i ∧ i.zero = some v ∧ v.cells.toList = z := by
  unfold zeB at h
  split at h <;> first | (exfalso; revert h; simp; done) | skip
  rename_i i h1
  cases h2 : i.zero with
  | none => rw [h2] at h; cases h
  | some v => rw [h2] at h; simp only [Option.map_some, Option.some.injEq] at h; exact ⟨i, v, h1, h2, h⟩
end

/-! ## rows -/
theorem flat_len {sz : Nat} : ∀ {xs : List (List Value)}, (∀ r ∈ xs, r.length = sz) → xs.flatten.length = xs.length * sz
  | [], _ => by simp
  | x :: xs, h => by
    rw [List.flatten_cons, List.length_append, h x (.head _), flat_len (fun r hr => h r (.tail _ hr)), List.length_cons, Nat.add_mul]; omega
theorem flat_at {sz : Nat} : ∀ {xs : List (List Value)} {i j : Nat} {row : List Value} {u : Value}, (∀ r ∈ xs, r.length = sz) → xs[i]? = some row → row[j]? = some u → xs.flatten[i * sz + j]? = some u
  | [], _, _, _, _, _, h, _ => by cases h
  | x :: xs, 0, j, row, u, hl, h, hj => by
    simp only [List.getElem?_cons_zero, Option.some.injEq] at h
    subst h
    rw [List.flatten_cons, Nat.zero_mul, Nat.zero_add, List.getElem?_append_left (List.getElem?_eq_some_iff.1 hj).1]
    exact hj
  | x :: xs, i + 1, j, row, u, hl, h, hj => by
    rw [List.flatten_cons, List.getElem?_append_right (by rw [hl x (.head _), Nat.add_mul]; omega), hl x (.head _), show (i + 1) * sz + j - sz = i * sz + j by rw [Nat.add_mul]; omega]
    exact flat_at (fun r hr => hl r (.tail _ hr)) (by simpa using h) hj
/-- the place of element i of rows of sz cells each from o on -/
def elt (o i sz : Nat) : Nat := o + i * sz
theorem RowsOk.lens {sz : Nat} {xs : List (List Value)} (h : RowsOk sz xs) : ∀ r ∈ xs, r.length = sz := fun r hr => (h r hr).1
theorem OwnSat.cell {w : World} {t : TypeId} {sz b o n c : Nat} {xs : List (List Value)} (h : OwnSat w t sz (some ⟨b, o, none⟩) n c xs) {i j : Nat} {row : List Value} {u : Value} (hi : xs[i]? = some row) (hj : row[j]? = some u) :
    w.cell? ⟨b, elt o i sz + j, none⟩ = some u := by
  obtain ⟨_, cur, h1, _, h3⟩ := h.at_ _ rfl
  have := h3 _ _ (flat_at h.rows.lens hi hj)
  simp only at h1 this
  simp only [World.cell?, h1, elt, Nat.add_assoc]
  exact this
theorem Ro.cell {w : World} {b o sz : Nat} {xs : List (List Value)} (h : Ro.sat w ⟨b, o, sz, xs⟩) {i j : Nat} {row : List Value} {u : Value} (hi : xs[i]? = some row) (hj : row[j]? = some u) :
    w.cell? ⟨b, elt o i sz + j, none⟩ = some u := by
  obtain ⟨h0, cur, t, fz, h1, h3⟩ := h
  have := h3 _ _ (flat_at h0.lens hi hj)
  simp only at h1 this
  simp only [World.cell?, h1, elt, Nat.add_assoc]
  exact this
inductive Cut : List Value → Nat → Nat → List Value → Prop
  | here0 {l} : Cut l 0 0 []
  | here {x l n r} (h : Cut l 0 n r) : Cut (x :: l) 0 (n + 1) (x :: r)
  | there {x l o n r} (h : Cut l o n r) : Cut (x :: l) (o + 1) n r
theorem Cut.spec {l r : List Value} {o n : Nat} (h : Cut l o n r) : r.length = n ∧ ∀ j u, r[j]? = some u → l[o + j]? = some u := by
  induction h with
  | here0 => exact ⟨rfl, fun j u h => by simp at h⟩
  | here h ih =>
    refine ⟨by simp [ih.1], fun j u hj => ?_⟩
    cases j with
    | zero => simpa using hj
    | succ j => have := ih.2 j u (by simpa using hj); simpa [Nat.add_comm] using this
  | there h ih =>
    refine ⟨ih.1, fun j u hj => ?_⟩
    have := ih.2 j u hj
    rw [Nat.add_right_comm]; simpa using this

/-! ## operations that yield a value -/
section
variable {P : Program} {fr : List (Nat × Value)} {hp : List It} {ro : List Ro} {T : TypeId} {x y c : Operand} {v u : Value} {F : List It}
theorem Sat.get {B : World} {S T : List Nat} {hp F : List It} {ro : List Ro} {w : World} {x : It} (h : Sat B S T hp ro w) (hs : hp.Perm (x :: F)) : x.sat w := h.sat x (hs.mem_iff.2 (.head _))
theorem pv_move (hx : opd fr x = some v) : Pv P ⟨fr, hp, ro⟩ (.move x) v := fun N E a w dst ty pos af g ok => by simp only [execOp, ok.h.eval hx]; rfl
theorem pv_assign (hx : opd fr x = some v) : Pv P ⟨fr, hp, ro⟩ (.assign x) v := fun N E a w dst ty pos af g ok => by simp only [execOp, ok.h.eval hx]; rfl
theorem pv_pick_t (hc : opd fr c = some (.bool true)) (hx : opd fr x = some v) : Pv P ⟨fr, hp, ro⟩ (.pick c x y) v := fun N E a w dst ty pos af g ok => by simp only [execOp, ok.h.eval hx, ok.h.eval hc]; rfl
theorem pv_pick_f (hc : opd fr c = some (.bool false)) (hy : opd fr y = some v) : Pv P ⟨fr, hp, ro⟩ (.pick c x y) v := fun N E a w dst ty pos af g ok => by simp only [execOp, ok.h.eval hy, ok.h.eval hc]; rfl
theorem pv_nil {ad : Addr} (hx : opd fr x = some (.pointer (some ad))) : Pv P ⟨fr, hp, ro⟩ (.nilCheck x) (.pointer (some ad)) := fun N E a w dst ty pos af g ok => by simp only [execOp, ok.h.eval hx]; rfl
theorem pv_fld {i off sz b o : Nat} [FS P T i off sz] (hx : opd fr x = some (.pointer (some ⟨b, o, none⟩))) : Pv P ⟨fr, hp, ro⟩ (.fieldAddr T x i) (.pointer (some ⟨b, o + off, none⟩)) :=
  fun N E a w dst ty pos af g ok => by simp only [execOp, ok.h.eval hx, Sem.run_bind, run_fieldAt, Result.andThen_ok]; rfl
theorem run_loadAt_one [TOne P T] {w : World} {ad : Addr} (h : w.cell? ad = some v) : (Instr.loadAt T (.pointer (some ad))).run P w = .ok v w := by
  simp only [Instr.loadAt, Instr.sureAddr, loadVar, Sem.run_bind, Sem.run_pure, Result.andThen_ok, run_isAgg_one, Bool.false_eq_true, if_false]
  simp [h, go_sem]
theorem run_loadAt_agg {n : Nat} [TAgg P T n] {w : World} {b o : Nat} {r : List Value} (hn : r.length = n) (h : ∀ j u, r[j]? = some u → w.cell? ⟨b, o + j, none⟩ = some u) : (Instr.loadAt T (.pointer (some ⟨b, o, none⟩))).run P w = .ok (.agg r.toArray) w := by
  have := run_loadCells_list (P := P) w ⟨b, o, none⟩ r (fun j u hj => by rw [Addr.add_lit]; exact h j u hj)
  subst hn
  simp only [Instr.loadAt, Instr.sureAddr, loadVar, Sem.run_bind, Sem.run_pure, Result.andThen_ok, run_isAgg_agg, if_true, run_sizeOf_agg, this]
theorem cell_ob {w : World} {b : Nat} {l : List Value} {t : TypeId} {fz : Nat × Nat} (h : w.heap[b]? = some (.cells l.toArray t fz)) {o : Nat} (hl : l[o]? = some v) : w.cell? ⟨b, o, none⟩ = some v := by
  simp [World.cell?, h, hl]
theorem pv_ld {b o : Nat} {l : List Value} {t : TypeId} {fz : Nat × Nat} [TOne P T] (hx : opd fr x = some (.pointer (some ⟨b, o, none⟩))) (hs : hp.Perm (.ob b (.cells l.toArray t fz) :: F)) (hl : l[o]? = some v) :
    Pv P ⟨fr, hp, ro⟩ (.load T x) v := fun N E a w dst ty pos af g ok => by
  simp only [execOp, ok.h.eval hx, Sem.run_bind, run_loadAt_one (cell_ob (ok.s.get hs) hl), Result.andThen_ok]; rfl
theorem pv_lda {b o n : Nat} {l r : List Value} {t : TypeId} {fz : Nat × Nat} [TAgg P T n] (hx : opd fr x = some (.pointer (some ⟨b, o, none⟩))) (hs : hp.Perm (.ob b (.cells l.toArray t fz) :: F)) (hl : Cut l o n r) :
    Pv P ⟨fr, hp, ro⟩ (.load T x) (.agg r.toArray) := fun N E a w dst ty pos af g ok => by
  simp only [execOp, ok.h.eval hx, Sem.run_bind, run_loadAt_agg hl.spec.1 (fun j u hj => cell_ob (ok.s.get hs) (hl.spec.2 j u hj)), Result.andThen_ok]; rfl
/-- one-cell elements of an owned slice -/
theorem pv_ld_own1 {b o n c i : Nat} {xs : List (List Value)} {t : TypeId} [TOne P T] (hx : opd fr x = some (.pointer (some ⟨b, elt o i 1, none⟩))) (hs : hp.Perm (.own t 1 (some ⟨b, o, none⟩) n c xs :: F)) (hi : xs[i]? = some [v]) :
    Pv P ⟨fr, hp, ro⟩ (.load T x) v := fun N E a w dst ty pos af g ok => by
  simp only [execOp, ok.h.eval hx, Sem.run_bind, run_loadAt_one (ad := ⟨b, elt o i 1, none⟩) (OwnSat.cell (j := 0) (ok.s.get hs) hi rfl), Result.andThen_ok]; rfl
theorem pv_ld_ownf {b o n c i j sz : Nat} {xs : List (List Value)} {row : List Value} {t : TypeId} [TOne P T] (hx : opd fr x = some (.pointer (some ⟨b, elt o i sz + j, none⟩))) (hs : hp.Perm (.own t sz (some ⟨b, o, none⟩) n c xs :: F))
    (hi : xs[i]? = some row) (hj : row[j]? = some v) : Pv P ⟨fr, hp, ro⟩ (.load T x) v := fun N E a w dst ty pos af g ok => by
  simp only [execOp, ok.h.eval hx, Sem.run_bind, run_loadAt_one (OwnSat.cell (ok.s.get hs) hi hj), Result.andThen_ok]; rfl
theorem pv_ld_owna {b o n c i sz : Nat} {xs : List (List Value)} {row : List Value} {t : TypeId} [TAgg P T sz] (hx : opd fr x = some (.pointer (some ⟨b, elt o i sz, none⟩))) (hs : hp.Perm (.own t sz (some ⟨b, o, none⟩) n c xs :: F))
    (hi : xs[i]? = some row) : Pv P ⟨fr, hp, ro⟩ (.load T x) (.agg row.toArray) := fun N E a w dst ty pos af g ok => by
  have hS : OwnSat w t sz (some ⟨b, o, none⟩) n c xs := ok.s.get hs
  simp only [execOp, ok.h.eval hx, Sem.run_bind, run_loadAt_agg (hS.rows.lens row (List.mem_of_getElem? hi)) (fun j u hj => OwnSat.cell hS hi hj), Result.andThen_ok]; rfl
theorem pv_ld_ro1 {b o i : Nat} {xs : List (List Value)} [TOne P T] (hx : opd fr x = some (.pointer (some ⟨b, elt o i 1, none⟩))) (hs : ⟨b, o, 1, xs⟩ ∈ ro) (hi : xs[i]? = some [v]) :
    Pv P ⟨fr, hp, ro⟩ (.load T x) v := fun N E a w dst ty pos af g ok => by
  simp only [execOp, ok.h.eval hx, Sem.run_bind, run_loadAt_one (ad := ⟨b, elt o i 1, none⟩) (Ro.cell (j := 0) (ok.s.rds _ hs) hi rfl), Result.andThen_ok]; rfl
theorem pv_ld_rof {b o i j sz : Nat} {xs : List (List Value)} {row : List Value} [TOne P T] (hx : opd fr x = some (.pointer (some ⟨b, elt o i sz + j, none⟩))) (hs : ⟨b, o, sz, xs⟩ ∈ ro)
    (hi : xs[i]? = some row) (hj : row[j]? = some v) : Pv P ⟨fr, hp, ro⟩ (.load T x) v := fun N E a w dst ty pos af g ok => by
  simp only [execOp, ok.h.eval hx, Sem.run_bind, run_loadAt_one (Ro.cell (ok.s.rds _ hs) hi hj), Result.andThen_ok]; rfl
theorem pv_ld_roa {b o i sz : Nat} {xs : List (List Value)} {row : List Value} [TAgg P T sz] (hx : opd fr x = some (.pointer (some ⟨b, elt o i sz, none⟩))) (hs : ⟨b, o, sz, xs⟩ ∈ ro)
    (hi : xs[i]? = some row) : Pv P ⟨fr, hp, ro⟩ (.load T x) (.agg row.toArray) := fun N E a w dst ty pos af g ok => by
  have hS : Ro.sat w ⟨b, o, sz, xs⟩ := ok.s.rds _ hs
  simp only [execOp, ok.h.eval hx, Sem.run_bind, run_loadAt_agg (hS.1.lens row (List.mem_of_getElem? hi)) (fun j u hj => Ro.cell hS hi hj), Result.andThen_ok]; rfl

/-! integers -/
variable {k : IntKind} {a b lo hi m : Int} {t t' : TypeId}
theorem pv_add [hk : KB k lo hi] (hx : opd fr x = some (.int k a)) (hy : opd fr y = some (.int k b)) (h : lo ≤ a + b ∧ a + b ≤ hi) : Pv P ⟨fr, hp, ro⟩ (.binOp .add t x y t') (.int k (a + b)) := fun N E ac w dst ty pos af g ok => by
  simp only [execOp, ok.h.eval hx, ok.h.eval hy]; simp [eqGuard, binOp, Op.intArith, hk.h _ h.1 h.2, go_sem]
theorem pv_sub [hk : KB k lo hi] (hx : opd fr x = some (.int k a)) (hy : opd fr y = some (.int k b)) (h : lo ≤ a - b ∧ a - b ≤ hi) : Pv P ⟨fr, hp, ro⟩ (.binOp .sub t x y t') (.int k (a - b)) := fun N E ac w dst ty pos af g ok => by
  simp only [execOp, ok.h.eval hx, ok.h.eval hy]; simp [eqGuard, binOp, Op.intArith, hk.h _ h.1 h.2, go_sem]
theorem pv_mul [hk : KB k lo hi] (hx : opd fr x = some (.int k a)) (hy : opd fr y = some (.int k b)) (h : lo ≤ a * b ∧ a * b ≤ hi) : Pv P ⟨fr, hp, ro⟩ (.binOp .mul t x y t') (.int k (a * b)) := fun N E ac w dst ty pos af g ok => by
  simp only [execOp, ok.h.eval hx, ok.h.eval hy]; simp [eqGuard, binOp, Op.intArith, hk.h _ h.1 h.2, go_sem]
theorem pv_add_u [hk : KU k m] (hx : opd fr x = some (.int k a)) (hy : opd fr y = some (.int k b)) : Pv P ⟨fr, hp, ro⟩ (.binOp .add t x y t') (.int k ((a + b) % m)) := fun N E ac w dst ty pos af g ok => by
  simp only [execOp, ok.h.eval hx, ok.h.eval hy]; simp [eqGuard, binOp, Op.intArith, hk.h, go_sem]
theorem pv_sub_u [hk : KU k m] (hx : opd fr x = some (.int k a)) (hy : opd fr y = some (.int k b)) : Pv P ⟨fr, hp, ro⟩ (.binOp .sub t x y t') (.int k ((a - b) % m)) := fun N E ac w dst ty pos af g ok => by
  simp only [execOp, ok.h.eval hx, ok.h.eval hy]; simp [eqGuard, binOp, Op.intArith, hk.h, go_sem]
theorem pv_mul_u [hk : KU k m] (hx : opd fr x = some (.int k a)) (hy : opd fr y = some (.int k b)) : Pv P ⟨fr, hp, ro⟩ (.binOp .mul t x y t') (.int k ((a * b) % m)) := fun N E ac w dst ty pos af g ok => by
  simp only [execOp, ok.h.eval hx, ok.h.eval hy]; simp [eqGuard, binOp, Op.intArith, hk.h, go_sem]
theorem pv_add_w (hx : opd fr x = some (.int k a)) (hy : opd fr y = some (.int k b)) : Pv P ⟨fr, hp, ro⟩ (.binOp .add t x y t') (.int k (k.wrap (a + b))) := fun N E ac w dst ty pos af g ok => by
  simp only [execOp, ok.h.eval hx, ok.h.eval hy]; simp [eqGuard, binOp, Op.intArith, go_sem]
theorem pv_sub_w (hx : opd fr x = some (.int k a)) (hy : opd fr y = some (.int k b)) : Pv P ⟨fr, hp, ro⟩ (.binOp .sub t x y t') (.int k (k.wrap (a - b))) := fun N E ac w dst ty pos af g ok => by
  simp only [execOp, ok.h.eval hx, ok.h.eval hy]; simp [eqGuard, binOp, Op.intArith, go_sem]
theorem pv_mul_w (hx : opd fr x = some (.int k a)) (hy : opd fr y = some (.int k b)) : Pv P ⟨fr, hp, ro⟩ (.binOp .mul t x y t') (.int k (k.wrap (a * b))) := fun N E ac w dst ty pos af g ok => by
  simp only [execOp, ok.h.eval hx, ok.h.eval hy]; simp [eqGuard, binOp, Op.intArith, go_sem]
theorem pv_quo [hk : KB k lo hi] (hx : opd fr x = some (.int k a)) (hy : opd fr y = some (.int k b)) (h : 0 ≤ a ∧ 1 ≤ b ∧ lo ≤ 0 ∧ a ≤ hi) : Pv P ⟨fr, hp, ro⟩ (.binOp .quo t x y t') (.int k (a / b)) := fun N E ac w dst ty pos af g ok => by
  have hb : b ≠ 0 := by omega
  have h1 : a.tdiv b = a / b := Int.tdiv_eq_ediv_of_nonneg h.1
  have h2 : 0 ≤ a / b := Int.ediv_nonneg h.1 (by omega)
  have h3 : a / b ≤ a := Int.ediv_le_self _ h.1
  simp only [execOp, ok.h.eval hx, ok.h.eval hy]; simp [eqGuard, binOp, Op.intDiv, hb, h1, hk.h (a / b) (by omega) (by omega), go_sem]
theorem pv_rem (hx : opd fr x = some (.int k a)) (hy : opd fr y = some (.int k b)) (h : 0 ≤ a ∧ 1 ≤ b) : Pv P ⟨fr, hp, ro⟩ (.binOp .rem t x y t') (.int k (a % b)) := fun N E ac w dst ty pos af g ok => by
  have hb : b ≠ 0 := by omega
  have h1 : a.tmod b = a % b := Int.tmod_eq_emod_of_nonneg h.1
  simp only [execOp, ok.h.eval hx, ok.h.eval hy]; simp [eqGuard, binOp, Op.intDiv, hb, h1, go_sem]
theorem pv_quo_t (hx : opd fr x = some (.int k a)) (hy : opd fr y = some (.int k b)) (h : 1 ≤ b ∨ b ≤ -1) : Pv P ⟨fr, hp, ro⟩ (.binOp .quo t x y t') (.int k (k.wrap (a.tdiv b))) := fun N E ac w dst ty pos af g ok => by
  have hb : b ≠ 0 := by omega
  simp only [execOp, ok.h.eval hx, ok.h.eval hy]; simp [eqGuard, binOp, Op.intDiv, hb, go_sem]
theorem pv_rem_t (hx : opd fr x = some (.int k a)) (hy : opd fr y = some (.int k b)) (h : 1 ≤ b ∨ b ≤ -1) : Pv P ⟨fr, hp, ro⟩ (.binOp .rem t x y t') (.int k (a.tmod b)) := fun N E ac w dst ty pos af g ok => by
  have hb : b ≠ 0 := by omega
  simp only [execOp, ok.h.eval hx, ok.h.eval hy]; simp [eqGuard, binOp, Op.intDiv, hb, go_sem]
theorem pv_and (hx : opd fr x = some (.int k a)) (hy : opd fr y = some (.int k b)) : Pv P ⟨fr, hp, ro⟩ (.binOp .and t x y t') (.int k (bits .and k a b)) := fun N E ac w dst ty pos af g ok => by
  simp only [execOp, ok.h.eval hx, ok.h.eval hy]; simp [eqGuard, binOp, Op.intBits, bits, go_sem]
theorem pv_or (hx : opd fr x = some (.int k a)) (hy : opd fr y = some (.int k b)) : Pv P ⟨fr, hp, ro⟩ (.binOp .or t x y t') (.int k (bits .or k a b)) := fun N E ac w dst ty pos af g ok => by
  simp only [execOp, ok.h.eval hx, ok.h.eval hy]; simp [eqGuard, binOp, Op.intBits, bits, go_sem]
theorem pv_xor (hx : opd fr x = some (.int k a)) (hy : opd fr y = some (.int k b)) : Pv P ⟨fr, hp, ro⟩ (.binOp .xor t x y t') (.int k (bits .xor k a b)) := fun N E ac w dst ty pos af g ok => by
  simp only [execOp, ok.h.eval hx, ok.h.eval hy]; simp [eqGuard, binOp, Op.intBits, bits, go_sem]
theorem pv_shl {k' : IntKind} (hx : opd fr x = some (.int k a)) (hy : opd fr y = some (.int k' b)) (h : 0 ≤ b) : Pv P ⟨fr, hp, ro⟩ (.binOp .shl t x y t') (.int k (k.wrap (a * 2 ^ (min b.toNat k.bits)))) := fun N E ac w dst ty pos af g ok => by
  have hb : ¬ b < 0 := by omega
  simp only [execOp, ok.h.eval hx, ok.h.eval hy]; simp [eqGuard, binOp, Op.shift, hb, go_sem]
theorem pv_shr {k' : IntKind} (hx : opd fr x = some (.int k a)) (hy : opd fr y = some (.int k' b)) (h : 0 ≤ b) : Pv P ⟨fr, hp, ro⟩ (.binOp .shr t x y t') (.int k (a.fdiv (2 ^ (min b.toNat k.bits)))) := fun N E ac w dst ty pos af g ok => by
  have hb : ¬ b < 0 := by omega
  simp only [execOp, ok.h.eval hx, ok.h.eval hy]; simp [eqGuard, binOp, Op.shift, hb, go_sem]
theorem pv_lss (hx : opd fr x = some (.int k a)) (hy : opd fr y = some (.int k b)) : Pv P ⟨fr, hp, ro⟩ (.binOp .lss t x y t') (.bool (decide (a < b))) := fun N E ac w dst ty pos af g ok => by
  simp only [execOp, ok.h.eval hx, ok.h.eval hy]; simp [eqGuard, binOp, Op.intCmp, go_sem]
theorem pv_leq (hx : opd fr x = some (.int k a)) (hy : opd fr y = some (.int k b)) : Pv P ⟨fr, hp, ro⟩ (.binOp .leq t x y t') (.bool (decide (a ≤ b))) := fun N E ac w dst ty pos af g ok => by
  simp only [execOp, ok.h.eval hx, ok.h.eval hy]; simp [eqGuard, binOp, Op.intCmp, go_sem]
theorem pv_gtr (hx : opd fr x = some (.int k a)) (hy : opd fr y = some (.int k b)) : Pv P ⟨fr, hp, ro⟩ (.binOp .gtr t x y t') (.bool (decide (b < a))) := fun N E ac w dst ty pos af g ok => by
  simp only [execOp, ok.h.eval hx, ok.h.eval hy]; simp [eqGuard, binOp, Op.intCmp, go_sem]
theorem pv_geq (hx : opd fr x = some (.int k a)) (hy : opd fr y = some (.int k b)) : Pv P ⟨fr, hp, ro⟩ (.binOp .geq t x y t') (.bool (decide (b ≤ a))) := fun N E ac w dst ty pos af g ok => by
  simp only [execOp, ok.h.eval hx, ok.h.eval hy]; simp [eqGuard, binOp, Op.intCmp, go_sem]
theorem pv_eql (hx : opd fr x = some (.int k a)) (hy : opd fr y = some (.int k b)) : Pv P ⟨fr, hp, ro⟩ (.binOp .eql t x y t') (.bool (decide (a = b))) := fun N E ac w dst ty pos af g ok => by
  simp only [execOp, ok.h.eval hx, ok.h.eval hy]; simp [eqGuard, binOp, Op.intCmp, go_sem]
  by_cases hab : a = b <;> simp [hab]
theorem pv_neq (hx : opd fr x = some (.int k a)) (hy : opd fr y = some (.int k b)) : Pv P ⟨fr, hp, ro⟩ (.binOp .neq t x y t') (.bool (decide (a ≠ b))) := fun N E ac w dst ty pos af g ok => by
  simp only [execOp, ok.h.eval hx, ok.h.eval hy]; simp [eqGuard, binOp, Op.intCmp, go_sem]
  rfl
theorem pv_neg [hk : KB k lo hi] (hx : opd fr x = some (.int k a)) (h : lo ≤ -a ∧ -a ≤ hi) : Pv P ⟨fr, hp, ro⟩ (.unOp .neg t x) (.int k (-a)) := fun N E ac w dst ty pos af g ok => by
  simp only [execOp, ok.h.eval hx]; simp [Op.unary, Op.intArith, hk.h _ h.1 h.2, go_sem]
theorem pv_neg_w (hx : opd fr x = some (.int k a)) : Pv P ⟨fr, hp, ro⟩ (.unOp .neg t x) (.int k (k.wrap (0 - a))) := fun N E ac w dst ty pos af g ok => by
  simp only [execOp, ok.h.eval hx]; simp [Op.unary, Op.intArith, go_sem]
theorem pv_not_t (hx : opd fr x = some (.bool true)) : Pv P ⟨fr, hp, ro⟩ (.unOp .not t x) (.bool false) := fun N E ac w dst ty pos af g ok => by
  simp only [execOp, ok.h.eval hx]; simp [Op.unary, go_sem]
theorem pv_not_f (hx : opd fr x = some (.bool false)) : Pv P ⟨fr, hp, ro⟩ (.unOp .not t x) (.bool true) := fun N E ac w dst ty pos af g ok => by
  simp only [execOp, ok.h.eval hx]; simp [Op.unary, go_sem]
theorem pv_not_d {p : Prop} [Decidable p] (hx : opd fr x = some (.bool (decide p))) : Pv P ⟨fr, hp, ro⟩ (.unOp .not t x) (.bool (decide (¬p))) := fun N E ac w dst ty pos af g ok => by
  simp only [execOp, ok.h.eval hx]; simp [Op.unary, go_sem]
theorem pv_not {c : Bool} (hx : opd fr x = some (.bool c)) : Pv P ⟨fr, hp, ro⟩ (.unOp .not t x) (.bool (decide (c = false))) := fun N E ac w dst ty pos af g ok => by
  simp only [execOp, ok.h.eval hx]; simp [Op.unary, go_sem]
theorem pv_conv [TInt P t k] {k' : IntKind} [ht : TInt P t' k'] [hk : KB k' lo hi] (hx : opd fr x = some (.int k a)) (h : lo ≤ a ∧ a ≤ hi) : Pv P ⟨fr, hp, ro⟩ (.convert t t' x) (.int k' a) := fun N E ac w dst ty pos af g ok => by
  simp only [execOp, ok.h.eval hx]; simp [convert, run_underlying (TInt.h (P := P) (T := t)), run_underlying ht.h, Conv.intToInt, hk.h _ h.1 h.2, go_sem]
theorem pv_conv_u [TInt P t k] {k' : IntKind} [ht : TInt P t' k'] [hk : KU k' m] (hx : opd fr x = some (.int k a)) : Pv P ⟨fr, hp, ro⟩ (.convert t t' x) (.int k' (a % m)) := fun N E ac w dst ty pos af g ok => by
  simp only [execOp, ok.h.eval hx]; simp [convert, run_underlying (TInt.h (P := P) (T := t)), run_underlying ht.h, Conv.intToInt, hk.h, go_sem]
theorem pv_conv_w [TInt P t k] {k' : IntKind} [ht : TInt P t' k'] (hx : opd fr x = some (.int k a)) : Pv P ⟨fr, hp, ro⟩ (.convert t t' x) (.int k' (k'.wrap a)) := fun N E ac w dst ty pos af g ok => by
  simp only [execOp, ok.h.eval hx]; simp [convert, run_underlying (TInt.h (P := P) (T := t)), run_underlying ht.h, Conv.intToInt, go_sem]

/-! other equalities -/
theorem run_equal_bool [h : TBool P t] (w : World) (c d : Bool) : (Op.equal t (.bool c) (.bool d)).run P w = .ok (c == d) w := by
  show Sem.run P (Op.equalIn (9999 + 1) t _ _) w = _
  rw [Op.equalIn]
  simp only [Sem.run_bind, run_underlying h.h, Result.andThen_ok]; rfl
theorem pv_eql_b [TBool P t] {c d : Bool} (hx : opd fr x = some (.bool c)) (hy : opd fr y = some (.bool d)) : Pv P ⟨fr, hp, ro⟩ (.binOp .eql t x y t') (.bool (decide (c = d))) := fun N E ac w dst ty pos af g ok => by
  have := run_equal_bool (P := P) (t := t) w c d
  simp only [execOp, ok.h.eval hx, ok.h.eval hy]
  cases c <;> cases d <;> simp [eqGuard, binOp, this, go_sem]
theorem pv_neq_b [TBool P t] {c d : Bool} (hx : opd fr x = some (.bool c)) (hy : opd fr y = some (.bool d)) : Pv P ⟨fr, hp, ro⟩ (.binOp .neq t x y t') (.bool (decide (c ≠ d))) := fun N E ac w dst ty pos af g ok => by
  have := run_equal_bool (P := P) (t := t) w c d
  simp only [execOp, ok.h.eval hx, ok.h.eval hy]
  cases c <;> cases d <;> simp [eqGuard, binOp, this, go_sem]
theorem run_equal_ptr_nil {e : TypeId} [h : TPtr P t e] (w : World) (p : Option Addr) : (Op.equal t (.pointer p) (.pointer none)).run P w = .ok p.isNone w := by
  show Sem.run P (Op.equalIn (9999 + 1) t _ _) w = _
  rw [Op.equalIn]
  simp only [Sem.run_bind, run_underlying h.h, Result.andThen_ok]
  cases p <;> rfl
theorem run_eql_ptr {e : TypeId} [TPtr P t e] (w : World) (p : Option Addr) : (binOp .eql t (.pointer p) (.pointer none)).run P w = .ok (.bool p.isNone) w := by
  have := run_equal_ptr_nil (P := P) (t := t) w p
  cases p <;> (simp only [binOp, Sem.run_bind, this]; rfl)
theorem run_neq_ptr {e : TypeId} [TPtr P t e] (w : World) (p : Option Addr) : (binOp .neq t (.pointer p) (.pointer none)).run P w = .ok (.bool p.isSome) w := by
  have := run_equal_ptr_nil (P := P) (t := t) w p
  cases p <;> (simp only [binOp, Sem.run_bind, this]; rfl)
theorem pv_eql_p {e : TypeId} [TPtr P t e] {p : Option Addr} (hx : opd fr x = some (.pointer p)) (hy : opd fr y = some (.pointer none)) : Pv P ⟨fr, hp, ro⟩ (.binOp .eql t x y t') (.bool p.isNone) := fun N E ac w dst ty pos af g ok => by
  have := run_eql_ptr (P := P) (t := t) w p
  simp only [execOp, ok.h.eval hx, ok.h.eval hy]
  simp [eqGuard, this]
theorem pv_neq_p {e : TypeId} [TPtr P t e] {p : Option Addr} (hx : opd fr x = some (.pointer p)) (hy : opd fr y = some (.pointer none)) : Pv P ⟨fr, hp, ro⟩ (.binOp .neq t x y t') (.bool p.isSome) := fun N E ac w dst ty pos af g ok => by
  have := run_neq_ptr (P := P) (t := t) w p
  simp only [execOp, ok.h.eval hx, ok.h.eval hy]
  simp [eqGuard, this]

/-! values with parts -/
theorem pv_extract {l : List Value} {i : Nat} (hx : opd fr x = some (.tuple l.toArray)) (hi : l[i]? = some v) : Pv P ⟨fr, hp, ro⟩ (.extract x i) v := fun N E ac w dst ty pos af g ok => by
  simp only [execOp, ok.h.eval hx]; simp [Instr.extract, hi, go_sem]
theorem run_part_one [TOne P T] {w : World} {l : List Value} {o : Nat} (h : l[o]? = some v) : (part T l.toArray o).run P w = .ok v w := by
  simp only [part, Sem.run_bind, run_isAgg_one, Result.andThen_ok, Bool.false_eq_true, if_false]
  simp [h, go_sem]

/-! builtins -/
theorem pv_len_sl {e sz by_ n c : Nat} {ao : Option Addr} [h : TSl P t e sz by_] (hx : opd fr x = some (.slice ao n c)) : Pv P ⟨fr, hp, ro⟩ (.call ⟨.builtin .len, #[x], #[t]⟩) (.int .i64 n) := fun N E ac w dst ty pos af g ok => by
  obtain ⟨_, _, h1, _⟩ := sl_und h.h
  simp only [execOp, resolve, List.map_toArray, List.map_cons, List.map_nil, ok.h.eval hx]; simp [invoke, builtin, Builtin.len_, run_underlying h1, goInt, go_sem]
theorem pv_len_str {s : ByteArray} [h : TStr P t] (hx : opd fr x = some (.string s)) : Pv P ⟨fr, hp, ro⟩ (.call ⟨.builtin .len, #[x], #[t]⟩) (.int .i64 s.size) := fun N E ac w dst ty pos af g ok => by
  simp only [execOp, resolve, List.map_toArray, List.map_cons, List.map_nil, ok.h.eval hx]; simp [invoke, builtin, Builtin.len_, run_underlying h.h, goInt, go_sem]
theorem pv_min {ats : Array TypeId} (hx : opd fr x = some (.int k a)) (hy : opd fr y = some (.int k b)) : Pv P ⟨fr, hp, ro⟩ (.call ⟨.builtin .min, #[x, y], ats⟩) (.int k (min a b)) := fun N E ac w dst ty pos af g ok => by
  have e : (if b < a then b else a) = min a b := by omega
  simp only [execOp, resolve, List.map_toArray, List.map_cons, List.map_nil, ok.h.eval hx, ok.h.eval hy]; simp [invoke, builtin, Builtin.min_, Builtin.min2, e, go_sem]
theorem pv_max {ats : Array TypeId} (hx : opd fr x = some (.int k a)) (hy : opd fr y = some (.int k b)) : Pv P ⟨fr, hp, ro⟩ (.call ⟨.builtin .max, #[x, y], ats⟩) (.int k (max a b)) := fun N E ac w dst ty pos af g ok => by
  have e : (if b > a then b else a) = max a b := by omega
  simp only [execOp, resolve, List.map_toArray, List.map_cons, List.map_nil, ok.h.eval hx, ok.h.eval hy]; simp [invoke, builtin, Builtin.max_, Builtin.max2, e, go_sem]

/-! addresses of elements -/
theorem pv_idx {e sz by_ bl o n c : Nat} {i : Nat} [h : TSl P t e sz by_] (hx : opd fr x = some (.slice (some ⟨bl, o, none⟩) n c)) (hy : opd fr y = some (.int k (i : Int))) (hi : i < n) : Pv P ⟨fr, hp, ro⟩ (.indexAddr t x y) (.pointer (some ⟨bl, elt o i sz, none⟩)) :=
  fun N E ac w dst ty pos af g ok => by
  obtain ⟨inf, _, h1, h2, _, _, h3, _⟩ := sl_und h.h
  have hi' : (0 : Int) ≤ (i : Int) ∧ (i : Int) < (n : Int) := by omega
  simp only [execOp, ok.h.eval hx, ok.h.eval hy]; simp [Instr.indexAt, asIntOf, run_underlying h1, hi'.2, Nat.not_le.2 hi, sizeOf, typeInfo, h2, h3, Addr.add_lit, elt, go_sem]
theorem pv_idx_e {e sz by_ bl o n c : Nat} {z : Int} (i : Nat) [h : TSl P t e sz by_] (hx : opd fr x = some (.slice (some ⟨bl, o, none⟩) n c)) (hy : opd fr y = some (.int k z)) (hz : z = (i : Int)) (hi : i < n) :
    Pv P ⟨fr, hp, ro⟩ (.indexAddr t x y) (.pointer (some ⟨bl, elt o i sz, none⟩)) := by subst hz; exact pv_idx hx hy hi
theorem pv_idx_n {e sz by_ bl o n c : Nat} {z : Int} [h : TSl P t e sz by_] (hx : opd fr x = some (.slice (some ⟨bl, o, none⟩) n c)) (hy : opd fr y = some (.int k z)) (hz : 0 ≤ z ∧ z < (n : Int)) :
    Pv P ⟨fr, hp, ro⟩ (.indexAddr t x y) (.pointer (some ⟨bl, elt o z.toNat sz, none⟩)) := pv_idx_e z.toNat hx hy (by omega) (by omega)
theorem pv_idx_ar {n e sz bl o : Nat} {i : Nat} [h : TAr P t n e sz] (hx : opd fr x = some (.pointer (some ⟨bl, o, none⟩))) (hy : opd fr y = some (.int k (i : Int))) (hi : i < n) (hn : 1 < n) :
    Pv P ⟨fr, hp, ro⟩ (.indexAddr t x y) (.pointer (some ⟨bl, o + i * sz, none⟩)) := fun N E ac w dst ty pos af g ok => by
  obtain ⟨inf, h1, h2, h3⟩ := ar_und h.h
  have hi' : (0 : Int) ≤ (i : Int) ∧ (i : Int) < (n : Int) := by omega
  simp only [execOp, ok.h.eval hx, ok.h.eval hy]; simp [Instr.indexAt, Instr.sureAddr, asIntOf, run_underlying h1, hi'.2, Nat.not_le.2 hi, sizeOf, typeInfo, h2, h3, Addr.add_lit, go_sem]

/-! the plain ones at once, by computation -/
def cmpV (o : BinOp) (a b : Int) : Option Value :=
  match o with
  | .lss => some (.bool (decide (a < b)))
  | .leq => some (.bool (decide (a ≤ b)))
  | .gtr => some (.bool (decide (b < a)))
  | .geq => some (.bool (decide (b ≤ a)))
  | .eql => some (.bool (decide (a = b)))
  | .neq => some (.bool (decide (a ≠ b)))
  | _ => none
def ev (fr : List (Nat × Value)) : Op → Option Value
  | .move x => opd fr x
  | .assign x => opd fr x
  | .nilCheck x => match opd fr x with
    | some (.pointer (some ad)) => some (.pointer (some ad))
    | _ => none
  | .extract x i => match opd fr x with
    | some (.tuple ⟨l⟩) => l[i]?
    | _ => none
  | .binOp o _ x y _ => match opd fr x, opd fr y with
    | some (.int k a), some (.int k' b) => if k = k' then cmpV o a b else none
    | _, _ => none
  | _ => none
theorem pv_ev {op : Op} (h : ev fr op = some v) : Pv P ⟨fr, hp, ro⟩ op v := by
  cases op with
  | move x => exact pv_move h
  | assign x => exact pv_assign h
  | nilCheck x =>
    simp only [ev] at h
    split at h
    · rename_i ad hx; simp only [Option.some.injEq] at h; subst h; exact pv_nil hx
    · cases h
  | extract x i =>
    simp only [ev] at h
    split at h
    · rename_i l hx; exact pv_extract hx h
    · cases h
  | binOp o t x y t' =>
    simp only [ev] at h
    split at h
    · rename_i k a k' b hx hy
      split at h
      · rename_i hk
        subst hk
        cases o <;> simp only [cmpV] at h <;> first | (cases h; done) | skip
        all_goals (simp only [Option.some.injEq] at h; subst h)
        · exact pv_eql hx hy
        · exact pv_neq hx hy
        · exact pv_lss hx hy
        · exact pv_leq hx hy
        · exact pv_gtr hx hy
        · exact pv_geq hx hy
      · cases h
    · cases h
  | _ => cases h
theorem g_load {T' : TypeId} (h : Pv P ⟨fr, hp, ro⟩ (.load T' x) v) : Pv P ⟨fr, hp, ro⟩ (.load T' x) v := h
theorem g_bin {o : BinOp} (h : Pv P ⟨fr, hp, ro⟩ (.binOp o t x y t') v) : Pv P ⟨fr, hp, ro⟩ (.binOp o t x y t') v := h
theorem g_un {o : UnOp} (h : Pv P ⟨fr, hp, ro⟩ (.unOp o t x) v) : Pv P ⟨fr, hp, ro⟩ (.unOp o t x) v := h
theorem g_pick (h : Pv P ⟨fr, hp, ro⟩ (.pick c x y) v) : Pv P ⟨fr, hp, ro⟩ (.pick c x y) v := h
theorem g_conv (h : Pv P ⟨fr, hp, ro⟩ (.convert t t' x) v) : Pv P ⟨fr, hp, ro⟩ (.convert t t' x) v := h
theorem g_bi {b : Builtin} {l ats} (h : Pv P ⟨fr, hp, ro⟩ (.call ⟨.builtin b, l, ats⟩) v) : Pv P ⟨fr, hp, ro⟩ (.call ⟨.builtin b, l, ats⟩) v := h
theorem g_idx (h : Pv P ⟨fr, hp, ro⟩ (.indexAddr t x y) v) : Pv P ⟨fr, hp, ro⟩ (.indexAddr t x y) v := h
theorem g_build {l} (h : Pv P ⟨fr, hp, ro⟩ (.build t l) v) : Pv P ⟨fr, hp, ro⟩ (.build t l) v := h
end
end Go.Proofs.Ytlhlidmhlhodiaa

/-
  Sparse frames: the operations that make or change memory. No program in sight.
-/
namespace Go.Proofs.Ytlhlidmhlhodiaa
set_option linter.unusedSimpArgs false
set_option linter.unusedVariables false
open Go.RowKit

inductive SetAt : List Value → Nat → Value → List Value → Prop
  | here {x l v} : SetAt (x :: l) 0 v (v :: l)
  | there {x l n v l'} (h : SetAt l n v l') : SetAt (x :: l) (n + 1) v (x :: l')
/-- the cells r laid over l from place o on -/
inductive LayAt : List Value → Nat → List Value → List Value → Prop
  | nil {l} : LayAt l 0 [] l
  | here {x l v r l'} (h : LayAt l 0 r l') : LayAt (x :: l) 0 (v :: r) (v :: l')
  | there {x l n r l'} (h : LayAt l n r l') : LayAt (x :: l) (n + 1) r (x :: l')
theorem SetAt.lay {l l' : List Value} {n : Nat} {v : Value} (h : SetAt l n v l') : LayAt l n [v] l' := by
  induction h with
  | here => exact .here .nil
  | there _ ih => exact .there ih
theorem LayAt.spec {l r l' : List Value} {n : Nat} (h : LayAt l n r l') : n + r.length ≤ l.length ∧ l' = l.take n ++ r ++ l.drop (n + r.length) := by
  induction h with
  | nil => simp
  | here h ih => refine ⟨by simp at ih ⊢; omega, ?_⟩; have := ih.2; simp at this ⊢; exact this
  | @there x l n r l' h ih =>
    refine ⟨by simp at ih ⊢; omega, ?_⟩
    rw [ih.2]
    simp [Nat.add_right_comm]
def allOne (l : List Value) : Bool := l.all Value.oneCell'
theorem allOne_mem {l : List Value} (h : allOne l = true) : ∀ v ∈ l, v.oneCell' = true := List.all_eq_true.1 h

section
variable {P : Program} {T : TypeId} {w : World}
theorem run_storeCells_lay {b o : Nat} {t : TypeId} {cur : Array Value} {r : List Value} (hg : w.heap[b]? = some (.cells cur t (0, 0))) (hf : o + r.length ≤ cur.size) (h1 : ∀ v ∈ r, v.oneCell' = true) :
    ∃ w', (storeCells ⟨b, o, none⟩ r).run P w = .ok () w' ∧ w'.heap[b]? = some (.cells (cur.toList.take o ++ r ++ cur.toList.drop (o + r.length)).toArray t (0, 0)) ∧ Frm [b] w w' := by
  have h := run_storeCells_at P b o t r 0 cur w hg (by simpa using hf) h1
  simp only [Nat.add_zero] at h
  refine ⟨_, h, setRow_heap w b cur _ t _ hg, ⟨rfl, rfl, rfl, by simp [World.setRow], fun k _ hk => ?_⟩⟩
  exact setRow_other w b k _ (fun e => hk (by simp [e]))
theorem cells_one {v : Value} (h : v.oneCell' = true) : v.cells = #[v] := by cases v <;> first | rfl | cases h
theorem run_storeAt_lay {b o : Nat} {t : TypeId} {cur : Array Value} {v : Value} {r : List Value} (hr : v.cells = r.toArray) (hT : (sizeOf T).run P w = .ok r.length w) (hg : w.heap[b]? = some (.cells cur t (0, 0))) (hf : o + r.length ≤ cur.size) (h1 : ∀ v ∈ r, v.oneCell' = true) :
    ∃ w', (Instr.storeAt T (.pointer (some ⟨b, o, none⟩)) v).run P w = .ok () w' ∧ w'.heap[b]? = some (.cells (cur.toList.take o ++ r ++ cur.toList.drop (o + r.length)).toArray t (0, 0)) ∧ Frm [b] w w' := by
  obtain ⟨w', h2, h3, h4⟩ := run_storeCells_lay (P := P) hg hf h1
  refine ⟨w', ?_, h3, h4⟩
  have hne : ¬ (r.toArray.size ≠ r.length) := by simp
  simp only [Instr.storeAt, Instr.sureAddr, storeVar, Sem.run_bind, Sem.run_pure, Result.andThen_ok, hT, hr, hne, if_false]
  exact h2
end

section
variable {P : Program} {N : Nat} {E : Env} {fr : List (Nat × Value)} {hp : List It} {ro : List Ro} {Kn : St → Prop} {ops : Array Oper} {rest : List Oper} {dst : Option Tmp} {ty : TypeId} {pos : String} {af : Array Edge} {T : TypeId} {x y : Operand} {v : Value} {F : List It}

/-- an item is laid anew -/
theorem Sat.relay {w w' : World} {b : Nat} {o o' : Obj} (hf : Frm [b] w w') (hs : w'.heap[b]? = some o') : Sat w (feet [It.ob b o]) [] [.ob b o'] [] w' :=
  Sat.one (by simpa [feet, It.foot] using hf) hs (fun c hc => .inl (by simp only [It.foot, Option.some.injEq] at hc; simp [feet, It.foot, hc]))
theorem wo_st {b o : Nat} {l l' : List Value} {t : TypeId} [TOne P T] (hx : opd fr x = some (.pointer (some ⟨b, o, none⟩))) (hy : opd fr y = some v) (h1 : v.oneCell' = true)
    (hs : hp.Perm (.ob b (.cells l.toArray t (0, 0)) :: F)) (hl : SetAt l o v l') (hd : dstOk dst N = true)
    (h : WO P N E ops rest ⟨putF dst undef fr, .ob b (.cells l'.toArray t (0, 0)) :: F, ro⟩ Kn) : WO P N E ops (⟨dst, .store T x y, ty, pos, af, none⟩ :: rest) ⟨fr, hp, ro⟩ Kn :=
  wo_eff_skip (L := [_]) hs hd fun a w ok => by
    obtain ⟨hf, rfl⟩ := hl.lay.spec
    obtain ⟨w', h2, h3, h4⟩ := run_storeAt_lay (P := P) (T := T) (r := [v]) (cells_one h1) run_sizeOf_one (show w.heap[b]? = _ from ok.s.get hs) (by simpa using hf) (by simpa using h1)
    refine ⟨_, w', ?_, Sat.relay h4 h3, by simpa using h⟩
    simp only [execOp, ok.h.eval hx, ok.h.eval hy, Sem.run_bind, h2]; rfl
theorem wo_sta {b o n : Nat} {l l' r : List Value} {t : TypeId} [TAgg P T n] (hx : opd fr x = some (.pointer (some ⟨b, o, none⟩))) (hy : opd fr y = some (.agg r.toArray)) (hn : Nat.beq r.length n = true) (h1 : allOne r = true)
    (hs : hp.Perm (.ob b (.cells l.toArray t (0, 0)) :: F)) (hl : LayAt l o r l') (hd : dstOk dst N = true)
    (h : WO P N E ops rest ⟨putF dst undef fr, .ob b (.cells l'.toArray t (0, 0)) :: F, ro⟩ Kn) : WO P N E ops (⟨dst, .store T x y, ty, pos, af, none⟩ :: rest) ⟨fr, hp, ro⟩ Kn :=
  wo_eff_skip (L := [_]) hs hd fun a w ok => by
    obtain ⟨hf, rfl⟩ := hl.spec
    have hn := Nat.eq_of_beq_eq_true hn
    subst hn
    obtain ⟨w', h2, h3, h4⟩ := run_storeAt_lay (P := P) (T := T) (v := .agg r.toArray) rfl run_sizeOf_agg (show w.heap[b]? = _ from ok.s.get hs) (by simpa using hf) (allOne_mem h1)
    refine ⟨_, w', ?_, Sat.relay h4 h3, by simpa using h⟩
    simp only [execOp, ok.h.eval hx, ok.h.eval hy, Sem.run_bind, h2]; rfl

/-- a new block -/
theorem Sat.fresh {w : World} (o : Obj) : Sat w (feet []) [] [.ob w.heap.size o] [] (w.alloc o) :=
  Sat.one ⟨rfl, rfl, rfl, by simp, fun k hk _ => Below.heap_alloc w o k hk⟩ (heap_alloc_new w o) (fun b hb => .inr (by simp only [It.foot, Option.some.injEq] at hb; omega))
theorem wo_box1 {d : Nat} (hx : opd fr x = some v) (h1 : v.oneCell' = true) (hd : Nat.ble (d + 1) N = true)
    (h : ∀ b, WO P N E ops rest ⟨(d, .pointer (some ⟨b, 0, none⟩)) :: fr, .ob b (.cells #[v] T (0, 0)) :: hp, ro⟩ Kn) : WO P N E ops (⟨some d, .box T x, ty, pos, af, none⟩ :: rest) ⟨fr, hp, ro⟩ Kn :=
  wo_eff (L := []) (.refl _) hd fun a w ok => ⟨.pointer (some ⟨w.heap.size, 0, none⟩), _, _, by
    simp only [execOp, ok.h.eval hx, Instr.box, newVar, newRow, newObj, cells_one h1]; rfl, Sat.fresh _, h _⟩
theorem wo_boxa {d : Nat} {l : List Value} (hx : opd fr x = some (.agg l.toArray)) (hd : Nat.ble (d + 1) N = true)
    (h : ∀ b, WO P N E ops rest ⟨(d, .pointer (some ⟨b, 0, none⟩)) :: fr, .ob b (.cells l.toArray T (0, 0)) :: hp, ro⟩ Kn) : WO P N E ops (⟨some d, .box T x, ty, pos, af, none⟩ :: rest) ⟨fr, hp, ro⟩ Kn :=
  wo_eff (L := []) (.refl _) hd fun a w ok => ⟨.pointer (some ⟨w.heap.size, 0, none⟩), _, _, by
    simp only [execOp, ok.h.eval hx, Instr.box, newVar, newRow, newObj]; rfl, Sat.fresh _, h _⟩
theorem run_zeroValue {z : List Value} [hz : TZ P T z] {w : World} : ∃ v, (zeroValue T).run P w = .ok v w ∧ v.cells = z.toArray := by
  obtain ⟨i, v, h1, h2, h3⟩ := ze_und hz.h
  exact ⟨v, by simp [zeroValue, typeInfo, h1, h2, go_sem], by rw [← h3]⟩
theorem wo_alloc {d : Nat} {z : List Value} [TZ P T z] (hd : Nat.ble (d + 1) N = true)
    (h : ∀ b, WO P N E ops rest ⟨(d, .pointer (some ⟨b, 0, none⟩)) :: fr, .ob b (.cells z.toArray T (0, 0)) :: hp, ro⟩ Kn) : WO P N E ops (⟨some d, .alloc T, ty, pos, af, none⟩ :: rest) ⟨fr, hp, ro⟩ Kn :=
  wo_eff (L := []) (.refl _) hd fun a w ok => by
    obtain ⟨v, hv, hc⟩ := run_zeroValue (P := P) (T := T) (w := w)
    refine ⟨.pointer (some ⟨w.heap.size, 0, none⟩), _, w.alloc (.cells z.toArray T), ?_, Sat.fresh _, h _⟩
    simp only [execOp, Instr.alloc, Sem.run_bind, hv, Result.andThen_ok, newVar, newRow, newObj, hc]; rfl

/-! structs by value -/
inductive Bld (P : Program) (T : TypeId) : List Value → List (Nat × Operand) → List (Nat × Value) → List Value → Prop
  | nil {fr z} : Bld P T z [] fr z
  | one {fr z z' r i x v rest off} [FS P T i off 1] (hx : opd fr x = some v) (h1 : v.oneCell' = true) (hz : SetAt z off v z') (h : Bld P T z' rest fr r) : Bld P T z ((i, x) :: rest) fr r
  | agg {fr z z' r i x l rest off sz} [FS P T i off sz] (hx : opd fr x = some (.agg (List.toArray l))) (hn : Nat.beq l.length sz = true) (hz : LayAt z off l z') (h : Bld P T z' rest fr r) : Bld P T z ((i, x) :: rest) fr r
theorem foldl_lay : ∀ (r : List Value) (z z' : List Value) (o j : Nat), LayAt z (o + j) r z' →
    ((r.zipIdx j).foldl (fun (cs : Array Value) (p : Value × Nat) => cs.setIfInBounds (o + p.2) p.1) z.toArray) = z'.toArray
  | [], z, z', o, j, h => by
    have := h.spec.2
    simp at this
    simp [this]
  | v :: r, z, z', o, j, h => by
    rw [List.zipIdx_cons, List.foldl_cons]
    simp only
    obtain ⟨h1, h2⟩ := h.spec
    have hlen : o + j < z.length := by simp at h1; omega
    have hset : z.toArray.setIfInBounds (o + j) v = (z.set (o + j) v).toArray := by simp
    rw [hset]
    refine foldl_lay r _ z' o (j + 1) ?_
    have key : ∀ (z : List Value) (n : Nat) (z' : List Value), LayAt z n (v :: r) z' → LayAt (z.set n v) (n + 1) r z' := by
      intro z n z' hh
      generalize hr : v :: r = rr at hh
      induction hh with
      | nil => cases hr
      | here h _ => injection hr with e1 e2; subst e1; subst e2; exact .there h
      | there h ih => exact .there (ih hr)
    exact key z (o + j) z' h
theorem fill_bld {i off : Nat} {place : Nat → Option (Nat × Nat)} {z z' l : List Value} {v : Value} {rest : List (Nat × Value)} (hp : place i = some (off, l.length)) (hv : v.cells = l.toArray) (hz : LayAt z off l z') :
    Instr.fill place z.toArray ((i, v) :: rest) = Instr.fill place z'.toArray rest := by
  have h1 : v.cells.size = l.length := by rw [hv]; simp
  have h2 := hz.spec.1
  have h3 : ¬ ((v.cells.size ≠ l.length || off + v.cells.size > z.toArray.size) = true) := by simp [h1]; omega
  have h4 := foldl_lay l z z' off 0 hz
  rw [Instr.fill]
  simp only [hp]
  rw [if_neg h3, hv, ← Array.foldl_toList, Array.toList_zipIdx]
  exact congrArg (fun c => Instr.fill place c rest) h4
theorem mapM_places {fs : Array Field} (P : Program) (w : World) (h : ∀ f ∈ fs, ∃ i, P.info? f.type = some i) :
    (fs.mapM fun f => do pure (f.offset, ← sizeOf f.type) : Sem (Array (Nat × Nat))).run P w = .ok (fs.map fun f => (f.offset, P.cellsOf f.type)) w := by
  have key : ∀ l : List Field, (∀ f ∈ l, ∃ i, P.info? f.type = some i) → (l.mapM fun f => do pure (f.offset, ← sizeOf f.type) : Sem (List (Nat × Nat))).run P w = .ok (l.map fun f => (f.offset, P.cellsOf f.type)) w := by
    intro l
    induction l with
    | nil => intro _; rfl
    | cons f l ih =>
      intro hl
      obtain ⟨i, hi⟩ := hl f (.head _)
      have h1 : (sizeOf f.type).run P w = .ok (P.cellsOf f.type) w := by simp [sizeOf, typeInfo, hi, Program.cellsOf, go_sem]
      rw [List.mapM_cons]
      simp only [Sem.run_bind, h1, Result.andThen_ok, Sem.run_pure, ih (fun g hg => hl g (.tail _ hg)), List.map_cons]
  rw [Array.mapM_eq_mapM_toList, Sem.run_map, key _ (fun f hf => h f (by simpa using hf))]
  simp [Result.andThen]
  exact Array.ext' (by simp)
class TSt (P : Program) (T : TypeId) : Prop where h : (match P.underlying T with | some (.struct fs) => fs.all fun f => (P.info? f.type).isSome | _ => false) = true
theorem pv_build {z r : List Value} {l : List (Nat × Operand)} [TSt P T] [TZ P T z] (hb : Bld P T z l fr r) : Pv P ⟨fr, hp, ro⟩ (.build T l.toArray) (.agg r.toArray) := fun N E a w dst ty pos af g ok => by
  have hT := TSt.h (P := P) (T := T)
  split at hT <;> first | (exfalso; revert hT; simp; done) | skip
  rename_i fs hfs
  obtain ⟨zv, hzv, hzc⟩ := run_zeroValue (P := P) (T := T) (w := w)
  have hpl := mapM_places (fs := fs) P w (fun f hf => by
    have := Array.all_eq_true'.1 hT f hf
    exact Option.isSome_iff_exists.1 this)
  have hfill : ∀ {z r : List Value} {l : List (Nat × Operand)} {fr : List (Nat × Value)}, Bld P T z l fr r → Holds N fr a →
      Instr.fill (fun i => (fs.map fun f => (f.offset, P.cellsOf f.type))[i]?) z.toArray (l.map fun p => (p.1, a.eval p.2)) = some r.toArray := by
    intro z r l fr hb hfr
    have place : ∀ {i off sz : Nat}, FS P T i off sz → (fs.map fun f => (f.offset, P.cellsOf f.type))[i]? = some (off, sz) := by
      intro i off sz hF
      obtain ⟨fs', f, inf, h1, h2, h3, h4, h5, _⟩ := fs_und hF.h
      have : fs = fs' := by rw [hfs] at h1; injection h1 with h1; injection h1
      subst this
      simp [h2, Program.cellsOf, h3, h4, h5]
    induction hb with
    | nil => rfl
    | one hx h1 hz _ ih =>
      rename_i hF _
      rw [List.map_cons, fill_bld (l := [_]) (place hF) (by rw [hfr.eval hx]; exact cells_one h1) hz.lay]
      exact ih hfr
    | agg hx hn hz _ ih =>
      rename_i hF _
      rw [List.map_cons, fill_bld (place (by rw [Nat.eq_of_beq_eq_true hn]; exact hF)) (by rw [hfr.eval hx]; rfl) hz]
      exact ih hfr
  have h1 := hfill hb ok.h
  simp only [execOp, Instr.build, Sem.run_bind, hzv, Result.andThen_ok, run_underlying hfs, hpl, hzc, Sem.run_pure]
  have e : (List.map (fun (x : Nat × Operand) => match x with | (i, x) => (i, a.eval x)) l) = l.map (fun p => (p.1, a.eval p.2)) := rfl
  simp only [List.map_toArray, e, h1]
  rfl
end
/-! what a map's type is; a type's zero as one value -/
class TMap (P : Program) (T : TypeId) (k e : outParam TypeId) : Prop where h : P.underlying T = some (.map k e)
class TZV (P : Program) (T : TypeId) (v : outParam Value) : Prop where h : ((P.info? T).bind (·.zero)) = some v
theorem run_zeroV {P : Program} {T : TypeId} {v : Value} [hz : TZV P T v] {w : World} : (zeroValue T).run P w = .ok v w := by
  have h := hz.h
  cases h1 : P.info? T with
  | none => rw [h1] at h; cases h
  | some i =>
    rw [h1] at h
    simp only [Option.bind_some] at h
    simp [zeroValue, typeInfo, h1, h, go_sem]
end Go.Proofs.Ytlhlidmhlhodiaa

/-
  What the types and functions of this seat's program are, as instances. (Written by wip/tools/types.py.)
-/
namespace Go.Proofs.Ytlhlidmhlhodiaa
set_option linter.unusedVariables false

instance : TOne Try.prog 2 := ⟨by kernel_rfl⟩
instance : TInt Try.prog 2 .i64 := ⟨by kernel_rfl⟩
instance : TZV Try.prog 2 (.int .i64 0) := ⟨by kernel_rfl⟩
instance : TZ Try.prog 2 [.int .i64 0] := ⟨by kernel_rfl⟩
instance : TOne Try.prog 3 := ⟨by kernel_rfl⟩
instance : TInt Try.prog 3 .i64 := ⟨by kernel_rfl⟩
instance : TZV Try.prog 3 (.int .i64 0) := ⟨by kernel_rfl⟩
instance : TZ Try.prog 3 [.int .i64 0] := ⟨by kernel_rfl⟩
instance : TOne Try.prog 4 := ⟨by kernel_rfl⟩
instance : TBool Try.prog 4 := ⟨by kernel_rfl⟩
instance : TZV Try.prog 4 (.bool false) := ⟨by kernel_rfl⟩
instance : TZ Try.prog 4 [.bool false] := ⟨by kernel_rfl⟩
instance : TOne Try.prog 5 := ⟨by kernel_rfl⟩
instance : TInt Try.prog 5 .u8 := ⟨by kernel_rfl⟩
instance : TZV Try.prog 5 (.int .u8 0) := ⟨by kernel_rfl⟩
instance : TZ Try.prog 5 [.int .u8 0] := ⟨by kernel_rfl⟩
instance : TOne Try.prog 9 := ⟨by kernel_rfl⟩
instance : TStr Try.prog 9 := ⟨by kernel_rfl⟩
instance : TZV Try.prog 9 (.string ByteArray.empty) := ⟨by kernel_rfl⟩
instance : TZ Try.prog 9 [.string ByteArray.empty] := ⟨by kernel_rfl⟩
instance : TOne Try.prog 12 := ⟨by kernel_rfl⟩
instance : TInt Try.prog 12 .u64 := ⟨by kernel_rfl⟩
instance : TZV Try.prog 12 (.int .u64 0) := ⟨by kernel_rfl⟩
instance : TZ Try.prog 12 [.int .u64 0] := ⟨by kernel_rfl⟩
instance : TAgg Try.prog 13 2 := ⟨by kernel_rfl⟩
instance : TSt Try.prog 13 := ⟨by kernel_rfl⟩
instance : FS Try.prog 13 0 0 1 := ⟨by kernel_rfl⟩
instance : FS Try.prog 13 1 1 1 := ⟨by kernel_rfl⟩
instance : TZ Try.prog 13 [.string ByteArray.empty, .int .u64 0] := ⟨by kernel_rfl⟩
instance : TOne Try.prog 20 := ⟨by kernel_rfl⟩
instance : TZ Try.prog 20 [.nilIface] := ⟨by kernel_rfl⟩
instance : TOne Try.prog 21 := ⟨by kernel_rfl⟩
instance : TInt Try.prog 21 .i32 := ⟨by kernel_rfl⟩
instance : TZV Try.prog 21 (.int .i32 0) := ⟨by kernel_rfl⟩
instance : TZ Try.prog 21 [.int .i32 0] := ⟨by kernel_rfl⟩
instance : TAgg Try.prog 22 9 := ⟨by kernel_rfl⟩
instance : TSt Try.prog 22 := ⟨by kernel_rfl⟩
instance : FS Try.prog 22 0 0 1 := ⟨by kernel_rfl⟩
instance : FS Try.prog 22 1 1 1 := ⟨by kernel_rfl⟩
instance : FS Try.prog 22 2 2 1 := ⟨by kernel_rfl⟩
instance : FS Try.prog 22 3 3 1 := ⟨by kernel_rfl⟩
instance : FS Try.prog 22 4 4 1 := ⟨by kernel_rfl⟩
instance : FS Try.prog 22 5 5 1 := ⟨by kernel_rfl⟩
instance : FS Try.prog 22 6 6 1 := ⟨by kernel_rfl⟩
instance : FS Try.prog 22 7 7 1 := ⟨by kernel_rfl⟩
instance : FS Try.prog 22 8 8 1 := ⟨by kernel_rfl⟩
instance : TZ Try.prog 22 [.bool false, .bool false, .int .i64 0, .int .i64 0, .bool false, .int .i64 0, .int .i64 0, .bool false, .int .i64 0] := ⟨by kernel_rfl⟩
instance : TAgg Try.prog 23 9 := ⟨by kernel_rfl⟩
instance : TSt Try.prog 23 := ⟨by kernel_rfl⟩
instance : FS Try.prog 23 0 0 1 := ⟨by kernel_rfl⟩
instance : FS Try.prog 23 1 1 1 := ⟨by kernel_rfl⟩
instance : FS Try.prog 23 2 2 1 := ⟨by kernel_rfl⟩
instance : FS Try.prog 23 3 3 1 := ⟨by kernel_rfl⟩
instance : FS Try.prog 23 4 4 1 := ⟨by kernel_rfl⟩
instance : FS Try.prog 23 5 5 1 := ⟨by kernel_rfl⟩
instance : FS Try.prog 23 6 6 1 := ⟨by kernel_rfl⟩
instance : FS Try.prog 23 7 7 1 := ⟨by kernel_rfl⟩
instance : FS Try.prog 23 8 8 1 := ⟨by kernel_rfl⟩
instance : TZ Try.prog 23 [.bool false, .bool false, .int .i64 0, .int .i64 0, .bool false, .int .i64 0, .int .i64 0, .bool false, .int .i64 0] := ⟨by kernel_rfl⟩
instance : TOne Try.prog 24 := ⟨by kernel_rfl⟩
instance : TInt Try.prog 24 .u16 := ⟨by kernel_rfl⟩
instance : TZV Try.prog 24 (.int .u16 0) := ⟨by kernel_rfl⟩
instance : TZ Try.prog 24 [.int .u16 0] := ⟨by kernel_rfl⟩
instance : TOne Try.prog 27 := ⟨by kernel_rfl⟩
instance : TInt Try.prog 27 .i64 := ⟨by kernel_rfl⟩
instance : TZV Try.prog 27 (.int .i64 0) := ⟨by kernel_rfl⟩
instance : TZ Try.prog 27 [.int .i64 0] := ⟨by kernel_rfl⟩
instance : TOne Try.prog 30 := ⟨by kernel_rfl⟩
instance : TInt Try.prog 30 .u32 := ⟨by kernel_rfl⟩
instance : TZV Try.prog 30 (.int .u32 0) := ⟨by kernel_rfl⟩
instance : TZ Try.prog 30 [.int .u32 0] := ⟨by kernel_rfl⟩
instance : TOne Try.prog 31 := ⟨by kernel_rfl⟩
instance : TSl Try.prog 31 30 1 4 := ⟨by kernel_rfl⟩
instance : TZ Try.prog 31 [.slice none 0 0] := ⟨by kernel_rfl⟩
instance : TAgg Try.prog 32 11 := ⟨by kernel_rfl⟩
instance : TSt Try.prog 32 := ⟨by kernel_rfl⟩
instance : FS Try.prog 32 0 0 1 := ⟨by kernel_rfl⟩
instance : FS Try.prog 32 1 1 1 := ⟨by kernel_rfl⟩
instance : FS Try.prog 32 2 2 1 := ⟨by kernel_rfl⟩
instance : FS Try.prog 32 3 3 1 := ⟨by kernel_rfl⟩
instance : FS Try.prog 32 4 4 1 := ⟨by kernel_rfl⟩
instance : FS Try.prog 32 5 5 1 := ⟨by kernel_rfl⟩
instance : FS Try.prog 32 6 6 1 := ⟨by kernel_rfl⟩
instance : FS Try.prog 32 7 7 1 := ⟨by kernel_rfl⟩
instance : FS Try.prog 32 8 8 1 := ⟨by kernel_rfl⟩
instance : FS Try.prog 32 9 9 1 := ⟨by kernel_rfl⟩
instance : FS Try.prog 32 10 10 1 := ⟨by kernel_rfl⟩
instance : TZ Try.prog 32 [.bool false, .int .u8 0, .int .u16 0, .int .u32 0, .int .u32 0, .slice none 0 0, .bool false, .int .u16 0, .string ByteArray.empty, .string ByteArray.empty, .int .i64 0] := ⟨by kernel_rfl⟩
instance : TAgg Try.prog 33 11 := ⟨by kernel_rfl⟩
instance : TSt Try.prog 33 := ⟨by kernel_rfl⟩
instance : FS Try.prog 33 0 0 1 := ⟨by kernel_rfl⟩
instance : FS Try.prog 33 1 1 1 := ⟨by kernel_rfl⟩
instance : FS Try.prog 33 2 2 1 := ⟨by kernel_rfl⟩
instance : FS Try.prog 33 3 3 1 := ⟨by kernel_rfl⟩
instance : FS Try.prog 33 4 4 1 := ⟨by kernel_rfl⟩
instance : FS Try.prog 33 5 5 1 := ⟨by kernel_rfl⟩
instance : FS Try.prog 33 6 6 1 := ⟨by kernel_rfl⟩
instance : FS Try.prog 33 7 7 1 := ⟨by kernel_rfl⟩
instance : FS Try.prog 33 8 8 1 := ⟨by kernel_rfl⟩
instance : FS Try.prog 33 9 9 1 := ⟨by kernel_rfl⟩
instance : FS Try.prog 33 10 10 1 := ⟨by kernel_rfl⟩
instance : TZ Try.prog 33 [.bool false, .int .u8 0, .int .u16 0, .int .u32 0, .int .u32 0, .slice none 0 0, .bool false, .int .u16 0, .string ByteArray.empty, .string ByteArray.empty, .int .i64 0] := ⟨by kernel_rfl⟩
instance : TOne Try.prog 40 := ⟨by kernel_rfl⟩
instance : TSl Try.prog 40 4 1 1 := ⟨by kernel_rfl⟩
instance : TZ Try.prog 40 [.slice none 0 0] := ⟨by kernel_rfl⟩
instance : TOne Try.prog 41 := ⟨by kernel_rfl⟩
instance : TPtr Try.prog 41 164 := ⟨by kernel_rfl⟩
instance : TZ Try.prog 41 [.pointer none] := ⟨by kernel_rfl⟩
instance : TOne Try.prog 43 := ⟨by kernel_rfl⟩
instance : TPtr Try.prog 43 166 := ⟨by kernel_rfl⟩
instance : TZ Try.prog 43 [.pointer none] := ⟨by kernel_rfl⟩
instance : TAgg Try.prog 46 2 := ⟨by kernel_rfl⟩
instance : TSt Try.prog 46 := ⟨by kernel_rfl⟩
instance : FS Try.prog 46 0 0 1 := ⟨by kernel_rfl⟩
instance : FS Try.prog 46 1 1 1 := ⟨by kernel_rfl⟩
instance : TZ Try.prog 46 [.int .i64 0, .int .i64 0] := ⟨by kernel_rfl⟩
instance : TAgg Try.prog 47 2 := ⟨by kernel_rfl⟩
instance : TSt Try.prog 47 := ⟨by kernel_rfl⟩
instance : FS Try.prog 47 0 0 1 := ⟨by kernel_rfl⟩
instance : FS Try.prog 47 1 1 1 := ⟨by kernel_rfl⟩
instance : TZ Try.prog 47 [.int .i64 0, .int .i64 0] := ⟨by kernel_rfl⟩
instance : TOne Try.prog 54 := ⟨by kernel_rfl⟩
instance : TPtr Try.prog 54 169 := ⟨by kernel_rfl⟩
instance : TZ Try.prog 54 [.pointer none] := ⟨by kernel_rfl⟩
instance : TOne Try.prog 57 := ⟨by kernel_rfl⟩
instance : TPtr Try.prog 57 173 := ⟨by kernel_rfl⟩
instance : TZ Try.prog 57 [.pointer none] := ⟨by kernel_rfl⟩
instance : TAgg Try.prog 60 3 := ⟨by kernel_rfl⟩
instance : TSt Try.prog 60 := ⟨by kernel_rfl⟩
instance : FS Try.prog 60 0 0 1 := ⟨by kernel_rfl⟩
instance : FS Try.prog 60 1 1 1 := ⟨by kernel_rfl⟩
instance : FS Try.prog 60 2 2 1 := ⟨by kernel_rfl⟩
instance : TZ Try.prog 60 [.int .i64 0, .int .i64 0, .int .i64 0] := ⟨by kernel_rfl⟩
instance : TAgg Try.prog 61 3 := ⟨by kernel_rfl⟩
instance : TSt Try.prog 61 := ⟨by kernel_rfl⟩
instance : FS Try.prog 61 0 0 1 := ⟨by kernel_rfl⟩
instance : FS Try.prog 61 1 1 1 := ⟨by kernel_rfl⟩
instance : FS Try.prog 61 2 2 1 := ⟨by kernel_rfl⟩
instance : TZ Try.prog 61 [.int .i64 0, .int .i64 0, .int .i64 0] := ⟨by kernel_rfl⟩
instance : TOne Try.prog 66 := ⟨by kernel_rfl⟩
instance : TSl Try.prog 66 179 1 16 := ⟨by kernel_rfl⟩
instance : TZ Try.prog 66 [.slice none 0 0] := ⟨by kernel_rfl⟩
instance : TOne Try.prog 70 := ⟨by kernel_rfl⟩
instance : TSl Try.prog 70 24 1 2 := ⟨by kernel_rfl⟩
instance : TZ Try.prog 70 [.slice none 0 0] := ⟨by kernel_rfl⟩
instance : TOne Try.prog 72 := ⟨by kernel_rfl⟩
instance : TSl Try.prog 72 186 2 4 := ⟨by kernel_rfl⟩
instance : TZ Try.prog 72 [.slice none 0 0] := ⟨by kernel_rfl⟩
instance : TAgg Try.prog 74 3 := ⟨by kernel_rfl⟩
instance : TSt Try.prog 74 := ⟨by kernel_rfl⟩
instance : FS Try.prog 74 0 0 1 := ⟨by kernel_rfl⟩
instance : FS Try.prog 74 1 1 1 := ⟨by kernel_rfl⟩
instance : FS Try.prog 74 2 2 1 := ⟨by kernel_rfl⟩
instance : TZ Try.prog 74 [.int .u32 0, .int .u32 0, .slice none 0 0] := ⟨by kernel_rfl⟩
instance : TAgg Try.prog 75 3 := ⟨by kernel_rfl⟩
instance : TSt Try.prog 75 := ⟨by kernel_rfl⟩
instance : FS Try.prog 75 0 0 1 := ⟨by kernel_rfl⟩
instance : FS Try.prog 75 1 1 1 := ⟨by kernel_rfl⟩
instance : FS Try.prog 75 2 2 1 := ⟨by kernel_rfl⟩
instance : TZ Try.prog 75 [.int .u32 0, .int .u32 0, .slice none 0 0] := ⟨by kernel_rfl⟩
instance : TAgg Try.prog 76 2 := ⟨by kernel_rfl⟩
instance : TSt Try.prog 76 := ⟨by kernel_rfl⟩
instance : FS Try.prog 76 0 0 1 := ⟨by kernel_rfl⟩
instance : FS Try.prog 76 1 1 1 := ⟨by kernel_rfl⟩
instance : TZ Try.prog 76 [.int .u32 0, .int .u32 0] := ⟨by kernel_rfl⟩
instance : TAgg Try.prog 77 2 := ⟨by kernel_rfl⟩
instance : TSt Try.prog 77 := ⟨by kernel_rfl⟩
instance : FS Try.prog 77 0 0 1 := ⟨by kernel_rfl⟩
instance : FS Try.prog 77 1 1 1 := ⟨by kernel_rfl⟩
instance : TZ Try.prog 77 [.int .u32 0, .int .u32 0] := ⟨by kernel_rfl⟩
instance : TOne Try.prog 78 := ⟨by kernel_rfl⟩
instance : TInt Try.prog 78 .u64 := ⟨by kernel_rfl⟩
instance : TZV Try.prog 78 (.int .u64 0) := ⟨by kernel_rfl⟩
instance : TZ Try.prog 78 [.int .u64 0] := ⟨by kernel_rfl⟩
instance : TAgg Try.prog 79 4 := ⟨by kernel_rfl⟩
instance : TSt Try.prog 79 := ⟨by kernel_rfl⟩
instance : FS Try.prog 79 0 0 1 := ⟨by kernel_rfl⟩
instance : FS Try.prog 79 1 1 1 := ⟨by kernel_rfl⟩
instance : FS Try.prog 79 2 2 1 := ⟨by kernel_rfl⟩
instance : FS Try.prog 79 3 3 1 := ⟨by kernel_rfl⟩
instance : TZ Try.prog 79 [.slice none 0 0, .bool false, .int .u64 0, .bool false] := ⟨by kernel_rfl⟩
instance : TAgg Try.prog 80 4 := ⟨by kernel_rfl⟩
instance : TSt Try.prog 80 := ⟨by kernel_rfl⟩
instance : FS Try.prog 80 0 0 1 := ⟨by kernel_rfl⟩
instance : FS Try.prog 80 1 1 1 := ⟨by kernel_rfl⟩
instance : FS Try.prog 80 2 2 1 := ⟨by kernel_rfl⟩
instance : FS Try.prog 80 3 3 1 := ⟨by kernel_rfl⟩
instance : TZ Try.prog 80 [.slice none 0 0, .bool false, .int .u64 0, .bool false] := ⟨by kernel_rfl⟩
instance : TOne Try.prog 82 := ⟨by kernel_rfl⟩
instance : TMap Try.prog 82 24 3 := ⟨by kernel_rfl⟩
instance : TZ Try.prog 82 [.map none] := ⟨by kernel_rfl⟩
instance : TOne Try.prog 85 := ⟨by kernel_rfl⟩
instance : TSl Try.prog 85 3 1 8 := ⟨by kernel_rfl⟩
instance : TZ Try.prog 85 [.slice none 0 0] := ⟨by kernel_rfl⟩
instance : TOne Try.prog 86 := ⟨by kernel_rfl⟩
instance : TPtr Try.prog 86 210 := ⟨by kernel_rfl⟩
instance : TZ Try.prog 86 [.pointer none] := ⟨by kernel_rfl⟩
instance : TAgg Try.prog 89 2 := ⟨by kernel_rfl⟩
instance : TSt Try.prog 89 := ⟨by kernel_rfl⟩
instance : FS Try.prog 89 0 0 1 := ⟨by kernel_rfl⟩
instance : FS Try.prog 89 1 1 1 := ⟨by kernel_rfl⟩
instance : TZ Try.prog 89 [.int .i64 0, .int .i64 0] := ⟨by kernel_rfl⟩
instance : TAgg Try.prog 90 2 := ⟨by kernel_rfl⟩
instance : TSt Try.prog 90 := ⟨by kernel_rfl⟩
instance : FS Try.prog 90 0 0 1 := ⟨by kernel_rfl⟩
instance : FS Try.prog 90 1 1 1 := ⟨by kernel_rfl⟩
instance : TZ Try.prog 90 [.int .i64 0, .int .i64 0] := ⟨by kernel_rfl⟩
instance : TAgg Try.prog 91 4 := ⟨by kernel_rfl⟩
instance : TSt Try.prog 91 := ⟨by kernel_rfl⟩
instance : FS Try.prog 91 0 0 1 := ⟨by kernel_rfl⟩
instance : FS Try.prog 91 1 1 1 := ⟨by kernel_rfl⟩
instance : FS Try.prog 91 2 2 1 := ⟨by kernel_rfl⟩
instance : FS Try.prog 91 3 3 1 := ⟨by kernel_rfl⟩
instance : TZ Try.prog 91 [.bool false, .int .i64 0, .int .i64 0, .int .i64 0] := ⟨by kernel_rfl⟩
instance : TAgg Try.prog 92 4 := ⟨by kernel_rfl⟩
instance : TSt Try.prog 92 := ⟨by kernel_rfl⟩
instance : FS Try.prog 92 0 0 1 := ⟨by kernel_rfl⟩
instance : FS Try.prog 92 1 1 1 := ⟨by kernel_rfl⟩
instance : FS Try.prog 92 2 2 1 := ⟨by kernel_rfl⟩
instance : FS Try.prog 92 3 3 1 := ⟨by kernel_rfl⟩
instance : TZ Try.prog 92 [.bool false, .int .i64 0, .int .i64 0, .int .i64 0] := ⟨by kernel_rfl⟩
instance : TAgg Try.prog 93 6 := ⟨by kernel_rfl⟩
instance : TSt Try.prog 93 := ⟨by kernel_rfl⟩
instance : FS Try.prog 93 0 0 2 := ⟨by kernel_rfl⟩
instance : FS Try.prog 93 1 2 4 := ⟨by kernel_rfl⟩
instance : TZ Try.prog 93 [.int .i64 0, .int .i64 0, .bool false, .int .i64 0, .int .i64 0, .int .i64 0] := ⟨by kernel_rfl⟩
instance : TAgg Try.prog 94 6 := ⟨by kernel_rfl⟩
instance : TSt Try.prog 94 := ⟨by kernel_rfl⟩
instance : FS Try.prog 94 0 0 2 := ⟨by kernel_rfl⟩
instance : FS Try.prog 94 1 2 4 := ⟨by kernel_rfl⟩
instance : TZ Try.prog 94 [.int .i64 0, .int .i64 0, .bool false, .int .i64 0, .int .i64 0, .int .i64 0] := ⟨by kernel_rfl⟩
instance : TOne Try.prog 95 := ⟨by kernel_rfl⟩
instance : TSl Try.prog 95 33 11 88 := ⟨by kernel_rfl⟩
instance : TZ Try.prog 95 [.slice none 0 0] := ⟨by kernel_rfl⟩
instance : TOne Try.prog 97 := ⟨by kernel_rfl⟩
instance : TMap Try.prog 97 3 3 := ⟨by kernel_rfl⟩
instance : TZ Try.prog 97 [.map none] := ⟨by kernel_rfl⟩
instance : TOne Try.prog 98 := ⟨by kernel_rfl⟩
instance : TSl Try.prog 98 104 1 24 := ⟨by kernel_rfl⟩
instance : TZ Try.prog 98 [.slice none 0 0] := ⟨by kernel_rfl⟩
instance : TOne Try.prog 102 := ⟨by kernel_rfl⟩
instance : TSl Try.prog 102 106 7 48 := ⟨by kernel_rfl⟩
instance : TZ Try.prog 102 [.slice none 0 0] := ⟨by kernel_rfl⟩
instance : TAgg Try.prog 103 1 := ⟨by kernel_rfl⟩
instance : TSt Try.prog 103 := ⟨by kernel_rfl⟩
instance : FS Try.prog 103 0 0 1 := ⟨by kernel_rfl⟩
instance : TZ Try.prog 103 [.slice none 0 0] := ⟨by kernel_rfl⟩
instance : TAgg Try.prog 104 1 := ⟨by kernel_rfl⟩
instance : TSt Try.prog 104 := ⟨by kernel_rfl⟩
instance : FS Try.prog 104 0 0 1 := ⟨by kernel_rfl⟩
instance : TZ Try.prog 104 [.slice none 0 0] := ⟨by kernel_rfl⟩
instance : TAgg Try.prog 105 7 := ⟨by kernel_rfl⟩
instance : TSt Try.prog 105 := ⟨by kernel_rfl⟩
instance : FS Try.prog 105 0 0 1 := ⟨by kernel_rfl⟩
instance : FS Try.prog 105 1 1 1 := ⟨by kernel_rfl⟩
instance : FS Try.prog 105 2 2 1 := ⟨by kernel_rfl⟩
instance : FS Try.prog 105 3 3 1 := ⟨by kernel_rfl⟩
instance : FS Try.prog 105 4 4 1 := ⟨by kernel_rfl⟩
instance : FS Try.prog 105 5 5 1 := ⟨by kernel_rfl⟩
instance : FS Try.prog 105 6 6 1 := ⟨by kernel_rfl⟩
instance : TZ Try.prog 105 [.int .i64 0, .int .i64 0, .bool false, .bool false, .bool false, .string ByteArray.empty, .int .i64 0] := ⟨by kernel_rfl⟩
instance : TAgg Try.prog 106 7 := ⟨by kernel_rfl⟩
instance : TSt Try.prog 106 := ⟨by kernel_rfl⟩
instance : FS Try.prog 106 0 0 1 := ⟨by kernel_rfl⟩
instance : FS Try.prog 106 1 1 1 := ⟨by kernel_rfl⟩
instance : FS Try.prog 106 2 2 1 := ⟨by kernel_rfl⟩
instance : FS Try.prog 106 3 3 1 := ⟨by kernel_rfl⟩
instance : FS Try.prog 106 4 4 1 := ⟨by kernel_rfl⟩
instance : FS Try.prog 106 5 5 1 := ⟨by kernel_rfl⟩
instance : FS Try.prog 106 6 6 1 := ⟨by kernel_rfl⟩
instance : TZ Try.prog 106 [.int .i64 0, .int .i64 0, .bool false, .bool false, .bool false, .string ByteArray.empty, .int .i64 0] := ⟨by kernel_rfl⟩
instance : TOne Try.prog 108 := ⟨by kernel_rfl⟩
instance : TPtr Try.prog 108 223 := ⟨by kernel_rfl⟩
instance : TZ Try.prog 108 [.pointer none] := ⟨by kernel_rfl⟩
instance : TOne Try.prog 111 := ⟨by kernel_rfl⟩
instance : TPtr Try.prog 111 225 := ⟨by kernel_rfl⟩
instance : TZ Try.prog 111 [.pointer none] := ⟨by kernel_rfl⟩
instance : TOne Try.prog 113 := ⟨by kernel_rfl⟩
instance : TMap Try.prog 113 24 9 := ⟨by kernel_rfl⟩
instance : TZ Try.prog 113 [.map none] := ⟨by kernel_rfl⟩
instance : TOne Try.prog 116 := ⟨by kernel_rfl⟩
instance : TSl Try.prog 116 9 1 16 := ⟨by kernel_rfl⟩
instance : TZ Try.prog 116 [.slice none 0 0] := ⟨by kernel_rfl⟩
instance : TOne Try.prog 120 := ⟨by kernel_rfl⟩
instance : TPtr Try.prog 120 240 := ⟨by kernel_rfl⟩
instance : TZ Try.prog 120 [.pointer none] := ⟨by kernel_rfl⟩
instance : TAgg Try.prog 123 5 := ⟨by kernel_rfl⟩
instance : TSt Try.prog 123 := ⟨by kernel_rfl⟩
instance : FS Try.prog 123 0 0 1 := ⟨by kernel_rfl⟩
instance : FS Try.prog 123 1 1 1 := ⟨by kernel_rfl⟩
instance : FS Try.prog 123 2 2 1 := ⟨by kernel_rfl⟩
instance : FS Try.prog 123 3 3 1 := ⟨by kernel_rfl⟩
instance : FS Try.prog 123 4 4 1 := ⟨by kernel_rfl⟩
instance : TZ Try.prog 123 [.int .i64 0, .int .i64 0, .int .i64 0, .int .i64 0, .int .i64 0] := ⟨by kernel_rfl⟩
instance : TAgg Try.prog 124 5 := ⟨by kernel_rfl⟩
instance : TSt Try.prog 124 := ⟨by kernel_rfl⟩
instance : FS Try.prog 124 0 0 1 := ⟨by kernel_rfl⟩
instance : FS Try.prog 124 1 1 1 := ⟨by kernel_rfl⟩
instance : FS Try.prog 124 2 2 1 := ⟨by kernel_rfl⟩
instance : FS Try.prog 124 3 3 1 := ⟨by kernel_rfl⟩
instance : FS Try.prog 124 4 4 1 := ⟨by kernel_rfl⟩
instance : TZ Try.prog 124 [.int .i64 0, .int .i64 0, .int .i64 0, .int .i64 0, .int .i64 0] := ⟨by kernel_rfl⟩
instance : TAr Try.prog 126 3 3 1 := ⟨by kernel_rfl⟩
instance : TAgg Try.prog 126 3 := ⟨by kernel_rfl⟩
instance : TZ Try.prog 126 [.int .i64 0, .int .i64 0, .int .i64 0] := ⟨by kernel_rfl⟩
instance : TOne Try.prog 129 := ⟨by kernel_rfl⟩
instance : TSl Try.prog 129 137 5 40 := ⟨by kernel_rfl⟩
instance : TZ Try.prog 129 [.slice none 0 0] := ⟨by kernel_rfl⟩
instance : TAgg Try.prog 132 4 := ⟨by kernel_rfl⟩
instance : TSt Try.prog 132 := ⟨by kernel_rfl⟩
instance : FS Try.prog 132 0 0 1 := ⟨by kernel_rfl⟩
instance : FS Try.prog 132 1 1 1 := ⟨by kernel_rfl⟩
instance : FS Try.prog 132 2 2 1 := ⟨by kernel_rfl⟩
instance : FS Try.prog 132 3 3 1 := ⟨by kernel_rfl⟩
instance : TZ Try.prog 132 [.int .i64 0, .int .i64 0, .int .i64 0, .bool false] := ⟨by kernel_rfl⟩
instance : TAgg Try.prog 133 4 := ⟨by kernel_rfl⟩
instance : TSt Try.prog 133 := ⟨by kernel_rfl⟩
instance : FS Try.prog 133 0 0 1 := ⟨by kernel_rfl⟩
instance : FS Try.prog 133 1 1 1 := ⟨by kernel_rfl⟩
instance : FS Try.prog 133 2 2 1 := ⟨by kernel_rfl⟩
instance : FS Try.prog 133 3 3 1 := ⟨by kernel_rfl⟩
instance : TZ Try.prog 133 [.int .i64 0, .int .i64 0, .int .i64 0, .bool false] := ⟨by kernel_rfl⟩
instance : TAgg Try.prog 136 5 := ⟨by kernel_rfl⟩
instance : TSt Try.prog 136 := ⟨by kernel_rfl⟩
instance : FS Try.prog 136 0 0 1 := ⟨by kernel_rfl⟩
instance : FS Try.prog 136 1 1 4 := ⟨by kernel_rfl⟩
instance : TZ Try.prog 136 [.int .i64 0, .int .i64 0, .int .i64 0, .int .i64 0, .bool false] := ⟨by kernel_rfl⟩
instance : TAgg Try.prog 137 5 := ⟨by kernel_rfl⟩
instance : TSt Try.prog 137 := ⟨by kernel_rfl⟩
instance : FS Try.prog 137 0 0 1 := ⟨by kernel_rfl⟩
instance : FS Try.prog 137 1 1 4 := ⟨by kernel_rfl⟩
instance : TZ Try.prog 137 [.int .i64 0, .int .i64 0, .int .i64 0, .int .i64 0, .bool false] := ⟨by kernel_rfl⟩
instance : TOne Try.prog 140 := ⟨by kernel_rfl⟩
instance : TPtr Try.prog 140 143 := ⟨by kernel_rfl⟩
instance : TZ Try.prog 140 [.pointer none] := ⟨by kernel_rfl⟩
instance : TOne Try.prog 141 := ⟨by kernel_rfl⟩
instance : TSl Try.prog 141 5 1 1 := ⟨by kernel_rfl⟩
instance : TZ Try.prog 141 [.slice none 0 0] := ⟨by kernel_rfl⟩
instance : TAgg Try.prog 142 2 := ⟨by kernel_rfl⟩
instance : TSt Try.prog 142 := ⟨by kernel_rfl⟩
instance : FS Try.prog 142 0 0 1 := ⟨by kernel_rfl⟩
instance : FS Try.prog 142 1 1 1 := ⟨by kernel_rfl⟩
instance : TZ Try.prog 142 [.pointer none, .slice none 0 0] := ⟨by kernel_rfl⟩
instance : TAgg Try.prog 143 2 := ⟨by kernel_rfl⟩
instance : TSt Try.prog 143 := ⟨by kernel_rfl⟩
instance : FS Try.prog 143 0 0 1 := ⟨by kernel_rfl⟩
instance : FS Try.prog 143 1 1 1 := ⟨by kernel_rfl⟩
instance : TZ Try.prog 143 [.pointer none, .slice none 0 0] := ⟨by kernel_rfl⟩
instance : TAgg Try.prog 144 2 := ⟨by kernel_rfl⟩
instance : TSt Try.prog 144 := ⟨by kernel_rfl⟩
instance : FS Try.prog 144 0 0 2 := ⟨by kernel_rfl⟩
instance : TZ Try.prog 144 [.pointer none, .slice none 0 0] := ⟨by kernel_rfl⟩
instance : TAgg Try.prog 145 2 := ⟨by kernel_rfl⟩
instance : TSt Try.prog 145 := ⟨by kernel_rfl⟩
instance : FS Try.prog 145 0 0 2 := ⟨by kernel_rfl⟩
instance : TZ Try.prog 145 [.pointer none, .slice none 0 0] := ⟨by kernel_rfl⟩
instance : TOne Try.prog 146 := ⟨by kernel_rfl⟩
instance : TPtr Try.prog 146 145 := ⟨by kernel_rfl⟩
instance : TZ Try.prog 146 [.pointer none] := ⟨by kernel_rfl⟩
instance : TOne Try.prog 150 := ⟨by kernel_rfl⟩
instance : TInt Try.prog 150 .u64 := ⟨by kernel_rfl⟩
instance : TZV Try.prog 150 (.int .u64 0) := ⟨by kernel_rfl⟩
instance : TZ Try.prog 150 [.int .u64 0] := ⟨by kernel_rfl⟩
instance : TOne Try.prog 151 := ⟨by kernel_rfl⟩
instance : TPtr Try.prog 151 260 := ⟨by kernel_rfl⟩
instance : TZ Try.prog 151 [.pointer none] := ⟨by kernel_rfl⟩
instance : TAgg Try.prog 163 7 := ⟨by kernel_rfl⟩
instance : TSt Try.prog 163 := ⟨by kernel_rfl⟩
instance : FS Try.prog 163 0 0 1 := ⟨by kernel_rfl⟩
instance : FS Try.prog 163 1 1 1 := ⟨by kernel_rfl⟩
instance : FS Try.prog 163 2 2 1 := ⟨by kernel_rfl⟩
instance : FS Try.prog 163 3 3 1 := ⟨by kernel_rfl⟩
instance : FS Try.prog 163 4 4 1 := ⟨by kernel_rfl⟩
instance : FS Try.prog 163 5 5 1 := ⟨by kernel_rfl⟩
instance : FS Try.prog 163 6 6 1 := ⟨by kernel_rfl⟩
instance : TZ Try.prog 163 [.bool false, .bool false, .int .i64 0, .int .i64 0, .bool false, .int .i64 0, .int .i64 0] := ⟨by kernel_rfl⟩
instance : TAgg Try.prog 164 7 := ⟨by kernel_rfl⟩
instance : TSt Try.prog 164 := ⟨by kernel_rfl⟩
instance : FS Try.prog 164 0 0 1 := ⟨by kernel_rfl⟩
instance : FS Try.prog 164 1 1 1 := ⟨by kernel_rfl⟩
instance : FS Try.prog 164 2 2 1 := ⟨by kernel_rfl⟩
instance : FS Try.prog 164 3 3 1 := ⟨by kernel_rfl⟩
instance : FS Try.prog 164 4 4 1 := ⟨by kernel_rfl⟩
instance : FS Try.prog 164 5 5 1 := ⟨by kernel_rfl⟩
instance : FS Try.prog 164 6 6 1 := ⟨by kernel_rfl⟩
instance : TZ Try.prog 164 [.bool false, .bool false, .int .i64 0, .int .i64 0, .bool false, .int .i64 0, .int .i64 0] := ⟨by kernel_rfl⟩
instance : TAgg Try.prog 165 6 := ⟨by kernel_rfl⟩
instance : TSt Try.prog 165 := ⟨by kernel_rfl⟩
instance : FS Try.prog 165 0 0 2 := ⟨by kernel_rfl⟩
instance : FS Try.prog 165 1 2 1 := ⟨by kernel_rfl⟩
instance : FS Try.prog 165 2 3 1 := ⟨by kernel_rfl⟩
instance : FS Try.prog 165 3 4 1 := ⟨by kernel_rfl⟩
instance : FS Try.prog 165 4 5 1 := ⟨by kernel_rfl⟩
instance : TZ Try.prog 165 [.int .i64 0, .int .i64 0, .bool false, .int .i64 0, .int .i64 0, .int .i64 0] := ⟨by kernel_rfl⟩
instance : TAgg Try.prog 166 6 := ⟨by kernel_rfl⟩
instance : TSt Try.prog 166 := ⟨by kernel_rfl⟩
instance : FS Try.prog 166 0 0 2 := ⟨by kernel_rfl⟩
instance : FS Try.prog 166 1 2 1 := ⟨by kernel_rfl⟩
instance : FS Try.prog 166 2 3 1 := ⟨by kernel_rfl⟩
instance : FS Try.prog 166 3 4 1 := ⟨by kernel_rfl⟩
instance : FS Try.prog 166 4 5 1 := ⟨by kernel_rfl⟩
instance : TZ Try.prog 166 [.int .i64 0, .int .i64 0, .bool false, .int .i64 0, .int .i64 0, .int .i64 0] := ⟨by kernel_rfl⟩
instance : TOne Try.prog 167 := ⟨by kernel_rfl⟩
instance : TSl Try.prog 167 175 2 16 := ⟨by kernel_rfl⟩
instance : TZ Try.prog 167 [.slice none 0 0] := ⟨by kernel_rfl⟩
instance : TAgg Try.prog 168 5 := ⟨by kernel_rfl⟩
instance : TSt Try.prog 168 := ⟨by kernel_rfl⟩
instance : FS Try.prog 168 0 0 1 := ⟨by kernel_rfl⟩
instance : FS Try.prog 168 1 1 1 := ⟨by kernel_rfl⟩
instance : FS Try.prog 168 2 2 1 := ⟨by kernel_rfl⟩
instance : FS Try.prog 168 3 3 1 := ⟨by kernel_rfl⟩
instance : FS Try.prog 168 4 4 1 := ⟨by kernel_rfl⟩
instance : TZ Try.prog 168 [.int .i64 0, .slice none 0 0, .int .i64 0, .int .i64 0, .int .i64 0] := ⟨by kernel_rfl⟩
instance : TAgg Try.prog 169 5 := ⟨by kernel_rfl⟩
instance : TSt Try.prog 169 := ⟨by kernel_rfl⟩
instance : FS Try.prog 169 0 0 1 := ⟨by kernel_rfl⟩
instance : FS Try.prog 169 1 1 1 := ⟨by kernel_rfl⟩
instance : FS Try.prog 169 2 2 1 := ⟨by kernel_rfl⟩
instance : FS Try.prog 169 3 3 1 := ⟨by kernel_rfl⟩
instance : FS Try.prog 169 4 4 1 := ⟨by kernel_rfl⟩
instance : TZ Try.prog 169 [.int .i64 0, .slice none 0 0, .int .i64 0, .int .i64 0, .int .i64 0] := ⟨by kernel_rfl⟩
instance : TAgg Try.prog 172 9 := ⟨by kernel_rfl⟩
instance : TSt Try.prog 172 := ⟨by kernel_rfl⟩
instance : FS Try.prog 172 0 0 3 := ⟨by kernel_rfl⟩
instance : FS Try.prog 172 1 3 1 := ⟨by kernel_rfl⟩
instance : FS Try.prog 172 2 4 1 := ⟨by kernel_rfl⟩
instance : FS Try.prog 172 3 5 1 := ⟨by kernel_rfl⟩
instance : FS Try.prog 172 4 6 1 := ⟨by kernel_rfl⟩
instance : FS Try.prog 172 5 7 1 := ⟨by kernel_rfl⟩
instance : FS Try.prog 172 6 8 1 := ⟨by kernel_rfl⟩
instance : TZ Try.prog 172 [.int .i64 0, .int .i64 0, .int .i64 0, .slice none 0 0, .int .i64 0, .int .i64 0, .int .i64 0, .int .i64 0, .int .i64 0] := ⟨by kernel_rfl⟩
instance : TAgg Try.prog 173 9 := ⟨by kernel_rfl⟩
instance : TSt Try.prog 173 := ⟨by kernel_rfl⟩
instance : FS Try.prog 173 0 0 3 := ⟨by kernel_rfl⟩
instance : FS Try.prog 173 1 3 1 := ⟨by kernel_rfl⟩
instance : FS Try.prog 173 2 4 1 := ⟨by kernel_rfl⟩
instance : FS Try.prog 173 3 5 1 := ⟨by kernel_rfl⟩
instance : FS Try.prog 173 4 6 1 := ⟨by kernel_rfl⟩
instance : FS Try.prog 173 5 7 1 := ⟨by kernel_rfl⟩
instance : FS Try.prog 173 6 8 1 := ⟨by kernel_rfl⟩
instance : TZ Try.prog 173 [.int .i64 0, .int .i64 0, .int .i64 0, .slice none 0 0, .int .i64 0, .int .i64 0, .int .i64 0, .int .i64 0, .int .i64 0] := ⟨by kernel_rfl⟩
instance : TAgg Try.prog 174 2 := ⟨by kernel_rfl⟩
instance : TSt Try.prog 174 := ⟨by kernel_rfl⟩
instance : FS Try.prog 174 0 0 1 := ⟨by kernel_rfl⟩
instance : FS Try.prog 174 1 1 1 := ⟨by kernel_rfl⟩
instance : TZ Try.prog 174 [.int .i64 0, .int .i64 0] := ⟨by kernel_rfl⟩
instance : TAgg Try.prog 175 2 := ⟨by kernel_rfl⟩
instance : TSt Try.prog 175 := ⟨by kernel_rfl⟩
instance : FS Try.prog 175 0 0 1 := ⟨by kernel_rfl⟩
instance : FS Try.prog 175 1 1 1 := ⟨by kernel_rfl⟩
instance : TZ Try.prog 175 [.int .i64 0, .int .i64 0] := ⟨by kernel_rfl⟩
instance : TOne Try.prog 178 := ⟨by kernel_rfl⟩
instance : TZ Try.prog 178 [.nilIface] := ⟨by kernel_rfl⟩
instance : TOne Try.prog 179 := ⟨by kernel_rfl⟩
instance : TZ Try.prog 179 [.nilIface] := ⟨by kernel_rfl⟩
instance : TAgg Try.prog 185 2 := ⟨by kernel_rfl⟩
instance : TSt Try.prog 185 := ⟨by kernel_rfl⟩
instance : FS Try.prog 185 0 0 1 := ⟨by kernel_rfl⟩
instance : FS Try.prog 185 1 1 1 := ⟨by kernel_rfl⟩
instance : TZ Try.prog 185 [.int .u16 0, .int .u16 0] := ⟨by kernel_rfl⟩
instance : TAgg Try.prog 186 2 := ⟨by kernel_rfl⟩
instance : TSt Try.prog 186 := ⟨by kernel_rfl⟩
instance : FS Try.prog 186 0 0 1 := ⟨by kernel_rfl⟩
instance : FS Try.prog 186 1 1 1 := ⟨by kernel_rfl⟩
instance : TZ Try.prog 186 [.int .u16 0, .int .u16 0] := ⟨by kernel_rfl⟩
instance : TOne Try.prog 188 := ⟨by kernel_rfl⟩
instance : TSl Try.prog 188 192 2 8 := ⟨by kernel_rfl⟩
instance : TZ Try.prog 188 [.slice none 0 0] := ⟨by kernel_rfl⟩
instance : TAgg Try.prog 189 2 := ⟨by kernel_rfl⟩
instance : TSt Try.prog 189 := ⟨by kernel_rfl⟩
instance : FS Try.prog 189 0 0 1 := ⟨by kernel_rfl⟩
instance : FS Try.prog 189 1 1 1 := ⟨by kernel_rfl⟩
instance : TZ Try.prog 189 [.int .u32 0, .slice none 0 0] := ⟨by kernel_rfl⟩
instance : TAgg Try.prog 190 2 := ⟨by kernel_rfl⟩
instance : TSt Try.prog 190 := ⟨by kernel_rfl⟩
instance : FS Try.prog 190 0 0 1 := ⟨by kernel_rfl⟩
instance : FS Try.prog 190 1 1 1 := ⟨by kernel_rfl⟩
instance : TZ Try.prog 190 [.int .u32 0, .slice none 0 0] := ⟨by kernel_rfl⟩
instance : TAgg Try.prog 191 2 := ⟨by kernel_rfl⟩
instance : TSt Try.prog 191 := ⟨by kernel_rfl⟩
instance : FS Try.prog 191 0 0 1 := ⟨by kernel_rfl⟩
instance : FS Try.prog 191 1 1 1 := ⟨by kernel_rfl⟩
instance : TZ Try.prog 191 [.int .u32 0, .int .u8 0] := ⟨by kernel_rfl⟩
instance : TAgg Try.prog 192 2 := ⟨by kernel_rfl⟩
instance : TSt Try.prog 192 := ⟨by kernel_rfl⟩
instance : FS Try.prog 192 0 0 1 := ⟨by kernel_rfl⟩
instance : FS Try.prog 192 1 1 1 := ⟨by kernel_rfl⟩
instance : TZ Try.prog 192 [.int .u32 0, .int .u8 0] := ⟨by kernel_rfl⟩
instance : TAgg Try.prog 193 3 := ⟨by kernel_rfl⟩
instance : TSt Try.prog 193 := ⟨by kernel_rfl⟩
instance : FS Try.prog 193 0 0 1 := ⟨by kernel_rfl⟩
instance : FS Try.prog 193 1 1 1 := ⟨by kernel_rfl⟩
instance : FS Try.prog 193 2 2 1 := ⟨by kernel_rfl⟩
instance : TZ Try.prog 193 [.int .u32 0, .int .u64 0, .slice none 0 0] := ⟨by kernel_rfl⟩
instance : TAgg Try.prog 194 3 := ⟨by kernel_rfl⟩
instance : TSt Try.prog 194 := ⟨by kernel_rfl⟩
instance : FS Try.prog 194 0 0 1 := ⟨by kernel_rfl⟩
instance : FS Try.prog 194 1 1 1 := ⟨by kernel_rfl⟩
instance : FS Try.prog 194 2 2 1 := ⟨by kernel_rfl⟩
instance : TZ Try.prog 194 [.int .u32 0, .int .u64 0, .slice none 0 0] := ⟨by kernel_rfl⟩
instance : TAgg Try.prog 196 2 := ⟨by kernel_rfl⟩
instance : TSt Try.prog 196 := ⟨by kernel_rfl⟩
instance : FS Try.prog 196 0 0 1 := ⟨by kernel_rfl⟩
instance : FS Try.prog 196 1 1 1 := ⟨by kernel_rfl⟩
instance : TZ Try.prog 196 [.slice none 0 0, .string ByteArray.empty] := ⟨by kernel_rfl⟩
instance : TAgg Try.prog 197 2 := ⟨by kernel_rfl⟩
instance : TSt Try.prog 197 := ⟨by kernel_rfl⟩
instance : FS Try.prog 197 0 0 1 := ⟨by kernel_rfl⟩
instance : FS Try.prog 197 1 1 1 := ⟨by kernel_rfl⟩
instance : TZ Try.prog 197 [.slice none 0 0, .string ByteArray.empty] := ⟨by kernel_rfl⟩
instance : TOne Try.prog 198 := ⟨by kernel_rfl⟩
instance : TPtr Try.prog 198 281 := ⟨by kernel_rfl⟩
instance : TZ Try.prog 198 [.pointer none] := ⟨by kernel_rfl⟩
instance : TOne Try.prog 201 := ⟨by kernel_rfl⟩
instance : TPtr Try.prog 201 283 := ⟨by kernel_rfl⟩
instance : TZ Try.prog 201 [.pointer none] := ⟨by kernel_rfl⟩
instance : TOne Try.prog 204 := ⟨by kernel_rfl⟩
instance : TMap Try.prog 204 2 33 := ⟨by kernel_rfl⟩
instance : TZ Try.prog 204 [.map none] := ⟨by kernel_rfl⟩
instance : TAgg Try.prog 205 5 := ⟨by kernel_rfl⟩
instance : TSt Try.prog 205 := ⟨by kernel_rfl⟩
instance : FS Try.prog 205 0 0 1 := ⟨by kernel_rfl⟩
instance : FS Try.prog 205 1 1 1 := ⟨by kernel_rfl⟩
instance : FS Try.prog 205 2 2 1 := ⟨by kernel_rfl⟩
instance : FS Try.prog 205 3 3 1 := ⟨by kernel_rfl⟩
instance : FS Try.prog 205 4 4 1 := ⟨by kernel_rfl⟩
instance : TZ Try.prog 205 [.bool false, .int .i64 0, .int .u16 0, .int .i64 0, .int .i64 0] := ⟨by kernel_rfl⟩
instance : TAgg Try.prog 206 5 := ⟨by kernel_rfl⟩
instance : TSt Try.prog 206 := ⟨by kernel_rfl⟩
instance : FS Try.prog 206 0 0 1 := ⟨by kernel_rfl⟩
instance : FS Try.prog 206 1 1 1 := ⟨by kernel_rfl⟩
instance : FS Try.prog 206 2 2 1 := ⟨by kernel_rfl⟩
instance : FS Try.prog 206 3 3 1 := ⟨by kernel_rfl⟩
instance : FS Try.prog 206 4 4 1 := ⟨by kernel_rfl⟩
instance : TZ Try.prog 206 [.bool false, .int .i64 0, .int .u16 0, .int .i64 0, .int .i64 0] := ⟨by kernel_rfl⟩
instance : TAgg Try.prog 207 2 := ⟨by kernel_rfl⟩
instance : TSt Try.prog 207 := ⟨by kernel_rfl⟩
instance : FS Try.prog 207 0 0 1 := ⟨by kernel_rfl⟩
instance : FS Try.prog 207 1 1 1 := ⟨by kernel_rfl⟩
instance : TZ Try.prog 207 [.bool false, .int .i64 0] := ⟨by kernel_rfl⟩
instance : TAgg Try.prog 208 2 := ⟨by kernel_rfl⟩
instance : TSt Try.prog 208 := ⟨by kernel_rfl⟩
instance : FS Try.prog 208 0 0 1 := ⟨by kernel_rfl⟩
instance : FS Try.prog 208 1 1 1 := ⟨by kernel_rfl⟩
instance : TZ Try.prog 208 [.bool false, .int .i64 0] := ⟨by kernel_rfl⟩
instance : TAgg Try.prog 209 12 := ⟨by kernel_rfl⟩
instance : TSt Try.prog 209 := ⟨by kernel_rfl⟩
instance : FS Try.prog 209 0 0 1 := ⟨by kernel_rfl⟩
instance : FS Try.prog 209 1 1 1 := ⟨by kernel_rfl⟩
instance : FS Try.prog 209 2 2 5 := ⟨by kernel_rfl⟩
instance : FS Try.prog 209 3 7 2 := ⟨by kernel_rfl⟩
instance : FS Try.prog 209 4 9 1 := ⟨by kernel_rfl⟩
instance : FS Try.prog 209 5 10 1 := ⟨by kernel_rfl⟩
instance : FS Try.prog 209 6 11 1 := ⟨by kernel_rfl⟩
instance : TZ Try.prog 209 [.pointer none, .pointer none, .bool false, .int .i64 0, .int .u16 0, .int .i64 0, .int .i64 0, .bool false, .int .i64 0, .map none, .int .i64 0, .int .i64 0] := ⟨by kernel_rfl⟩
instance : TAgg Try.prog 210 12 := ⟨by kernel_rfl⟩
instance : TSt Try.prog 210 := ⟨by kernel_rfl⟩
instance : FS Try.prog 210 0 0 1 := ⟨by kernel_rfl⟩
instance : FS Try.prog 210 1 1 1 := ⟨by kernel_rfl⟩
instance : FS Try.prog 210 2 2 5 := ⟨by kernel_rfl⟩
instance : FS Try.prog 210 3 7 2 := ⟨by kernel_rfl⟩
instance : FS Try.prog 210 4 9 1 := ⟨by kernel_rfl⟩
instance : FS Try.prog 210 5 10 1 := ⟨by kernel_rfl⟩
instance : FS Try.prog 210 6 11 1 := ⟨by kernel_rfl⟩
instance : TZ Try.prog 210 [.pointer none, .pointer none, .bool false, .int .i64 0, .int .u16 0, .int .i64 0, .int .i64 0, .bool false, .int .i64 0, .map none, .int .i64 0, .int .i64 0] := ⟨by kernel_rfl⟩
instance : TOne Try.prog 214 := ⟨by kernel_rfl⟩
instance : TSl Try.prog 214 218 3 32 := ⟨by kernel_rfl⟩
instance : TZ Try.prog 214 [.slice none 0 0] := ⟨by kernel_rfl⟩
instance : TAgg Try.prog 217 3 := ⟨by kernel_rfl⟩
instance : TSt Try.prog 217 := ⟨by kernel_rfl⟩
instance : FS Try.prog 217 0 0 1 := ⟨by kernel_rfl⟩
instance : FS Try.prog 217 1 1 1 := ⟨by kernel_rfl⟩
instance : FS Try.prog 217 2 2 1 := ⟨by kernel_rfl⟩
instance : TZ Try.prog 217 [.int .i64 0, .string ByteArray.empty, .int .i64 0] := ⟨by kernel_rfl⟩
instance : TAgg Try.prog 218 3 := ⟨by kernel_rfl⟩
instance : TSt Try.prog 218 := ⟨by kernel_rfl⟩
instance : FS Try.prog 218 0 0 1 := ⟨by kernel_rfl⟩
instance : FS Try.prog 218 1 1 1 := ⟨by kernel_rfl⟩
instance : FS Try.prog 218 2 2 1 := ⟨by kernel_rfl⟩
instance : TZ Try.prog 218 [.int .i64 0, .string ByteArray.empty, .int .i64 0] := ⟨by kernel_rfl⟩
instance : TOne Try.prog 221 := ⟨by kernel_rfl⟩
instance : TSl Try.prog 221 231 5 40 := ⟨by kernel_rfl⟩
instance : TZ Try.prog 221 [.slice none 0 0] := ⟨by kernel_rfl⟩
instance : TAgg Try.prog 222 5 := ⟨by kernel_rfl⟩
instance : TSt Try.prog 222 := ⟨by kernel_rfl⟩
instance : FS Try.prog 222 0 0 1 := ⟨by kernel_rfl⟩
instance : FS Try.prog 222 1 1 1 := ⟨by kernel_rfl⟩
instance : FS Try.prog 222 2 2 1 := ⟨by kernel_rfl⟩
instance : FS Try.prog 222 3 3 1 := ⟨by kernel_rfl⟩
instance : FS Try.prog 222 4 4 1 := ⟨by kernel_rfl⟩
instance : TZ Try.prog 222 [.slice none 0 0, .int .i64 0, .int .i64 0, .int .i64 0, .int .i64 0] := ⟨by kernel_rfl⟩
instance : TAgg Try.prog 223 5 := ⟨by kernel_rfl⟩
instance : TSt Try.prog 223 := ⟨by kernel_rfl⟩
instance : FS Try.prog 223 0 0 1 := ⟨by kernel_rfl⟩
instance : FS Try.prog 223 1 1 1 := ⟨by kernel_rfl⟩
instance : FS Try.prog 223 2 2 1 := ⟨by kernel_rfl⟩
instance : FS Try.prog 223 3 3 1 := ⟨by kernel_rfl⟩
instance : FS Try.prog 223 4 4 1 := ⟨by kernel_rfl⟩
instance : TZ Try.prog 223 [.slice none 0 0, .int .i64 0, .int .i64 0, .int .i64 0, .int .i64 0] := ⟨by kernel_rfl⟩
instance : TAgg Try.prog 224 13 := ⟨by kernel_rfl⟩
instance : TSt Try.prog 224 := ⟨by kernel_rfl⟩
instance : FS Try.prog 224 0 0 1 := ⟨by kernel_rfl⟩
instance : FS Try.prog 224 1 1 1 := ⟨by kernel_rfl⟩
instance : FS Try.prog 224 2 2 1 := ⟨by kernel_rfl⟩
instance : FS Try.prog 224 3 3 1 := ⟨by kernel_rfl⟩
instance : FS Try.prog 224 4 4 1 := ⟨by kernel_rfl⟩
instance : FS Try.prog 224 5 5 1 := ⟨by kernel_rfl⟩
instance : FS Try.prog 224 6 6 1 := ⟨by kernel_rfl⟩
instance : FS Try.prog 224 7 7 1 := ⟨by kernel_rfl⟩
instance : FS Try.prog 224 8 8 1 := ⟨by kernel_rfl⟩
instance : FS Try.prog 224 9 9 1 := ⟨by kernel_rfl⟩
instance : FS Try.prog 224 10 10 1 := ⟨by kernel_rfl⟩
instance : FS Try.prog 224 11 11 1 := ⟨by kernel_rfl⟩
instance : FS Try.prog 224 12 12 1 := ⟨by kernel_rfl⟩
instance : TZ Try.prog 224 [.bool false, .int .u32 0, .int .u8 0, .int .u16 0, .int .i64 0, .int .i64 0, .int .i64 0, .int .i64 0, .int .i64 0, .bool false, .int .i64 0, .int .i64 0, .int .i64 0] := ⟨by kernel_rfl⟩
instance : TAgg Try.prog 225 13 := ⟨by kernel_rfl⟩
instance : TSt Try.prog 225 := ⟨by kernel_rfl⟩
instance : FS Try.prog 225 0 0 1 := ⟨by kernel_rfl⟩
instance : FS Try.prog 225 1 1 1 := ⟨by kernel_rfl⟩
instance : FS Try.prog 225 2 2 1 := ⟨by kernel_rfl⟩
instance : FS Try.prog 225 3 3 1 := ⟨by kernel_rfl⟩
instance : FS Try.prog 225 4 4 1 := ⟨by kernel_rfl⟩
instance : FS Try.prog 225 5 5 1 := ⟨by kernel_rfl⟩
instance : FS Try.prog 225 6 6 1 := ⟨by kernel_rfl⟩
instance : FS Try.prog 225 7 7 1 := ⟨by kernel_rfl⟩
instance : FS Try.prog 225 8 8 1 := ⟨by kernel_rfl⟩
instance : FS Try.prog 225 9 9 1 := ⟨by kernel_rfl⟩
instance : FS Try.prog 225 10 10 1 := ⟨by kernel_rfl⟩
instance : FS Try.prog 225 11 11 1 := ⟨by kernel_rfl⟩
instance : FS Try.prog 225 12 12 1 := ⟨by kernel_rfl⟩
instance : TZ Try.prog 225 [.bool false, .int .u32 0, .int .u8 0, .int .u16 0, .int .i64 0, .int .i64 0, .int .i64 0, .int .i64 0, .int .i64 0, .bool false, .int .i64 0, .int .i64 0, .int .i64 0] := ⟨by kernel_rfl⟩
instance : TAgg Try.prog 230 5 := ⟨by kernel_rfl⟩
instance : TSt Try.prog 230 := ⟨by kernel_rfl⟩
instance : FS Try.prog 230 0 0 1 := ⟨by kernel_rfl⟩
instance : FS Try.prog 230 1 1 1 := ⟨by kernel_rfl⟩
instance : FS Try.prog 230 2 2 1 := ⟨by kernel_rfl⟩
instance : FS Try.prog 230 3 3 1 := ⟨by kernel_rfl⟩
instance : FS Try.prog 230 4 4 1 := ⟨by kernel_rfl⟩
instance : TZ Try.prog 230 [.bool false, .int .u16 0, .string ByteArray.empty, .int .i64 0, .int .i64 0] := ⟨by kernel_rfl⟩
instance : TAgg Try.prog 231 5 := ⟨by kernel_rfl⟩
instance : TSt Try.prog 231 := ⟨by kernel_rfl⟩
instance : FS Try.prog 231 0 0 1 := ⟨by kernel_rfl⟩
instance : FS Try.prog 231 1 1 1 := ⟨by kernel_rfl⟩
instance : FS Try.prog 231 2 2 1 := ⟨by kernel_rfl⟩
instance : FS Try.prog 231 3 3 1 := ⟨by kernel_rfl⟩
instance : FS Try.prog 231 4 4 1 := ⟨by kernel_rfl⟩
instance : TZ Try.prog 231 [.bool false, .int .u16 0, .string ByteArray.empty, .int .i64 0, .int .i64 0] := ⟨by kernel_rfl⟩
instance : TOne Try.prog 235 := ⟨by kernel_rfl⟩
instance : TPtr Try.prog 235 295 := ⟨by kernel_rfl⟩
instance : TZ Try.prog 235 [.pointer none] := ⟨by kernel_rfl⟩
instance : TOne Try.prog 238 := ⟨by kernel_rfl⟩
instance : TMap Try.prog 238 3 243 := ⟨by kernel_rfl⟩
instance : TZ Try.prog 238 [.map none] := ⟨by kernel_rfl⟩
instance : TAgg Try.prog 239 9 := ⟨by kernel_rfl⟩
instance : TSt Try.prog 239 := ⟨by kernel_rfl⟩
instance : FS Try.prog 239 0 0 5 := ⟨by kernel_rfl⟩
instance : FS Try.prog 239 1 5 1 := ⟨by kernel_rfl⟩
instance : FS Try.prog 239 2 6 1 := ⟨by kernel_rfl⟩
instance : FS Try.prog 239 3 7 1 := ⟨by kernel_rfl⟩
instance : FS Try.prog 239 4 8 1 := ⟨by kernel_rfl⟩
instance : TZ Try.prog 239 [.int .i64 0, .int .i64 0, .int .i64 0, .int .i64 0, .int .i64 0, .map none, .pointer none, .int .i64 0, .int .i64 0] := ⟨by kernel_rfl⟩
instance : TAgg Try.prog 240 9 := ⟨by kernel_rfl⟩
instance : TSt Try.prog 240 := ⟨by kernel_rfl⟩
instance : FS Try.prog 240 0 0 5 := ⟨by kernel_rfl⟩
instance : FS Try.prog 240 1 5 1 := ⟨by kernel_rfl⟩
instance : FS Try.prog 240 2 6 1 := ⟨by kernel_rfl⟩
instance : FS Try.prog 240 3 7 1 := ⟨by kernel_rfl⟩
instance : FS Try.prog 240 4 8 1 := ⟨by kernel_rfl⟩
instance : TZ Try.prog 240 [.int .i64 0, .int .i64 0, .int .i64 0, .int .i64 0, .int .i64 0, .map none, .pointer none, .int .i64 0, .int .i64 0] := ⟨by kernel_rfl⟩
instance : TOne Try.prog 241 := ⟨by kernel_rfl⟩
instance : TPtr Try.prog 241 297 := ⟨by kernel_rfl⟩
instance : TZ Try.prog 241 [.pointer none] := ⟨by kernel_rfl⟩
instance : TAgg Try.prog 242 2 := ⟨by kernel_rfl⟩
instance : TSt Try.prog 242 := ⟨by kernel_rfl⟩
instance : FS Try.prog 242 0 0 1 := ⟨by kernel_rfl⟩
instance : FS Try.prog 242 1 1 1 := ⟨by kernel_rfl⟩
instance : TZ Try.prog 242 [.pointer none, .bool false] := ⟨by kernel_rfl⟩
instance : TAgg Try.prog 243 2 := ⟨by kernel_rfl⟩
instance : TSt Try.prog 243 := ⟨by kernel_rfl⟩
instance : FS Try.prog 243 0 0 1 := ⟨by kernel_rfl⟩
instance : FS Try.prog 243 1 1 1 := ⟨by kernel_rfl⟩
instance : TZ Try.prog 243 [.pointer none, .bool false] := ⟨by kernel_rfl⟩
instance : TOne Try.prog 248 := ⟨by kernel_rfl⟩
instance : TSl Try.prog 248 133 4 32 := ⟨by kernel_rfl⟩
instance : TZ Try.prog 248 [.slice none 0 0] := ⟨by kernel_rfl⟩
instance : TOne Try.prog 254 := ⟨by kernel_rfl⟩
instance : TZ Try.prog 254 [.nilIface] := ⟨by kernel_rfl⟩
instance : TOne Try.prog 255 := ⟨by kernel_rfl⟩
instance : TZ Try.prog 255 [.nilIface] := ⟨by kernel_rfl⟩
instance : TAgg Try.prog 259 2 := ⟨by kernel_rfl⟩
instance : TSt Try.prog 259 := ⟨by kernel_rfl⟩
instance : FS Try.prog 259 0 0 1 := ⟨by kernel_rfl⟩
instance : FS Try.prog 259 1 1 1 := ⟨by kernel_rfl⟩
instance : TZ Try.prog 259 [.string ByteArray.empty, .int .i64 0] := ⟨by kernel_rfl⟩
instance : TAgg Try.prog 260 2 := ⟨by kernel_rfl⟩
instance : TSt Try.prog 260 := ⟨by kernel_rfl⟩
instance : FS Try.prog 260 0 0 1 := ⟨by kernel_rfl⟩
instance : FS Try.prog 260 1 1 1 := ⟨by kernel_rfl⟩
instance : TZ Try.prog 260 [.string ByteArray.empty, .int .i64 0] := ⟨by kernel_rfl⟩
instance : TOne Try.prog 263 := ⟨by kernel_rfl⟩
instance : TPtr Try.prog 263 23 := ⟨by kernel_rfl⟩
instance : TZ Try.prog 263 [.pointer none] := ⟨by kernel_rfl⟩
instance : TOne Try.prog 264 := ⟨by kernel_rfl⟩
instance : TSl Try.prog 264 309 7 28 := ⟨by kernel_rfl⟩
instance : TZ Try.prog 264 [.slice none 0 0] := ⟨by kernel_rfl⟩
instance : TAgg Try.prog 266 6 := ⟨by kernel_rfl⟩
instance : TSt Try.prog 266 := ⟨by kernel_rfl⟩
instance : FS Try.prog 266 0 0 1 := ⟨by kernel_rfl⟩
instance : FS Try.prog 266 1 1 1 := ⟨by kernel_rfl⟩
instance : FS Try.prog 266 2 2 1 := ⟨by kernel_rfl⟩
instance : FS Try.prog 266 3 3 1 := ⟨by kernel_rfl⟩
instance : FS Try.prog 266 4 4 1 := ⟨by kernel_rfl⟩
instance : FS Try.prog 266 5 5 1 := ⟨by kernel_rfl⟩
instance : TZ Try.prog 266 [.int .u32 0, .int .u64 0, .int .u32 0, .int .u32 0, .int .u32 0, .slice none 0 0] := ⟨by kernel_rfl⟩
instance : TAgg Try.prog 267 6 := ⟨by kernel_rfl⟩
instance : TSt Try.prog 267 := ⟨by kernel_rfl⟩
instance : FS Try.prog 267 0 0 1 := ⟨by kernel_rfl⟩
instance : FS Try.prog 267 1 1 1 := ⟨by kernel_rfl⟩
instance : FS Try.prog 267 2 2 1 := ⟨by kernel_rfl⟩
instance : FS Try.prog 267 3 3 1 := ⟨by kernel_rfl⟩
instance : FS Try.prog 267 4 4 1 := ⟨by kernel_rfl⟩
instance : FS Try.prog 267 5 5 1 := ⟨by kernel_rfl⟩
instance : TZ Try.prog 267 [.int .u32 0, .int .u64 0, .int .u32 0, .int .u32 0, .int .u32 0, .slice none 0 0] := ⟨by kernel_rfl⟩
instance : TAgg Try.prog 268 2 := ⟨by kernel_rfl⟩
instance : TSt Try.prog 268 := ⟨by kernel_rfl⟩
instance : FS Try.prog 268 0 0 1 := ⟨by kernel_rfl⟩
instance : FS Try.prog 268 1 1 1 := ⟨by kernel_rfl⟩
instance : TZ Try.prog 268 [.int .u32 0, .slice none 0 0] := ⟨by kernel_rfl⟩
instance : TAgg Try.prog 269 2 := ⟨by kernel_rfl⟩
instance : TSt Try.prog 269 := ⟨by kernel_rfl⟩
instance : FS Try.prog 269 0 0 1 := ⟨by kernel_rfl⟩
instance : FS Try.prog 269 1 1 1 := ⟨by kernel_rfl⟩
instance : TZ Try.prog 269 [.int .u32 0, .slice none 0 0] := ⟨by kernel_rfl⟩
instance : TAgg Try.prog 272 3 := ⟨by kernel_rfl⟩
instance : TSt Try.prog 272 := ⟨by kernel_rfl⟩
instance : FS Try.prog 272 0 0 1 := ⟨by kernel_rfl⟩
instance : FS Try.prog 272 1 1 1 := ⟨by kernel_rfl⟩
instance : FS Try.prog 272 2 2 1 := ⟨by kernel_rfl⟩
instance : TZ Try.prog 272 [.int .u8 0, .int .u8 0, .string ByteArray.empty] := ⟨by kernel_rfl⟩
instance : TAgg Try.prog 273 3 := ⟨by kernel_rfl⟩
instance : TSt Try.prog 273 := ⟨by kernel_rfl⟩
instance : FS Try.prog 273 0 0 1 := ⟨by kernel_rfl⟩
instance : FS Try.prog 273 1 1 1 := ⟨by kernel_rfl⟩
instance : FS Try.prog 273 2 2 1 := ⟨by kernel_rfl⟩
instance : TZ Try.prog 273 [.int .u8 0, .int .u8 0, .string ByteArray.empty] := ⟨by kernel_rfl⟩
instance : TOne Try.prog 274 := ⟨by kernel_rfl⟩
instance : TZ Try.prog 274 [.nilIface] := ⟨by kernel_rfl⟩
instance : TOne Try.prog 278 := ⟨by kernel_rfl⟩
instance : TPtr Try.prog 278 80 := ⟨by kernel_rfl⟩
instance : TZ Try.prog 278 [.pointer none] := ⟨by kernel_rfl⟩
instance : TOne Try.prog 279 := ⟨by kernel_rfl⟩
instance : TMap Try.prog 279 2 218 := ⟨by kernel_rfl⟩
instance : TZ Try.prog 279 [.map none] := ⟨by kernel_rfl⟩
instance : TAgg Try.prog 280 6 := ⟨by kernel_rfl⟩
instance : TSt Try.prog 280 := ⟨by kernel_rfl⟩
instance : FS Try.prog 280 0 0 2 := ⟨by kernel_rfl⟩
instance : FS Try.prog 280 1 2 1 := ⟨by kernel_rfl⟩
instance : FS Try.prog 280 2 3 1 := ⟨by kernel_rfl⟩
instance : FS Try.prog 280 3 4 1 := ⟨by kernel_rfl⟩
instance : FS Try.prog 280 4 5 1 := ⟨by kernel_rfl⟩
instance : TZ Try.prog 280 [.int .i64 0, .int .i64 0, .bool false, .int .i64 0, .map none, .int .i64 0] := ⟨by kernel_rfl⟩
instance : TAgg Try.prog 281 6 := ⟨by kernel_rfl⟩
instance : TSt Try.prog 281 := ⟨by kernel_rfl⟩
instance : FS Try.prog 281 0 0 2 := ⟨by kernel_rfl⟩
instance : FS Try.prog 281 1 2 1 := ⟨by kernel_rfl⟩
instance : FS Try.prog 281 2 3 1 := ⟨by kernel_rfl⟩
instance : FS Try.prog 281 3 4 1 := ⟨by kernel_rfl⟩
instance : FS Try.prog 281 4 5 1 := ⟨by kernel_rfl⟩
instance : TZ Try.prog 281 [.int .i64 0, .int .i64 0, .bool false, .int .i64 0, .map none, .int .i64 0] := ⟨by kernel_rfl⟩
instance : TAgg Try.prog 282 7 := ⟨by kernel_rfl⟩
instance : TSt Try.prog 282 := ⟨by kernel_rfl⟩
instance : FS Try.prog 282 0 0 4 := ⟨by kernel_rfl⟩
instance : FS Try.prog 282 1 4 1 := ⟨by kernel_rfl⟩
instance : FS Try.prog 282 2 5 1 := ⟨by kernel_rfl⟩
instance : FS Try.prog 282 3 6 1 := ⟨by kernel_rfl⟩
instance : TZ Try.prog 282 [.bool false, .int .i64 0, .int .i64 0, .int .i64 0, .slice none 0 0, .int .i64 0, .int .i64 0] := ⟨by kernel_rfl⟩
instance : TAgg Try.prog 283 7 := ⟨by kernel_rfl⟩
instance : TSt Try.prog 283 := ⟨by kernel_rfl⟩
instance : FS Try.prog 283 0 0 4 := ⟨by kernel_rfl⟩
instance : FS Try.prog 283 1 4 1 := ⟨by kernel_rfl⟩
instance : FS Try.prog 283 2 5 1 := ⟨by kernel_rfl⟩
instance : FS Try.prog 283 3 6 1 := ⟨by kernel_rfl⟩
instance : TZ Try.prog 283 [.bool false, .int .i64 0, .int .i64 0, .int .i64 0, .slice none 0 0, .int .i64 0, .int .i64 0] := ⟨by kernel_rfl⟩
instance : TOne Try.prog 284 := ⟨by kernel_rfl⟩
instance : TPtr Try.prog 284 206 := ⟨by kernel_rfl⟩
instance : TZ Try.prog 284 [.pointer none] := ⟨by kernel_rfl⟩
instance : TOne Try.prog 292 := ⟨by kernel_rfl⟩
instance : TPtr Try.prog 292 231 := ⟨by kernel_rfl⟩
instance : TZ Try.prog 292 [.pointer none] := ⟨by kernel_rfl⟩
instance : TAgg Try.prog 294 5 := ⟨by kernel_rfl⟩
instance : TSt Try.prog 294 := ⟨by kernel_rfl⟩
instance : FS Try.prog 294 0 0 1 := ⟨by kernel_rfl⟩
instance : FS Try.prog 294 1 1 1 := ⟨by kernel_rfl⟩
instance : FS Try.prog 294 2 2 1 := ⟨by kernel_rfl⟩
instance : FS Try.prog 294 3 3 1 := ⟨by kernel_rfl⟩
instance : FS Try.prog 294 4 4 1 := ⟨by kernel_rfl⟩
instance : TZ Try.prog 294 [.int .i64 0, .map none, .map none, .int .i64 0, .bool false] := ⟨by kernel_rfl⟩
instance : TAgg Try.prog 295 5 := ⟨by kernel_rfl⟩
instance : TSt Try.prog 295 := ⟨by kernel_rfl⟩
instance : FS Try.prog 295 0 0 1 := ⟨by kernel_rfl⟩
instance : FS Try.prog 295 1 1 1 := ⟨by kernel_rfl⟩
instance : FS Try.prog 295 2 2 1 := ⟨by kernel_rfl⟩
instance : FS Try.prog 295 3 3 1 := ⟨by kernel_rfl⟩
instance : FS Try.prog 295 4 4 1 := ⟨by kernel_rfl⟩
instance : TZ Try.prog 295 [.int .i64 0, .map none, .map none, .int .i64 0, .bool false] := ⟨by kernel_rfl⟩
instance : TAgg Try.prog 296 5 := ⟨by kernel_rfl⟩
instance : TSt Try.prog 296 := ⟨by kernel_rfl⟩
instance : FS Try.prog 296 0 0 1 := ⟨by kernel_rfl⟩
instance : FS Try.prog 296 1 1 1 := ⟨by kernel_rfl⟩
instance : FS Try.prog 296 2 2 1 := ⟨by kernel_rfl⟩
instance : FS Try.prog 296 3 3 1 := ⟨by kernel_rfl⟩
instance : FS Try.prog 296 4 4 1 := ⟨by kernel_rfl⟩
instance : TZ Try.prog 296 [.int .i64 0, .int .i64 0, .slice none 0 0, .int .i64 0, .bool false] := ⟨by kernel_rfl⟩
instance : TAgg Try.prog 297 5 := ⟨by kernel_rfl⟩
instance : TSt Try.prog 297 := ⟨by kernel_rfl⟩
instance : FS Try.prog 297 0 0 1 := ⟨by kernel_rfl⟩
instance : FS Try.prog 297 1 1 1 := ⟨by kernel_rfl⟩
instance : FS Try.prog 297 2 2 1 := ⟨by kernel_rfl⟩
instance : FS Try.prog 297 3 3 1 := ⟨by kernel_rfl⟩
instance : FS Try.prog 297 4 4 1 := ⟨by kernel_rfl⟩
instance : TZ Try.prog 297 [.int .i64 0, .int .i64 0, .slice none 0 0, .int .i64 0, .bool false] := ⟨by kernel_rfl⟩
instance : TOne Try.prog 301 := ⟨by kernel_rfl⟩
instance : TSl Try.prog 301 303 2 16 := ⟨by kernel_rfl⟩
instance : TZ Try.prog 301 [.slice none 0 0] := ⟨by kernel_rfl⟩
instance : TAgg Try.prog 302 2 := ⟨by kernel_rfl⟩
instance : TSt Try.prog 302 := ⟨by kernel_rfl⟩
instance : FS Try.prog 302 0 0 1 := ⟨by kernel_rfl⟩
instance : FS Try.prog 302 1 1 1 := ⟨by kernel_rfl⟩
instance : TZ Try.prog 302 [.int .i64 0, .int .i64 0] := ⟨by kernel_rfl⟩
instance : TAgg Try.prog 303 2 := ⟨by kernel_rfl⟩
instance : TSt Try.prog 303 := ⟨by kernel_rfl⟩
instance : FS Try.prog 303 0 0 1 := ⟨by kernel_rfl⟩
instance : FS Try.prog 303 1 1 1 := ⟨by kernel_rfl⟩
instance : TZ Try.prog 303 [.int .i64 0, .int .i64 0] := ⟨by kernel_rfl⟩
instance : TOne Try.prog 306 := ⟨by kernel_rfl⟩
instance : TPtr Try.prog 306 5 := ⟨by kernel_rfl⟩
instance : TZ Try.prog 306 [.pointer none] := ⟨by kernel_rfl⟩
instance : TOne Try.prog 307 := ⟨by kernel_rfl⟩
instance : TSl Try.prog 307 78 1 8 := ⟨by kernel_rfl⟩
instance : TZ Try.prog 307 [.slice none 0 0] := ⟨by kernel_rfl⟩
instance : TAgg Try.prog 308 7 := ⟨by kernel_rfl⟩
instance : TSt Try.prog 308 := ⟨by kernel_rfl⟩
instance : FS Try.prog 308 0 0 1 := ⟨by kernel_rfl⟩
instance : FS Try.prog 308 1 1 1 := ⟨by kernel_rfl⟩
instance : FS Try.prog 308 2 2 1 := ⟨by kernel_rfl⟩
instance : FS Try.prog 308 3 3 1 := ⟨by kernel_rfl⟩
instance : FS Try.prog 308 4 4 1 := ⟨by kernel_rfl⟩
instance : FS Try.prog 308 5 5 1 := ⟨by kernel_rfl⟩
instance : FS Try.prog 308 6 6 1 := ⟨by kernel_rfl⟩
instance : TZ Try.prog 308 [.int .u32 0, .int .u8 0, .int .u32 0, .int .u32 0, .int .u32 0, .int .u32 0, .int .u32 0] := ⟨by kernel_rfl⟩
instance : TAgg Try.prog 309 7 := ⟨by kernel_rfl⟩
instance : TSt Try.prog 309 := ⟨by kernel_rfl⟩
instance : FS Try.prog 309 0 0 1 := ⟨by kernel_rfl⟩
instance : FS Try.prog 309 1 1 1 := ⟨by kernel_rfl⟩
instance : FS Try.prog 309 2 2 1 := ⟨by kernel_rfl⟩
instance : FS Try.prog 309 3 3 1 := ⟨by kernel_rfl⟩
instance : FS Try.prog 309 4 4 1 := ⟨by kernel_rfl⟩
instance : FS Try.prog 309 5 5 1 := ⟨by kernel_rfl⟩
instance : FS Try.prog 309 6 6 1 := ⟨by kernel_rfl⟩
instance : TZ Try.prog 309 [.int .u32 0, .int .u8 0, .int .u32 0, .int .u32 0, .int .u32 0, .int .u32 0, .int .u32 0] := ⟨by kernel_rfl⟩
instance : TOne Try.prog 310 := ⟨by kernel_rfl⟩
instance : TSl Try.prog 310 315 2 32 := ⟨by kernel_rfl⟩
instance : TZ Try.prog 310 [.slice none 0 0] := ⟨by kernel_rfl⟩
instance : TAgg Try.prog 311 1 := ⟨by kernel_rfl⟩
instance : TSt Try.prog 311 := ⟨by kernel_rfl⟩
instance : FS Try.prog 311 0 0 1 := ⟨by kernel_rfl⟩
instance : TZ Try.prog 311 [.slice none 0 0] := ⟨by kernel_rfl⟩
instance : TAgg Try.prog 312 1 := ⟨by kernel_rfl⟩
instance : TSt Try.prog 312 := ⟨by kernel_rfl⟩
instance : FS Try.prog 312 0 0 1 := ⟨by kernel_rfl⟩
instance : TZ Try.prog 312 [.slice none 0 0] := ⟨by kernel_rfl⟩
instance : TOne Try.prog 313 := ⟨by kernel_rfl⟩
instance : TSl Try.prog 313 341 2 24 := ⟨by kernel_rfl⟩
instance : TZ Try.prog 313 [.slice none 0 0] := ⟨by kernel_rfl⟩
instance : TAgg Try.prog 314 2 := ⟨by kernel_rfl⟩
instance : TSt Try.prog 314 := ⟨by kernel_rfl⟩
instance : FS Try.prog 314 0 0 1 := ⟨by kernel_rfl⟩
instance : FS Try.prog 314 1 1 1 := ⟨by kernel_rfl⟩
instance : TZ Try.prog 314 [.int .u32 0, .slice none 0 0] := ⟨by kernel_rfl⟩
instance : TAgg Try.prog 315 2 := ⟨by kernel_rfl⟩
instance : TSt Try.prog 315 := ⟨by kernel_rfl⟩
instance : FS Try.prog 315 0 0 1 := ⟨by kernel_rfl⟩
instance : FS Try.prog 315 1 1 1 := ⟨by kernel_rfl⟩
instance : TZ Try.prog 315 [.int .u32 0, .slice none 0 0] := ⟨by kernel_rfl⟩
instance : TOne Try.prog 324 := ⟨by kernel_rfl⟩
instance : TSl Try.prog 324 2 1 8 := ⟨by kernel_rfl⟩
instance : TZ Try.prog 324 [.slice none 0 0] := ⟨by kernel_rfl⟩
instance : TAgg Try.prog 340 2 := ⟨by kernel_rfl⟩
instance : TSt Try.prog 340 := ⟨by kernel_rfl⟩
instance : FS Try.prog 340 0 0 1 := ⟨by kernel_rfl⟩
instance : FS Try.prog 340 1 1 1 := ⟨by kernel_rfl⟩
instance : TZ Try.prog 340 [.int .u8 0, .string ByteArray.empty] := ⟨by kernel_rfl⟩
instance : TAgg Try.prog 341 2 := ⟨by kernel_rfl⟩
instance : TSt Try.prog 341 := ⟨by kernel_rfl⟩
instance : FS Try.prog 341 0 0 1 := ⟨by kernel_rfl⟩
instance : FS Try.prog 341 1 1 1 := ⟨by kernel_rfl⟩
instance : TZ Try.prog 341 [.int .u8 0, .string ByteArray.empty] := ⟨by kernel_rfl⟩
instance : TOne Try.prog 342 := ⟨by kernel_rfl⟩
instance : TPtr Try.prog 342 208 := ⟨by kernel_rfl⟩
instance : TZ Try.prog 342 [.pointer none] := ⟨by kernel_rfl⟩
instance : TOne Try.prog 353 := ⟨by kernel_rfl⟩
instance : TInt Try.prog 353 .i64 := ⟨by kernel_rfl⟩
instance : TZV Try.prog 353 (.int .i64 0) := ⟨by kernel_rfl⟩
instance : TZ Try.prog 353 [.int .i64 0] := ⟨by kernel_rfl⟩
instance : TOne Try.prog 361 := ⟨by kernel_rfl⟩
instance : TInt Try.prog 361 .u64 := ⟨by kernel_rfl⟩
instance : TZV Try.prog 361 (.int .u64 0) := ⟨by kernel_rfl⟩
instance : TZ Try.prog 361 [.int .u64 0] := ⟨by kernel_rfl⟩
instance : TOne Try.prog 365 := ⟨by kernel_rfl⟩
instance : TPtr Try.prog 365 3 := ⟨by kernel_rfl⟩
instance : TZ Try.prog 365 [.pointer none] := ⟨by kernel_rfl⟩
instance : TOne Try.prog 367 := ⟨by kernel_rfl⟩
instance : TPtr Try.prog 367 361 := ⟨by kernel_rfl⟩
instance : TZ Try.prog 367 [.pointer none] := ⟨by kernel_rfl⟩
instance : HasBody Try.prog 3 := ⟨by kernel_rfl⟩
instance : HasBody Try.prog 4 := ⟨by kernel_rfl⟩
instance : HasBody Try.prog 5 := ⟨by kernel_rfl⟩
instance : HasBody Try.prog 6 := ⟨by kernel_rfl⟩
instance : HasBody Try.prog 7 := ⟨by kernel_rfl⟩
instance : HasBody Try.prog 8 := ⟨by kernel_rfl⟩
instance : HasBody Try.prog 9 := ⟨by kernel_rfl⟩
instance : HasBody Try.prog 10 := ⟨by kernel_rfl⟩
instance : HasBody Try.prog 11 := ⟨by kernel_rfl⟩
instance : HasBody Try.prog 12 := ⟨by kernel_rfl⟩
instance : HasBody Try.prog 13 := ⟨by kernel_rfl⟩
instance : HasBody Try.prog 14 := ⟨by kernel_rfl⟩
instance : HasBody Try.prog 15 := ⟨by kernel_rfl⟩
instance : HasBody Try.prog 16 := ⟨by kernel_rfl⟩
instance : HasBody Try.prog 17 := ⟨by kernel_rfl⟩
instance : HasBody Try.prog 18 := ⟨by kernel_rfl⟩
instance : HasBody Try.prog 19 := ⟨by kernel_rfl⟩
instance : HasBody Try.prog 20 := ⟨by kernel_rfl⟩
instance : HasBody Try.prog 21 := ⟨by kernel_rfl⟩
instance : HasBody Try.prog 22 := ⟨by kernel_rfl⟩
instance : HasBody Try.prog 23 := ⟨by kernel_rfl⟩
instance : HasBody Try.prog 24 := ⟨by kernel_rfl⟩
instance : HasBody Try.prog 25 := ⟨by kernel_rfl⟩
instance : HasBody Try.prog 26 := ⟨by kernel_rfl⟩
instance : HasBody Try.prog 27 := ⟨by kernel_rfl⟩
instance : HasBody Try.prog 28 := ⟨by kernel_rfl⟩
instance : HasBody Try.prog 29 := ⟨by kernel_rfl⟩
instance : HasBody Try.prog 30 := ⟨by kernel_rfl⟩
instance : HasBody Try.prog 31 := ⟨by kernel_rfl⟩
instance : HasBody Try.prog 32 := ⟨by kernel_rfl⟩
instance : HasBody Try.prog 33 := ⟨by kernel_rfl⟩
instance : HasBody Try.prog 34 := ⟨by kernel_rfl⟩
instance : HasBody Try.prog 35 := ⟨by kernel_rfl⟩
instance : HasBody Try.prog 36 := ⟨by kernel_rfl⟩
instance : HasBody Try.prog 37 := ⟨by kernel_rfl⟩
instance : HasBody Try.prog 38 := ⟨by kernel_rfl⟩
instance : HasBody Try.prog 39 := ⟨by kernel_rfl⟩
instance : HasBody Try.prog 40 := ⟨by kernel_rfl⟩
instance : HasBody Try.prog 41 := ⟨by kernel_rfl⟩
instance : HasBody Try.prog 42 := ⟨by kernel_rfl⟩
instance : HasBody Try.prog 43 := ⟨by kernel_rfl⟩
instance : HasBody Try.prog 44 := ⟨by kernel_rfl⟩
instance : HasBody Try.prog 45 := ⟨by kernel_rfl⟩
instance : HasBody Try.prog 46 := ⟨by kernel_rfl⟩
instance : HasBody Try.prog 47 := ⟨by kernel_rfl⟩
instance : HasBody Try.prog 48 := ⟨by kernel_rfl⟩
instance : HasBody Try.prog 49 := ⟨by kernel_rfl⟩
instance : HasBody Try.prog 50 := ⟨by kernel_rfl⟩
instance : HasBody Try.prog 51 := ⟨by kernel_rfl⟩
instance : HasBody Try.prog 52 := ⟨by kernel_rfl⟩
instance : HasBody Try.prog 53 := ⟨by kernel_rfl⟩
instance : HasBody Try.prog 54 := ⟨by kernel_rfl⟩
instance : HasBody Try.prog 55 := ⟨by kernel_rfl⟩
instance : HasBody Try.prog 56 := ⟨by kernel_rfl⟩
instance : HasBody Try.prog 57 := ⟨by kernel_rfl⟩
instance : HasBody Try.prog 58 := ⟨by kernel_rfl⟩
instance : HasBody Try.prog 59 := ⟨by kernel_rfl⟩
instance : HasBody Try.prog 60 := ⟨by kernel_rfl⟩
instance : HasBody Try.prog 61 := ⟨by kernel_rfl⟩
instance : HasBody Try.prog 62 := ⟨by kernel_rfl⟩
instance : HasBody Try.prog 63 := ⟨by kernel_rfl⟩
instance : HasBody Try.prog 64 := ⟨by kernel_rfl⟩
instance : HasBody Try.prog 65 := ⟨by kernel_rfl⟩
instance : HasBody Try.prog 66 := ⟨by kernel_rfl⟩
instance : HasBody Try.prog 67 := ⟨by kernel_rfl⟩
instance : HasBody Try.prog 68 := ⟨by kernel_rfl⟩
instance : HasBody Try.prog 69 := ⟨by kernel_rfl⟩
instance : HasBody Try.prog 70 := ⟨by kernel_rfl⟩
instance : HasBody Try.prog 71 := ⟨by kernel_rfl⟩
instance : HasBody Try.prog 72 := ⟨by kernel_rfl⟩
instance : HasBody Try.prog 73 := ⟨by kernel_rfl⟩
instance : HasBody Try.prog 74 := ⟨by kernel_rfl⟩
instance : HasBody Try.prog 75 := ⟨by kernel_rfl⟩
instance : HasBody Try.prog 76 := ⟨by kernel_rfl⟩
instance : HasBody Try.prog 77 := ⟨by kernel_rfl⟩
instance : HasBody Try.prog 80 := ⟨by kernel_rfl⟩
instance : HasBody Try.prog 81 := ⟨by kernel_rfl⟩
instance : HasBody Try.prog 82 := ⟨by kernel_rfl⟩
instance : HasBody Try.prog 83 := ⟨by kernel_rfl⟩
instance : HasBody Try.prog 84 := ⟨by kernel_rfl⟩
instance : HasBody Try.prog 85 := ⟨by kernel_rfl⟩
instance : HasBody Try.prog 86 := ⟨by kernel_rfl⟩
instance : HasBody Try.prog 87 := ⟨by kernel_rfl⟩
instance : HasBody Try.prog 88 := ⟨by kernel_rfl⟩
instance : HasBody Try.prog 89 := ⟨by kernel_rfl⟩
instance : HasBody Try.prog 90 := ⟨by kernel_rfl⟩
instance : HasBody Try.prog 91 := ⟨by kernel_rfl⟩
instance : HasBody Try.prog 92 := ⟨by kernel_rfl⟩
instance : HasBody Try.prog 93 := ⟨by kernel_rfl⟩
instance : HasBody Try.prog 94 := ⟨by kernel_rfl⟩
instance : HasBody Try.prog 95 := ⟨by kernel_rfl⟩
instance : HasBody Try.prog 96 := ⟨by kernel_rfl⟩
instance : HasBody Try.prog 97 := ⟨by kernel_rfl⟩
instance : HasBody Try.prog 98 := ⟨by kernel_rfl⟩
instance : HasBody Try.prog 99 := ⟨by kernel_rfl⟩
instance : HasBody Try.prog 100 := ⟨by kernel_rfl⟩
instance : HasBody Try.prog 101 := ⟨by kernel_rfl⟩
instance : HasBody Try.prog 102 := ⟨by kernel_rfl⟩
instance : HasBody Try.prog 103 := ⟨by kernel_rfl⟩
instance : HasBody Try.prog 104 := ⟨by kernel_rfl⟩
instance : HasBody Try.prog 105 := ⟨by kernel_rfl⟩
instance : HasBody Try.prog 106 := ⟨by kernel_rfl⟩
instance : HasBody Try.prog 107 := ⟨by kernel_rfl⟩
instance : HasBody Try.prog 108 := ⟨by kernel_rfl⟩
instance : HasBody Try.prog 109 := ⟨by kernel_rfl⟩
instance : HasBody Try.prog 110 := ⟨by kernel_rfl⟩
instance : HasBody Try.prog 111 := ⟨by kernel_rfl⟩
instance : HasBody Try.prog 112 := ⟨by kernel_rfl⟩
instance : HasBody Try.prog 113 := ⟨by kernel_rfl⟩
instance : HasBody Try.prog 114 := ⟨by kernel_rfl⟩
instance : HasBody Try.prog 115 := ⟨by kernel_rfl⟩
instance : HasBody Try.prog 116 := ⟨by kernel_rfl⟩
instance : HasBody Try.prog 117 := ⟨by kernel_rfl⟩
instance : HasBody Try.prog 118 := ⟨by kernel_rfl⟩
instance : HasBody Try.prog 119 := ⟨by kernel_rfl⟩
instance : HasBody Try.prog 120 := ⟨by kernel_rfl⟩
instance : HasBody Try.prog 121 := ⟨by kernel_rfl⟩
instance : HasBody Try.prog 122 := ⟨by kernel_rfl⟩
instance : HasBody Try.prog 124 := ⟨by kernel_rfl⟩
instance : HasBody Try.prog 125 := ⟨by kernel_rfl⟩
instance : HasBody Try.prog 126 := ⟨by kernel_rfl⟩
instance : HasBody Try.prog 127 := ⟨by kernel_rfl⟩
instance : HasBody Try.prog 128 := ⟨by kernel_rfl⟩
instance : HasBody Try.prog 129 := ⟨by kernel_rfl⟩
instance : HasBody Try.prog 130 := ⟨by kernel_rfl⟩
instance : HasBody Try.prog 131 := ⟨by kernel_rfl⟩
instance : HasBody Try.prog 132 := ⟨by kernel_rfl⟩
instance : HasBody Try.prog 133 := ⟨by kernel_rfl⟩
instance : HasBody Try.prog 134 := ⟨by kernel_rfl⟩
instance : HasBody Try.prog 135 := ⟨by kernel_rfl⟩
instance : HasBody Try.prog 136 := ⟨by kernel_rfl⟩
instance : HasBody Try.prog 137 := ⟨by kernel_rfl⟩
instance : HasBody Try.prog 138 := ⟨by kernel_rfl⟩
instance : HasBody Try.prog 139 := ⟨by kernel_rfl⟩
instance : HasBody Try.prog 140 := ⟨by kernel_rfl⟩
instance : HasBody Try.prog 141 := ⟨by kernel_rfl⟩
instance : HasBody Try.prog 142 := ⟨by kernel_rfl⟩
instance : HasBody Try.prog 143 := ⟨by kernel_rfl⟩
instance : HasBody Try.prog 144 := ⟨by kernel_rfl⟩
instance : HasBody Try.prog 145 := ⟨by kernel_rfl⟩
instance : HasBody Try.prog 146 := ⟨by kernel_rfl⟩
instance : HasBody Try.prog 147 := ⟨by kernel_rfl⟩
instance : HasBody Try.prog 148 := ⟨by kernel_rfl⟩
instance : HasBody Try.prog 149 := ⟨by kernel_rfl⟩
instance : HasBody Try.prog 151 := ⟨by kernel_rfl⟩
instance : HasBody Try.prog 152 := ⟨by kernel_rfl⟩
instance : HasBody Try.prog 153 := ⟨by kernel_rfl⟩
instance : HasBody Try.prog 154 := ⟨by kernel_rfl⟩
instance : HasBody Try.prog 155 := ⟨by kernel_rfl⟩
instance : HasBody Try.prog 156 := ⟨by kernel_rfl⟩
instance : HasBody Try.prog 157 := ⟨by kernel_rfl⟩
instance : HasBody Try.prog 158 := ⟨by kernel_rfl⟩
instance : HasBody Try.prog 161 := ⟨by kernel_rfl⟩
instance : HasBody Try.prog 162 := ⟨by kernel_rfl⟩
instance : HasBody Try.prog 164 := ⟨by kernel_rfl⟩
instance : HasBody Try.prog 166 := ⟨by kernel_rfl⟩
instance : HasBody Try.prog 167 := ⟨by kernel_rfl⟩
instance : HasBody Try.prog 169 := ⟨by kernel_rfl⟩
instance : HasBody Try.prog 171 := ⟨by kernel_rfl⟩
instance : HasBody Try.prog 172 := ⟨by kernel_rfl⟩
instance : HasBody Try.prog 174 := ⟨by kernel_rfl⟩
instance : HasBody Try.prog 177 := ⟨by kernel_rfl⟩
instance : HasBody Try.prog 180 := ⟨by kernel_rfl⟩
instance : HasBody Try.prog 185 := ⟨by kernel_rfl⟩
instance : HasBody Try.prog 219 := ⟨by kernel_rfl⟩
instance : HasBody Try.prog 220 := ⟨by kernel_rfl⟩
instance : HasBody Try.prog 221 := ⟨by kernel_rfl⟩
instance : HasBody Try.prog 222 := ⟨by kernel_rfl⟩
instance : HasBody Try.prog 228 := ⟨by kernel_rfl⟩
instance : HasBody Try.prog 229 := ⟨by kernel_rfl⟩
instance : HasBody Try.prog 230 := ⟨by kernel_rfl⟩
instance : HasBody Try.prog 231 := ⟨by kernel_rfl⟩
instance : HasBody Try.prog 232 := ⟨by kernel_rfl⟩
instance : HasBody Try.prog 233 := ⟨by kernel_rfl⟩
instance : HasBody Try.prog 234 := ⟨by kernel_rfl⟩
instance : HasBody Try.prog 237 := ⟨by kernel_rfl⟩
instance : HasBody Try.prog 238 := ⟨by kernel_rfl⟩
instance : HasBody Try.prog 239 := ⟨by kernel_rfl⟩
instance : HasBody Try.prog 240 := ⟨by kernel_rfl⟩
instance : HasBody Try.prog 241 := ⟨by kernel_rfl⟩
instance : HasBody Try.prog 242 := ⟨by kernel_rfl⟩
instance : HasBody Try.prog 243 := ⟨by kernel_rfl⟩
instance : HasBody Try.prog 246 := ⟨by kernel_rfl⟩
instance : HasBody Try.prog 247 := ⟨by kernel_rfl⟩
theorem mixed : Try.prog.follows .mixedOrders = true := by kernel_rfl
end Go.Proofs.Ytlhlidmhlhodiaa

/-
  Iterators: maps.Keys and slices.Collect, laid at this seat.
-/
namespace Go.Proofs.Ytlhlidmhlhodiaa
set_option linter.unusedSimpArgs false
set_option linter.unusedVariables false
open Go.RowKit Go.Maps Go.Sort Go.Shelf
def itA_ren : Go.Shelf.Ren := ⟨fun | 7 => 164 | 10 => 177 | n => n, fun | 23 => 238 | 26 => 3 | 3 => 243 | 28 => 331 | 0 => 0 | 27 => 330 | 33 => 62 | 4 => 4 | n => n, fun n => n⟩
theorem itA : SlLaysZI.n7 Try.prog itA_ren :=
  { mixed := by kernel_rfl,
    f7 := ⟨Try.f164.name, by decide, Try.func164.trans (congrArg some (by kernel_rfl))⟩,
    f10 := ⟨Try.f177.name, by decide, Try.func177.trans (congrArg some (by kernel_rfl))⟩,
    t0 := Try.underlying0,
    a0 := Try.isAgg0,
    z0 := Try.sizeOf0,
    v0 := Try.zeroValue0,
    t4 := Try.underlying4,
    a4 := Try.isAgg4,
    z4 := Try.sizeOf4,
    v4 := Try.zeroValue4,
    t23 := Try.underlying238,
    a23 := Try.isAgg238,
    z23 := Try.sizeOf238,
    v23 := Try.zeroValue238,
    t26 := Try.underlying3,
    a26 := Try.isAgg3,
    z26 := Try.sizeOf3,
    v26 := Try.zeroValue3,
    t27 := Try.underlying330,
    a27 := Try.isAgg330,
    z27 := Try.sizeOf330,
    v27 := Try.zeroValue330,
    t28 := Try.underlying331,
    a28 := Try.isAgg331,
    z28 := Try.sizeOf331,
    v28 := Try.zeroValue331,
    t33 := Try.underlying62,
    a33 := Try.isAgg62,
    z33 := Try.sizeOf62,
    v33 := Try.zeroValue62 }
def itB_ren : Go.Shelf.Ren := ⟨fun | 8 => 175 | 11 => 181 | n => n, fun | 26 => 3 | 28 => 331 | 24 => 85 | 0 => 0 | 33 => 62 | 4 => 4 | n => n, fun n => n⟩
theorem itB : SlLaysZI.n8 Try.prog itB_ren :=
  { mixed := by kernel_rfl,
    f8 := ⟨Try.f175.name, by decide, Try.func175.trans (congrArg some (by kernel_rfl))⟩,
    f11 := ⟨Try.f181.name, by decide, Try.func181.trans (congrArg some (by kernel_rfl))⟩,
    t0 := Try.underlying0,
    a0 := Try.isAgg0,
    z0 := Try.sizeOf0,
    v0 := Try.zeroValue0,
    t24 := Try.underlying85,
    a24 := Try.isAgg85,
    z24 := Try.sizeOf85,
    v24 := Try.zeroValue85,
    t26 := Try.underlying3,
    a26 := Try.isAgg3,
    z26 := Try.sizeOf3,
    v26 := Try.zeroValue3,
    t28 := Try.underlying331,
    a28 := Try.isAgg331,
    z28 := Try.sizeOf331,
    v28 := Try.zeroValue331,
    i26 := by kernel_rfl }
def itC_ren : Go.Shelf.Ren := ⟨fun | 7 => 168 | 10 => 178 | n => n, fun | 23 => 97 | 26 => 3 | 3 => 3 | 28 => 331 | 0 => 0 | 27 => 330 | 33 => 62 | 4 => 4 | n => n, fun n => n⟩
theorem itC : SlLaysZI.n7 Try.prog itC_ren :=
  { mixed := by kernel_rfl,
    f7 := ⟨Try.f168.name, by decide, Try.func168.trans (congrArg some (by kernel_rfl))⟩,
    f10 := ⟨Try.f178.name, by decide, Try.func178.trans (congrArg some (by kernel_rfl))⟩,
    t0 := Try.underlying0,
    a0 := Try.isAgg0,
    z0 := Try.sizeOf0,
    v0 := Try.zeroValue0,
    t4 := Try.underlying4,
    a4 := Try.isAgg4,
    z4 := Try.sizeOf4,
    v4 := Try.zeroValue4,
    t23 := Try.underlying97,
    a23 := Try.isAgg97,
    z23 := Try.sizeOf97,
    v23 := Try.zeroValue97,
    t26 := Try.underlying3,
    a26 := Try.isAgg3,
    z26 := Try.sizeOf3,
    v26 := Try.zeroValue3,
    t27 := Try.underlying330,
    a27 := Try.isAgg330,
    z27 := Try.sizeOf330,
    v27 := Try.zeroValue330,
    t28 := Try.underlying331,
    a28 := Try.isAgg331,
    z28 := Try.sizeOf331,
    v28 := Try.zeroValue331,
    t33 := Try.underlying62,
    a33 := Try.isAgg62,
    z33 := Try.sizeOf62,
    v33 := Try.zeroValue62 }
def itD_ren : Go.Shelf.Ren := ⟨fun | 7 => 161 | 10 => 174 | n => n, fun | 23 => 279 | 26 => 2 | 3 => 218 | 28 => 327 | 0 => 0 | 27 => 326 | 33 => 345 | 4 => 4 | n => n, fun n => n⟩
theorem itD : SlLaysZI.n7 Try.prog itD_ren :=
  { mixed := by kernel_rfl,
    f7 := ⟨Try.f161.name, by decide, Try.func161.trans (congrArg some (by kernel_rfl))⟩,
    f10 := ⟨Try.f174.name, by decide, Try.func174.trans (congrArg some (by kernel_rfl))⟩,
    t0 := Try.underlying0,
    a0 := Try.isAgg0,
    z0 := Try.sizeOf0,
    v0 := Try.zeroValue0,
    t4 := Try.underlying4,
    a4 := Try.isAgg4,
    z4 := Try.sizeOf4,
    v4 := Try.zeroValue4,
    t23 := Try.underlying279,
    a23 := Try.isAgg279,
    z23 := Try.sizeOf279,
    v23 := Try.zeroValue279,
    t26 := Try.underlying2,
    a26 := Try.isAgg2,
    z26 := Try.sizeOf2,
    v26 := Try.zeroValue2,
    t27 := Try.underlying326,
    a27 := Try.isAgg326,
    z27 := Try.sizeOf326,
    v27 := Try.zeroValue326,
    t28 := Try.underlying327,
    a28 := Try.isAgg327,
    z28 := Try.sizeOf327,
    v28 := Try.zeroValue327,
    t33 := Try.underlying345,
    a33 := Try.isAgg345,
    z33 := Try.sizeOf345,
    v33 := Try.zeroValue345 }
def itE_ren : Go.Shelf.Ren := ⟨fun | 8 => 160 | 11 => 173 | n => n, fun | 26 => 2 | 28 => 327 | 24 => 324 | 0 => 0 | 33 => 345 | 4 => 4 | n => n, fun n => n⟩
theorem itE : SlLaysZI.n8 Try.prog itE_ren :=
  { mixed := by kernel_rfl,
    f8 := ⟨Try.f160.name, by decide, Try.func160.trans (congrArg some (by kernel_rfl))⟩,
    f11 := ⟨Try.f173.name, by decide, Try.func173.trans (congrArg some (by kernel_rfl))⟩,
    t0 := Try.underlying0,
    a0 := Try.isAgg0,
    z0 := Try.sizeOf0,
    v0 := Try.zeroValue0,
    t24 := Try.underlying324,
    a24 := Try.isAgg324,
    z24 := Try.sizeOf324,
    v24 := Try.zeroValue324,
    t26 := Try.underlying2,
    a26 := Try.isAgg2,
    z26 := Try.sizeOf2,
    v26 := Try.zeroValue2,
    t28 := Try.underlying327,
    a28 := Try.isAgg327,
    z28 := Try.sizeOf327,
    v28 := Try.zeroValue327,
    i26 := by kernel_rfl }
end Go.Proofs.Ytlhlidmhlhodiaa
