/-
  Texts of this proof, laid together (part 1 of 8).
-/
import Derived.WalkKit
import Derived.Below
import Derived.Lib.Hide
import Derived.Laws.BitsAllLaws
import Derived.Laws.BitsLemmas
import Derived.Laws.OwnMore
import Derived.Deep.Draws
import Derived.Laws.Rows
import Derived.Deep.Quiet
import Derived.StillTail
import Derived.OwnWalk
import Derived.Deep.LoopGhost
import Derived.IntWalk
import Derived.WalkSpells
import Derived.ArgAppend
/-
  Small words that every proof of this seat uses: results of calls as equations, arithmetic of unsigned kinds. No program in sight.
-/
namespace Go.Proofs.Ytlhlidmhlhodiaa
set_option linter.unusedSimpArgs false
set_option linter.unusedVariables false
open Go.RowKit

theorem ret_int {k : IntKind} {a b : Int} (h : a = b) : Ending.returned (.int k a) = .returned (.int k b) := by rw [h]
theorem ret_bool {a b : Bool} (h : a = b) : Ending.returned (.bool a) = .returned (.bool b) := by rw [h]
theorem hide {p : Prop} (h : p) : Hid p := h
theorem unhide {p : Prop} (h : Hid p) : p := h

/-- '&' with a number of ones, on an int: the remainder -/
theorem and_ones (x : Int) (k : Nat) (hk : k ≤ 62) : bits .and .i64 x ((2 ^ k - 1 : Nat) : Int) = x % (2 ^ k : Nat) := by
  have h2 : (2 : Nat) ^ k ≤ 2 ^ 62 := Nat.pow_le_pow_right (by omega) hk
  have hp : 0 < (2 : Nat) ^ k := Nat.two_pow_pos k
  have hx : ∀ a : Nat, a < 9223372036854775808 → (BitVec.ofInt 64 (a : Int)).toNat = a := fun a ha => by
    rw [BitVec.ofInt_natCast, BitVec.toNat_ofNat]; exact Nat.mod_eq_of_lt (by omega)
  show IntKind.i64.wrap ((BitVec.ofInt 64 x &&& BitVec.ofInt 64 ((2 ^ k - 1 : Nat) : Int)).toNat : Int) = _
  rw [BitVec.toNat_and, hx (2 ^ k - 1) (by omega), Nat.and_two_pow_sub_one_eq_mod, IntKind.wrap_i64, BitVec.toNat_ofInt]
  have hm : ((x % ((2 ^ 64 : Nat) : Int)).toNat : Int) = x % ((2 ^ 64 : Nat) : Int) := Int.toNat_of_nonneg (Int.emod_nonneg _ (by decide))
  rw [Int.natCast_emod, hm, Int.emod_emod_of_dvd x (by exact_mod_cast Nat.pow_dvd_pow 2 (by omega : k ≤ 64))]
  have h3 := Int.emod_nonneg x (show ((2 ^ k : Nat) : Int) ≠ 0 by omega)
  have h4 := Int.emod_lt_of_pos x (show (0 : Int) < ((2 ^ k : Nat) : Int) by omega)
  omega
theorem and_7 (x : Int) : bits .and .i64 x 7 = x % 8 := and_ones x 3 (by omega)
theorem and_15 (x : Int) : bits .and .i64 x 15 = x % 16 := and_ones x 4 (by omega)
theorem and_31 (x : Int) : bits .and .i64 x 31 = x % 32 := and_ones x 5 (by omega)
theorem and_63 (x : Int) : bits .and .i64 x 63 = x % 64 := and_ones x 6 (by omega)
theorem and_127 (x : Int) : bits .and .i64 x 127 = x % 128 := and_ones x 7 (by omega)
theorem and_16383 (x : Int) : bits .and .i64 x 16383 = x % 16384 := and_ones x 14 (by omega)
theorem and_65535 (x : Int) : bits .and .i64 x 65535 = x % 65536 := and_ones x 16 (by omega)
end Go.Proofs.Ytlhlidmhlhodiaa

/-
  Words for memory that every proof of this seat uses: a block that is known whole ('Blk'), what a call may change ('World.grownBy', 'Below'). No program in sight.
-/
namespace Go.Proofs.Ytlhlidmhlhodiaa
set_option linter.unusedSimpArgs false
set_option linter.unusedVariables false
open Go.RowKit

/-- block g is just these cells, of this element type; none is frozen -/
def Blk (w : World) (g : Nat) (t : TypeId) (cs : Array Value) : Prop := w.heap[g]? = some (.cells cs t (0, 0))

section
variable {w w' : World} {g : Nat} {t : TypeId} {cs : Array Value}
theorem Blk.lt (h : Blk w g t cs) : g < w.heap.size := by
  rcases Nat.lt_or_ge g w.heap.size with hlt | hge
  · exact hlt
  · unfold Blk at h; rw [Array.getElem?_eq_none hge] at h; cases h
theorem Blk.cell (h : Blk w g t cs) (i : Nat) : w.cell? ⟨g, i, none⟩ = cs[i]? := by
  unfold Blk at h; simp [World.cell?, h]
theorem Blk.frz (h : Blk w g t cs) (i : Nat) : w.frozen? ⟨g, i, none⟩ = false := by
  unfold Blk at h; simp [World.frozen?, h]
theorem Blk.new (w : World) (t : TypeId) (cs : Array Value) : Blk (w.alloc (.cells cs t)) w.heap.size t cs :=
  heap_alloc_new w _
theorem Blk.drew (h : Blk w g t cs) : Blk w.drew g t cs := h
theorem Blk.drewN (h : Blk w g t cs) (n : Nat) : Blk (w.drewN n) g t cs := h
theorem Blk.alloc (h : Blk w g t cs) (o : Obj) : Blk (w.alloc o) g t cs := (Below.heap_alloc w o g h.lt).trans h
theorem Blk.set (h : Blk w g t cs) (i : Nat) (u : Value) : Blk (w.setCell ⟨g, i, none⟩ u) g t (cs.setIfInBounds i u) := by
  unfold Blk at h ⊢
  simp [World.setCell, Array.getElem?_modify, h]
theorem Blk.far (h : Blk w g t cs) {p : Addr} (hp : g ≠ p.block) (u : Value) : Blk (w.setCell p u) g t cs := (Below.heap_setCell w p u g hp).trans h
theorem Blk.below {B : Nat} (h : Blk w g t cs) (hb : Below B w w') (hg : g < B) : Blk w' g t cs := (hb.block g hg).trans h
theorem Blk.grown {row : Option Nat} (h : Blk w g t cs) (hb : w.grownBy w' row) (hg : some g ≠ row) : Blk w' g t cs := (hb.block g h.lt hg).trans h
theorem Blk.diff {g' : Nat} {t' : TypeId} {cs' : Array Value} (h : Blk w g t cs) (h' : Blk w g' t' cs') (hne : t ≠ t') : g ≠ g' := by
  rintro rfl
  unfold Blk at h h'
  rw [h] at h'
  injection h' with h'
  injection h' with _ ht
  exact hne ht
end

theorem blk_close {w : World} {g : Nat} {t : TypeId} {cs cs' : Array Value} (h : Blk w g t cs) (e : cs = cs') : Blk w g t cs' := e ▸ h
/-- a block's cells, some of them stored anew: for 'simp only' at the end of a walk -/
def setIn (i : Nat) (u : Value) : Obj → Obj
  | .cells c e f => .cells (c.setIfInBounds i u) e f
  | o => o
theorem setIn_cells (i : Nat) (u : Value) (c : Array Value) (e : TypeId) (f : Nat × Nat) : setIn i u (.cells c e f) = .cells (c.setIfInBounds i u) e f := rfl
theorem heap_set_self (w : World) (g i : Nat) (u : Value) : (w.setCell ⟨g, i, none⟩ u).heap[g]? = (w.heap[g]?).map (setIn i u) := by
  simp only [World.setCell, Array.getElem?_modify, ↓reduceIte]
  cases w.heap[g]? with
  | none => rfl
  | some o => cases o <;> rfl
theorem heap_drewN (w : World) (n : Nat) : (w.drewN n).heap = w.heap := rfl
theorem heap_drew (w : World) : w.drew.heap = w.heap := rfl
theorem bcell {W w1 : World} (hb : Below W.heap.size W w1) :
    (∀ b o, b < W.heap.size → w1.cell? ⟨b, o, none⟩ = W.cell? ⟨b, o, none⟩) ∧ (∀ b o, b < W.heap.size → w1.frozen? ⟨b, o, none⟩ = W.frozen? ⟨b, o, none⟩) ∧ W.heap.size ≤ w1.heap.size :=
  ⟨fun b o h => World.cell?_of_block (hb.block b h), fun b o h => World.frozen?_of_block (hb.block b h), hb.size⟩
theorem gcell {W w1 : World} {g : Nat} (hb : W.grownBy w1 (some g)) :
    (∀ b o, b < W.heap.size → b ≠ g → w1.cell? ⟨b, o, none⟩ = W.cell? ⟨b, o, none⟩) ∧ (∀ b o, b < W.heap.size → b ≠ g → w1.frozen? ⟨b, o, none⟩ = W.frozen? ⟨b, o, none⟩) ∧ W.heap.size ≤ w1.heap.size :=
  ⟨fun b o h hn => World.cell?_of_block (hb.block b h (fun e => hn (by injection e))), fun b o h hn => World.frozen?_of_block (hb.block b h (fun e => hn (by injection e))), hb.size⟩

/-- behind a call that may change block g alone: the caller's own new blocks, numbered from n on, read as before -/
theorem gcell2 {W w1 : World} {g n : Nat} (hb : W.grownBy w1 (some g)) (hn : g < n) :
    (∀ o, n < W.heap.size → w1.cell? ⟨n, o, none⟩ = W.cell? ⟨n, o, none⟩) ∧ (∀ i o, n + i < W.heap.size → w1.cell? ⟨n + i, o, none⟩ = W.cell? ⟨n + i, o, none⟩) ∧
    (∀ o, n < W.heap.size → w1.frozen? ⟨n, o, none⟩ = W.frozen? ⟨n, o, none⟩) ∧ (∀ i o, n + i < W.heap.size → w1.frozen? ⟨n + i, o, none⟩ = W.frozen? ⟨n + i, o, none⟩) ∧ W.heap.size ≤ w1.heap.size :=
  ⟨fun _ h => World.cell?_of_block (hb.block _ h (fun e => by injection e with e; simp only at e; omega)), fun _ _ h => World.cell?_of_block (hb.block _ h (fun e => by injection e with e; simp only at e; omega)),
    fun _ h => World.frozen?_of_block (hb.block _ h (fun e => by injection e with e; simp only at e; omega)), fun _ _ h => World.frozen?_of_block (hb.block _ h (fun e => by injection e with e; simp only at e; omega)), hb.size⟩

section
variable {a w w' : World} {row : Option Nat} {g : Nat}
theorem g_refl (w : World) (row : Option Nat) : w.grownBy w row := ⟨rfl, rfl, rfl, Nat.le_refl _, fun _ _ _ => rfl⟩
theorem g_drew (h : a.grownBy w row) : a.grownBy w.drew row := ⟨h.os, h.tape, h.output, h.size, h.block⟩
theorem g_drewN (h : a.grownBy w row) (n : Nat) : a.grownBy (w.drewN n) row := ⟨h.os, h.tape, h.output, h.size, h.block⟩
theorem g_alloc (h : a.grownBy w row) (o : Obj) : a.grownBy (w.alloc o) row :=
  ⟨h.os, h.tape, h.output, Nat.le_trans h.size (by simp), fun i hi hne => (Below.heap_alloc w o i (Nat.lt_of_lt_of_le hi h.size)).trans (h.block i hi hne)⟩
theorem g_set (h : a.grownBy w (some g)) (i : Nat) (u : Value) : a.grownBy (w.setCell ⟨g, i, none⟩ u) (some g) :=
  ⟨h.os, h.tape, h.output, by simpa [World.setCell] using h.size, fun k hk hne => (Below.heap_setCell w _ u k (by rintro rfl; exact hne rfl)).trans (h.block k hk hne)⟩
theorem g_new (h : a.grownBy w row) {p : Addr} (hp : a.heap.size ≤ p.block) (u : Value) : a.grownBy (w.setCell p u) row :=
  ⟨h.os, h.tape, h.output, by simpa [World.setCell] using h.size, fun k hk hne => (Below.heap_setCell w _ u k (by omega)).trans (h.block k hk hne)⟩
theorem g_trans {b c : World} (h : a.grownBy b row) (k : b.grownBy c row) : a.grownBy c row :=
  ⟨k.os.trans h.os, k.tape.trans h.tape, k.output.trans h.output, Nat.le_trans h.size k.size, fun i hi hne => (k.block i (Nat.lt_of_lt_of_le hi h.size) hne).trans (h.block i hi hne)⟩
theorem g_below (h : Below a.heap.size a w) (row : Option Nat) : a.grownBy w row := ⟨h.os, h.tape, h.output, h.size, fun k hk _ => h.block k hk⟩
theorem g_none (h : a.grownBy w none) : Below a.heap.size a w := ⟨h.os, h.tape, h.output, h.size, fun k hk => h.block k hk (by simp)⟩
theorem g_weak (h : a.grownBy w none) (row : Option Nat) : a.grownBy w row := ⟨h.os, h.tape, h.output, h.size, fun k hk _ => h.block k hk (by simp)⟩
theorem b_drewN {B : Nat} (h : Below B a w) (n : Nat) : Below B a (w.drewN n) := ⟨h.os, h.tape, h.output, h.size, h.block⟩
theorem b_grown {B : Nat} (h : Below B a w) (hg : w.grownBy w' (some g)) (hB : B ≤ w.heap.size) (hr : B ≤ g) : Below B a w' :=
  h.grown hg hB (fun k e => by injection e with e; omega)
theorem b_below {B : Nat} (h : Below B a w) (hg : Below w.heap.size w w') (hB : B ≤ w.heap.size) : Below B a w' := h.trans (hg.mono hB)
end

theorem Blk.f1 {w : World} {g : Nat} {t : TypeId} {c0 : Value} (h : Blk w g t #[c0]) : (∀ i, w.frozen? ⟨g, i, none⟩ = false) ∧ g < w.heap.size ∧ w.cell? ⟨g, 0, none⟩ = some c0 :=
  ⟨h.frz, h.lt, h.cell 0⟩
theorem Blk.f2 {w : World} {g : Nat} {t : TypeId} {c0 c1 : Value} (h : Blk w g t #[c0, c1]) : (∀ i, w.frozen? ⟨g, i, none⟩ = false) ∧ g < w.heap.size ∧ w.cell? ⟨g, 0, none⟩ = some c0 ∧ w.cell? ⟨g, 1, none⟩ = some c1 :=
  ⟨h.frz, h.lt, h.cell 0, h.cell 1⟩
theorem Blk.f3 {w : World} {g : Nat} {t : TypeId} {c0 c1 c2 : Value} (h : Blk w g t #[c0, c1, c2]) : (∀ i, w.frozen? ⟨g, i, none⟩ = false) ∧ g < w.heap.size ∧ w.cell? ⟨g, 0, none⟩ = some c0 ∧ w.cell? ⟨g, 1, none⟩ = some c1 ∧ w.cell? ⟨g, 2, none⟩ = some c2 :=
  ⟨h.frz, h.lt, h.cell 0, h.cell 1, h.cell 2⟩
theorem Blk.f4 {w : World} {g : Nat} {t : TypeId} {c0 c1 c2 c3 : Value} (h : Blk w g t #[c0, c1, c2, c3]) : (∀ i, w.frozen? ⟨g, i, none⟩ = false) ∧ g < w.heap.size ∧ w.cell? ⟨g, 0, none⟩ = some c0 ∧ w.cell? ⟨g, 1, none⟩ = some c1 ∧ w.cell? ⟨g, 2, none⟩ = some c2 ∧ w.cell? ⟨g, 3, none⟩ = some c3 :=
  ⟨h.frz, h.lt, h.cell 0, h.cell 1, h.cell 2, h.cell 3⟩
theorem Blk.f5 {w : World} {g : Nat} {t : TypeId} {c0 c1 c2 c3 c4 : Value} (h : Blk w g t #[c0, c1, c2, c3, c4]) : (∀ i, w.frozen? ⟨g, i, none⟩ = false) ∧ g < w.heap.size ∧ w.cell? ⟨g, 0, none⟩ = some c0 ∧ w.cell? ⟨g, 1, none⟩ = some c1 ∧ w.cell? ⟨g, 2, none⟩ = some c2 ∧ w.cell? ⟨g, 3, none⟩ = some c3 ∧ w.cell? ⟨g, 4, none⟩ = some c4 :=
  ⟨h.frz, h.lt, h.cell 0, h.cell 1, h.cell 2, h.cell 3, h.cell 4⟩
theorem Blk.f6 {w : World} {g : Nat} {t : TypeId} {c0 c1 c2 c3 c4 c5 : Value} (h : Blk w g t #[c0, c1, c2, c3, c4, c5]) : (∀ i, w.frozen? ⟨g, i, none⟩ = false) ∧ g < w.heap.size ∧ w.cell? ⟨g, 0, none⟩ = some c0 ∧ w.cell? ⟨g, 1, none⟩ = some c1 ∧ w.cell? ⟨g, 2, none⟩ = some c2 ∧ w.cell? ⟨g, 3, none⟩ = some c3 ∧ w.cell? ⟨g, 4, none⟩ = some c4 ∧ w.cell? ⟨g, 5, none⟩ = some c5 :=
  ⟨h.frz, h.lt, h.cell 0, h.cell 1, h.cell 2, h.cell 3, h.cell 4, h.cell 5⟩
theorem Blk.f7 {w : World} {g : Nat} {t : TypeId} {c0 c1 c2 c3 c4 c5 c6 : Value} (h : Blk w g t #[c0, c1, c2, c3, c4, c5, c6]) : (∀ i, w.frozen? ⟨g, i, none⟩ = false) ∧ g < w.heap.size ∧ w.cell? ⟨g, 0, none⟩ = some c0 ∧ w.cell? ⟨g, 1, none⟩ = some c1 ∧ w.cell? ⟨g, 2, none⟩ = some c2 ∧ w.cell? ⟨g, 3, none⟩ = some c3 ∧ w.cell? ⟨g, 4, none⟩ = some c4 ∧ w.cell? ⟨g, 5, none⟩ = some c5 ∧ w.cell? ⟨g, 6, none⟩ = some c6 :=
  ⟨h.frz, h.lt, h.cell 0, h.cell 1, h.cell 2, h.cell 3, h.cell 4, h.cell 5, h.cell 6⟩
theorem Blk.f8 {w : World} {g : Nat} {t : TypeId} {c0 c1 c2 c3 c4 c5 c6 c7 : Value} (h : Blk w g t #[c0, c1, c2, c3, c4, c5, c6, c7]) : (∀ i, w.frozen? ⟨g, i, none⟩ = false) ∧ g < w.heap.size ∧ w.cell? ⟨g, 0, none⟩ = some c0 ∧ w.cell? ⟨g, 1, none⟩ = some c1 ∧ w.cell? ⟨g, 2, none⟩ = some c2 ∧ w.cell? ⟨g, 3, none⟩ = some c3 ∧ w.cell? ⟨g, 4, none⟩ = some c4 ∧ w.cell? ⟨g, 5, none⟩ = some c5 ∧ w.cell? ⟨g, 6, none⟩ = some c6 ∧ w.cell? ⟨g, 7, none⟩ = some c7 :=
  ⟨h.frz, h.lt, h.cell 0, h.cell 1, h.cell 2, h.cell 3, h.cell 4, h.cell 5, h.cell 6, h.cell 7⟩
theorem Blk.f9 {w : World} {g : Nat} {t : TypeId} {c0 c1 c2 c3 c4 c5 c6 c7 c8 : Value} (h : Blk w g t #[c0, c1, c2, c3, c4, c5, c6, c7, c8]) : (∀ i, w.frozen? ⟨g, i, none⟩ = false) ∧ g < w.heap.size ∧ w.cell? ⟨g, 0, none⟩ = some c0 ∧ w.cell? ⟨g, 1, none⟩ = some c1 ∧ w.cell? ⟨g, 2, none⟩ = some c2 ∧ w.cell? ⟨g, 3, none⟩ = some c3 ∧ w.cell? ⟨g, 4, none⟩ = some c4 ∧ w.cell? ⟨g, 5, none⟩ = some c5 ∧ w.cell? ⟨g, 6, none⟩ = some c6 ∧ w.cell? ⟨g, 7, none⟩ = some c7 ∧ w.cell? ⟨g, 8, none⟩ = some c8 :=
  ⟨h.frz, h.lt, h.cell 0, h.cell 1, h.cell 2, h.cell 3, h.cell 4, h.cell 5, h.cell 6, h.cell 7, h.cell 8⟩
theorem Blk.f10 {w : World} {g : Nat} {t : TypeId} {c0 c1 c2 c3 c4 c5 c6 c7 c8 c9 : Value} (h : Blk w g t #[c0, c1, c2, c3, c4, c5, c6, c7, c8, c9]) : (∀ i, w.frozen? ⟨g, i, none⟩ = false) ∧ g < w.heap.size ∧ w.cell? ⟨g, 0, none⟩ = some c0 ∧ w.cell? ⟨g, 1, none⟩ = some c1 ∧ w.cell? ⟨g, 2, none⟩ = some c2 ∧ w.cell? ⟨g, 3, none⟩ = some c3 ∧ w.cell? ⟨g, 4, none⟩ = some c4 ∧ w.cell? ⟨g, 5, none⟩ = some c5 ∧ w.cell? ⟨g, 6, none⟩ = some c6 ∧ w.cell? ⟨g, 7, none⟩ = some c7 ∧ w.cell? ⟨g, 8, none⟩ = some c8 ∧ w.cell? ⟨g, 9, none⟩ = some c9 :=
  ⟨h.frz, h.lt, h.cell 0, h.cell 1, h.cell 2, h.cell 3, h.cell 4, h.cell 5, h.cell 6, h.cell 7, h.cell 8, h.cell 9⟩
theorem Blk.f11 {w : World} {g : Nat} {t : TypeId} {c0 c1 c2 c3 c4 c5 c6 c7 c8 c9 c10 : Value} (h : Blk w g t #[c0, c1, c2, c3, c4, c5, c6, c7, c8, c9, c10]) : (∀ i, w.frozen? ⟨g, i, none⟩ = false) ∧ g < w.heap.size ∧ w.cell? ⟨g, 0, none⟩ = some c0 ∧ w.cell? ⟨g, 1, none⟩ = some c1 ∧ w.cell? ⟨g, 2, none⟩ = some c2 ∧ w.cell? ⟨g, 3, none⟩ = some c3 ∧ w.cell? ⟨g, 4, none⟩ = some c4 ∧ w.cell? ⟨g, 5, none⟩ = some c5 ∧ w.cell? ⟨g, 6, none⟩ = some c6 ∧ w.cell? ⟨g, 7, none⟩ = some c7 ∧ w.cell? ⟨g, 8, none⟩ = some c8 ∧ w.cell? ⟨g, 9, none⟩ = some c9 ∧ w.cell? ⟨g, 10, none⟩ = some c10 :=
  ⟨h.frz, h.lt, h.cell 0, h.cell 1, h.cell 2, h.cell 3, h.cell 4, h.cell 5, h.cell 6, h.cell 7, h.cell 8, h.cell 9, h.cell 10⟩
theorem Blk.f12 {w : World} {g : Nat} {t : TypeId} {c0 c1 c2 c3 c4 c5 c6 c7 c8 c9 c10 c11 : Value} (h : Blk w g t #[c0, c1, c2, c3, c4, c5, c6, c7, c8, c9, c10, c11]) : (∀ i, w.frozen? ⟨g, i, none⟩ = false) ∧ g < w.heap.size ∧ w.cell? ⟨g, 0, none⟩ = some c0 ∧ w.cell? ⟨g, 1, none⟩ = some c1 ∧ w.cell? ⟨g, 2, none⟩ = some c2 ∧ w.cell? ⟨g, 3, none⟩ = some c3 ∧ w.cell? ⟨g, 4, none⟩ = some c4 ∧ w.cell? ⟨g, 5, none⟩ = some c5 ∧ w.cell? ⟨g, 6, none⟩ = some c6 ∧ w.cell? ⟨g, 7, none⟩ = some c7 ∧ w.cell? ⟨g, 8, none⟩ = some c8 ∧ w.cell? ⟨g, 9, none⟩ = some c9 ∧ w.cell? ⟨g, 10, none⟩ = some c10 ∧ w.cell? ⟨g, 11, none⟩ = some c11 :=
  ⟨h.frz, h.lt, h.cell 0, h.cell 1, h.cell 2, h.cell 3, h.cell 4, h.cell 5, h.cell 6, h.cell 7, h.cell 8, h.cell 9, h.cell 10, h.cell 11⟩
end Go.Proofs.Ytlhlidmhlhodiaa

/-
  A logic of sparse frames: a state is a list of known slots, a list of items of the heap (whole blocks, owned slices), and a list of segments that are only read. No program in sight.
-/
namespace Go.Proofs.Ytlhlidmhlhodiaa
set_option linter.unusedSimpArgs false
set_option linter.unusedVariables false
open Go.RowKit

/-! ## Frames -/
def fget : List (Nat × Value) → Nat → Option Value
  | [], _ => none
  | (s, v) :: l, t => bif Nat.beq s t then some v else fget l t

def opd (fr : List (Nat × Value)) : Operand → Option Value
  | .tmp t => fget fr t
  | .const v => some v
  | .global g => some (.pointer (some ⟨g, 0, none⟩))
  | .func f => some (.func (.func f) #[] #[])

structure Holds (N : Nat) (fr : List (Nat × Value)) (a : Act) : Prop where
  defers : a.defers = []
  size : a.tmps.size = N
  slot : ∀ t v, fget fr t = some v → a.tmps[t]? = some v

section
variable {N : Nat} {fr : List (Nat × Value)} {a : Act} {v : Value}
theorem Holds.tmp (h : Holds N fr a) {t : Nat} (ht : fget fr t = some v) : a.tmps.getD t undef = v := by
  rw [Array.getD_eq_getD_getElem?, h.slot t v ht]; rfl
theorem Holds.eval (h : Holds N fr a) {x : Operand} (hx : opd fr x = some v) : a.eval x = v := by
  cases x with
  | tmp t => exact h.tmp hx
  | const u => simpa [opd, Act.eval] using hx
  | global g => simpa [opd, Act.eval] using hx
  | func f => simpa [opd, Act.eval] using hx
theorem Holds.put (h : Holds N fr a) {d : Nat} (hd : d < N) (v : Value) : Holds N ((d, v) :: fr) (a.put (some d) v) := by
  refine ⟨h.defers, by simp [Act.put, h.size], fun t u hu => ?_⟩
  unfold fget at hu
  cases hb : Nat.beq d t with
  | false =>
    have hne : d ≠ t := fun e => by rw [e, Nat.beq_refl] at hb; cases hb
    rw [hb] at hu
    simp only [cond_false] at hu
    simp [Act.put, Array.getElem?_setIfInBounds_ne hne, h.slot t u hu]
  | true =>
    have he : d = t := Nat.eq_of_beq_eq_true hb
    rw [hb] at hu
    simp only [cond_true, Option.some.injEq] at hu
    subst he; subst hu
    simp [Act.put, h.size, hd]
theorem Holds.none (h : Holds N fr a) (v : Value) : Holds N fr (a.put none v) := h
/-- a slot's value, told otherwise -/
theorem Holds.same (h : Holds N fr a) {s : Nat} {u : Value} (hs : fget fr s = some v) (e : v = u) : Holds N ((s, u) :: fr) a := by
  subst e
  refine ⟨h.defers, h.size, fun t u hu => ?_⟩
  unfold fget at hu
  cases hb : Nat.beq s t with
  | false => rw [hb] at hu; exact h.slot t u hu
  | true =>
    have he : s = t := Nat.eq_of_beq_eq_true hb
    rw [hb] at hu
    simp only [cond_true, Option.some.injEq] at hu
    subst he; subst hu
    exact h.slot s _ hs
theorem Holds.weak (h : Holds N fr a) {fr' : List (Nat × Value)} (hw : ∀ x ∈ fr', fget fr x.1 = some x.2) : Holds N fr' a := by
  refine ⟨h.defers, h.size, fun t u hu => h.slot t u ?_⟩
  clear h
  induction fr' with
  | nil => cases hu
  | cons x l ih =>
    obtain ⟨s, w⟩ := x
    unfold fget at hu
    cases hb : Nat.beq s t with
    | false => rw [hb] at hu; exact ih (fun y hy => hw y (.tail _ hy)) hu
    | true =>
      have he : s = t := Nat.eq_of_beq_eq_true hb
      rw [hb] at hu
      simp only [cond_true, Option.some.injEq] at hu
      subst he; subst hu
      exact hw (s, w) (.head _)
end

/-! ## The heap in items -/
inductive It where
  /-- block b is exactly o -/
  | ob (b : Nat) (o : Obj)
  /-- a slice of n elements (of type t, sz cells each) with the rows xs, which alone knows its block -/
  | own (t : TypeId) (sz : Nat) (ao : Option Addr) (n c : Nat) (xs : List (List Value))

/-- a segment that is only read: the rows xs from offset o of block b on -/
structure Ro where
  b : Nat
  o : Nat
  sz : Nat
  xs : List (List Value)

def SegIn (cur : Array Value) (o : Nat) (xs : List (List Value)) : Prop := ∀ j u, xs.flatten[j]? = some u → cur[o + j]? = some u
def RowsOk (sz : Nat) (xs : List (List Value)) : Prop := ∀ r ∈ xs, r.length = sz ∧ ∀ u ∈ r, u.oneCell' = true

def It.foot : It → Option Nat
  | .ob b _ => some b
  | .own _ _ ao _ _ _ => ao.map (·.block)
structure OwnSat (w : World) (t : TypeId) (sz : Nat) (ao : Option Addr) (n c : Nat) (xs : List (List Value)) : Prop where
  len : xs.length = n
  rows : RowsOk sz xs
  le : n ≤ c
  max : c ≤ maxLen
  nil : ao = none → c = 0
  at_ : ∀ a, ao = some a → a.spot = none ∧ ∃ cur, w.heap[a.block]? = some (.cells cur t (0, 0)) ∧ a.off + c * sz ≤ cur.size ∧ SegIn cur a.off xs
def It.sat (w : World) : It → Prop
  | .ob b o => w.heap[b]? = some o
  | .own t sz ao n c xs => OwnSat w t sz ao n c xs
def Ro.sat (w : World) (r : Ro) : Prop := RowsOk r.sz r.xs ∧ ∃ cur t fz, w.heap[r.b]? = some (.cells cur t fz) ∧ SegIn cur r.o r.xs

def feet (L : List It) : List Nat := L.filterMap It.foot
def blks (R : List Ro) : List Nat := R.map Ro.b

structure Frm (S : List Nat) (w w' : World) : Prop where
  os : w'.os = w.os
  tape : w'.tape = w.tape
  output : w'.output = w.output
  size : w.heap.size ≤ w'.heap.size
  block : ∀ k, k < w.heap.size → k ∉ S → w'.heap[k]? = w.heap[k]?

theorem Frm.refl (S : List Nat) (w : World) : Frm S w w := ⟨rfl, rfl, rfl, Nat.le_refl _, fun _ _ _ => rfl⟩
theorem Frm.below {w w' : World} (h : Frm [] w w') : Below w.heap.size w w' := ⟨h.os, h.tape, h.output, h.size, fun k hk => h.block k hk (by simp)⟩
theorem Frm.grown {w w' : World} {row : Option Nat} (h : w.grownBy w' row) : Frm row.toList w w' :=
  ⟨h.os, h.tape, h.output, h.size, fun k hk hn => h.block k hk (by cases row <;> simp_all)⟩

theorem size_of_some {w : World} {b : Nat} {o : Obj} (h : w.heap[b]? = some o) : b < w.heap.size := by
  rcases Nat.lt_or_ge b w.heap.size with h' | h'
  · exact h'
  · rw [Array.getElem?_eq_none h'] at h; cases h
theorem It.lt {w : World} {x : It} {b : Nat} (h : x.sat w) (hf : x.foot = some b) : b < w.heap.size := by
  cases x with
  | ob b' o => simp only [It.foot, Option.some.injEq] at hf; subst hf; exact size_of_some h
  | own t sz ao n c xs =>
    cases ao with
    | none => cases hf
    | some a =>
      simp only [It.foot, Option.map_some, Option.some.injEq] at hf
      subst hf
      obtain ⟨_, cur, hc, _⟩ := OwnSat.at_ h a rfl
      exact size_of_some hc
theorem It.congr {w w' : World} {x : It} (hf : ∀ b, x.foot = some b → w'.heap[b]? = w.heap[b]?) (h : x.sat w) : x.sat w' := by
  cases x with
  | ob b o => exact (hf b rfl).trans h
  | own t sz ao n c xs =>
    refine ⟨h.len, h.rows, h.le, h.max, h.nil, fun a ha => ?_⟩
    obtain ⟨h1, cur, h2, h3⟩ := h.at_ a ha
    exact ⟨h1, cur, (hf a.block (by simp [It.foot, ha])).trans h2, h3⟩
theorem Ro.lt {w : World} {r : Ro} (h : r.sat w) : r.b < w.heap.size := by
  obtain ⟨_, cur, t, fz, hc, _⟩ := h; exact size_of_some hc
theorem Ro.congr {w w' : World} {r : Ro} (hf : w'.heap[r.b]? = w.heap[r.b]?) (h : r.sat w) : r.sat w' := by
  obtain ⟨h1, cur, t, fz, hc, h2⟩ := h; exact ⟨h1, cur, t, fz, hf.trans hc, h2⟩

def Apart (x y : It) : Prop := ∀ b, x.foot = some b → y.foot = some b → False
theorem Apart.symm {x y : It} (h : Apart x y) : Apart y x := fun b h1 h2 => h b h2 h1

structure Sat (B : World) (S T : List Nat) (hp : List It) (ro : List Ro) (w : World) : Prop where
  frm : Frm S B w
  sat : ∀ x ∈ hp, x.sat w
  own : ∀ x ∈ hp, ∀ b, x.foot = some b → b ∈ S ∨ B.heap.size ≤ b
  dis : hp.Pairwise Apart
  rds : ∀ r ∈ ro, r.sat w
  rod : ∀ r ∈ ro, ∀ x ∈ hp, x.foot ≠ some r.b
  rok : ∀ r ∈ ro, r.b ∈ S ∨ r.b ∈ T ∨ B.heap.size ≤ r.b

theorem mem_feet {L : List It} {b : Nat} : b ∈ feet L ↔ ∃ x ∈ L, x.foot = some b := by simp [feet]
theorem mem_blks {R : List Ro} {b : Nat} : b ∈ blks R ↔ ∃ r ∈ R, r.b = b := by simp [blks]

section
variable {B : World} {S T : List Nat} {hp hp' L F L' : List It} {ro ro' R R' : List Ro} {w w' : World}
theorem Sat.perm (h : Sat B S T hp ro w) (hpm : hp.Perm hp') : Sat B S T hp' ro w :=
  ⟨h.frm, fun x hx => h.sat x (hpm.mem_iff.2 hx), fun x hx => h.own x (hpm.mem_iff.2 hx), (hpm.pairwise_iff Apart.symm).1 h.dis, h.rds,
    fun r hr x hx => h.rod r hr x (hpm.mem_iff.2 hx), h.rok⟩
theorem Sat.left (h : Sat B S T (L ++ F) ro w) : Sat B S T L ro w :=
  ⟨h.frm, fun x hx => h.sat x (List.mem_append_left _ hx), fun x hx => h.own x (List.mem_append_left _ hx), (List.pairwise_append.1 h.dis).1, h.rds,
    fun r hr x hx => h.rod r hr x (List.mem_append_left _ hx), h.rok⟩
theorem Sat.some_ro (h : Sat B S T hp ro w) (hs : ∀ r ∈ ro', r ∈ ro) : Sat B S T hp ro' w :=
  ⟨h.frm, h.sat, h.own, h.dis, fun r hr => h.rds r (hs r hr), fun r hr => h.rod r (hs r hr), fun r hr => h.rok r (hs r hr)⟩
/-- what a callee is handed -/
theorem Sat.start (h : Sat B S T hp ro w) (hs : hp.Perm (L ++ F)) (hr : ∀ r ∈ R, r ∈ ro) : Sat w (feet L) (blks R) L R w :=
  let h1 := ((h.perm hs).left.some_ro hr)
  ⟨Frm.refl _ _, h1.sat, fun x hx b hb => .inl (mem_feet.2 ⟨x, hx, hb⟩), h1.dis, h1.rds, h1.rod, fun r hr => .inr (.inl (mem_blks.2 ⟨r, hr, rfl⟩))⟩
/-- behind a step that may touch the items L alone, and makes L', R' of them -/
theorem Sat.step {T' : List Nat} (h0 : Sat B S T hp ro w) (hs : hp.Perm (L ++ F)) (hT : ∀ b ∈ T', b ∈ blks ro) (h' : Sat w (feet L) T' L' R' w') : Sat B S T (L' ++ F) (R' ++ ro) w' := by
  have h := h0.perm hs
  have hF : ∀ x ∈ F, ∀ b, x.foot = some b → b < w.heap.size ∧ b ∉ feet L := by
    intro x hx b hb
    refine ⟨It.lt (h.sat x (List.mem_append_right _ hx)) hb, fun hm => ?_⟩
    obtain ⟨y, hy, hyb⟩ := mem_feet.1 hm
    exact (List.pairwise_append.1 h.dis).2.2 y hy x hx b hyb hb
  have hFs : ∀ x ∈ F, x.sat w' := fun x hx => It.congr (fun b hb => h'.frm.block b (hF x hx b hb).1 (hF x hx b hb).2) (h.sat x (List.mem_append_right _ hx))
  have hR : ∀ r ∈ ro, r.b < w.heap.size ∧ r.b ∉ feet L := by
    intro r hr
    refine ⟨Ro.lt (h.rds r hr), fun hm => ?_⟩
    obtain ⟨y, hy, hyb⟩ := mem_feet.1 hm
    exact h.rod r hr y (List.mem_append_left _ hy) hyb
  have hLb : ∀ b ∈ feet L, b ∈ S ∨ B.heap.size ≤ b := by
    intro b hb
    obtain ⟨y, hy, hyb⟩ := mem_feet.1 hb
    exact h.own y (List.mem_append_left _ hy) b hyb
  refine ⟨⟨h'.frm.os.trans h.frm.os, h'.frm.tape.trans h.frm.tape, h'.frm.output.trans h.frm.output, Nat.le_trans h.frm.size h'.frm.size, fun k hk hn => ?_⟩, ?_, ?_, ?_, ?_, ?_, ?_⟩
  · refine (h'.frm.block k (Nat.lt_of_lt_of_le hk h.frm.size) fun hm => ?_).trans (h.frm.block k hk hn)
    rcases hLb k hm with h1 | h1
    · exact hn h1
    · omega
  · intro x hx
    rcases List.mem_append.1 hx with hx | hx
    · exact h'.sat x hx
    · exact hFs x hx
  · intro x hx b hb
    rcases List.mem_append.1 hx with hx | hx
    · rcases h'.own x hx b hb with h1 | h1
      · exact hLb b h1
      · exact .inr (Nat.le_trans h.frm.size h1)
    · exact h.own x (List.mem_append_right _ hx) b hb
  · refine List.pairwise_append.2 ⟨h'.dis, (List.pairwise_append.1 h.dis).2.1, fun x hx y hy b hxb hyb => ?_⟩
    have hy2 := hF y hy b hyb
    rcases h'.own x hx b hxb with h1 | h1
    · exact hy2.2 h1
    · omega
  · intro r hr
    rcases List.mem_append.1 hr with hr | hr
    · exact h'.rds r hr
    · exact Ro.congr (h'.frm.block _ (hR r hr).1 (hR r hr).2) (h.rds r hr)
  · intro r hr x hx hxr
    rcases List.mem_append.1 hr with hr | hr
    · rcases List.mem_append.1 hx with hx | hx
      · exact h'.rod r hr x hx hxr
      · have hx2 := hF x hx _ hxr
        rcases h'.rok r hr with h1 | h1 | h1
        · exact hx2.2 h1
        · obtain ⟨r2, hr2, e2⟩ := mem_blks.1 (hT _ h1)
          exact h.rod r2 hr2 x (List.mem_append_right _ hx) (by rw [hxr, e2])
        · omega
    · rcases List.mem_append.1 hx with hx | hx
      · rcases h'.own x hx _ hxr with h1 | h1
        · exact (hR r hr).2 h1
        · have := (hR r hr).1; omega
      · exact h.rod r hr x (List.mem_append_right _ hx) hxr
  · intro r hr
    rcases List.mem_append.1 hr with hr | hr
    · rcases h'.rok r hr with h1 | h1 | h1
      · rcases hLb _ h1 with h2 | h2
        · exact .inl h2
        · exact .inr (.inr h2)
      · obtain ⟨r2, hr2, e2⟩ := mem_blks.1 (hT _ h1)
        have := h.rok r2 hr2
        rwa [e2] at this
      · exact .inr (.inr (Nat.le_trans h.frm.size h1))
    · exact h.rok r hr
end

/-- one item becomes another one (or none is there before): what stores, appends, new blocks do -/
theorem Sat.one {w w' : World} {L : List It} {y : It} (hf : Frm (feet L) w w') (hs : y.sat w') (ho : ∀ b, y.foot = some b → b ∈ feet L ∨ w.heap.size ≤ b) : Sat w (feet L) [] [y] [] w' :=
  ⟨hf, fun x hx => by rcases List.mem_singleton.1 hx with rfl; exact hs, fun x hx b hb => by rcases List.mem_singleton.1 hx with rfl; exact ho b hb,
    List.pairwise_singleton _ _, (by intro r hr; cases hr), (by intro r hr; cases hr), (by intro r hr; cases hr)⟩
theorem Frm.drawn {S : List Nat} {B w : World} (h : Frm S B w) (n : Nat) : Frm S B { w with drawn := n } := ⟨h.os, h.tape, h.output, h.size, h.block⟩
theorem Sat.drawn {B : World} {S T : List Nat} {hp : List It} {ro : List Ro} {w : World} (h : Sat B S T hp ro w) (n : Nat) : Sat B S T hp ro { w with drawn := n } :=
  ⟨h.frm.drawn n, fun x hx => It.congr (w := w) (fun _ _ => rfl) (h.sat x hx), h.own, h.dis, fun r hr => Ro.congr (w := w) rfl (h.rds r hr), h.rod, h.rok⟩

/-! ## Contracts and judgements -/
structure St where
  fr : List (Nat × Value)
  hp : List It
  ro : List Ro
structure Env where
  B : World
  S : List Nat
  T : List Nat

def Fn (P : Program) (f : FuncId) (args : Array Value) (L : List It) (R : List Ro) (Post : Value → List It → List Ro → Prop) : Prop :=
  ∀ w, Sat w (feet L) (blks R) L R w → Calls P f args w fun e w' => ∃ v L' R', e = .returned v ∧ Post v L' R' ∧ Sat w (feet L) (blks R) L' R' w'

structure Ok (N : Nat) (E : Env) (st : St) (a : Act) (w : World) : Prop where
  h : Holds N st.fr a
  s : Sat E.B E.S E.T st.hp st.ro w

def post (N : Nat) (E : Env) (Kn : St → Prop) (Kx : List (Nat × (St → Prop))) (Kr : St → Prop) : Exit → Act → World → Prop
  | .normal, a, w => ∃ st, Kn st ∧ Ok N E st a w
  | .exit id, a, w => ∃ st K, Kx.lookup id = some K ∧ K st ∧ Ok N E st a w
  | .ret, a, w => ∃ st, Kr st ∧ Ok N E st a w
  | _, _, _ => False

def WC (P : Program) (N : Nat) (E : Env) (c : Code) (st : St) (Kn : St → Prop) (Kx : List (Nat × (St → Prop))) (Kr : St → Prop) : Prop :=
  ∀ a w, Ok N E st a w → c.wp P (post N E Kn Kx Kr) a w
def WO (P : Program) (N : Nat) (E : Env) (ops : Array Oper) (rest : List Oper) (st : St) (Kn : St → Prop) : Prop :=
  ∀ Q : Exit → Act → World → Prop, (∀ st' a w, Kn st' → Ok N E st' a w → Q .normal a w) → ∀ a w, Ok N E st a w → wpList P ops Q rest a w
/-- an operation that yields v and leaves the world alone -/
def Pv (P : Program) (st : St) (op : Op) (v : Value) : Prop :=
  ∀ (N : Nat) (E : Env) (a : Act) (w : World) (dst : Option Tmp) (ty : TypeId) (pos : String) (af : Array Edge) (g : Option (Nat × Bool)), Ok N E st a w →
    (execOp a.eval ⟨dst, op, ty, pos, af, g⟩).run P w = .ok (.value v) w

section
variable {P : Program} {N : Nat} {E : Env} {fr : List (Nat × Value)} {hp : List It} {ro : List Ro} {Kn Kr : St → Prop} {Kx : List (Nat × (St → Prop))}
theorem wc_skip (h : Kn ⟨fr, hp, ro⟩) : WC P N E .skip ⟨fr, hp, ro⟩ Kn Kx Kr := fun a w ok => wp_skip ⟨⟨fr, hp, ro⟩, h, ok⟩
theorem wc_ret (h : Kr ⟨fr, hp, ro⟩) : WC P N E .ret ⟨fr, hp, ro⟩ Kn Kx Kr := fun a w ok => wp_ret ⟨⟨fr, hp, ro⟩, h, ok⟩
theorem wc_exit {id : Nat} {K : St → Prop} (hl : Kx.lookup id = some K) (h : K ⟨fr, hp, ro⟩) : WC P N E (.exit id) ⟨fr, hp, ro⟩ Kn Kx Kr := fun a w ok => wp_exit ⟨⟨fr, hp, ro⟩, K, hl, h, ok⟩
theorem wc_seq {x y : Code} (h : WC P N E x ⟨fr, hp, ro⟩ (fun st' => WC P N E y st' Kn Kx Kr) Kx Kr) : WC P N E (.seq x y) ⟨fr, hp, ro⟩ Kn Kx Kr := fun a w ok =>
  wp_seq (Code.wp_mono (fun e a w q => by
    cases e with
    | normal => obtain ⟨st', h1, h2⟩ := q; exact h1 a w h2
    | _ => exact q) (h a w ok))
theorem wc_block {id : Nat} {c : Code} (h : WC P N E c ⟨fr, hp, ro⟩ Kn ((id, Kn) :: Kx) Kr) : WC P N E (.block id c) ⟨fr, hp, ro⟩ Kn Kx Kr := fun a w ok =>
  wp_block (Code.wp_mono (fun e a w q => by
    cases e with
    | exit id' =>
      obtain ⟨st', K, hl, hk, ok'⟩ := q
      simp only [Exit.inBlock]
      by_cases he : id' = id
      · subst he
        simp only [List.lookup, beq_self_eq_true, Option.some.injEq] at hl
        subst hl
        rw [if_pos rfl]; exact ⟨st', hk, ok'⟩
      · rw [if_neg he]
        have hb : (id' == id) = false := by simpa using he
        simp only [List.lookup, hb] at hl
        exact ⟨st', K, hl, hk, ok'⟩
    | _ => exact q) (h a w ok))
theorem wc_cond {c : Operand} {x y : Code} {b : Bool} (hc : opd fr c = some (.bool b)) (ht : b = true → WC P N E x ⟨fr, hp, ro⟩ Kn Kx Kr) (hf : b = false → WC P N E y ⟨fr, hp, ro⟩ Kn Kx Kr) :
    WC P N E (.cond c x y) ⟨fr, hp, ro⟩ Kn Kx Kr := fun a w ok => wp_cond_split (ok.h.eval hc) (fun h => ht h a w ok) (fun h => hf h a w ok)
theorem wc_true {c : Operand} {x y : Code} (hc : opd fr c = some (.bool true)) (h : WC P N E x ⟨fr, hp, ro⟩ Kn Kx Kr) : WC P N E (.cond c x y) ⟨fr, hp, ro⟩ Kn Kx Kr :=
  wc_cond hc (fun _ => h) (fun h => by cases h)
theorem wc_false {c : Operand} {x y : Code} (hc : opd fr c = some (.bool false)) (h : WC P N E y ⟨fr, hp, ro⟩ Kn Kx Kr) : WC P N E (.cond c x y) ⟨fr, hp, ro⟩ Kn Kx Kr :=
  wc_cond hc (fun h => by cases h) (fun _ => h)
theorem wc_dec {c : Operand} {x y : Code} {p : Prop} [Decidable p] (hc : opd fr c = some (.bool (decide p))) (ht : p → WC P N E x ⟨fr, hp, ro⟩ Kn Kx Kr) (hf : ¬p → WC P N E y ⟨fr, hp, ro⟩ Kn Kx Kr) :
    WC P N E (.cond c x y) ⟨fr, hp, ro⟩ Kn Kx Kr := wc_cond hc (fun h => ht (of_decide_eq_true h)) (fun h => hf (of_decide_eq_false h))
theorem wc_dec_t {c : Operand} {x y : Code} {p : Prop} [Decidable p] (hc : opd fr c = some (.bool (decide p))) (hpp : p) (h : WC P N E x ⟨fr, hp, ro⟩ Kn Kx Kr) : WC P N E (.cond c x y) ⟨fr, hp, ro⟩ Kn Kx Kr :=
  wc_dec hc (fun _ => h) (fun hn => absurd hpp hn)
theorem wc_dec_f {c : Operand} {x y : Code} {p : Prop} [Decidable p] (hc : opd fr c = some (.bool (decide p))) (hpp : ¬p) (h : WC P N E y ⟨fr, hp, ro⟩ Kn Kx Kr) : WC P N E (.cond c x y) ⟨fr, hp, ro⟩ Kn Kx Kr :=
  wc_dec hc (fun h => absurd h hpp) (fun _ => h)
theorem wc_region {id : Nat} {l : List Oper} (h : WO P N E l.toArray l ⟨fr, hp, ro⟩ Kn) : WC P N E (.region id l.toArray false) ⟨fr, hp, ro⟩ Kn Kx Kr := fun a w ok =>
  wp_region_lit (h _ (fun st' _ _ hk ok' => ⟨st', hk, ok'⟩) a w ok)

/-! weakening -/
structure Wk (st st' : St) : Prop where
  fr : ∀ x ∈ st'.fr, fget st.fr x.1 = some x.2
  hp : ∃ F, st.hp.Perm (st'.hp ++ F)
  ro : ∀ r ∈ st'.ro, r ∈ st.ro
theorem Ok.weak {st' : St} {a : Act} {w : World} (h : Ok N E ⟨fr, hp, ro⟩ a w) (hw : Wk ⟨fr, hp, ro⟩ st') : Ok N E st' a w :=
  ⟨h.h.weak hw.fr, let ⟨_, hF⟩ := hw.hp; ((h.s.perm hF).left).some_ro hw.ro⟩
theorem wc_weak {c : Code} {st' : St} (hw : Wk ⟨fr, hp, ro⟩ st') (h : WC P N E c st' Kn Kx Kr) : WC P N E c ⟨fr, hp, ro⟩ Kn Kx Kr := fun a w ok => h a w (ok.weak hw)

def WkF (fr fr' : List (Nat × Value)) : Prop := ∀ x ∈ fr', fget fr x.1 = some x.2
theorem wkf_nil {fr : List (Nat × Value)} : WkF fr [] := fun x hx => by cases hx
theorem wkf_cons {fr fr' : List (Nat × Value)} {s : Nat} {v : Value} (h : fget fr s = some v) (hr : WkF fr fr') : WkF fr ((s, v) :: fr') := fun x hx => by
  rcases List.mem_cons.1 hx with rfl | hx
  · exact h
  · exact hr x hx
theorem wk_mk {fr' : List (Nat × Value)} {hp' F : List It} {ro' : List Ro} (hf : WkF fr fr') (hh : hp.Perm (hp' ++ F)) (hr : ∀ r ∈ ro', r ∈ ro) : Wk ⟨fr, hp, ro⟩ ⟨fr', hp', ro'⟩ := ⟨hf, ⟨F, hh⟩, hr⟩
theorem loop_end {I : Nat → St → Prop} {m m' : Nat} {st' st'' : St} (hI : I m' st'') (hlt : m' < m) (hw : Wk st' st'') : ∃ m' st'', m' < m ∧ Wk st' st'' ∧ I m' st'' := ⟨m', st'', hlt, hw, hI⟩
theorem cut_end {J : St → Prop} {st' st'' : St} (hJ : J st'') (hw : Wk st' st'') : ∃ st'', Wk st' st'' ∧ J st'' := ⟨st'', hw, hJ⟩
theorem wc_loop {c : Code} (I : Nat → St → Prop) (m : Nat) (st0 : St) (hw : Wk ⟨fr, hp, ro⟩ st0) (h0 : I m st0)
    (hr : ∀ m st, I m st → WC P N E c st (fun st' => ∃ m' st'', m' < m ∧ Wk st' st'' ∧ I m' st'') Kx Kr) : WC P N E (.loop c) ⟨fr, hp, ro⟩ Kn Kx Kr := by
  intro a w ok
  refine wp_loop_ghost (fun m a w => ∃ st, I m st ∧ Ok N E st a w) m ⟨st0, h0, ok.weak hw⟩ ?_
  rintro n a w ⟨st, hI, ok⟩
  refine wp_mono (hr n st hI a w ok) fun e a w q => ?_
  cases e with
  | normal =>
    obtain ⟨st', ⟨m', st'', h1, h2, h3⟩, ok'⟩ := q
    exact ⟨m', h1, st'', h3, ok'.weak h2⟩
  | _ => exact q
theorem wc_loop' {c : Code} (I : Nat → St → Prop) {m : Nat} {st0 : St} (h0 : I m st0) (hw : Wk ⟨fr, hp, ro⟩ st0)
    (hr : ∀ m st, I m st → WC P N E c st (fun st' => ∃ m' st'', m' < m ∧ Wk st' st'' ∧ I m' st'') Kx Kr) : WC P N E (.loop c) ⟨fr, hp, ro⟩ Kn Kx Kr := by
  intro a w ok
  exact wc_loop I m st0 hw h0 hr a w ok
/-- a sequence, with a relation between: where ways meet again -/
theorem wc_cut {x y : Code} (J : St → Prop) (h : WC P N E x ⟨fr, hp, ro⟩ (fun st' => ∃ st'', Wk st' st'' ∧ J st'') Kx Kr) (hy : ∀ st', J st' → WC P N E y st' Kn Kx Kr) : WC P N E (.seq x y) ⟨fr, hp, ro⟩ Kn Kx Kr := fun a w ok =>
  wp_seq (Code.wp_mono (fun e a w q => by
    cases e with
    | normal => obtain ⟨st', ⟨st'', h1, h2⟩, ok'⟩ := q; exact hy st'' h2 a w (ok'.weak h1)
    | _ => exact q) (h a w ok))

/-! ### operations -/
def gslot (ops : Array Oper) (j : Nat) : Option Nat := (ops[j]?).bind (·.dst)
theorem yielded_of {ops : Array Oper} {a : Act} {fr : List (Nat × Value)} {j s : Nat} {b : Bool} (h : Holds N fr a) (hg : gslot ops j = some s) (hs : fget fr s = some (.bool b)) : yielded ops a.tmps j = some b := by
  unfold gslot at hg
  unfold yielded
  rw [hg]
  simp [h.slot s _ hs]
theorem yielded_undef {ops : Array Oper} {a : Act} {fr : List (Nat × Value)} {j s : Nat} (h : Holds N fr a) (hg : gslot ops j = some s) (hs : fget fr s = some undef) : yielded ops a.tmps j = none := by
  unfold gslot at hg
  unfold yielded
  rw [hg]
  simp [h.slot s _ hs, undef]
variable {ops : Array Oper} {rest : List Oper} {dst : Option Tmp} {op : Op} {ty : TypeId} {pos : String} {af : Array Edge}
theorem wo_nil (h : Kn ⟨fr, hp, ro⟩) : WO P N E ops [] ⟨fr, hp, ro⟩ Kn := fun _ hQ a w ok => hQ ⟨fr, hp, ro⟩ a w h ok
theorem wo_run {j s : Nat} {b : Bool} (hg : gslot ops j = some s) (hs : fget fr s = some (.bool b)) (h : WO P N E ops (⟨dst, op, ty, pos, af, none⟩ :: rest) ⟨fr, hp, ro⟩ Kn) :
    WO P N E ops (⟨dst, op, ty, pos, af, some (j, b)⟩ :: rest) ⟨fr, hp, ro⟩ Kn := by
  intro Q hQ a w ok
  have h1 := h Q hQ a w ok
  unfold wpList at h1 ⊢
  rw [if_pos (by simp [Region.wanted])] at h1
  rw [if_pos (by simp [Region.wanted, yielded_of ok.h hg hs])]
  exact h1
theorem wo_skip {j s d : Nat} {b c : Bool} (hg : gslot ops j = some s) (hs : fget fr s = some (.bool b)) (hb : (b == c) = false) (hd : Nat.ble (d + 1) N = true) (h : WO P N E ops rest ⟨(d, undef) :: fr, hp, ro⟩ Kn) :
    WO P N E ops (⟨some d, op, ty, pos, af, some (j, c)⟩ :: rest) ⟨fr, hp, ro⟩ Kn := by
  intro Q hQ a w ok
  unfold wpList
  rw [if_neg (by simp [Region.wanted, yielded_of ok.h hg hs]; simpa using hb)]
  exact h Q hQ _ w ⟨ok.h.put (Nat.le_of_ble_eq_true hd) _, ok.s⟩
theorem wo_skip_u {j s d : Nat} {c : Bool} (hg : gslot ops j = some s) (hs : fget fr s = some undef) (hd : Nat.ble (d + 1) N = true) (h : WO P N E ops rest ⟨(d, undef) :: fr, hp, ro⟩ Kn) :
    WO P N E ops (⟨some d, op, ty, pos, af, some (j, c)⟩ :: rest) ⟨fr, hp, ro⟩ Kn := by
  intro Q hQ a w ok
  unfold wpList
  rw [if_neg (by simp [Region.wanted, yielded_undef ok.h hg hs])]
  exact h Q hQ _ w ⟨ok.h.put (Nat.le_of_ble_eq_true hd) _, ok.s⟩
theorem wo_dec {s : Nat} {p : Prop} [Decidable p] (hs : fget fr s = some (.bool (decide p))) (ht : p → WO P N E ops rest ⟨(s, .bool true) :: fr, hp, ro⟩ Kn) (hf : ¬p → WO P N E ops rest ⟨(s, .bool false) :: fr, hp, ro⟩ Kn) :
    WO P N E ops rest ⟨fr, hp, ro⟩ Kn := by
  intro Q hQ a w ok
  by_cases hpp : p
  · exact ht hpp Q hQ a w ⟨ok.h.same hs (by simp [hpp]), ok.s⟩
  · exact hf hpp Q hQ a w ⟨ok.h.same hs (by simp [hpp]), ok.s⟩
theorem wo_gt {j s : Nat} {c : Bool} {p : Prop} [Decidable p] (hg : gslot ops j = some s) (hs : fget fr s = some (.bool (decide p))) (hpp : p) (h : WO P N E ops (⟨dst, op, ty, pos, af, some (j, c)⟩ :: rest) ⟨(s, .bool true) :: fr, hp, ro⟩ Kn) :
    WO P N E ops (⟨dst, op, ty, pos, af, some (j, c)⟩ :: rest) ⟨fr, hp, ro⟩ Kn := wo_dec hs (fun _ => h) (fun hn => absurd hpp hn)
theorem wo_gf {j s : Nat} {c : Bool} {p : Prop} [Decidable p] (hg : gslot ops j = some s) (hs : fget fr s = some (.bool (decide p))) (hpp : ¬p) (h : WO P N E ops (⟨dst, op, ty, pos, af, some (j, c)⟩ :: rest) ⟨(s, .bool false) :: fr, hp, ro⟩ Kn) :
    WO P N E ops (⟨dst, op, ty, pos, af, some (j, c)⟩ :: rest) ⟨fr, hp, ro⟩ Kn := wo_dec hs (fun h => absurd h hpp) (fun _ => h)
theorem wo_gs {j s : Nat} {c : Bool} {p : Prop} [Decidable p] (hg : gslot ops j = some s) (hs : fget fr s = some (.bool (decide p))) (ht : p → WO P N E ops (⟨dst, op, ty, pos, af, some (j, c)⟩ :: rest) ⟨(s, .bool true) :: fr, hp, ro⟩ Kn)
    (hf : ¬p → WO P N E ops (⟨dst, op, ty, pos, af, some (j, c)⟩ :: rest) ⟨(s, .bool false) :: fr, hp, ro⟩ Kn) : WO P N E ops (⟨dst, op, ty, pos, af, some (j, c)⟩ :: rest) ⟨fr, hp, ro⟩ Kn := wo_dec hs ht hf
theorem wo_gb {j s : Nat} {b c : Bool} (hg : gslot ops j = some s) (hs : fget fr s = some (.bool b)) (ht : b = true → WO P N E ops (⟨dst, op, ty, pos, af, some (j, c)⟩ :: rest) ⟨(s, .bool true) :: fr, hp, ro⟩ Kn)
    (hf : b = false → WO P N E ops (⟨dst, op, ty, pos, af, some (j, c)⟩ :: rest) ⟨(s, .bool false) :: fr, hp, ro⟩ Kn) : WO P N E ops (⟨dst, op, ty, pos, af, some (j, c)⟩ :: rest) ⟨fr, hp, ro⟩ Kn := by
  cases b
  · exact fun Q hQ a w ok => hf rfl Q hQ a w ⟨ok.h.same hs rfl, ok.s⟩
  · exact fun Q hQ a w ok => ht rfl Q hQ a w ⟨ok.h.same hs rfl, ok.s⟩
theorem wo_val {d : Nat} {v : Value} (hv : Pv P ⟨fr, hp, ro⟩ op v) (hd : Nat.ble (d + 1) N = true) (h : WO P N E ops rest ⟨(d, v) :: fr, hp, ro⟩ Kn) :
    WO P N E ops (⟨some d, op, ty, pos, af, none⟩ :: rest) ⟨fr, hp, ro⟩ Kn := by
  intro Q hQ a w ok
  unfold wpList
  rw [if_pos (by simp [Region.wanted])]
  refine .inl ?_
  unfold Oper.wp
  rw [hv N E a w (some d) ty pos af none ok]
  exact h Q hQ _ w ⟨ok.h.put (Nat.le_of_ble_eq_true hd) _, ok.s⟩
theorem wo_v {d : Nat} {v : Value} (hd : Nat.ble (d + 1) N = true) (hv : Pv P ⟨fr, hp, ro⟩ op v) (h : WO P N E ops rest ⟨(d, v) :: fr, hp, ro⟩ Kn) :
    WO P N E ops (⟨some d, op, ty, pos, af, none⟩ :: rest) ⟨fr, hp, ro⟩ Kn := wo_val hv hd h
def opdL (fr : List (Nat × Value)) : List Operand → Option (List Value)
  | [] => some []
  | x :: l => match opd fr x, opdL fr l with
    | some v, some vs => some (v :: vs)
    | _, _ => none
theorem Holds.evalL {fr : List (Nat × Value)} {a : Act} (h : Holds N fr a) : ∀ {l : List Operand} {vs : List Value}, opdL fr l = some vs → l.map a.eval = vs
  | [], vs, e => by simpa [opdL] using e
  | x :: l, vs, e => by
    unfold opdL at e
    split at e
    · rename_i v vs' h1 h2
      simp only [Option.some.injEq] at e
      subst e
      simp [h.eval h1, h.evalL h2]
    · cases e
def putF (dst : Option Nat) (v : Value) (fr : List (Nat × Value)) : List (Nat × Value) := match dst with | some d => (d, v) :: fr | none => fr
def dstOk (dst : Option Nat) (N : Nat) : Bool := match dst with | some d => Nat.ble (d + 1) N | none => true
theorem Holds.putF {fr : List (Nat × Value)} {a : Act} (h : Holds N fr a) (hd : dstOk dst N = true) (v : Value) : Holds N (putF dst v fr) (a.put dst v) := by
  cases dst with
  | none => exact h
  | some d => exact h.put (Nat.le_of_ble_eq_true hd) v
theorem blks_mem {ro : List Ro} : ∀ b ∈ ([] : List Nat), b ∈ blks ro := by intro b hb; cases hb
/-- an operation that turns the items L into others, and yields a value -/
theorem wo_eff {L F : List It} (hs : hp.Perm (L ++ F)) (hd : dstOk dst N = true)
    (h : ∀ (a : Act) (w : World), Ok N E ⟨fr, hp, ro⟩ a w → ∃ v L' w', (execOp a.eval ⟨dst, op, ty, pos, af, none⟩).run P w = .ok (.value v) w' ∧ Sat w (feet L) [] L' [] w' ∧
      WO P N E ops rest ⟨putF dst v fr, L' ++ F, ro⟩ Kn) : WO P N E ops (⟨dst, op, ty, pos, af, none⟩ :: rest) ⟨fr, hp, ro⟩ Kn := by
  intro Q hQ a w ok
  unfold wpList
  rw [if_pos (by simp [Region.wanted])]
  refine .inl ?_
  obtain ⟨v, L', w', hr, hS, hK⟩ := h a w ok
  unfold Oper.wp
  rw [hr]
  exact hK Q hQ _ w' ⟨ok.h.putF hd v, ok.s.step hs blks_mem hS⟩
theorem wo_eff_skip {L F : List It} (hs : hp.Perm (L ++ F)) (hd : dstOk dst N = true)
    (h : ∀ (a : Act) (w : World), Ok N E ⟨fr, hp, ro⟩ a w → ∃ L' w', (execOp a.eval ⟨dst, op, ty, pos, af, none⟩).run P w = .ok .skip w' ∧ Sat w (feet L) [] L' [] w' ∧
      WO P N E ops rest ⟨putF dst undef fr, L' ++ F, ro⟩ Kn) : WO P N E ops (⟨dst, op, ty, pos, af, none⟩ :: rest) ⟨fr, hp, ro⟩ Kn := by
  intro Q hQ a w ok
  unfold wpList
  rw [if_pos (by simp [Region.wanted])]
  refine .inl ?_
  obtain ⟨L', w', hr, hS, hK⟩ := h a w ok
  unfold Oper.wp
  rw [hr]
  exact hK Q hQ _ w' ⟨ok.h.putF hd _, ok.s.step hs blks_mem hS⟩

theorem enter_of {f : FuncId} {fn : Func} (hf : P.funcs[f]? = some fn) (hb : fn.body.isSome = true) (hn : fn.name ≠ "runtime.NumGoroutine") {a : Act} {l : List Operand} {ats : Array TypeId} {g : Option (Nat × Bool)} (w : World) :
    (execOp a.eval ⟨dst, .call ⟨.value (.func f), l.toArray, ats⟩, ty, pos, af, g⟩).run P w = .ok (.enter f (l.map a.eval).toArray) w := by
  have hb' : fn.body.isNone = false := by cases h : fn.body <;> simp_all
  simp [execOp, resolve, Deferred.ofValue, Act.eval, invoke, callFunc, hf, hn, hb', go_sem]
  intro h0; rw [h0] at hb; cases hb
/-- a function that has a body: what a call of it needs to know -/
class HasBody (P : Program) (f : FuncId) : Prop where
  h : (match P.funcs[f]? with | some fn => fn.body.isSome && !(fn.name == "runtime.NumGoroutine") | none => false) = true
theorem HasBody.enter {f : FuncId} [hf : HasBody P f] {a : Act} {l : List Operand} {ats : Array TypeId} {g : Option (Nat × Bool)} (w : World) :
    (execOp a.eval ⟨dst, .call ⟨.value (.func f), l.toArray, ats⟩, ty, pos, af, g⟩).run P w = .ok (.enter f (l.map a.eval).toArray) w := by
  have h := hf.h
  split at h
  · rename_i fn hfn
    simp only [Bool.and_eq_true, Bool.not_eq_true', beq_eq_false_iff_ne] at h
    exact enter_of hfn h.1 h.2 w
  · cases h
theorem wo_call {f : FuncId} [HasBody P f] {vs : List Value} {L F : List It} {R : List Ro} {Post : Value → List It → List Ro → Prop} {l : List Operand} {ats : Array TypeId}
    (hF : Fn P f vs.toArray L R Post) (ha : opdL fr l = some vs) (hs : hp.Perm (L ++ F)) (hr : ∀ r ∈ R, r ∈ ro) (hd : dstOk dst N = true)
    (h : ∀ v L' R', Post v L' R' → ∀ H, H = L' ++ F → ∀ RR, RR = R' ++ ro → WO P N E ops rest ⟨putF dst v fr, H, RR⟩ Kn) :
    WO P N E ops (⟨dst, .call ⟨.value (.func f), l.toArray, ats⟩, ty, pos, af, none⟩ :: rest) ⟨fr, hp, ro⟩ Kn := by
  intro Q hQ a w ok
  unfold wpList
  rw [if_pos (by simp [Region.wanted])]
  refine .inl ?_
  unfold Oper.wp
  rw [HasBody.enter w, ok.h.evalL ha]
  refine (hF w (ok.s.start hs hr)).mono fun e w' ⟨v, L', R', he, hP, hS⟩ => ?_
  subst he
  exact h v L' R' hP _ rfl _ rfl Q hQ _ w' ⟨ok.h.putF hd v, ok.s.step hs (fun b hb => by
    obtain ⟨r, h1, h2⟩ := mem_blks.1 hb; exact mem_blks.2 ⟨r, hr r h1, h2⟩) hS⟩

/-! ### regions that draw their order -/
end
inductive Hd (P : Program) (N : Nat) (calls : Bool) (ops : Array Oper) (hp : List It) (ro : List Ro) (K : List (Nat × Value) → Prop) : List Oper → List (Nat × Value) → Prop
  | nil {fr : List (Nat × Value)} (h : K fr) : Hd P N calls ops hp ro K [] fr
  | val {fr : List (Nat × Value)} {op ty pos af rest d v} (hv : Pv P ⟨fr, hp, ro⟩ op v) (hd : Nat.ble (d + 1) N = true) (h : Hd P N calls ops hp ro K rest ((d, v) :: fr)) : Hd P N calls ops hp ro K (⟨some d, op, ty, pos, af, none⟩ :: rest) fr
  | call {fr : List (Nat × Value)} {f ty pos af rest d v vs L F R l ats} (hc : calls = true) (hb : HasBody P f) (hF : Fn P f (List.toArray vs) L R (fun v' L' _ => v' = v ∧ L' = L)) (ha : opdL fr l = some vs) (hs : hp.Perm (L ++ F))
      (hr : ∀ r ∈ R, r ∈ ro) (hd : Nat.ble (d + 1) N = true) (h : Hd P N calls ops hp ro K rest ((d, v) :: fr)) : Hd P N calls ops hp ro K (⟨some d, .call ⟨.value (.func f), l.toArray, ats⟩, ty, pos, af, none⟩ :: rest) fr
  | run {fr : List (Nat × Value)} {dst op ty pos af rest j s b} (hg : gslot ops j = some s) (hs : fget fr s = some (.bool b)) (h : Hd P N calls ops hp ro K (⟨dst, op, ty, pos, af, none⟩ :: rest) fr) :
      Hd P N calls ops hp ro K (⟨dst, op, ty, pos, af, some (j, b)⟩ :: rest) fr
  | skip {fr : List (Nat × Value)} {d op ty pos af rest j s b c} (hg : gslot ops j = some s) (hs : fget fr s = some (.bool b)) (hb : (b == c) = false) (hd : Nat.ble (d + 1) N = true) (h : Hd P N calls ops hp ro K rest ((d, undef) :: fr)) :
      Hd P N calls ops hp ro K (⟨some d, op, ty, pos, af, some (j, c)⟩ :: rest) fr
  | skipu {fr : List (Nat × Value)} {d op ty pos af rest j s c} (hg : gslot ops j = some s) (hs : fget fr s = some undef) (hd : Nat.ble (d + 1) N = true) (h : Hd P N calls ops hp ro K rest ((d, undef) :: fr)) :
      Hd P N calls ops hp ro K (⟨some d, op, ty, pos, af, some (j, c)⟩ :: rest) fr
  | dec {fr : List (Nat × Value)} {rest s} {p : Prop} [Decidable p] (hs : fget fr s = some (.bool (decide p))) (ht : p → Hd P N calls ops hp ro K rest ((s, .bool true) :: fr)) (hf : ¬p → Hd P N calls ops hp ro K rest ((s, .bool false) :: fr)) :
      Hd P N calls ops hp ro K rest fr

section
variable {P : Program} {N : Nat} {E : Env} {fr : List (Nat × Value)} {hp : List It} {ro : List Ro} {Kn Kr : St → Prop} {Kx : List (Nat × (St → Prop))} {ops : Array Oper} {rest : List Oper} {dst : Option Tmp} {op : Op} {ty : TypeId} {pos : String} {af : Array Edge}
section
variable {calls : Bool} {hp : List It} {ro : List Ro} {K : List (Nat × Value) → Prop} {fr : List (Nat × Value)} {j s : Nat} {c : Bool} {p : Prop} [Decidable p]
theorem hd_v {d : Nat} {v : Value} (hd : Nat.ble (d + 1) N = true) (hv : Pv P ⟨fr, hp, ro⟩ op v) (h : Hd P N calls ops hp ro K rest ((d, v) :: fr)) : Hd P N calls ops hp ro K (⟨some d, op, ty, pos, af, none⟩ :: rest) fr := .val hv hd h
theorem hd_gt (hg : gslot ops j = some s) (hs : fget fr s = some (.bool (decide p))) (hp' : p) (h : Hd P N calls ops hp ro K (⟨dst, op, ty, pos, af, some (j, c)⟩ :: rest) ((s, .bool true) :: fr)) : Hd P N calls ops hp ro K (⟨dst, op, ty, pos, af, some (j, c)⟩ :: rest) fr :=
  .dec hs (fun _ => h) (fun hn => absurd hp' hn)
theorem hd_gf (hg : gslot ops j = some s) (hs : fget fr s = some (.bool (decide p))) (hp' : ¬p) (h : Hd P N calls ops hp ro K (⟨dst, op, ty, pos, af, some (j, c)⟩ :: rest) ((s, .bool false) :: fr)) : Hd P N calls ops hp ro K (⟨dst, op, ty, pos, af, some (j, c)⟩ :: rest) fr :=
  .dec hs (fun h => absurd h hp') (fun _ => h)
theorem hd_gs (hg : gslot ops j = some s) (hs : fget fr s = some (.bool (decide p))) (ht : p → Hd P N calls ops hp ro K (⟨dst, op, ty, pos, af, some (j, c)⟩ :: rest) ((s, .bool true) :: fr))
    (hf : ¬p → Hd P N calls ops hp ro K (⟨dst, op, ty, pos, af, some (j, c)⟩ :: rest) ((s, .bool false) :: fr)) : Hd P N calls ops hp ro K (⟨dst, op, ty, pos, af, some (j, c)⟩ :: rest) fr := .dec hs ht hf
theorem hd_gb {b : Bool} (hg : gslot ops j = some s) (hs : fget fr s = some (.bool b)) (ht : b = true → Hd P N calls ops hp ro K (⟨dst, op, ty, pos, af, some (j, c)⟩ :: rest) ((s, .bool true) :: fr))
    (hf : b = false → Hd P N calls ops hp ro K (⟨dst, op, ty, pos, af, some (j, c)⟩ :: rest) ((s, .bool false) :: fr)) : Hd P N calls ops hp ro K (⟨dst, op, ty, pos, af, some (j, c)⟩ :: rest) fr :=
  .dec (p := b = true) (by rw [hs]; cases b <;> rfl) ht (fun h => hf (by simpa using h))
end
theorem Sat.same {B : World} {S T : List Nat} {hp L F : List It} {ro R : List Ro} {w w' : World} {R' : List Ro} (h : Sat B S T hp ro w) (hs : hp.Perm (L ++ F)) (hr : ∀ r ∈ R, r ∈ ro) (h' : Sat w (feet L) (blks R) L R' w') : Sat B S T hp ro w' :=
  ((h.step hs (fun b hb => by obtain ⟨r, h1, h2⟩ := mem_blks.1 hb; exact mem_blks.2 ⟨r, hr r h1, h2⟩) h').some_ro (fun r hr => List.mem_append_right _ hr)).perm hs.symm
theorem Hd.quiet {calls : Bool} {hp : List It} {ro : List Ro} {K : List (Nat × Value) → Prop} {l : List Oper} {fr : List (Nat × Value)} (h : Hd P N calls ops hp ro K l fr) (E : Env) {D : Act → Prop}
    (hD : ∀ fr a, K fr → Holds N fr a → D a) : ∀ a, Holds N fr a → wpQuiet P ops (Sat E.B E.S E.T hp ro) D l a := by
  induction h with
  | nil h => exact fun a ha => hD _ a h ha
  | val hv hd _ ih =>
    intro a ha
    unfold wpQuiet
    rw [if_pos (by simp [Region.wanted])]
    refine ⟨_, fun w hw => ?_, ih _ (ha.put (Nat.le_of_ble_eq_true hd) _)⟩
    unfold Oper.quietAt
    rw [hv N E a w _ _ _ _ _ ⟨ha, hw⟩]
    exact ⟨rfl, rfl⟩
  | call hc hb hF ha' hs hr hd _ ih =>
    intro a ha
    unfold wpQuiet
    rw [if_pos (by simp [Region.wanted])]
    refine ⟨_, fun w hw => ?_, ih _ (ha.put (Nat.le_of_ble_eq_true hd) _)⟩
    unfold Oper.quietAt
    rw [hb.enter w, ha.evalL ha']
    refine ⟨rfl, (hF w (hw.start hs hr)).mono fun e w' ⟨v, L', R', he, hP, hS⟩ => ?_⟩
    obtain ⟨rfl, rfl⟩ := hP
    exact ⟨he, hw.same hs hr hS⟩
  | run hg hs _ ih =>
    intro a ha
    have h1 := ih a ha
    unfold wpQuiet at h1 ⊢
    rw [if_pos (by simp [Region.wanted])] at h1
    rw [if_pos (by simp [Region.wanted, yielded_of ha hg hs])]
    exact h1
  | skip hg hs hb hd _ ih =>
    intro a ha
    unfold wpQuiet
    rw [if_neg (by simp [Region.wanted, yielded_of ha hg hs]; simpa using hb)]
    exact ih _ (ha.put (Nat.le_of_ble_eq_true hd) _)
  | skipu hg hs hd _ ih =>
    intro a ha
    unfold wpQuiet
    rw [if_neg (by simp [Region.wanted, yielded_undef ha hg hs])]
    exact ih _ (ha.put (Nat.le_of_ble_eq_true hd) _)
  | @dec fr rest s p _ hs _ _ iht ihf =>
    intro a ha
    by_cases hp : p
    · exact iht hp a (ha.same hs (by simp [hp]))
    · exact ihf hp a (ha.same hs (by simp [hp]))
theorem Hd.still {hp : List It} {ro : List Ro} {K : List (Nat × Value) → Prop} {l : List Oper} {fr : List (Nat × Value)} (h : Hd P N false ops hp ro K l fr) (E : Env) {D : Act → Prop}
    (hD : ∀ fr a, K fr → Holds N fr a → D a) (w : World) (hw : Sat E.B E.S E.T hp ro w) : ∀ a, Holds N fr a → wpStill P ops w D l a := by
  induction h with
  | nil h => exact fun a ha => hD _ a h ha
  | val hv hd _ ih =>
    intro a ha
    unfold wpStill
    rw [if_pos (by simp [Region.wanted])]
    unfold Oper.still
    rw [hv N E a w _ _ _ _ _ ⟨ha, hw⟩]
    exact ⟨rfl, ih _ (ha.put (Nat.le_of_ble_eq_true hd) _)⟩
  | call hc => cases hc
  | run hg hs _ ih =>
    intro a ha
    have h1 := ih a ha
    unfold wpStill at h1 ⊢
    rw [if_pos (by simp [Region.wanted])] at h1
    rw [if_pos (by simp [Region.wanted, yielded_of ha hg hs])]
    exact h1
  | skip hg hs hb hd _ ih =>
    intro a ha
    unfold wpStill
    rw [if_neg (by simp [Region.wanted, yielded_of ha hg hs]; simpa using hb)]
    exact ih _ (ha.put (Nat.le_of_ble_eq_true hd) _)
  | skipu hg hs hd _ ih =>
    intro a ha
    unfold wpStill
    rw [if_neg (by simp [Region.wanted, yielded_undef ha hg hs])]
    exact ih _ (ha.put (Nat.le_of_ble_eq_true hd) _)
  | @dec fr rest s p _ hs _ _ iht ihf =>
    intro a ha
    by_cases hp : p
    · exact iht hp a (ha.same hs (by simp [hp]))
    · exact ihf hp a (ha.same hs (by simp [hp]))
theorem wc_quiet {id : Nat} {l : List Oper} (hm : P.follows .mixedOrders = true) (hB : Region.lexB .any l.toArray = true) (h : Hd P N true l.toArray hp ro (fun fr => Kn ⟨fr, hp, ro⟩) l fr) :
    WC P N E (.region id l.toArray true) ⟨fr, hp, ro⟩ Kn Kx Kr := fun a w ok =>
  wp_region_quiet (C := Sat E.B E.S E.T hp ro) hm hB (ok.s.drawn _) (by
    simpa using h.quiet E (D := fun a' => ∀ w', Sat E.B E.S E.T hp ro w' → post N E Kn Kx Kr .normal a' w') (fun fr a hk ha w' hw' => ⟨_, hk, ha, hw'⟩) a ok.h)
theorem wc_tail {id : Nat} {l : List Oper} (n : Nat) (hm : P.follows .mixedOrders = true) (hB : Region.lexTailB .any l.toArray n = true)
    (h : Hd P N false l.toArray hp ro (fun fr => WO P N E l.toArray (l.drop n) ⟨fr, hp, ro⟩ Kn) (l.take n) fr) :
    WC P N E (.region id l.toArray true) ⟨fr, hp, ro⟩ Kn Kx Kr := fun a w ok =>
  wp_region_still_tail n hm hB (h.still E (fun fr a hk ha => hk _ (fun st' _ _ hk ok' => ⟨st', hk, ok'⟩) a _ ⟨ha, ok.s.drawn _⟩) _ (ok.s.drawn _) a ok.h)

/-! ### functions -/
def argf : Nat → List Value → List (Nat × Value)
  | _, [] => []
  | k, v :: l => (k, v) :: argf (k + 1) l
theorem fget_argf : ∀ (l : List Value) (k t : Nat) (v : Value), fget (argf k l) t = some v → k ≤ t ∧ l[t - k]? = some v
  | [], _, _, _, h => by cases h
  | u :: l, k, t, v, h => by
    unfold argf fget at h
    cases hb : Nat.beq k t with
    | true =>
      have he : k = t := Nat.eq_of_beq_eq_true hb
      rw [hb] at h
      simp only [cond_true, Option.some.injEq] at h
      subst he; subst h
      simp
    | false =>
      rw [hb] at h
      obtain ⟨h1, h2⟩ := fget_argf l (k + 1) t v h
      refine ⟨by omega, ?_⟩
      rw [show t - k = (t - (k + 1)) + 1 by omega]
      simpa using h2
def Res (P : Program) (fn : Func) (st : St) (v : Value) : Prop := ∀ (N : Nat) (E : Env) (a : Act) (w : World), Ok N E st a w → (results fn a.tmps).run P w = .ok v w
def Ret (P : Program) (fn : Func) (Post : Value → List It → List Ro → Prop) (st : St) : Prop :=
  ∃ v hp' ro', Res P fn st v ∧ (∃ F, st.hp.Perm (hp' ++ F)) ∧ (∀ r ∈ ro', r ∈ st.ro) ∧ Post v hp' ro'
theorem fn_intro {f : FuncId} {fn : Func} {c : Code} {vs : List Value} {L : List It} {R : List Ro} {Post : Value → List It → List Ro → Prop} (hf : P.funcs[f]? = some fn) (hb : fn.body = some c) (hN : fn.ntmps = N)
    (ha : Nat.ble vs.length N = true) (h : ∀ E : Env, WC P N E c ⟨argf 0 vs, L, R⟩ (Ret P fn Post) [] (Ret P fn Post)) : Fn P f vs.toArray L R Post := by
  intro w hw
  have hle := Nat.le_of_ble_eq_true ha
  refine calls_of_wp hf hb (Code.wp_mono (fun e a w' q => ?_) (h ⟨w, feet L, blks R⟩ _ w ⟨⟨rfl, ?_, ?_⟩, hw⟩))
  · have key : ∀ st, Ret P fn Post st → Ok N ⟨w, feet L, blks R⟩ st a w' → a.defers = [] ∧ ∃ v, (results fn a.tmps).run P w' = .ok v w' ∧ ∃ v' L' R', Ending.returned v = .returned v' ∧ Post v' L' R' ∧ Sat w (feet L) (blks R) L' R' w' := by
      rintro st ⟨v, hp', ro', h1, ⟨F, h2⟩, h3, h4⟩ ok
      exact ⟨ok.h.defers, v, h1 N _ a w' ok, v, hp', ro', rfl, h4, ((ok.s.perm h2).left).some_ro h3⟩
    cases e with
    | normal => obtain ⟨st, h1, ok⟩ := q; exact key st h1 ok
    | ret => obtain ⟨st, h1, ok⟩ := q; exact key st h1 ok
    | exit id => obtain ⟨st, K, hl, _⟩ := q; cases hl
    | _ => exact False.elim q
  · simp [hN]; omega
  · intro t v ht
    obtain ⟨_, h2⟩ := fget_argf vs 0 t v ht
    have hlt : t < vs.length := (List.getElem?_eq_some_iff.1 h2).1
    rw [Array.getElem?_append_left (by simpa using hlt)]
    simpa using h2
theorem Fn.mono {f : FuncId} {args : Array Value} {L : List It} {R : List Ro} {Post Post' : Value → List It → List Ro → Prop} (h : Fn P f args L R Post) (hp : ∀ v L' R', Post v L' R' → Post' v L' R') : Fn P f args L R Post' :=
  fun w hw => (h w hw).mono fun _ _ ⟨v, L', R', h1, h2, h3⟩ => ⟨v, L', R', h1, hp _ _ _ h2, h3⟩

theorem sub_nil {hp : List It} : hp.Perm ([] ++ hp) := .refl _
theorem sub_cons {hp hp1 L F : List It} {x : It} (hs : hp.Perm (x :: hp1)) (h : hp1.Perm (L ++ F)) : hp.Perm ((x :: L) ++ F) := hs.trans (h.cons x)
theorem sel_here {x : It} {l : List It} : (x :: l).Perm (x :: l) := .refl _
theorem sel_there {x y : It} {l l' : List It} (h : l.Perm (x :: l')) : (y :: l).Perm (x :: y :: l') := (h.cons y).trans (.swap x y l')

section
variable {fn : Func} {Post : Value → List It → List Ro → Prop} {hp' F : List It} {ro' : List Ro}
theorem ret0 (hr : fn.results = #[]) (hP : Post (.tuple #[]) hp' ro') (hpm : hp.Perm (hp' ++ F)) (ho : ∀ r ∈ ro', r ∈ ro) : Ret P fn Post ⟨fr, hp, ro⟩ :=
  ⟨_, hp', ro', fun _ _ _ w _ => results_none hr _ _ w, ⟨F, hpm⟩, ho, hP⟩
theorem ret1 {r : Nat} {v : Value} (hr : fn.results = #[.tmp r]) (hv : fget fr r = some v) (hP : Post v hp' ro') (hpm : hp.Perm (hp' ++ F)) (ho : ∀ r ∈ ro', r ∈ ro) : Ret P fn Post ⟨fr, hp, ro⟩ :=
  ⟨_, hp', ro', fun _ _ _ w ok => by rw [results_tmp hr, ok.h.tmp hv], ⟨F, hpm⟩, ho, hP⟩
theorem ret2 {r s : Nat} {v u : Value} (hr : fn.results = #[.tmp r, .tmp s]) (hv : fget fr r = some v) (hu : fget fr s = some u) (hP : Post (.tuple #[v, u]) hp' ro') (hpm : hp.Perm (hp' ++ F)) (ho : ∀ r ∈ ro', r ∈ ro) : Ret P fn Post ⟨fr, hp, ro⟩ :=
  ⟨_, hp', ro', fun _ _ _ w ok => by rw [results_tmp2 hr, ok.h.tmp hv, ok.h.tmp hu], ⟨F, hpm⟩, ho, hP⟩
theorem ret3 {r s t : Nat} {v u x : Value} (hr : fn.results = #[.tmp r, .tmp s, .tmp t]) (hv : fget fr r = some v) (hu : fget fr s = some u) (hx : fget fr t = some x) (hP : Post (.tuple #[v, u, x]) hp' ro') (hpm : hp.Perm (hp' ++ F)) (ho : ∀ r ∈ ro', r ∈ ro) : Ret P fn Post ⟨fr, hp, ro⟩ :=
  ⟨_, hp', ro', fun _ _ _ w ok => by simp [results, hr, -Array.getD_eq_getD_getElem?, ok.h.tmp hv, ok.h.tmp hu, ok.h.tmp hx], ⟨F, hpm⟩, ho, hP⟩
end
end
end Go.Proofs.Ytlhlidmhlhodiaa

/-
  Sparse frames: the operations that yield a value and leave the world alone. No program in sight.
-/
namespace Go.Proofs.Ytlhlidmhlhodiaa
set_option linter.unusedSimpArgs false
set_option linter.unusedVariables false
open Go.RowKit

/-! ## what a program's types are -/
def plainD : TypeDesc → Bool
  | .struct _ => false
  | .array _ _ => false
  | _ => true
def oneB (P : Program) (T : TypeId) : Bool := match P.underlying T with
  | none => false
  | some d => match P.info? T with
    | none => false
    | some i => plainD d && i.size == 1
def aggB (P : Program) (T : TypeId) : Option Nat := match P.underlying T, P.info? T with
  | some (.struct _), some i | some (.array _ _), some i => some i.size
  | _, _ => none
def foB (P : Program) (T i : Nat) : Option (Nat × Nat) := match P.underlying T with
  | some (.struct fs) => match fs[i]? with
    | some f => match P.info? f.type with
      | some inf => if inf.size = 0 then none else some (f.offset, inf.size)
      | none => none
    | none => none
  | _ => none
def slB (P : Program) (T : TypeId) : Option (TypeId × Nat × Nat) := match P.underlying T with
  | some (.slice e) => match P.info? e with
    | some i => match i.zero with
      | some z => if z.cells.size = i.size ∧ 0 < i.size then some (e, i.size, i.bytes) else none
      | none => none
    | none => none
  | _ => none
def arB (P : Program) (T : TypeId) : Option (Nat × TypeId × Nat) := match P.underlying T with
  | some (.array n e) => match P.info? e with
    | some i => some (n, e, i.size)
    | none => none
  | _ => none
def zeB (P : Program) (T : TypeId) : Option (List Value) := match P.info? T with
  | some i => i.zero.map (·.cells.toList)
  | none => none
class TOne (P : Program) (T : TypeId) : Prop where h : oneB P T = true
class TAgg (P : Program) (T : TypeId) (n : outParam Nat) : Prop where h : aggB P T = some n
class FS (P : Program) (T i : Nat) (off sz : outParam Nat) : Prop where h : foB P T i = some (off, sz)
class TSl (P : Program) (T : TypeId) (e sz by_ : outParam Nat) : Prop where h : slB P T = some (e, sz, by_)
class TAr (P : Program) (T : TypeId) (n e sz : outParam Nat) : Prop where h : arB P T = some (n, e, sz)
class TZ (P : Program) (T : TypeId) (z : outParam (List Value)) : Prop where h : zeB P T = some z
class TInt (P : Program) (T : TypeId) (k : outParam IntKind) : Prop where h : P.underlying T = some (.int k)
class TBool (P : Program) (T : TypeId) : Prop where h : P.underlying T = some .bool
class TStr (P : Program) (T : TypeId) : Prop where h : P.underlying T = some .string
class TPtr (P : Program) (T : TypeId) (e : outParam TypeId) : Prop where h : P.underlying T = some (.pointer e)
class KB (k : IntKind) (lo hi : outParam Int) : Prop where h : ∀ n, lo ≤ n → n ≤ hi → k.wrap n = n
class KU (k : IntKind) (m : outParam Int) : Prop where h : ∀ n, k.wrap n = n % m
instance : KB .i8 (-128) 127 := ⟨fun n a b => IntWalk.i8_in n ⟨a, b⟩⟩
instance : KB .i16 (-32768) 32767 := ⟨fun n a b => IntWalk.i16_in n ⟨a, b⟩⟩
instance : KB .i32 (-2147483648) 2147483647 := ⟨fun n a b => IntWalk.i32_in n ⟨a, b⟩⟩
instance : KB .i64 (-9223372036854775808) 9223372036854775807 := ⟨fun n a b => IntWalk.i64_in n ⟨a, b⟩⟩
instance : KB .u8 0 255 := ⟨fun n a b => IntWalk.u8_in n ⟨a, b⟩⟩
instance : KB .u16 0 65535 := ⟨fun n a b => IntWalk.u16_in n ⟨a, b⟩⟩
instance : KB .u32 0 4294967295 := ⟨fun n a b => IntWalk.u32_in n ⟨a, b⟩⟩
instance : KB .u64 0 18446744073709551615 := ⟨fun n a b => IntWalk.u64_in n ⟨a, b⟩⟩
instance : KU .u8 256 := ⟨IntKind.wrap_u8⟩
instance : KU .u16 65536 := ⟨IntKind.wrap_u16⟩
instance : KU .u32 4294967296 := ⟨IntKind.wrap_u32⟩
instance : KU .u64 18446744073709551616 := ⟨IntKind.wrap_u64⟩

section
variable {P : Program} {T : TypeId} {w : World}
theorem one_und (h : oneB P T = true) : ∃ d i, P.underlying T = some d ∧ P.info? T = some i ∧ i.size = 1 ∧ plainD d = true := by
  unfold oneB at h
  split at h <;> first | (exfalso; revert h; simp; done) | skip
  rename_i d h1
  split at h <;> first | (exfalso; revert h; simp; done) | skip
  rename_i i h2
  simp only [Bool.and_eq_true, beq_iff_eq] at h
  exact ⟨d, i, h1, h2, h.2, h.1⟩
theorem run_isAgg_one [h : TOne P T] : (isAgg T).run P w = .ok false w := by
  obtain ⟨d, i, h1, h2, h3, h4⟩ := one_und h.h
  simp only [isAgg, Sem.run_bind, run_underlying h1, Result.andThen_ok]
  cases d <;> first | rfl | cases h4
theorem run_sizeOf_one [h : TOne P T] : (sizeOf T).run P w = .ok 1 w := by
  obtain ⟨d, i, h1, h2, h3, _⟩ := one_und h.h
  simp [sizeOf, typeInfo, h2, h3, go_sem]
theorem agg_und {n : Nat} (h : aggB P T = some n) : ∃ d i, P.underlying T = some d ∧ P.info? T = some i ∧ i.size = n ∧ ((∃ f, d = .struct f) ∨ ∃ n e, d = .array n e) := by
  unfold aggB at h
  split at h <;> first | (exfalso; revert h; simp; done) | skip
  · rename_i h1 h2; exact ⟨_, _, h1, h2, Option.some.inj h, .inl ⟨_, rfl⟩⟩
  · rename_i h1 h2; exact ⟨_, _, h1, h2, Option.some.inj h, .inr ⟨_, _, rfl⟩⟩
theorem run_isAgg_agg {n : Nat} [h : TAgg P T n] : (isAgg T).run P w = .ok true w := by
  obtain ⟨d, i, h1, h2, h3, h4⟩ := agg_und h.h
  simp only [isAgg, Sem.run_bind, run_underlying h1, Result.andThen_ok]
  rcases h4 with ⟨f, rfl⟩ | ⟨m, e, rfl⟩ <;> rfl
theorem run_sizeOf_agg {n : Nat} [h : TAgg P T n] : (sizeOf T).run P w = .ok n w := by
  obtain ⟨d, i, h1, h2, h3, _⟩ := agg_und h.h
  simp [sizeOf, typeInfo, h2, h3, go_sem]
theorem fs_und {i off sz : Nat} (h : foB P T i = some (off, sz)) : ∃ fs f inf, P.underlying T = some (.struct fs) ∧ fs[i]? = some f ∧ P.info? f.type = some inf ∧ inf.size = sz ∧ f.offset = off ∧ 0 < sz := by
  unfold foB at h
  split at h <;> first | (exfalso; revert h; simp; done) | skip
  rename_i fs h1
  split at h <;> first | (exfalso; revert h; simp; done) | skip
  rename_i f h2
  split at h <;> first | (exfalso; revert h; simp; done) | skip
  rename_i inf h3
  split at h <;> first | (exfalso; revert h; simp; done) | skip
  rename_i h4
  simp only [Option.some.injEq, Prod.mk.injEq] at h
  exact ⟨fs, f, inf, h1, h2, h3, h.2, h.1, by omega⟩
theorem run_fieldAt {i off sz : Nat} [h : FS P T i off sz] (b o : Nat) : (Instr.fieldAt T (.pointer (some ⟨b, o, none⟩)) i).run P w = .ok (.pointer (some ⟨b, o + off, none⟩)) w := by
  obtain ⟨fs, f, inf, h1, h2, h3, h4, h5, h6⟩ := fs_und h.h
  have hne : inf.size ≠ 0 := by omega
  simp [Instr.fieldAt, run_underlying h1, h2, Instr.sureAddr, fieldPlace, sizeOf, typeInfo, h3, hne, h5, Addr.add_lit, go_sem]
theorem sl_und {e sz by_ : Nat} (h : slB P T = some (e, sz, by_)) : ∃ i z, P.underlying T = some (.slice e) ∧ P.info? e = some i ∧ i.zero = some z ∧ z.cells.size = sz ∧ i.size = sz ∧ i.bytes = by_ ∧ 0 < sz := by
  unfold slB at h
  split at h <;> first | (exfalso; revert h; simp; done) | skip
  rename_i e' h1
  split at h <;> first | (exfalso; revert h; simp; done) | skip
  rename_i i h2
  split at h <;> first | (exfalso; revert h; simp; done) | skip
  rename_i z h3
  split at h <;> first | (exfalso; revert h; simp; done) | skip
  rename_i h4
  simp only [Option.some.injEq, Prod.mk.injEq] at h
  obtain ⟨rfl, rfl, rfl⟩ := h
  exact ⟨i, z, h1, h2, h3, h4.1, rfl, rfl, h4.2⟩
theorem ar_und {n e sz : Nat} (h : arB P T = some (n, e, sz)) : ∃ i, P.underlying T = some (.array n e) ∧ P.info? e = some i ∧ i.size = sz := by
  unfold arB at h
  split at h <;> first | (exfalso; revert h; simp; done) | skip
  rename_i n' e' h1
  split at h <;> first | (exfalso; revert h; simp; done) | skip
  rename_i i h2
  simp only [Option.some.injEq, Prod.mk.injEq] at h
  obtain ⟨rfl, rfl, rfl⟩ := h
  exact ⟨i, h1, h2, rfl⟩
theorem ze_und {z : List Value} (h : zeB P T = some z) : ∃ i v, P.info? T = some i ∧ i.zero = some v ∧ v.cells.toList = z := by
  unfold zeB at h
  split at h <;> first | (exfalso; revert h; simp; done) | skip
  rename_i i h1
  cases h2 : i.zero with
  | none => rw [h2] at h; cases h
  | some v => rw [h2] at h; simp only [Option.map_some, Option.some.injEq] at h; exact ⟨i, v, h1, h2, h⟩
end

/-! ## rows -/
theorem flat_len {sz : Nat} : ∀ {xs : List (List Value)}, (∀ r ∈ xs, r.length = sz) → xs.flatten.length = xs.length * sz
  | [], _ => by simp
  | x :: xs, h => by
    rw [List.flatten_cons, List.length_append, h x (.head _), flat_len (fun r hr => h r (.tail _ hr)), List.length_cons, Nat.add_mul]; omega
theorem flat_at {sz : Nat} : ∀ {xs : List (List Value)} {i j : Nat} {row : List Value} {u : Value}, (∀ r ∈ xs, r.length = sz) → xs[i]? = some row → row[j]? = some u → xs.flatten[i * sz + j]? = some u
  | [], _, _, _, _, _, h, _ => by cases h
  | x :: xs, 0, j, row, u, hl, h, hj => by
    simp only [List.getElem?_cons_zero, Option.some.injEq] at h
    subst h
    rw [List.flatten_cons, Nat.zero_mul, Nat.zero_add, List.getElem?_append_left (List.getElem?_eq_some_iff.1 hj).1]
    exact hj
  | x :: xs, i + 1, j, row, u, hl, h, hj => by
    rw [List.flatten_cons, List.getElem?_append_right (by rw [hl x (.head _), Nat.add_mul]; omega), hl x (.head _), show (i + 1) * sz + j - sz = i * sz + j by rw [Nat.add_mul]; omega]
    exact flat_at (fun r hr => hl r (.tail _ hr)) (by simpa using h) hj
/-- the place of element i of rows of sz cells each from o on -/
def elt (o i sz : Nat) : Nat := o + i * sz
theorem RowsOk.lens {sz : Nat} {xs : List (List Value)} (h : RowsOk sz xs) : ∀ r ∈ xs, r.length = sz := fun r hr => (h r hr).1
theorem OwnSat.cell {w : World} {t : TypeId} {sz b o n c : Nat} {xs : List (List Value)} (h : OwnSat w t sz (some ⟨b, o, none⟩) n c xs) {i j : Nat} {row : List Value} {u : Value} (hi : xs[i]? = some row) (hj : row[j]? = some u) :
    w.cell? ⟨b, elt o i sz + j, none⟩ = some u := by
  obtain ⟨_, cur, h1, _, h3⟩ := h.at_ _ rfl
  have := h3 _ _ (flat_at h.rows.lens hi hj)
  simp only at h1 this
  simp only [World.cell?, h1, elt, Nat.add_assoc]
  exact this
theorem Ro.cell {w : World} {b o sz : Nat} {xs : List (List Value)} (h : Ro.sat w ⟨b, o, sz, xs⟩) {i j : Nat} {row : List Value} {u : Value} (hi : xs[i]? = some row) (hj : row[j]? = some u) :
    w.cell? ⟨b, elt o i sz + j, none⟩ = some u := by
  obtain ⟨h0, cur, t, fz, h1, h3⟩ := h
  have := h3 _ _ (flat_at h0.lens hi hj)
  simp only at h1 this
  simp only [World.cell?, h1, elt, Nat.add_assoc]
  exact this
inductive Cut : List Value → Nat → Nat → List Value → Prop
  | here0 {l} : Cut l 0 0 []
  | here {x l n r} (h : Cut l 0 n r) : Cut (x :: l) 0 (n + 1) (x :: r)
  | there {x l o n r} (h : Cut l o n r) : Cut (x :: l) (o + 1) n r
theorem Cut.spec {l r : List Value} {o n : Nat} (h : Cut l o n r) : r.length = n ∧ ∀ j u, r[j]? = some u → l[o + j]? = some u := by
  induction h with
  | here0 => exact ⟨rfl, fun j u h => by simp at h⟩
  | here h ih =>
    refine ⟨by simp [ih.1], fun j u hj => ?_⟩
    cases j with
    | zero => simpa using hj
    | succ j => have := ih.2 j u (by simpa using hj); simpa [Nat.add_comm] using this
  | there h ih =>
    refine ⟨ih.1, fun j u hj => ?_⟩
    have := ih.2 j u hj
    rw [Nat.add_right_comm]; simpa using this

/-! ## operations that yield a value -/
section
variable {P : Program} {fr : List (Nat × Value)} {hp : List It} {ro : List Ro} {T : TypeId} {x y c : Operand} {v u : Value} {F : List It}
theorem Sat.get {B : World} {S T : List Nat} {hp F : List It} {ro : List Ro} {w : World} {x : It} (h : Sat B S T hp ro w) (hs : hp.Perm (x :: F)) : x.sat w := h.sat x (hs.mem_iff.2 (.head _))
theorem pv_move (hx : opd fr x = some v) : Pv P ⟨fr, hp, ro⟩ (.move x) v := fun N E a w dst ty pos af g ok => by simp only [execOp, ok.h.eval hx]; rfl
theorem pv_assign (hx : opd fr x = some v) : Pv P ⟨fr, hp, ro⟩ (.assign x) v := fun N E a w dst ty pos af g ok => by simp only [execOp, ok.h.eval hx]; rfl
theorem pv_pick_t (hc : opd fr c = some (.bool true)) (hx : opd fr x = some v) : Pv P ⟨fr, hp, ro⟩ (.pick c x y) v := fun N E a w dst ty pos af g ok => by simp only [execOp, ok.h.eval hx, ok.h.eval hc]; rfl
theorem pv_pick_f (hc : opd fr c = some (.bool false)) (hy : opd fr y = some v) : Pv P ⟨fr, hp, ro⟩ (.pick c x y) v := fun N E a w dst ty pos af g ok => by simp only [execOp, ok.h.eval hy, ok.h.eval hc]; rfl
theorem pv_nil {ad : Addr} (hx : opd fr x = some (.pointer (some ad))) : Pv P ⟨fr, hp, ro⟩ (.nilCheck x) (.pointer (some ad)) := fun N E a w dst ty pos af g ok => by simp only [execOp, ok.h.eval hx]; rfl
theorem pv_fld {i off sz b o : Nat} [FS P T i off sz] (hx : opd fr x = some (.pointer (some ⟨b, o, none⟩))) : Pv P ⟨fr, hp, ro⟩ (.fieldAddr T x i) (.pointer (some ⟨b, o + off, none⟩)) :=
  fun N E a w dst ty pos af g ok => by simp only [execOp, ok.h.eval hx, Sem.run_bind, run_fieldAt, Result.andThen_ok]; rfl
theorem run_loadAt_one [TOne P T] {w : World} {ad : Addr} (h : w.cell? ad = some v) : (Instr.loadAt T (.pointer (some ad))).run P w = .ok v w := by
  simp only [Instr.loadAt, Instr.sureAddr, loadVar, Sem.run_bind, Sem.run_pure, Result.andThen_ok, run_isAgg_one, Bool.false_eq_true, if_false]
  simp [h, go_sem]
theorem run_loadAt_agg {n : Nat} [TAgg P T n] {w : World} {b o : Nat} {r : List Value} (hn : r.length = n) (h : ∀ j u, r[j]? = some u → w.cell? ⟨b, o + j, none⟩ = some u) : (Instr.loadAt T (.pointer (some ⟨b, o, none⟩))).run P w = .ok (.agg r.toArray) w := by
  have := run_loadCells_list (P := P) w ⟨b, o, none⟩ r (fun j u hj => by rw [Addr.add_lit]; exact h j u hj)
  subst hn
  simp only [Instr.loadAt, Instr.sureAddr, loadVar, Sem.run_bind, Sem.run_pure, Result.andThen_ok, run_isAgg_agg, if_true, run_sizeOf_agg, this]
theorem cell_ob {w : World} {b : Nat} {l : List Value} {t : TypeId} {fz : Nat × Nat} (h : w.heap[b]? = some (.cells l.toArray t fz)) {o : Nat} (hl : l[o]? = some v) : w.cell? ⟨b, o, none⟩ = some v := by
  simp [World.cell?, h, hl]
theorem pv_ld {b o : Nat} {l : List Value} {t : TypeId} {fz : Nat × Nat} [TOne P T] (hx : opd fr x = some (.pointer (some ⟨b, o, none⟩))) (hs : hp.Perm (.ob b (.cells l.toArray t fz) :: F)) (hl : l[o]? = some v) :
    Pv P ⟨fr, hp, ro⟩ (.load T x) v := fun N E a w dst ty pos af g ok => by
  simp only [execOp, ok.h.eval hx, Sem.run_bind, run_loadAt_one (cell_ob (ok.s.get hs) hl), Result.andThen_ok]; rfl
theorem pv_lda {b o n : Nat} {l r : List Value} {t : TypeId} {fz : Nat × Nat} [TAgg P T n] (hx : opd fr x = some (.pointer (some ⟨b, o, none⟩))) (hs : hp.Perm (.ob b (.cells l.toArray t fz) :: F)) (hl : Cut l o n r) :
    Pv P ⟨fr, hp, ro⟩ (.load T x) (.agg r.toArray) := fun N E a w dst ty pos af g ok => by
  simp only [execOp, ok.h.eval hx, Sem.run_bind, run_loadAt_agg hl.spec.1 (fun j u hj => cell_ob (ok.s.get hs) (hl.spec.2 j u hj)), Result.andThen_ok]; rfl
/-- one-cell elements of an owned slice -/
theorem pv_ld_own1 {b o n c i : Nat} {xs : List (List Value)} {t : TypeId} [TOne P T] (hx : opd fr x = some (.pointer (some ⟨b, elt o i 1, none⟩))) (hs : hp.Perm (.own t 1 (some ⟨b, o, none⟩) n c xs :: F)) (hi : xs[i]? = some [v]) :
    Pv P ⟨fr, hp, ro⟩ (.load T x) v := fun N E a w dst ty pos af g ok => by
  simp only [execOp, ok.h.eval hx, Sem.run_bind, run_loadAt_one (ad := ⟨b, elt o i 1, none⟩) (OwnSat.cell (j := 0) (ok.s.get hs) hi rfl), Result.andThen_ok]; rfl
theorem pv_ld_ownf {b o n c i j sz : Nat} {xs : List (List Value)} {row : List Value} {t : TypeId} [TOne P T] (hx : opd fr x = some (.pointer (some ⟨b, elt o i sz + j, none⟩))) (hs : hp.Perm (.own t sz (some ⟨b, o, none⟩) n c xs :: F))
    (hi : xs[i]? = some row) (hj : row[j]? = some v) : Pv P ⟨fr, hp, ro⟩ (.load T x) v := fun N E a w dst ty pos af g ok => by
  simp only [execOp, ok.h.eval hx, Sem.run_bind, run_loadAt_one (OwnSat.cell (ok.s.get hs) hi hj), Result.andThen_ok]; rfl
theorem pv_ld_owna {b o n c i sz : Nat} {xs : List (List Value)} {row : List Value} {t : TypeId} [TAgg P T sz] (hx : opd fr x = some (.pointer (some ⟨b, elt o i sz, none⟩))) (hs : hp.Perm (.own t sz (some ⟨b, o, none⟩) n c xs :: F))
    (hi : xs[i]? = some row) : Pv P ⟨fr, hp, ro⟩ (.load T x) (.agg row.toArray) := fun N E a w dst ty pos af g ok => by
  have hS : OwnSat w t sz (some ⟨b, o, none⟩) n c xs := ok.s.get hs
  simp only [execOp, ok.h.eval hx, Sem.run_bind, run_loadAt_agg (hS.rows.lens row (List.mem_of_getElem? hi)) (fun j u hj => OwnSat.cell hS hi hj), Result.andThen_ok]; rfl
theorem pv_ld_ro1 {b o i : Nat} {xs : List (List Value)} [TOne P T] (hx : opd fr x = some (.pointer (some ⟨b, elt o i 1, none⟩))) (hs : ⟨b, o, 1, xs⟩ ∈ ro) (hi : xs[i]? = some [v]) :
    Pv P ⟨fr, hp, ro⟩ (.load T x) v := fun N E a w dst ty pos af g ok => by
  simp only [execOp, ok.h.eval hx, Sem.run_bind, run_loadAt_one (ad := ⟨b, elt o i 1, none⟩) (Ro.cell (j := 0) (ok.s.rds _ hs) hi rfl), Result.andThen_ok]; rfl
theorem pv_ld_rof {b o i j sz : Nat} {xs : List (List Value)} {row : List Value} [TOne P T] (hx : opd fr x = some (.pointer (some ⟨b, elt o i sz + j, none⟩))) (hs : ⟨b, o, sz, xs⟩ ∈ ro)
    (hi : xs[i]? = some row) (hj : row[j]? = some v) : Pv P ⟨fr, hp, ro⟩ (.load T x) v := fun N E a w dst ty pos af g ok => by
  simp only [execOp, ok.h.eval hx, Sem.run_bind, run_loadAt_one (Ro.cell (ok.s.rds _ hs) hi hj), Result.andThen_ok]; rfl
theorem pv_ld_roa {b o i sz : Nat} {xs : List (List Value)} {row : List Value} [TAgg P T sz] (hx : opd fr x = some (.pointer (some ⟨b, elt o i sz, none⟩))) (hs : ⟨b, o, sz, xs⟩ ∈ ro)
    (hi : xs[i]? = some row) : Pv P ⟨fr, hp, ro⟩ (.load T x) (.agg row.toArray) := fun N E a w dst ty pos af g ok => by
  have hS : Ro.sat w ⟨b, o, sz, xs⟩ := ok.s.rds _ hs
  simp only [execOp, ok.h.eval hx, Sem.run_bind, run_loadAt_agg (hS.1.lens row (List.mem_of_getElem? hi)) (fun j u hj => Ro.cell hS hi hj), Result.andThen_ok]; rfl

/-! integers -/
variable {k : IntKind} {a b lo hi m : Int} {t t' : TypeId}
theorem pv_add [hk : KB k lo hi] (hx : opd fr x = some (.int k a)) (hy : opd fr y = some (.int k b)) (h : lo ≤ a + b ∧ a + b ≤ hi) : Pv P ⟨fr, hp, ro⟩ (.binOp .add t x y t') (.int k (a + b)) := fun N E ac w dst ty pos af g ok => by
  simp only [execOp, ok.h.eval hx, ok.h.eval hy]; simp [eqGuard, binOp, Op.intArith, hk.h _ h.1 h.2, go_sem]
theorem pv_sub [hk : KB k lo hi] (hx : opd fr x = some (.int k a)) (hy : opd fr y = some (.int k b)) (h : lo ≤ a - b ∧ a - b ≤ hi) : Pv P ⟨fr, hp, ro⟩ (.binOp .sub t x y t') (.int k (a - b)) := fun N E ac w dst ty pos af g ok => by
  simp only [execOp, ok.h.eval hx, ok.h.eval hy]; simp [eqGuard, binOp, Op.intArith, hk.h _ h.1 h.2, go_sem]
theorem pv_mul [hk : KB k lo hi] (hx : opd fr x = some (.int k a)) (hy : opd fr y = some (.int k b)) (h : lo ≤ a * b ∧ a * b ≤ hi) : Pv P ⟨fr, hp, ro⟩ (.binOp .mul t x y t') (.int k (a * b)) := fun N E ac w dst ty pos af g ok => by
  simp only [execOp, ok.h.eval hx, ok.h.eval hy]; simp [eqGuard, binOp, Op.intArith, hk.h _ h.1 h.2, go_sem]
theorem pv_add_u [hk : KU k m] (hx : opd fr x = some (.int k a)) (hy : opd fr y = some (.int k b)) : Pv P ⟨fr, hp, ro⟩ (.binOp .add t x y t') (.int k ((a + b) % m)) := fun N E ac w dst ty pos af g ok => by
  simp only [execOp, ok.h.eval hx, ok.h.eval hy]; simp [eqGuard, binOp, Op.intArith, hk.h, go_sem]
theorem pv_sub_u [hk : KU k m] (hx : opd fr x = some (.int k a)) (hy : opd fr y = some (.int k b)) : Pv P ⟨fr, hp, ro⟩ (.binOp .sub t x y t') (.int k ((a - b) % m)) := fun N E ac w dst ty pos af g ok => by
  simp only [execOp, ok.h.eval hx, ok.h.eval hy]; simp [eqGuard, binOp, Op.intArith, hk.h, go_sem]
theorem pv_mul_u [hk : KU k m] (hx : opd fr x = some (.int k a)) (hy : opd fr y = some (.int k b)) : Pv P ⟨fr, hp, ro⟩ (.binOp .mul t x y t') (.int k ((a * b) % m)) := fun N E ac w dst ty pos af g ok => by
  simp only [execOp, ok.h.eval hx, ok.h.eval hy]; simp [eqGuard, binOp, Op.intArith, hk.h, go_sem]
theorem pv_add_w (hx : opd fr x = some (.int k a)) (hy : opd fr y = some (.int k b)) : Pv P ⟨fr, hp, ro⟩ (.binOp .add t x y t') (.int k (k.wrap (a + b))) := fun N E ac w dst ty pos af g ok => by
  simp only [execOp, ok.h.eval hx, ok.h.eval hy]; simp [eqGuard, binOp, Op.intArith, go_sem]
theorem pv_sub_w (hx : opd fr x = some (.int k a)) (hy : opd fr y = some (.int k b)) : Pv P ⟨fr, hp, ro⟩ (.binOp .sub t x y t') (.int k (k.wrap (a - b))) := fun N E ac w dst ty pos af g ok => by
  simp only [execOp, ok.h.eval hx, ok.h.eval hy]; simp [eqGuard, binOp, Op.intArith, go_sem]
theorem pv_mul_w (hx : opd fr x = some (.int k a)) (hy : opd fr y = some (.int k b)) : Pv P ⟨fr, hp, ro⟩ (.binOp .mul t x y t') (.int k (k.wrap (a * b))) := fun N E ac w dst ty pos af g ok => by
  simp only [execOp, ok.h.eval hx, ok.h.eval hy]; simp [eqGuard, binOp, Op.intArith, go_sem]
theorem pv_quo [hk : KB k lo hi] (hx : opd fr x = some (.int k a)) (hy : opd fr y = some (.int k b)) (h : 0 ≤ a ∧ 1 ≤ b ∧ lo ≤ 0 ∧ a ≤ hi) : Pv P ⟨fr, hp, ro⟩ (.binOp .quo t x y t') (.int k (a / b)) := fun N E ac w dst ty pos af g ok => by
  have hb : b ≠ 0 := by omega
  have h1 : a.tdiv b = a / b := Int.tdiv_eq_ediv_of_nonneg h.1
  have h2 : 0 ≤ a / b := Int.ediv_nonneg h.1 (by omega)
  have h3 : a / b ≤ a := Int.ediv_le_self _ h.1
  simp only [execOp, ok.h.eval hx, ok.h.eval hy]; simp [eqGuard, binOp, Op.intDiv, hb, h1, hk.h (a / b) (by omega) (by omega), go_sem]
theorem pv_rem (hx : opd fr x = some (.int k a)) (hy : opd fr y = some (.int k b)) (h : 0 ≤ a ∧ 1 ≤ b) : Pv P ⟨fr, hp, ro⟩ (.binOp .rem t x y t') (.int k (a % b)) := fun N E ac w dst ty pos af g ok => by
  have hb : b ≠ 0 := by omega
  have h1 : a.tmod b = a % b := Int.tmod_eq_emod_of_nonneg h.1
  simp only [execOp, ok.h.eval hx, ok.h.eval hy]; simp [eqGuard, binOp, Op.intDiv, hb, h1, go_sem]
theorem pv_quo_t (hx : opd fr x = some (.int k a)) (hy : opd fr y = some (.int k b)) (h : 1 ≤ b ∨ b ≤ -1) : Pv P ⟨fr, hp, ro⟩ (.binOp .quo t x y t') (.int k (k.wrap (a.tdiv b))) := fun N E ac w dst ty pos af g ok => by
  have hb : b ≠ 0 := by omega
  simp only [execOp, ok.h.eval hx, ok.h.eval hy]; simp [eqGuard, binOp, Op.intDiv, hb, go_sem]
theorem pv_rem_t (hx : opd fr x = some (.int k a)) (hy : opd fr y = some (.int k b)) (h : 1 ≤ b ∨ b ≤ -1) : Pv P ⟨fr, hp, ro⟩ (.binOp .rem t x y t') (.int k (a.tmod b)) := fun N E ac w dst ty pos af g ok => by
  have hb : b ≠ 0 := by omega
  simp only [execOp, ok.h.eval hx, ok.h.eval hy]; simp [eqGuard, binOp, Op.intDiv, hb, go_sem]
theorem pv_and (hx : opd fr x = some (.int k a)) (hy : opd fr y = some (.int k b)) : Pv P ⟨fr, hp, ro⟩ (.binOp .and t x y t') (.int k (bits .and k a b)) := fun N E ac w dst ty pos af g ok => by
  simp only [execOp, ok.h.eval hx, ok.h.eval hy]; simp [eqGuard, binOp, Op.intBits, bits, go_sem]
theorem pv_or (hx : opd fr x = some (.int k a)) (hy : opd fr y = some (.int k b)) : Pv P ⟨fr, hp, ro⟩ (.binOp .or t x y t') (.int k (bits .or k a b)) := fun N E ac w dst ty pos af g ok => by
  simp only [execOp, ok.h.eval hx, ok.h.eval hy]; simp [eqGuard, binOp, Op.intBits, bits, go_sem]
theorem pv_xor (hx : opd fr x = some (.int k a)) (hy : opd fr y = some (.int k b)) : Pv P ⟨fr, hp, ro⟩ (.binOp .xor t x y t') (.int k (bits .xor k a b)) := fun N E ac w dst ty pos af g ok => by
  simp only [execOp, ok.h.eval hx, ok.h.eval hy]; simp [eqGuard, binOp, Op.intBits, bits, go_sem]
theorem pv_shl {k' : IntKind} (hx : opd fr x = some (.int k a)) (hy : opd fr y = some (.int k' b)) (h : 0 ≤ b) : Pv P ⟨fr, hp, ro⟩ (.binOp .shl t x y t') (.int k (k.wrap (a * 2 ^ (min b.toNat k.bits)))) := fun N E ac w dst ty pos af g ok => by
  have hb : ¬ b < 0 := by omega
  simp only [execOp, ok.h.eval hx, ok.h.eval hy]; simp [eqGuard, binOp, Op.shift, hb, go_sem]
theorem pv_shr {k' : IntKind} (hx : opd fr x = some (.int k a)) (hy : opd fr y = some (.int k' b)) (h : 0 ≤ b) : Pv P ⟨fr, hp, ro⟩ (.binOp .shr t x y t') (.int k (a.fdiv (2 ^ (min b.toNat k.bits)))) := fun N E ac w dst ty pos af g ok => by
  have hb : ¬ b < 0 := by omega
  simp only [execOp, ok.h.eval hx, ok.h.eval hy]; simp [eqGuard, binOp, Op.shift, hb, go_sem]
theorem pv_lss (hx : opd fr x = some (.int k a)) (hy : opd fr y = some (.int k b)) : Pv P ⟨fr, hp, ro⟩ (.binOp .lss t x y t') (.bool (decide (a < b))) := fun N E ac w dst ty pos af g ok => by
  simp only [execOp, ok.h.eval hx, ok.h.eval hy]; simp [eqGuard, binOp, Op.intCmp, go_sem]
theorem pv_leq (hx : opd fr x = some (.int k a)) (hy : opd fr y = some (.int k b)) : Pv P ⟨fr, hp, ro⟩ (.binOp .leq t x y t') (.bool (decide (a ≤ b))) := fun N E ac w dst ty pos af g ok => by
  simp only [execOp, ok.h.eval hx, ok.h.eval hy]; simp [eqGuard, binOp, Op.intCmp, go_sem]
theorem pv_gtr (hx : opd fr x = some (.int k a)) (hy : opd fr y = some (.int k b)) : Pv P ⟨fr, hp, ro⟩ (.binOp .gtr t x y t') (.bool (decide (b < a))) := fun N E ac w dst ty pos af g ok => by
  simp only [execOp, ok.h.eval hx, ok.h.eval hy]; simp [eqGuard, binOp, Op.intCmp, go_sem]
theorem pv_geq (hx : opd fr x = some (.int k a)) (hy : opd fr y = some (.int k b)) : Pv P ⟨fr, hp, ro⟩ (.binOp .geq t x y t') (.bool (decide (b ≤ a))) := fun N E ac w dst ty pos af g ok => by
  simp only [execOp, ok.h.eval hx, ok.h.eval hy]; simp [eqGuard, binOp, Op.intCmp, go_sem]
theorem pv_eql (hx : opd fr x = some (.int k a)) (hy : opd fr y = some (.int k b)) : Pv P ⟨fr, hp, ro⟩ (.binOp .eql t x y t') (.bool (decide (a = b))) := fun N E ac w dst ty pos af g ok => by
  simp only [execOp, ok.h.eval hx, ok.h.eval hy]; simp [eqGuard, binOp, Op.intCmp, go_sem]
  by_cases hab : a = b <;> simp [hab]
theorem pv_neq (hx : opd fr x = some (.int k a)) (hy : opd fr y = some (.int k b)) : Pv P ⟨fr, hp, ro⟩ (.binOp .neq t x y t') (.bool (decide (a ≠ b))) := fun N E ac w dst ty pos af g ok => by
  simp only [execOp, ok.h.eval hx, ok.h.eval hy]; simp [eqGuard, binOp, Op.intCmp, go_sem]
  rfl
theorem pv_neg [hk : KB k lo hi] (hx : opd fr x = some (.int k a)) (h : lo ≤ -a ∧ -a ≤ hi) : Pv P ⟨fr, hp, ro⟩ (.unOp .neg t x) (.int k (-a)) := fun N E ac w dst ty pos af g ok => by
  simp only [execOp, ok.h.eval hx]; simp [Op.unary, Op.intArith, hk.h _ h.1 h.2, go_sem]
theorem pv_neg_w (hx : opd fr x = some (.int k a)) : Pv P ⟨fr, hp, ro⟩ (.unOp .neg t x) (.int k (k.wrap (0 - a))) := fun N E ac w dst ty pos af g ok => by
  simp only [execOp, ok.h.eval hx]; simp [Op.unary, Op.intArith, go_sem]
theorem pv_not_t (hx : opd fr x = some (.bool true)) : Pv P ⟨fr, hp, ro⟩ (.unOp .not t x) (.bool false) := fun N E ac w dst ty pos af g ok => by
  simp only [execOp, ok.h.eval hx]; simp [Op.unary, go_sem]
theorem pv_not_f (hx : opd fr x = some (.bool false)) : Pv P ⟨fr, hp, ro⟩ (.unOp .not t x) (.bool true) := fun N E ac w dst ty pos af g ok => by
  simp only [execOp, ok.h.eval hx]; simp [Op.unary, go_sem]
theorem pv_not_d {p : Prop} [Decidable p] (hx : opd fr x = some (.bool (decide p))) : Pv P ⟨fr, hp, ro⟩ (.unOp .not t x) (.bool (decide (¬p))) := fun N E ac w dst ty pos af g ok => by
  simp only [execOp, ok.h.eval hx]; simp [Op.unary, go_sem]
theorem pv_not {c : Bool} (hx : opd fr x = some (.bool c)) : Pv P ⟨fr, hp, ro⟩ (.unOp .not t x) (.bool (decide (c = false))) := fun N E ac w dst ty pos af g ok => by
  simp only [execOp, ok.h.eval hx]; simp [Op.unary, go_sem]
theorem pv_conv [TInt P t k] {k' : IntKind} [ht : TInt P t' k'] [hk : KB k' lo hi] (hx : opd fr x = some (.int k a)) (h : lo ≤ a ∧ a ≤ hi) : Pv P ⟨fr, hp, ro⟩ (.convert t t' x) (.int k' a) := fun N E ac w dst ty pos af g ok => by
  simp only [execOp, ok.h.eval hx]; simp [convert, run_underlying (TInt.h (P := P) (T := t)), run_underlying ht.h, Conv.intToInt, hk.h _ h.1 h.2, go_sem]
theorem pv_conv_u [TInt P t k] {k' : IntKind} [ht : TInt P t' k'] [hk : KU k' m] (hx : opd fr x = some (.int k a)) : Pv P ⟨fr, hp, ro⟩ (.convert t t' x) (.int k' (a % m)) := fun N E ac w dst ty pos af g ok => by
  simp only [execOp, ok.h.eval hx]; simp [convert, run_underlying (TInt.h (P := P) (T := t)), run_underlying ht.h, Conv.intToInt, hk.h, go_sem]
theorem pv_conv_w [TInt P t k] {k' : IntKind} [ht : TInt P t' k'] (hx : opd fr x = some (.int k a)) : Pv P ⟨fr, hp, ro⟩ (.convert t t' x) (.int k' (k'.wrap a)) := fun N E ac w dst ty pos af g ok => by
  simp only [execOp, ok.h.eval hx]; simp [convert, run_underlying (TInt.h (P := P) (T := t)), run_underlying ht.h, Conv.intToInt, go_sem]

/-! other equalities -/
theorem run_equal_bool [h : TBool P t] (w : World) (c d : Bool) : (Op.equal t (.bool c) (.bool d)).run P w = .ok (c == d) w := by
  show Sem.run P (Op.equalIn (9999 + 1) t _ _) w = _
  rw [Op.equalIn]
  simp only [Sem.run_bind, run_underlying h.h, Result.andThen_ok]; rfl
theorem pv_eql_b [TBool P t] {c d : Bool} (hx : opd fr x = some (.bool c)) (hy : opd fr y = some (.bool d)) : Pv P ⟨fr, hp, ro⟩ (.binOp .eql t x y t') (.bool (decide (c = d))) := fun N E ac w dst ty pos af g ok => by
  have := run_equal_bool (P := P) (t := t) w c d
  simp only [execOp, ok.h.eval hx, ok.h.eval hy]
  cases c <;> cases d <;> simp [eqGuard, binOp, this, go_sem]
theorem pv_neq_b [TBool P t] {c d : Bool} (hx : opd fr x = some (.bool c)) (hy : opd fr y = some (.bool d)) : Pv P ⟨fr, hp, ro⟩ (.binOp .neq t x y t') (.bool (decide (c ≠ d))) := fun N E ac w dst ty pos af g ok => by
  have := run_equal_bool (P := P) (t := t) w c d
  simp only [execOp, ok.h.eval hx, ok.h.eval hy]
  cases c <;> cases d <;> simp [eqGuard, binOp, this, go_sem]
theorem run_equal_ptr_nil {e : TypeId} [h : TPtr P t e] (w : World) (p : Option Addr) : (Op.equal t (.pointer p) (.pointer none)).run P w = .ok p.isNone w := by
  show Sem.run P (Op.equalIn (9999 + 1) t _ _) w = _
  rw [Op.equalIn]
  simp only [Sem.run_bind, run_underlying h.h, Result.andThen_ok]
  cases p <;> rfl
theorem run_eql_ptr {e : TypeId} [TPtr P t e] (w : World) (p : Option Addr) : (binOp .eql t (.pointer p) (.pointer none)).run P w = .ok (.bool p.isNone) w := by
  have := run_equal_ptr_nil (P := P) (t := t) w p
  cases p <;> (simp only [binOp, Sem.run_bind, this]; rfl)
theorem run_neq_ptr {e : TypeId} [TPtr P t e] (w : World) (p : Option Addr) : (binOp .neq t (.pointer p) (.pointer none)).run P w = .ok (.bool p.isSome) w := by
  have := run_equal_ptr_nil (P := P) (t := t) w p
  cases p <;> (simp only [binOp, Sem.run_bind, this]; rfl)
theorem pv_eql_p {e : TypeId} [TPtr P t e] {p : Option Addr} (hx : opd fr x = some (.pointer p)) (hy : opd fr y = some (.pointer none)) : Pv P ⟨fr, hp, ro⟩ (.binOp .eql t x y t') (.bool p.isNone) := fun N E ac w dst ty pos af g ok => by
  have := run_eql_ptr (P := P) (t := t) w p
  simp only [execOp, ok.h.eval hx, ok.h.eval hy]
  simp [eqGuard, this]
theorem pv_neq_p {e : TypeId} [TPtr P t e] {p : Option Addr} (hx : opd fr x = some (.pointer p)) (hy : opd fr y = some (.pointer none)) : Pv P ⟨fr, hp, ro⟩ (.binOp .neq t x y t') (.bool p.isSome) := fun N E ac w dst ty pos af g ok => by
  have := run_neq_ptr (P := P) (t := t) w p
  simp only [execOp, ok.h.eval hx, ok.h.eval hy]
  simp [eqGuard, this]

/-! values with parts -/
theorem pv_extract {l : List Value} {i : Nat} (hx : opd fr x = some (.tuple l.toArray)) (hi : l[i]? = some v) : Pv P ⟨fr, hp, ro⟩ (.extract x i) v := fun N E ac w dst ty pos af g ok => by
  simp only [execOp, ok.h.eval hx]; simp [Instr.extract, hi, go_sem]
theorem run_part_one [TOne P T] {w : World} {l : List Value} {o : Nat} (h : l[o]? = some v) : (part T l.toArray o).run P w = .ok v w := by
  simp only [part, Sem.run_bind, run_isAgg_one, Result.andThen_ok, Bool.false_eq_true, if_false]
  simp [h, go_sem]

/-! builtins -/
theorem pv_len_sl {e sz by_ n c : Nat} {ao : Option Addr} [h : TSl P t e sz by_] (hx : opd fr x = some (.slice ao n c)) : Pv P ⟨fr, hp, ro⟩ (.call ⟨.builtin .len, #[x], #[t]⟩) (.int .i64 n) := fun N E ac w dst ty pos af g ok => by
  obtain ⟨_, _, h1, _⟩ := sl_und h.h
  simp only [execOp, resolve, List.map_toArray, List.map_cons, List.map_nil, ok.h.eval hx]; simp [invoke, builtin, Builtin.len_, run_underlying h1, goInt, go_sem]
theorem pv_len_str {s : ByteArray} [h : TStr P t] (hx : opd fr x = some (.string s)) : Pv P ⟨fr, hp, ro⟩ (.call ⟨.builtin .len, #[x], #[t]⟩) (.int .i64 s.size) := fun N E ac w dst ty pos af g ok => by
  simp only [execOp, resolve, List.map_toArray, List.map_cons, List.map_nil, ok.h.eval hx]; simp [invoke, builtin, Builtin.len_, run_underlying h.h, goInt, go_sem]
theorem pv_min {ats : Array TypeId} (hx : opd fr x = some (.int k a)) (hy : opd fr y = some (.int k b)) : Pv P ⟨fr, hp, ro⟩ (.call ⟨.builtin .min, #[x, y], ats⟩) (.int k (min a b)) := fun N E ac w dst ty pos af g ok => by
  have e : (if b < a then b else a) = min a b := by omega
  simp only [execOp, resolve, List.map_toArray, List.map_cons, List.map_nil, ok.h.eval hx, ok.h.eval hy]; simp [invoke, builtin, Builtin.min_, Builtin.min2, e, go_sem]
theorem pv_max {ats : Array TypeId} (hx : opd fr x = some (.int k a)) (hy : opd fr y = some (.int k b)) : Pv P ⟨fr, hp, ro⟩ (.call ⟨.builtin .max, #[x, y], ats⟩) (.int k (max a b)) := fun N E ac w dst ty pos af g ok => by
  have e : (if b > a then b else a) = max a b := by omega
  simp only [execOp, resolve, List.map_toArray, List.map_cons, List.map_nil, ok.h.eval hx, ok.h.eval hy]; simp [invoke, builtin, Builtin.max_, Builtin.max2, e, go_sem]

/-! addresses of elements -/
theorem pv_idx {e sz by_ bl o n c : Nat} {i : Nat} [h : TSl P t e sz by_] (hx : opd fr x = some (.slice (some ⟨bl, o, none⟩) n c)) (hy : opd fr y = some (.int k (i : Int))) (hi : i < n) : Pv P ⟨fr, hp, ro⟩ (.indexAddr t x y) (.pointer (some ⟨bl, elt o i sz, none⟩)) :=
  fun N E ac w dst ty pos af g ok => by
  obtain ⟨inf, _, h1, h2, _, _, h3, _⟩ := sl_und h.h
  have hi' : (0 : Int) ≤ (i : Int) ∧ (i : Int) < (n : Int) := by omega
  simp only [execOp, ok.h.eval hx, ok.h.eval hy]; simp [Instr.indexAt, asIntOf, run_underlying h1, hi'.2, Nat.not_le.2 hi, sizeOf, typeInfo, h2, h3, Addr.add_lit, elt, go_sem]
theorem pv_idx_e {e sz by_ bl o n c : Nat} {z : Int} (i : Nat) [h : TSl P t e sz by_] (hx : opd fr x = some (.slice (some ⟨bl, o, none⟩) n c)) (hy : opd fr y = some (.int k z)) (hz : z = (i : Int)) (hi : i < n) :
    Pv P ⟨fr, hp, ro⟩ (.indexAddr t x y) (.pointer (some ⟨bl, elt o i sz, none⟩)) := by subst hz; exact pv_idx hx hy hi
theorem pv_idx_n {e sz by_ bl o n c : Nat} {z : Int} [h : TSl P t e sz by_] (hx : opd fr x = some (.slice (some ⟨bl, o, none⟩) n c)) (hy : opd fr y = some (.int k z)) (hz : 0 ≤ z ∧ z < (n : Int)) :
    Pv P ⟨fr, hp, ro⟩ (.indexAddr t x y) (.pointer (some ⟨bl, elt o z.toNat sz, none⟩)) := pv_idx_e z.toNat hx hy (by omega) (by omega)
theorem pv_idx_ar {n e sz bl o : Nat} {i : Nat} [h : TAr P t n e sz] (hx : opd fr x = some (.pointer (some ⟨bl, o, none⟩))) (hy : opd fr y = some (.int k (i : Int))) (hi : i < n) (hn : 1 < n) :
    Pv P ⟨fr, hp, ro⟩ (.indexAddr t x y) (.pointer (some ⟨bl, o + i * sz, none⟩)) := fun N E ac w dst ty pos af g ok => by
  obtain ⟨inf, h1, h2, h3⟩ := ar_und h.h
  have hi' : (0 : Int) ≤ (i : Int) ∧ (i : Int) < (n : Int) := by omega
  simp only [execOp, ok.h.eval hx, ok.h.eval hy]; simp [Instr.indexAt, Instr.sureAddr, asIntOf, run_underlying h1, hi'.2, Nat.not_le.2 hi, sizeOf, typeInfo, h2, h3, Addr.add_lit, go_sem]

/-! the plain ones at once, by computation -/
def cmpV (o : BinOp) (a b : Int) : Option Value :=
  match o with
  | .lss => some (.bool (decide (a < b)))
  | .leq => some (.bool (decide (a ≤ b)))
  | .gtr => some (.bool (decide (b < a)))
  | .geq => some (.bool (decide (b ≤ a)))
  | .eql => some (.bool (decide (a = b)))
  | .neq => some (.bool (decide (a ≠ b)))
  | _ => none
def ev (fr : List (Nat × Value)) : Op → Option Value
  | .move x => opd fr x
  | .assign x => opd fr x
  | .nilCheck x => match opd fr x with
    | some (.pointer (some ad)) => some (.pointer (some ad))
    | _ => none
  | .extract x i => match opd fr x with
    | some (.tuple ⟨l⟩) => l[i]?
    | _ => none
  | .binOp o _ x y _ => match opd fr x, opd fr y with
    | some (.int k a), some (.int k' b) => if k = k' then cmpV o a b else none
    | _, _ => none
  | _ => none
theorem pv_ev {op : Op} (h : ev fr op = some v) : Pv P ⟨fr, hp, ro⟩ op v := by
  cases op with
  | move x => exact pv_move h
  | assign x => exact pv_assign h
  | nilCheck x =>
    simp only [ev] at h
    split at h
    · rename_i ad hx; simp only [Option.some.injEq] at h; subst h; exact pv_nil hx
    · cases h
  | extract x i =>
    simp only [ev] at h
    split at h
    · rename_i l hx; exact pv_extract hx h
    · cases h
  | binOp o t x y t' =>
    simp only [ev] at h
    split at h
    · rename_i k a k' b hx hy
      split at h
      · rename_i hk
        subst hk
        cases o <;> simp only [cmpV] at h <;> first | (cases h; done) | skip
        all_goals (simp only [Option.some.injEq] at h; subst h)
        · exact pv_eql hx hy
        · exact pv_neq hx hy
        · exact pv_lss hx hy
        · exact pv_leq hx hy
        · exact pv_gtr hx hy
        · exact pv_geq hx hy
      · cases h
    · cases h
  | _ => cases h
theorem g_load {T' : TypeId} (h : Pv P ⟨fr, hp, ro⟩ (.load T' x) v) : Pv P ⟨fr, hp, ro⟩ (.load T' x) v := h
theorem g_bin {o : BinOp} (h : Pv P ⟨fr, hp, ro⟩ (.binOp o t x y t') v) : Pv P ⟨fr, hp, ro⟩ (.binOp o t x y t') v := h
theorem g_un {o : UnOp} (h : Pv P ⟨fr, hp, ro⟩ (.unOp o t x) v) : Pv P ⟨fr, hp, ro⟩ (.unOp o t x) v := h
theorem g_pick (h : Pv P ⟨fr, hp, ro⟩ (.pick c x y) v) : Pv P ⟨fr, hp, ro⟩ (.pick c x y) v := h
theorem g_conv (h : Pv P ⟨fr, hp, ro⟩ (.convert t t' x) v) : Pv P ⟨fr, hp, ro⟩ (.convert t t' x) v := h
theorem g_bi {b : Builtin} {l ats} (h : Pv P ⟨fr, hp, ro⟩ (.call ⟨.builtin b, l, ats⟩) v) : Pv P ⟨fr, hp, ro⟩ (.call ⟨.builtin b, l, ats⟩) v := h
theorem g_idx (h : Pv P ⟨fr, hp, ro⟩ (.indexAddr t x y) v) : Pv P ⟨fr, hp, ro⟩ (.indexAddr t x y) v := h
theorem g_build {l} (h : Pv P ⟨fr, hp, ro⟩ (.build t l) v) : Pv P ⟨fr, hp, ro⟩ (.build t l) v := h
end
end Go.Proofs.Ytlhlidmhlhodiaa

/-
  Sparse frames: the operations that make or change memory. No program in sight.
-/
namespace Go.Proofs.Ytlhlidmhlhodiaa
set_option linter.unusedSimpArgs false
set_option linter.unusedVariables false
open Go.RowKit

inductive SetAt : List Value → Nat → Value → List Value → Prop
  | here {x l v} : SetAt (x :: l) 0 v (v :: l)
  | there {x l n v l'} (h : SetAt l n v l') : SetAt (x :: l) (n + 1) v (x :: l')
/-- the cells r laid over l from place o on -/
inductive LayAt : List Value → Nat → List Value → List Value → Prop
  | nil {l} : LayAt l 0 [] l
  | here {x l v r l'} (h : LayAt l 0 r l') : LayAt (x :: l) 0 (v :: r) (v :: l')
  | there {x l n r l'} (h : LayAt l n r l') : LayAt (x :: l) (n + 1) r (x :: l')
theorem SetAt.lay {l l' : List Value} {n : Nat} {v : Value} (h : SetAt l n v l') : LayAt l n [v] l' := by
  induction h with
  | here => exact .here .nil
  | there _ ih => exact .there ih
theorem LayAt.spec {l r l' : List Value} {n : Nat} (h : LayAt l n r l') : n + r.length ≤ l.length ∧ l' = l.take n ++ r ++ l.drop (n + r.length) := by
  induction h with
  | nil => simp
  | here h ih => refine ⟨by simp at ih ⊢; omega, ?_⟩; have := ih.2; simp at this ⊢; exact this
  | @there x l n r l' h ih =>
    refine ⟨by simp at ih ⊢; omega, ?_⟩
    rw [ih.2]
    simp [Nat.add_right_comm]
def allOne (l : List Value) : Bool := l.all Value.oneCell'
theorem allOne_mem {l : List Value} (h : allOne l = true) : ∀ v ∈ l, v.oneCell' = true := List.all_eq_true.1 h

section
variable {P : Program} {T : TypeId} {w : World}
theorem run_storeCells_lay {b o : Nat} {t : TypeId} {cur : Array Value} {r : List Value} (hg : w.heap[b]? = some (.cells cur t (0, 0))) (hf : o + r.length ≤ cur.size) (h1 : ∀ v ∈ r, v.oneCell' = true) :
    ∃ w', (storeCells ⟨b, o, none⟩ r).run P w = .ok () w' ∧ w'.heap[b]? = some (.cells (cur.toList.take o ++ r ++ cur.toList.drop (o + r.length)).toArray t (0, 0)) ∧ Frm [b] w w' := by
  have h := run_storeCells_at P b o t r 0 cur w hg (by simpa using hf) h1
  simp only [Nat.add_zero] at h
  refine ⟨_, h, setRow_heap w b cur _ t _ hg, ⟨rfl, rfl, rfl, by simp [World.setRow], fun k _ hk => ?_⟩⟩
  exact setRow_other w b k _ (fun e => hk (by simp [e]))
theorem cells_one {v : Value} (h : v.oneCell' = true) : v.cells = #[v] := by cases v <;> first | rfl | cases h
theorem run_storeAt_lay {b o : Nat} {t : TypeId} {cur : Array Value} {v : Value} {r : List Value} (hr : v.cells = r.toArray) (hT : (sizeOf T).run P w = .ok r.length w) (hg : w.heap[b]? = some (.cells cur t (0, 0))) (hf : o + r.length ≤ cur.size) (h1 : ∀ v ∈ r, v.oneCell' = true) :
    ∃ w', (Instr.storeAt T (.pointer (some ⟨b, o, none⟩)) v).run P w = .ok () w' ∧ w'.heap[b]? = some (.cells (cur.toList.take o ++ r ++ cur.toList.drop (o + r.length)).toArray t (0, 0)) ∧ Frm [b] w w' := by
  obtain ⟨w', h2, h3, h4⟩ := run_storeCells_lay (P := P) hg hf h1
  refine ⟨w', ?_, h3, h4⟩
  have hne : ¬ (r.toArray.size ≠ r.length) := by simp
  simp only [Instr.storeAt, Instr.sureAddr, storeVar, Sem.run_bind, Sem.run_pure, Result.andThen_ok, hT, hr, hne, if_false]
  exact h2
end

section
variable {P : Program} {N : Nat} {E : Env} {fr : List (Nat × Value)} {hp : List It} {ro : List Ro} {Kn : St → Prop} {ops : Array Oper} {rest : List Oper} {dst : Option Tmp} {ty : TypeId} {pos : String} {af : Array Edge} {T : TypeId} {x y : Operand} {v : Value} {F : List It}

/-- an item is laid anew -/
theorem Sat.relay {w w' : World} {b : Nat} {o o' : Obj} (hf : Frm [b] w w') (hs : w'.heap[b]? = some o') : Sat w (feet [It.ob b o]) [] [.ob b o'] [] w' :=
  Sat.one (by simpa [feet, It.foot] using hf) hs (fun c hc => .inl (by simp only [It.foot, Option.some.injEq] at hc; simp [feet, It.foot, hc]))
theorem wo_st {b o : Nat} {l l' : List Value} {t : TypeId} [TOne P T] (hx : opd fr x = some (.pointer (some ⟨b, o, none⟩))) (hy : opd fr y = some v) (h1 : v.oneCell' = true)
    (hs : hp.Perm (.ob b (.cells l.toArray t (0, 0)) :: F)) (hl : SetAt l o v l') (hd : dstOk dst N = true)
    (h : WO P N E ops rest ⟨putF dst undef fr, .ob b (.cells l'.toArray t (0, 0)) :: F, ro⟩ Kn) : WO P N E ops (⟨dst, .store T x y, ty, pos, af, none⟩ :: rest) ⟨fr, hp, ro⟩ Kn :=
  wo_eff_skip (L := [_]) hs hd fun a w ok => by
    obtain ⟨hf, rfl⟩ := hl.lay.spec
    obtain ⟨w', h2, h3, h4⟩ := run_storeAt_lay (P := P) (T := T) (r := [v]) (cells_one h1) run_sizeOf_one (show w.heap[b]? = _ from ok.s.get hs) (by simpa using hf) (by simpa using h1)
    refine ⟨_, w', ?_, Sat.relay h4 h3, by simpa using h⟩
    simp only [execOp, ok.h.eval hx, ok.h.eval hy, Sem.run_bind, h2]; rfl
theorem wo_sta {b o n : Nat} {l l' r : List Value} {t : TypeId} [TAgg P T n] (hx : opd fr x = some (.pointer (some ⟨b, o, none⟩))) (hy : opd fr y = some (.agg r.toArray)) (hn : Nat.beq r.length n = true) (h1 : allOne r = true)
    (hs : hp.Perm (.ob b (.cells l.toArray t (0, 0)) :: F)) (hl : LayAt l o r l') (hd : dstOk dst N = true)
    (h : WO P N E ops rest ⟨putF dst undef fr, .ob b (.cells l'.toArray t (0, 0)) :: F, ro⟩ Kn) : WO P N E ops (⟨dst, .store T x y, ty, pos, af, none⟩ :: rest) ⟨fr, hp, ro⟩ Kn :=
  wo_eff_skip (L := [_]) hs hd fun a w ok => by
    obtain ⟨hf, rfl⟩ := hl.spec
    have hn := Nat.eq_of_beq_eq_true hn
    subst hn
    obtain ⟨w', h2, h3, h4⟩ := run_storeAt_lay (P := P) (T := T) (v := .agg r.toArray) rfl run_sizeOf_agg (show w.heap[b]? = _ from ok.s.get hs) (by simpa using hf) (allOne_mem h1)
    refine ⟨_, w', ?_, Sat.relay h4 h3, by simpa using h⟩
    simp only [execOp, ok.h.eval hx, ok.h.eval hy, Sem.run_bind, h2]; rfl

/-- a new block -/
theorem Sat.fresh {w : World} (o : Obj) : Sat w (feet []) [] [.ob w.heap.size o] [] (w.alloc o) :=
  Sat.one ⟨rfl, rfl, rfl, by simp, fun k hk _ => Below.heap_alloc w o k hk⟩ (heap_alloc_new w o) (fun b hb => .inr (by simp only [It.foot, Option.some.injEq] at hb; omega))
theorem wo_box1 {d : Nat} (hx : opd fr x = some v) (h1 : v.oneCell' = true) (hd : Nat.ble (d + 1) N = true)
    (h : ∀ b, WO P N E ops rest ⟨(d, .pointer (some ⟨b, 0, none⟩)) :: fr, .ob b (.cells #[v] T (0, 0)) :: hp, ro⟩ Kn) : WO P N E ops (⟨some d, .box T x, ty, pos, af, none⟩ :: rest) ⟨fr, hp, ro⟩ Kn :=
  wo_eff (L := []) (.refl _) hd fun a w ok => ⟨.pointer (some ⟨w.heap.size, 0, none⟩), _, _, by
    simp only [execOp, ok.h.eval hx, Instr.box, newVar, newRow, newObj, cells_one h1]; rfl, Sat.fresh _, h _⟩
theorem wo_boxa {d : Nat} {l : List Value} (hx : opd fr x = some (.agg l.toArray)) (hd : Nat.ble (d + 1) N = true)
    (h : ∀ b, WO P N E ops rest ⟨(d, .pointer (some ⟨b, 0, none⟩)) :: fr, .ob b (.cells l.toArray T (0, 0)) :: hp, ro⟩ Kn) : WO P N E ops (⟨some d, .box T x, ty, pos, af, none⟩ :: rest) ⟨fr, hp, ro⟩ Kn :=
  wo_eff (L := []) (.refl _) hd fun a w ok => ⟨.pointer (some ⟨w.heap.size, 0, none⟩), _, _, by
    simp only [execOp, ok.h.eval hx, Instr.box, newVar, newRow, newObj]; rfl, Sat.fresh _, h _⟩
theorem run_zeroValue {z : List Value} [hz : TZ P T z] {w : World} : ∃ v, (zeroValue T).run P w = .ok v w ∧ v.cells = z.toArray := by
  obtain ⟨i, v, h1, h2, h3⟩ := ze_und hz.h
  exact ⟨v, by simp [zeroValue, typeInfo, h1, h2, go_sem], by rw [← h3]⟩
theorem wo_alloc {d : Nat} {z : List Value} [TZ P T z] (hd : Nat.ble (d + 1) N = true)
    (h : ∀ b, WO P N E ops rest ⟨(d, .pointer (some ⟨b, 0, none⟩)) :: fr, .ob b (.cells z.toArray T (0, 0)) :: hp, ro⟩ Kn) : WO P N E ops (⟨some d, .alloc T, ty, pos, af, none⟩ :: rest) ⟨fr, hp, ro⟩ Kn :=
  wo_eff (L := []) (.refl _) hd fun a w ok => by
    obtain ⟨v, hv, hc⟩ := run_zeroValue (P := P) (T := T) (w := w)
    refine ⟨.pointer (some ⟨w.heap.size, 0, none⟩), _, w.alloc (.cells z.toArray T), ?_, Sat.fresh _, h _⟩
    simp only [execOp, Instr.alloc, Sem.run_bind, hv, Result.andThen_ok, newVar, newRow, newObj, hc]; rfl

/-! structs by value -/
inductive Bld (P : Program) (T : TypeId) : List Value → List (Nat × Operand) → List (Nat × Value) → List Value → Prop
  | nil {fr z} : Bld P T z [] fr z
  | one {fr z z' r i x v rest off} [FS P T i off 1] (hx : opd fr x = some v) (h1 : v.oneCell' = true) (hz : SetAt z off v z') (h : Bld P T z' rest fr r) : Bld P T z ((i, x) :: rest) fr r
  | agg {fr z z' r i x l rest off sz} [FS P T i off sz] (hx : opd fr x = some (.agg (List.toArray l))) (hn : Nat.beq l.length sz = true) (hz : LayAt z off l z') (h : Bld P T z' rest fr r) : Bld P T z ((i, x) :: rest) fr r
theorem foldl_lay : ∀ (r : List Value) (z z' : List Value) (o j : Nat), LayAt z (o + j) r z' →
    ((r.zipIdx j).foldl (fun (cs : Array Value) (p : Value × Nat) => cs.setIfInBounds (o + p.2) p.1) z.toArray) = z'.toArray
  | [], z, z', o, j, h => by
    have := h.spec.2
    simp at this
    simp [this]
  | v :: r, z, z', o, j, h => by
    rw [List.zipIdx_cons, List.foldl_cons]
    simp only
    obtain ⟨h1, h2⟩ := h.spec
    have hlen : o + j < z.length := by simp at h1; omega
    have hset : z.toArray.setIfInBounds (o + j) v = (z.set (o + j) v).toArray := by simp
    rw [hset]
    refine foldl_lay r _ z' o (j + 1) ?_
    have key : ∀ (z : List Value) (n : Nat) (z' : List Value), LayAt z n (v :: r) z' → LayAt (z.set n v) (n + 1) r z' := by
      intro z n z' hh
      generalize hr : v :: r = rr at hh
      induction hh with
      | nil => cases hr
      | here h _ => injection hr with e1 e2; subst e1; subst e2; exact .there h
      | there h ih => exact .there (ih hr)
    exact key z (o + j) z' h
theorem fill_bld {i off : Nat} {place : Nat → Option (Nat × Nat)} {z z' l : List Value} {v : Value} {rest : List (Nat × Value)} (hp : place i = some (off, l.length)) (hv : v.cells = l.toArray) (hz : LayAt z off l z') :
    Instr.fill place z.toArray ((i, v) :: rest) = Instr.fill place z'.toArray rest := by
  have h1 : v.cells.size = l.length := by rw [hv]; simp
  have h2 := hz.spec.1
  have h3 : ¬ ((v.cells.size ≠ l.length || off + v.cells.size > z.toArray.size) = true) := by simp [h1]; omega
  have h4 := foldl_lay l z z' off 0 hz
  rw [Instr.fill]
  simp only [hp]
  rw [if_neg h3, hv, ← Array.foldl_toList, Array.toList_zipIdx]
  exact congrArg (fun c => Instr.fill place c rest) h4
theorem mapM_places {fs : Array Field} (P : Program) (w : World) (h : ∀ f ∈ fs, ∃ i, P.info? f.type = some i) :
    (fs.mapM fun f => do pure (f.offset, ← sizeOf f.type) : Sem (Array (Nat × Nat))).run P w = .ok (fs.map fun f => (f.offset, P.cellsOf f.type)) w := by
  have key : ∀ l : List Field, (∀ f ∈ l, ∃ i, P.info? f.type = some i) → (l.mapM fun f => do pure (f.offset, ← sizeOf f.type) : Sem (List (Nat × Nat))).run P w = .ok (l.map fun f => (f.offset, P.cellsOf f.type)) w := by
    intro l
    induction l with
    | nil => intro _; rfl
    | cons f l ih =>
      intro hl
      obtain ⟨i, hi⟩ := hl f (.head _)
      have h1 : (sizeOf f.type).run P w = .ok (P.cellsOf f.type) w := by simp [sizeOf, typeInfo, hi, Program.cellsOf, go_sem]
      rw [List.mapM_cons]
      simp only [Sem.run_bind, h1, Result.andThen_ok, Sem.run_pure, ih (fun g hg => hl g (.tail _ hg)), List.map_cons]
  rw [Array.mapM_eq_mapM_toList, Sem.run_map, key _ (fun f hf => h f (by simpa using hf))]
  simp [Result.andThen]
  exact Array.ext' (by simp)
class TSt (P : Program) (T : TypeId) : Prop where h : (match P.underlying T with | some (.struct fs) => fs.all fun f => (P.info? f.type).isSome | _ => false) = true
theorem pv_build {z r : List Value} {l : List (Nat × Operand)} [TSt P T] [TZ P T z] (hb : Bld P T z l fr r) : Pv P ⟨fr, hp, ro⟩ (.build T l.toArray) (.agg r.toArray) := fun N E a w dst ty pos af g ok => by
  have hT := TSt.h (P := P) (T := T)
  split at hT <;> first | (exfalso; revert hT; simp; done) | skip
  rename_i fs hfs
  obtain ⟨zv, hzv, hzc⟩ := run_zeroValue (P := P) (T := T) (w := w)
  have hpl := mapM_places (fs := fs) P w (fun f hf => by
    have := Array.all_eq_true'.1 hT f hf
    exact Option.isSome_iff_exists.1 this)
  have hfill : ∀ {z r : List Value} {l : List (Nat × Operand)} {fr : List (Nat × Value)}, Bld P T z l fr r → Holds N fr a →
      Instr.fill (fun i => (fs.map fun f => (f.offset, P.cellsOf f.type))[i]?) z.toArray (l.map fun p => (p.1, a.eval p.2)) = some r.toArray := by
    intro z r l fr hb hfr
    have place : ∀ {i off sz : Nat}, FS P T i off sz → (fs.map fun f => (f.offset, P.cellsOf f.type))[i]? = some (off, sz) := by
      intro i off sz hF
      obtain ⟨fs', f, inf, h1, h2, h3, h4, h5, _⟩ := fs_und hF.h
      have : fs = fs' := by rw [hfs] at h1; injection h1 with h1; injection h1
      subst this
      simp [h2, Program.cellsOf, h3, h4, h5]
    induction hb with
    | nil => rfl
    | one hx h1 hz _ ih =>
      rename_i hF _
      rw [List.map_cons, fill_bld (l := [_]) (place hF) (by rw [hfr.eval hx]; exact cells_one h1) hz.lay]
      exact ih hfr
    | agg hx hn hz _ ih =>
      rename_i hF _
      rw [List.map_cons, fill_bld (place (by rw [Nat.eq_of_beq_eq_true hn]; exact hF)) (by rw [hfr.eval hx]; rfl) hz]
      exact ih hfr
  have h1 := hfill hb ok.h
  simp only [execOp, Instr.build, Sem.run_bind, hzv, Result.andThen_ok, run_underlying hfs, hpl, hzc, Sem.run_pure]
  have e : (List.map (fun (x : Nat × Operand) => match x with | (i, x) => (i, a.eval x)) l) = l.map (fun p => (p.1, a.eval p.2)) := rfl
  simp only [List.map_toArray, e, h1]
  rfl
end
/-! what a map's type is; a type's zero as one value -/
class TMap (P : Program) (T : TypeId) (k e : outParam TypeId) : Prop where h : P.underlying T = some (.map k e)
class TZV (P : Program) (T : TypeId) (v : outParam Value) : Prop where h : ((P.info? T).bind (·.zero)) = some v
theorem run_zeroV {P : Program} {T : TypeId} {v : Value} [hz : TZV P T v] {w : World} : (zeroValue T).run P w = .ok v w := by
  have h := hz.h
  cases h1 : P.info? T with
  | none => rw [h1] at h; cases h
  | some i =>
    rw [h1] at h
    simp only [Option.bind_some] at h
    simp [zeroValue, typeInfo, h1, h, go_sem]
end Go.Proofs.Ytlhlidmhlhodiaa

/-
  Sparse frames: slices (read, stored into, appended to, cut, made). No program in sight.
-/
namespace Go.Proofs.Ytlhlidmhlhodiaa
set_option linter.unusedSimpArgs false
set_option linter.unusedVariables false
open Go.RowKit

theorem flat_inv {sz : Nat} : ∀ {xs : List (List Value)} {m : Nat} {u : Value}, (∀ r ∈ xs, r.length = sz) → xs.flatten[m]? = some u → ∃ i j row, m = i * sz + j ∧ xs[i]? = some row ∧ row[j]? = some u
  | [], _, _, _, h => by simp at h
  | x :: xs, m, u, hl, h => by
    have hx := hl x (.head _)
    rcases Nat.lt_or_ge m x.length with hlt | hge
    · rw [List.flatten_cons, List.getElem?_append_left hlt] at h
      exact ⟨0, m, x, by simp, rfl, h⟩
    · rw [List.flatten_cons, List.getElem?_append_right hge] at h
      obtain ⟨i, j, row, h1, h2, h3⟩ := flat_inv (fun r hr => hl r (.tail _ hr)) h
      exact ⟨i + 1, j, row, by rw [Nat.add_mul]; omega, by simpa using h2, h3⟩
def SegR (cur : Array Value) (o sz : Nat) (xs : List (List Value)) : Prop := ∀ i row, xs[i]? = some row → ∀ j u, row[j]? = some u → cur[o + (i * sz + j)]? = some u
theorem seg_iff {cur : Array Value} {o sz : Nat} {xs : List (List Value)} (hl : ∀ r ∈ xs, r.length = sz) : SegIn cur o xs ↔ SegR cur o sz xs := by
  constructor
  · intro h i row hi j u hj
    exact h _ _ (flat_at hl hi hj)
  · intro h m u hm
    obtain ⟨i, j, row, rfl, h2, h3⟩ := flat_inv hl hm
    exact h i row h2 j u h3
theorem lay_get {l r : List Value} {o j : Nat} (ho : o + r.length ≤ l.length) : (l.take o ++ r ++ l.drop (o + r.length))[j]? = if j < o then l[j]? else if j < o + r.length then r[j - o]? else l[j]? := by
  have h1 : (l.take o).length = o := by simp; omega
  split
  · rename_i h
    rw [List.append_assoc, List.getElem?_append_left (by omega), List.getElem?_take, if_pos h]
  · rename_i h
    split
    · rename_i h2
      rw [List.getElem?_append_left (by simp; omega), List.getElem?_append_right (by omega), h1]
    · rename_i h2
      rw [List.getElem?_append_right (by simp; omega)]
      simp only [List.length_append, h1, List.getElem?_drop]
      congr 1; omega

theorem cells_stored {w w' : World} {t : TypeId} {sz o n c b : Nat} {xs : List (List Value)} {cur : Array Value} {i j : Nat} {row row' r : List Value} (hS : OwnSat w t sz (some ⟨b, o, none⟩) n c xs) (hcur : w.heap[b]? = some (.cells cur t (0, 0)))
    (hi : xs[i]? = some row) (hl : LayAt row j r row') (h1 : ∀ v ∈ r, v.oneCell' = true)
    (h' : w'.heap[b]? = some (.cells (cur.toList.take (elt o i sz + j) ++ r ++ cur.toList.drop (elt o i sz + j + r.length)).toArray t (0, 0))) (hfit : elt o i sz + j + r.length ≤ cur.size) :
    OwnSat w' t sz (some ⟨b, o, none⟩) n c (xs.set i row') := by
  obtain ⟨_, cur0, hc0, hsz, hseg⟩ := hS.at_ _ rfl
  simp only at hc0 hsz hseg
  have he : cur0 = cur := by rw [hcur] at hc0; injection hc0 with hc0; injection hc0 with hc0; exact hc0.symm
  subst he
  obtain ⟨hl1, hl2⟩ := hl.spec
  have hrow : row.length = sz := hS.rows.lens row (List.mem_of_getElem? hi)
  have hrow' : row'.length = sz := by rw [hl2]; simp; omega
  have hone : ∀ u ∈ row', u.oneCell' = true := by
    intro u hu
    rw [hl2] at hu
    rcases List.mem_append.1 hu with hu | hu
    · rcases List.mem_append.1 hu with hu | hu
      · exact (hS.rows row (List.mem_of_getElem? hi)).2 u (List.mem_of_mem_take hu)
      · exact h1 u hu
    · exact (hS.rows row (List.mem_of_getElem? hi)).2 u (List.mem_of_mem_drop hu)
  have hrows : RowsOk sz (xs.set i row') := by
    intro r0 hr0
    rcases List.mem_or_eq_of_mem_set hr0 with h | h
    · exact hS.rows r0 h
    · subst h; exact ⟨hrow', hone⟩
  refine ⟨by simp [hS.len], hrows, hS.le, hS.max, (fun h => by cases h), fun a ha => ?_⟩
  simp only [Option.some.injEq] at ha
  subst ha
  refine ⟨rfl, _, h', by simp; omega, (seg_iff hrows.lens).2 (show SegR _ o sz _ from ?_)⟩
  have hR := (seg_iff hS.rows.lens).1 hseg
  intro i' row0 hi' j' u hj'
  have hfit' : elt o i sz + j + r.length ≤ cur0.toList.length := by simpa using hfit
  have hjlt : j' < sz := by
    have := (List.getElem?_eq_some_iff.1 hj').1
    rw [hrows.lens row0 (List.mem_of_getElem? hi')] at this; exact this
  rw [List.getElem?_toArray, lay_get hfit']
  unfold elt
  by_cases hii : i' = i
  · subst hii
    have hilt : i' < xs.length := (List.getElem?_eq_some_iff.1 hi).1
    rw [List.getElem?_set_self hilt] at hi'
    simp only [Option.some.injEq] at hi'
    subst hi'
    rw [hl2, lay_get hl1] at hj'
    by_cases h2 : j' < j
    · rw [if_pos h2] at hj'
      rw [if_pos (by omega)]
      simpa using hR i' row hi j' u hj'
    · rw [if_neg h2] at hj'
      rw [if_neg (by omega)]
      by_cases h3 : j' < j + r.length
      · rw [if_pos h3] at hj'
        rw [if_pos (by omega), show o + (i' * sz + j') - (o + i' * sz + j) = j' - j by omega]
        exact hj'
      · rw [if_neg h3] at hj'
        rw [if_neg (by omega)]
        simpa using hR i' row hi j' u hj'
  · rw [List.getElem?_set_ne (Ne.symm hii)] at hi'
    have hu := hR i' row0 hi' j' u hj'
    rcases Nat.lt_or_gt_of_ne hii with hlt | hgt
    · have : (i' + 1) * sz ≤ i * sz := Nat.mul_le_mul_right _ hlt
      rw [Nat.add_mul] at this
      rw [if_pos (by omega)]
      simpa using hu
    · have : (i + 1) * sz ≤ i' * sz := Nat.mul_le_mul_right _ hgt
      rw [Nat.add_mul] at this
      rw [if_neg (by omega), if_neg (by omega)]
      simpa using hu
theorem OwnSat.fit {w : World} {t : TypeId} {sz o n c b : Nat} {xs : List (List Value)} (hS : OwnSat w t sz (some ⟨b, o, none⟩) n c xs) {i : Nat} {row : List Value} (hi : xs[i]? = some row) :
    ∃ cur, w.heap[b]? = some (.cells cur t (0, 0)) ∧ elt o i sz + sz ≤ cur.size := by
  obtain ⟨_, cur, h1, h2, _⟩ := hS.at_ _ rfl
  simp only at h1 h2
  have hi' : i < n := by have := (List.getElem?_eq_some_iff.1 hi).1; rw [hS.len] at this; exact this
  have hle := hS.le
  have : (i + 1) * sz ≤ c * sz := Nat.mul_le_mul_right _ (by omega)
  rw [Nat.add_mul] at this
  exact ⟨cur, h1, by unfold elt; omega⟩

section
variable {P : Program} {N : Nat} {E : Env} {fr : List (Nat × Value)} {hp : List It} {ro : List Ro} {Kn Kr : St → Prop} {Kx : List (Nat × (St → Prop))} {ops : Array Oper} {rest : List Oper} {dst : Option Tmp} {ty : TypeId} {pos : String} {af : Array Edge} {T : TypeId} {x y : Operand} {v : Value} {F : List It}
theorem Sat.reown {w w' : World} {t sz b o n c n' c' : Nat} {xs xs' : List (List Value)} (hf : Frm [b] w w') (hs : OwnSat w' t sz (some ⟨b, o, none⟩) n' c' xs') :
    Sat w (feet [It.own t sz (some ⟨b, o, none⟩) n c xs]) [] [.own t sz (some ⟨b, o, none⟩) n' c' xs'] [] w' :=
  Sat.one (by simpa [feet, It.foot] using hf) hs (fun k hk => .inl (by simp only [It.foot, Option.map_some, Option.some.injEq] at hk; simp [feet, It.foot, hk]))
theorem wo_st_ownf {b o i j sz n c : Nat} {t : TypeId} {xs : List (List Value)} {row row' : List Value} [TOne P T] (hx : opd fr x = some (.pointer (some ⟨b, elt o i sz + j, none⟩))) (hy : opd fr y = some v) (h1 : v.oneCell' = true)
    (hs : hp.Perm (.own t sz (some ⟨b, o, none⟩) n c xs :: F)) (hi : xs[i]? = some row) (hl : SetAt row j v row') (hd : dstOk dst N = true)
    (h : WO P N E ops rest ⟨putF dst undef fr, .own t sz (some ⟨b, o, none⟩) n c (xs.set i row') :: F, ro⟩ Kn) : WO P N E ops (⟨dst, .store T x y, ty, pos, af, none⟩ :: rest) ⟨fr, hp, ro⟩ Kn :=
  wo_eff_skip (L := [_]) hs hd fun a w ok => by
    have hS : OwnSat w t sz (some ⟨b, o, none⟩) n c xs := ok.s.get hs
    obtain ⟨cur, hc, hfit⟩ := hS.fit hi
    have hsp := hl.lay.spec.1
    have hrow := hS.rows.lens row (List.mem_of_getElem? hi)
    have hfit2 : elt o i sz + j + [v].length ≤ cur.size := by simp at hsp ⊢; omega
    obtain ⟨w', h2, h3, h4⟩ := run_storeAt_lay (P := P) (T := T) (r := [v]) (cells_one h1) run_sizeOf_one hc hfit2 (by simpa using h1)
    refine ⟨_, w', ?_, Sat.reown h4 (cells_stored hS hc hi hl.lay (by simpa using h1) h3 hfit2), by simpa using h⟩
    simp only [execOp, ok.h.eval hx, ok.h.eval hy, Sem.run_bind, h2]; rfl
theorem wo_st_own1 {b o i n c : Nat} {t : TypeId} {xs : List (List Value)} {u : Value} [TOne P T] (hx : opd fr x = some (.pointer (some ⟨b, elt o i 1, none⟩))) (hy : opd fr y = some v) (h1 : v.oneCell' = true)
    (hs : hp.Perm (.own t 1 (some ⟨b, o, none⟩) n c xs :: F)) (hi : xs[i]? = some [u]) (hd : dstOk dst N = true)
    (h : WO P N E ops rest ⟨putF dst undef fr, .own t 1 (some ⟨b, o, none⟩) n c (xs.set i [v]) :: F, ro⟩ Kn) : WO P N E ops (⟨dst, .store T x y, ty, pos, af, none⟩ :: rest) ⟨fr, hp, ro⟩ Kn :=
  wo_st_ownf (j := 0) hx hy h1 hs hi .here hd h
theorem wo_st_owna {b o i sz n c : Nat} {t : TypeId} {xs : List (List Value)} {row r : List Value} [TAgg P T sz] (hx : opd fr x = some (.pointer (some ⟨b, elt o i sz, none⟩))) (hy : opd fr y = some (.agg r.toArray)) (h1 : allOne r = true) (hn : Nat.beq r.length sz = true)
    (hs : hp.Perm (.own t sz (some ⟨b, o, none⟩) n c xs :: F)) (hi : xs[i]? = some row) (hd : dstOk dst N = true)
    (h : WO P N E ops rest ⟨putF dst undef fr, .own t sz (some ⟨b, o, none⟩) n c (xs.set i r) :: F, ro⟩ Kn) : WO P N E ops (⟨dst, .store T x y, ty, pos, af, none⟩ :: rest) ⟨fr, hp, ro⟩ Kn :=
  wo_eff_skip (L := [_]) hs hd fun a w ok => by
    have hS : OwnSat w t sz (some ⟨b, o, none⟩) n c xs := ok.s.get hs
    have hn := Nat.eq_of_beq_eq_true hn
    obtain ⟨cur, hc, hfit⟩ := hS.fit hi
    have hrow := hS.rows.lens row (List.mem_of_getElem? hi)
    have hlay : LayAt row 0 r r := by
      have : ∀ (r row : List Value), r.length = row.length → LayAt row 0 r r := by
        intro r
        induction r with
        | nil => intro row h; have : row = [] := List.eq_nil_of_length_eq_zero h.symm; subst this; exact .nil
        | cons a r ih => intro row h; cases row with
          | nil => simp at h
          | cons b row => exact .here (ih row (by simpa using h))
      exact this r row (by omega)
    have hfit2 : elt o i sz + 0 + r.length ≤ cur.size := by omega
    obtain ⟨w', h2, h3, h4⟩ := run_storeAt_lay (P := P) (T := T) (v := .agg r.toArray) rfl (by rw [hn]; exact run_sizeOf_agg) hc hfit2 (allOne_mem h1)
    refine ⟨_, w', ?_, Sat.reown h4 (cells_stored hS hc hi hlay (allOne_mem h1) h3 hfit2), by simpa using h⟩
    simp only [execOp, ok.h.eval hx, ok.h.eval hy, Sem.run_bind]
    rw [show (⟨b, elt o i sz, none⟩ : Addr) = ⟨b, elt o i sz + 0, none⟩ from rfl, h2]; rfl

/-! what is known of an owned slice -/
theorem wc_some {c : Code} {t sz n k : Nat} {ao : Option Addr} {xs : List (List Value)} (hs : hp.Perm (.own t sz ao n k xs :: F)) (hn : 0 < n) (h : ∀ b o, ao = some ⟨b, o, none⟩ → WC P N E c ⟨fr, hp, ro⟩ Kn Kx Kr) : WC P N E c ⟨fr, hp, ro⟩ Kn Kx Kr := fun a w ok => by
  have hS : OwnSat w t sz ao n k xs := ok.s.get hs
  cases ao with
  | none => have := hS.nil rfl; have := hS.le; omega
  | some ad =>
    have h1 := (hS.at_ ad rfl).1
    obtain ⟨b, o, s⟩ := ad
    simp only at h1
    subst h1
    exact h b o rfl a w ok
theorem wo_some {t sz n k : Nat} {ao : Option Addr} {xs : List (List Value)} (hs : hp.Perm (.own t sz ao n k xs :: F)) (hn : 0 < n) (h : ∀ b o, ao = some ⟨b, o, none⟩ → WO P N E ops rest ⟨fr, hp, ro⟩ Kn) : WO P N E ops rest ⟨fr, hp, ro⟩ Kn := fun Q hQ a w ok => by
  have hS : OwnSat w t sz ao n k xs := ok.s.get hs
  cases ao with
  | none => have := hS.nil rfl; have := hS.le; omega
  | some ad =>
    have h1 := (hS.at_ ad rfl).1
    obtain ⟨b, o, s⟩ := ad
    simp only at h1
    subst h1
    exact h b o rfl Q hQ a w ok
theorem wc_own {c : Code} {t sz n k : Nat} {ao : Option Addr} {xs : List (List Value)} (hs : hp.Perm (.own t sz ao n k xs :: F)) (h : xs.length = n → n ≤ k → k ≤ maxLen → WC P N E c ⟨fr, hp, ro⟩ Kn Kx Kr) : WC P N E c ⟨fr, hp, ro⟩ Kn Kx Kr := fun a w ok => by
  have hS : OwnSat w t sz ao n k xs := ok.s.get hs
  exact h hS.len hS.le hS.max a w ok

/-- a nil slice owns nothing -/
theorem Sat.own0 {B : World} {S T : List Nat} {w : World} (h : Sat B S T hp ro w) (t sz : Nat) : Sat B S T (.own t sz none 0 0 [] :: hp) ro w :=
  ⟨h.frm, (by
    intro x hx
    rcases List.mem_cons.1 hx with rfl | hx
    · exact ⟨rfl, (by intro r hr; cases hr), Nat.le_refl _, Nat.zero_le _, fun _ => rfl, (by intro a ha; cases ha)⟩
    · exact h.sat x hx), (by
    intro x hx b hb
    rcases List.mem_cons.1 hx with rfl | hx
    · cases hb
    · exact h.own x hx b hb), List.pairwise_cons.2 ⟨(by intro y _ b hb; cases hb), h.dis⟩, h.rds, (by
    intro r hr x hx
    rcases List.mem_cons.1 hx with rfl | hx
    · intro e; cases e
    · exact h.rod r hr x hx), h.rok⟩
theorem wo_own0 (t sz : Nat) (h : WO P N E ops rest ⟨fr, .own t sz none 0 0 [] :: hp, ro⟩ Kn) : WO P N E ops rest ⟨fr, hp, ro⟩ Kn := fun Q hQ a w ok => h Q hQ a w ⟨ok.h, ok.s.own0 t sz⟩
theorem wc_own0 {c : Code} (t sz : Nat) (h : WC P N E c ⟨fr, .own t sz none 0 0 [] :: hp, ro⟩ Kn Kx Kr) : WC P N E c ⟨fr, hp, ro⟩ Kn Kx Kr := fun a w ok => h a w ⟨ok.h, ok.s.own0 t sz⟩

/-! literals of slices -/
inductive Rws' (fr : List (Nat × Value)) (sz : Nat) : Nat → List (Nat × Operand) → List (List Value) → Prop
  | nil {k} : Rws' fr sz k [] []
  | one {k x v rest xs} (hx : opd fr x = some v) (h1 : v.oneCell' = true) (hz : sz = 1) (h : Rws' fr sz (k + 1) rest xs) : Rws' fr sz k ((k, x) :: rest) ([v] :: xs)
  | agg {k x l rest xs} (hx : opd fr x = some (.agg (List.toArray l))) (hn : Nat.beq l.length sz = true) (ho : allOne l = true) (h : Rws' fr sz (k + 1) rest xs) : Rws' fr sz k ((k, x) :: rest) (l :: xs)
theorem Rws'.ok {fr : List (Nat × Value)} {sz k : Nat} {l : List (Nat × Operand)} {xs : List (List Value)} (h : Rws' fr sz k l xs) : RowsOk sz xs ∧ xs.length = l.length := by
  induction h with
  | nil => exact ⟨(fun r hr => by cases hr), rfl⟩
  | one hx h1 hz _ ih =>
    refine ⟨fun r hr => ?_, by simp [ih.2]⟩
    rcases List.mem_cons.1 hr with rfl | hr
    · exact ⟨by simp [hz], by simpa using h1⟩
    · exact ih.1 r hr
  | agg hx hn ho _ ih =>
    refine ⟨fun r hr => ?_, by simp [ih.2]⟩
    rcases List.mem_cons.1 hr with rfl | hr
    · exact ⟨Nat.eq_of_beq_eq_true hn, allOne_mem ho⟩
    · exact ih.1 r hr
theorem LayAt.mk : ∀ {l r : List Value} {n : Nat}, n + r.length ≤ l.length → LayAt l n r (l.take n ++ r ++ l.drop (n + r.length))
  | l, [], 0, _ => by simpa using LayAt.nil
  | [], _ :: _, 0, h => by simp at h
  | x :: l, v :: r, 0, h => by
    have := LayAt.here (x := x) (v := v) (LayAt.mk (l := l) (r := r) (n := 0) (by simp at h ⊢; omega))
    simpa using this
  | [], r, n + 1, h => by simp at h
  | x :: l, r, n + 1, h => by
    have := LayAt.there (x := x) (LayAt.mk (l := l) (r := r) (n := n) (by simp at h ⊢; omega))
    simpa [Nat.add_right_comm] using this
theorem fill_rws {fr : List (Nat × Value)} {a : Act} {sz k : Nat} {l : List (Nat × Operand)} {xs : List (List Value)} (h : Rws' fr sz k l xs) (hh : Holds N fr a) : ∀ (z : List Value), z.length = (k + l.length) * sz →
    Instr.fill (fun i => some (i * sz, sz)) z.toArray (l.map fun p => (p.1, a.eval p.2)) = some (z.take (k * sz) ++ xs.flatten).toArray := by
  induction h with
  | @nil k => intro z hz; simp at hz; simp [Instr.fill]; rw [List.take_of_length_le (by omega)]
  | @one k x v rest xs hx h1 hz h ih =>
    intro z hzl
    subst hz
    have hle : k * 1 + [v].length ≤ z.length := by simp at hzl ⊢; omega
    have hlen : (z.take (k * 1) ++ [v] ++ z.drop (k * 1 + [v].length)).length = z.length := by simp at hle ⊢; omega
    rw [List.map_cons, fill_bld (l := [v]) (off := k * 1) rfl (by rw [hh.eval hx]; exact cells_one h1) (LayAt.mk hle), ih _ (by rw [hlen, hzl, List.length_cons]; congr 1; omega)]
    have h2 : (z.take (k * 1)).length = k * 1 := by simp at hle ⊢; omega
    congr 2
    rw [List.append_assoc, List.take_append, h2, List.take_of_length_le (by rw [h2]; omega)]
    simp
  | @agg k x r rest xs hx hn ho h ih =>
    intro z hzl
    have hn := Nat.eq_of_beq_eq_true hn
    subst hn
    have hle : k * r.length + r.length ≤ z.length := by rw [hzl, List.length_cons, ← Nat.add_one_mul]; exact Nat.mul_le_mul_right _ (by omega)
    have hlen : (z.take (k * r.length) ++ r ++ z.drop (k * r.length + r.length)).length = z.length := by simp; omega
    rw [List.map_cons, fill_bld (off := k * r.length) rfl (by rw [hh.eval hx]; rfl) (LayAt.mk hle), ih _ (by rw [hlen, hzl, List.length_cons]; congr 1; omega)]
    have h2 : (z.take (k * r.length)).length = k * r.length := by simp; omega
    congr 2
    rw [List.append_assoc, List.take_append, h2, List.take_of_length_le (by rw [h2, Nat.add_mul]; omega)]
    simp [Nat.add_mul]
theorem wo_bsl {d n e sz by_ : Nat} {l : List (Nat × Operand)} {xs : List (List Value)} [hT : TSl P T e sz by_] (hr : Rws' fr sz 0 l xs) (hn : Nat.beq l.length n = true) (hz : Nat.ble (n * sz) 1000000 = true) (hm : Nat.ble n 1000000 = true) (hd : Nat.ble (d + 1) N = true)
    (h : ∀ b, WO P N E ops rest ⟨(d, .slice (some ⟨b, 0, none⟩) n n) :: fr, .own e sz (some ⟨b, 0, none⟩) n n xs :: hp, ro⟩ Kn) : WO P N E ops (⟨some d, .buildSlice T n l.toArray, ty, pos, af, none⟩ :: rest) ⟨fr, hp, ro⟩ Kn :=
  wo_eff (L := []) (.refl _) hd fun a w ok => by
    obtain ⟨i, z, h1, h2, h3, h4, h5, h6, h7⟩ := sl_und hT.h
    have hn := Nat.eq_of_beq_eq_true hn
    have hz := Nat.le_of_ble_eq_true hz
    have hm := Nat.le_of_ble_eq_true hm
    have hfill := fill_rws hr ok.h ((List.range (n * sz)).map fun j => z.cells[j % z.cells.size]!) (by simp [hn])
    have hrows := hr.ok
    simp only [Nat.zero_mul, List.take_zero, List.nil_append] at hfill
    refine ⟨.slice (some ⟨w.heap.size, 0, none⟩) n n, [.own e sz (some ⟨w.heap.size, 0, none⟩) n n xs], w.alloc (.cells xs.flatten.toArray e), ?_, ?_, h _⟩
    · have hbig : ¬ n * sz > 2 ^ 24 := by omega
      have e0 : (List.map (fun (x : Nat × Operand) => match x with | (i, x) => (i, a.eval x)) l) = l.map (fun p => (p.1, a.eval p.2)) := rfl
      have hsz : (sizeOf e).run P w = .ok sz w := by simp [sizeOf, typeInfo, h2, h5, go_sem]
      have hzv : (zeroValue e).run P w = .ok z w := by simp [zeroValue, typeInfo, h2, h3, go_sem]
      simp only [execOp, List.map_toArray, e0]
      generalize (l.map fun p => (p.1, a.eval p.2)) = parts at hfill ⊢
      by_cases h0 : n * sz = 0
      · have hr0 : ∀ f : Nat → Value, (Array.range (n * sz)).map f = #[] := fun f => by rw [h0]; simp
        have hl0 : ((List.range (n * sz)).map fun j => z.cells[j % z.cells.size]!).toArray = #[] := by rw [h0]; rfl
        rw [hl0] at hfill
        simp only [Instr.buildSlice, Sem.run_bind, run_underlying h1, Result.andThen_ok, hsz, hbig, if_false, h0, if_true, Sem.run_pure]
        simp only [h0] at hr0
        simp only [hr0, hfill]
        rfl
      · have hr0 : (Array.range (n * sz)).map (fun j => z.cells[j % z.cells.size]!) = ((List.range (n * sz)).map fun j => z.cells[j % z.cells.size]!).toArray := by apply Array.ext'; simp
        simp only [Instr.buildSlice, Sem.run_bind, run_underlying h1, Result.andThen_ok, hsz, hbig, if_false, h0, Sem.run_pure, hzv, hr0, hfill]
        rfl
    · refine Sat.one ⟨rfl, rfl, rfl, by simp, fun k hk _ => Below.heap_alloc w _ k hk⟩ ?_ (fun b hb => .inr (by simp only [It.foot, Option.map_some, Option.some.injEq] at hb; omega))
      refine ⟨by rw [hrows.2, hn], hrows.1, Nat.le_refl _, by unfold maxLen; omega, (fun h => by cases h), fun ad had => ?_⟩
      simp only [Option.some.injEq] at had
      subst had
      refine ⟨rfl, _, heap_alloc_new w _, ?_, fun j u hj => by simpa using hj⟩
      have := flat_len hrows.1.lens
      rw [hrows.2, hn] at this
      simp only [List.size_toArray, this]; omega

/-! append -/
theorem World.setCells_spec (b : Nat) (t : TypeId) : ∀ (r : List Value) (o : Nat) (w : World) (cur : Array Value), w.heap[b]? = some (.cells cur t (0, 0)) → o + r.length ≤ cur.size →
    (w.setCells b o r).heap[b]? = some (.cells (cur.toList.take o ++ r ++ cur.toList.drop (o + r.length)).toArray t (0, 0)) ∧ Frm [b] w (w.setCells b o r)
  | [], o, w, cur, h, _ => ⟨by simpa [World.setCells] using h, Frm.refl _ _⟩
  | v :: r, o, w, cur, h, hl => by
    have h1 : (w.setCell ⟨b, o, none⟩ v).heap[b]? = some (.cells (cur.setIfInBounds o v) t (0, 0)) := Blk.set h o v
    obtain ⟨h2, h3⟩ := World.setCells_spec b t r (o + 1) _ _ h1 (by simp at hl ⊢; omega)
    have hsz : (w.setCell ⟨b, o, none⟩ v).heap.size = w.heap.size := by simp [World.setCell]
    refine ⟨?_, ⟨h3.os, h3.tape, h3.output, by have := h3.size; rw [World.setCells]; omega, fun k hk hn => ?_⟩⟩
    · rw [World.setCells, h2]
      congr 3
      have hlo : o < cur.toList.length := by simp at hl ⊢; omega
      rw [Array.toList_setIfInBounds]
      apply List.ext_getElem?
      intro j
      have hA : o + 1 + r.length ≤ (cur.toList.set o v).length := by simp at hl ⊢; omega
      have hB : o + (v :: r).length ≤ cur.toList.length := by simpa using hl
      rw [lay_get hA, lay_get hB]
      simp only [List.length_cons]
      by_cases c1 : j < o
      · rw [if_pos (by omega), if_pos c1, List.getElem?_set_ne (by omega)]
      · rw [if_neg c1]
        by_cases c2 : j = o
        · subst c2
          rw [if_pos (by omega), if_pos (by omega), List.getElem?_set_self hlo]; simp
        · by_cases c3 : j < o + (r.length + 1)
          · rw [if_neg (by omega), if_pos (by omega), if_pos c3, show j - o = (j - (o + 1)) + 1 by omega]; simp
          · rw [if_neg (by omega), if_neg (by omega), if_neg c3, List.getElem?_set_ne (by omega)]
    · exact (h3.block k (by omega) hn).trans (Below.heap_setCell w _ v k (fun e => hn (by simp [e])))
theorem own_of_row {w : World} {base e sz n : Nat} {v : Value} {xs : List (List Value)} (hr : RowsOk sz xs) (hn : xs.length = n) (h : w.ownsRow base e sz v n xs.flatten) :
    ∃ ao c, v = .slice ao n c ∧ OwnSat w e sz ao n c xs ∧ ∀ a, ao = some a → base ≤ a.block ∧ a.off = 0 := by
  rcases h.2 with ⟨rfl, h0⟩ | ⟨g, cap, cur, rfl, hb, hg, h1, h2, h3, h4⟩
  · subst h0
    exact ⟨none, 0, rfl, ⟨hn, hr, Nat.le_refl _, Nat.zero_le _, fun _ => rfl, (fun a ha => by cases ha)⟩, (fun a ha => by cases ha)⟩
  · refine ⟨_, cap, rfl, ⟨hn, hr, h1, h2, (fun h => by cases h), fun a ha => ?_⟩, fun a ha => ?_⟩
    · simp only [Option.some.injEq] at ha
      subst ha
      refine ⟨rfl, cur, hg, by simp [h3], fun j u hj => ?_⟩
      rw [← h4, List.getElem?_take] at hj
      split at hj
      · simpa using hj
      · cases hj
    · simp only [Option.some.injEq] at ha
      subst ha; exact ⟨hb, rfl⟩
theorem run_append_sl {w : World} {t ty e sz by_ : Nat} [hT : TSl P t e sz by_] {ao : Option Addr} {n c : Nat} {xs ys : List (List Value)} {ad : Addr} {m c2 : Nat} (hS : OwnSat w e sz ao n c xs) (hy : RowsOk sz ys) (hm : ys.length = m)
    (hc : ∀ j u, ys.flatten[j]? = some u → w.cell? (ad.add j) = some u) (b1 : n + m ≤ maxLen) (b2 : (n + m) * by_ ≤ 140737488355328) :
    ∃ ao' c' w', (Builtin.append_ #[t, t] ty #[.slice ao n c, .slice (some ad) m c2]).run P w = .ok (.slice ao' (n + m) c') w' ∧ OwnSat w' e sz ao' (n + m) c' (xs ++ ys) ∧ Frm (feet [It.own e sz ao n c xs]) w w' ∧
      (∀ b, (It.own e sz ao' (n + m) c' (xs ++ ys)).foot = some b → b ∈ feet [It.own e sz ao n c xs] ∨ w.heap.size ≤ b) ∧ ∀ a, ao' = some a → a.off = 0 ∨ ao' = ao := by
  obtain ⟨i, z, h1, h2, h3, h4, h5, h6, h7⟩ := sl_und hT.h
  have hrows : RowsOk sz (xs ++ ys) := fun r hr => by
    rcases List.mem_append.1 hr with hr | hr
    · exact hS.rows r hr
    · exact hy r hr
  have hlen : (xs ++ ys).length = n + m := by simp [hS.len, hm]
  have hfl : (xs ++ ys).flatten = xs.flatten ++ ys.flatten := List.flatten_append
  have hxl : xs.flatten.length = n * sz := by rw [flat_len hS.rows.lens, hS.len]
  have hyl : ys.flatten.length = m * sz := by rw [flat_len hy.lens, hm]
  have hone : ∀ u ∈ ys.flatten, u.oneCell' = true := fun u hu => by
    obtain ⟨r, hr, hu⟩ := List.mem_flatten.1 hu
    exact (hy r hr).2 u hu
  have fin : ∀ v' w', (Builtin.append_ #[t, t] ty #[.slice ao n c, .slice (some ad) m c2]).run P w = .ok v' w' → w'.ownsRow w.heap.size e sz v' (n + m) (xs.flatten ++ ys.flatten) → w.grownBy w' none →
      ∃ ao' c' w', (Builtin.append_ #[t, t] ty #[.slice ao n c, .slice (some ad) m c2]).run P w = .ok (.slice ao' (n + m) c') w' ∧ OwnSat w' e sz ao' (n + m) c' (xs ++ ys) ∧ Frm (feet [It.own e sz ao n c xs]) w w' ∧
      (∀ b, (It.own e sz ao' (n + m) c' (xs ++ ys)).foot = some b → b ∈ feet [It.own e sz ao n c xs] ∨ w.heap.size ≤ b) ∧ ∀ a, ao' = some a → a.off = 0 ∨ ao' = ao := by
    intro v' w' hr ho hg
    rw [← hfl] at ho
    obtain ⟨ao', c', rfl, hO, hB⟩ := own_of_row hrows hlen ho
    refine ⟨ao', c', w', hr, hO, ⟨hg.os, hg.tape, hg.output, hg.size, fun k hk _ => hg.block k hk (by simp)⟩, fun b hb => .inr ?_, fun a ha => .inl (hB a ha).2⟩
    cases ao' with
    | none => cases hb
    | some a =>
      simp only [It.foot, Option.map_some, Option.some.injEq] at hb
      subst hb
      exact (hB a rfl).1
  cases ao with
  | none =>
    have hc0 := hS.nil rfl
    have hle := hS.le
    subst hc0
    obtain rfl : n = 0 := by omega
    have hx0 : xs = [] := List.eq_nil_of_length_eq_zero hS.len
    subst hx0
    obtain ⟨v', w', hr, ho, hg, _⟩ := run_append_own (P := P) w w.heap.size t ty e i z sz by_ h1 h2 h3 h5 h6 h4 h7 (.slice none 0 0) 0 [] (World.ownsRow_nil w _ e sz) ad m c2 ys.flatten hyl hc hone b1 b2 (Nat.le_refl _)
    exact fin v' w' hr (by simpa using ho) hg
  | some a =>
    obtain ⟨hsp, cur, hcur, hfit, hseg⟩ := hS.at_ a rfl
    obtain ⟨b, o, s⟩ := a
    simp only at hsp hcur hfit hseg
    subst hsp
    by_cases hroom : n + m ≤ c
    · have hfit2 : o + n * sz + ys.flatten.length ≤ cur.size := by
        rw [hyl]
        have : (n + m) * sz ≤ c * sz := Nat.mul_le_mul_right _ hroom
        rw [Nat.add_mul] at this; omega
      subst h5
      have hr := run_append_room_cells (P := P) w t ty e i h1 h2 b o n c ad m c2 ys.flatten hyl hc hone hroom (fun j hj => by simp [World.cell?, hcur]; omega) (fun j hj => by simp [World.frozen?, hcur])
      obtain ⟨hk1, hk2⟩ := World.setCells_spec b e ys.flatten (o + n * i.size) w cur hcur hfit2
      refine ⟨_, _, _, hr, ⟨hlen, hrows, hroom, hS.max, (fun h => by cases h), fun a ha => ?_⟩, by simpa [feet, It.foot] using hk2, fun k hk => .inl (by simp only [It.foot, Option.map_some, Option.some.injEq] at hk; simp [feet, It.foot, hk]), fun _ _ => .inr rfl⟩
      simp only [Option.some.injEq] at ha
      subst ha
      refine ⟨rfl, _, hk1, by simp; omega, fun j u hj => ?_⟩
      simp only
      rw [List.getElem?_toArray, lay_get (by simpa using hfit2)]
      rw [hfl] at hj
      by_cases c1 : j < n * i.size
      · rw [if_pos (by omega)]
        rw [List.getElem?_append_left (by omega)] at hj
        simpa using hseg j u hj
      · rw [List.getElem?_append_right (by omega), hxl] at hj
        have := (List.getElem?_eq_some_iff.1 hj).1
        rw [if_neg (by omega), if_pos (by omega), show o + j - (o + n * i.size) = j - n * i.size by omega]
        exact hj
    · obtain ⟨v', w', hr, ho, hg⟩ := run_append_arg_grows (P := P) w t ty e i z sz by_ h1 h2 h3 h5 h6 h4 h7 ⟨b, o, none⟩ n c xs.flatten hxl (fun j u hj => by
        rw [Addr.add_lit]; simp only [World.cell?, hcur]; exact hseg j u hj) ad m c2 ys.flatten hyl hc (by omega) b1 b2
      exact fin v' w' hr ho hg
theorem exec_append {a : Act} {t : TypeId} {g : Option (Nat × Bool)} {u v : Value} {w : World} (hx : a.eval x = u) (hy : a.eval y = v) {r : Value} {w' : World} (h : (Builtin.append_ #[t, t] ty #[u, v]).run P w = .ok r w') :
    (execOp a.eval ⟨dst, .call ⟨.builtin .append, #[x, y], #[t, t]⟩, ty, pos, af, g⟩).run P w = .ok (.value r) w' := by
  simp only [execOp, resolve, List.map_toArray, List.map_cons, List.map_nil, hx, hy]
  simp only [Sem.run_bind, Sem.run_pure, Result.andThen_ok, invoke, builtin, h]
theorem Sat.regrow {w w' : World} {x y : It} (hf : Frm (feet [x]) w w') (hs : y.sat w') (ho : ∀ b, y.foot = some b → b ∈ feet [x] ∨ w.heap.size ≤ b) : Sat w (feet [x]) [] [y] [] w' := Sat.one hf hs ho
/-- append of an owned slice's elements -/
theorem wo_app {d t e sz by_ n c m c2 : Nat} {ao ao2 : Option Addr} {xs ys : List (List Value)} {F2 : List It} [TSl P t e sz by_] (hx : opd fr x = some (.slice ao n c)) (hy : opd fr y = some (.slice ao2 m c2))
    (hs : hp.Perm (.own e sz ao n c xs :: F)) (hs2 : hp.Perm (.own e sz ao2 m c2 ys :: F2)) (b1 : n + m ≤ maxLen) (b2 : (n + m) * by_ ≤ 140737488355328) (hd : Nat.ble (d + 1) N = true)
    (h : ∀ ao' c', WO P N E ops rest ⟨(d, .slice ao' (n + m) c') :: fr, .own e sz ao' (n + m) c' (xs ++ ys) :: F, ro⟩ Kn) : WO P N E ops (⟨some d, .call ⟨.builtin .append, #[x, y], #[t, t]⟩, ty, pos, af, none⟩ :: rest) ⟨fr, hp, ro⟩ Kn :=
  wo_eff (L := [_]) hs hd fun a w ok => by
    have hS : OwnSat w e sz ao n c xs := ok.s.get hs
    have hS2 : OwnSat w e sz ao2 m c2 ys := ok.s.get hs2
    cases ao2 with
    | none =>
      obtain ⟨i, z, h1, h2, h3, h4, h5, h6, h7⟩ := sl_und (TSl.h (P := P) (T := t))
      have hc0 := hS2.nil rfl
      have hle := hS2.le
      obtain rfl : m = 0 := by omega
      obtain rfl : ys = [] := List.eq_nil_of_length_eq_zero hS2.len
      refine ⟨.slice ao n c, [.own e sz ao n c xs], w, exec_append (ok.h.eval hx) (ok.h.eval hy) ?_, Sat.regrow (Frm.refl _ _) hS (fun b hb => .inl (mem_feet.2 ⟨_, .head _, hb⟩)), by simpa [putF] using h ao c⟩
      have hn0 : n + 0 ≤ c := by have := hS.le; omega
      cases ao <;> simp [Builtin.append_, run_underlying h1, sizeOf, typeInfo, h2, Builtin.lenOf, hn0, Builtin.firstCells, storeCells, go_sem] <;> (have := hS.le; omega)
    | some ad =>
      obtain ⟨hsp, cur, hcur, _, hseg⟩ := hS2.at_ ad rfl
      obtain ⟨b, o, s⟩ := ad
      simp only at hsp hcur hseg
      subst hsp
      obtain ⟨ao', c', w', h1, h2, h3, h4, h5⟩ := run_append_sl (P := P) (t := t) (ty := ty) (ad := ⟨b, o, none⟩) (c2 := c2) hS hS2.rows hS2.len (fun j u hj => by rw [Addr.add_lit]; simp only [World.cell?, hcur]; exact hseg j u hj) b1 b2
      exact ⟨_, [.own e sz ao' (n + m) c' (xs ++ ys)], w', exec_append (ok.h.eval hx) (ok.h.eval hy) h1, Sat.regrow h3 h2 h4, by simpa [putF] using h ao' c'⟩
/-- the same, and where the elements lie: at a block's head, or where they lay -/
theorem wo_app0 {d t e sz by_ n c m c2 : Nat} {ao : Option Addr} {ad : Addr} {xs ys : List (List Value)} {F2 : List It} [TSl P t e sz by_] (hx : opd fr x = some (.slice ao n c)) (hy : opd fr y = some (.slice (some ad) m c2))
    (hs : hp.Perm (.own e sz ao n c xs :: F)) (hs2 : hp.Perm (.own e sz (some ad) m c2 ys :: F2)) (b1 : n + m ≤ maxLen) (b2 : (n + m) * by_ ≤ 140737488355328) (hd : Nat.ble (d + 1) N = true)
    (h : ∀ ao' c', (∀ a, ao' = some a → (∃ b, ao' = some ⟨b, 0, none⟩) ∨ ao' = ao) → (ao' = none → n + m = 0) → n + m ≤ c' → WO P N E ops rest ⟨(d, .slice ao' (n + m) c') :: fr, .own e sz ao' (n + m) c' (xs ++ ys) :: F, ro⟩ Kn) : WO P N E ops (⟨some d, .call ⟨.builtin .append, #[x, y], #[t, t]⟩, ty, pos, af, none⟩ :: rest) ⟨fr, hp, ro⟩ Kn :=
  wo_eff (L := [_]) hs hd fun a w ok => by
    have hS : OwnSat w e sz ao n c xs := ok.s.get hs
    have hS2 : OwnSat w e sz (some ad) m c2 ys := ok.s.get hs2
    obtain ⟨hsp, cur, hcur, _, hseg⟩ := hS2.at_ ad rfl
    obtain ⟨b, o, s⟩ := ad
    simp only at hsp hcur hseg
    subst hsp
    obtain ⟨ao', c', w', h1, h2, h3, h4, h5⟩ := run_append_sl (P := P) (t := t) (ty := ty) (ad := ⟨b, o, none⟩) (c2 := c2) hS hS2.rows hS2.len (fun j u hj => by rw [Addr.add_lit]; simp only [World.cell?, hcur]; exact hseg j u hj) b1 b2
    exact ⟨_, [.own e sz ao' (n + m) c' (xs ++ ys)], w', exec_append (ok.h.eval hx) (ok.h.eval hy) h1, Sat.regrow h3 h2 h4, by simpa [putF] using h ao' c' (fun a ha => (h5 a ha).imp_left (fun h0 => ⟨a.block, by rw [ha]; obtain ⟨b', o', s'⟩ := a; have := (h2.at_ _ ha).1; simp only at this h0 ⊢; rw [this, h0]⟩)) (fun e => by have := h2.nil e; have := h2.le; omega) h2.le⟩
/-- append of a segment that is only read -/
theorem wo_app_ro {d t e sz by_ n c m c2 b o : Nat} {ao : Option Addr} {xs ys : List (List Value)} [TSl P t e sz by_] (hx : opd fr x = some (.slice ao n c)) (hy : opd fr y = some (.slice (some ⟨b, o, none⟩) m c2))
    (hs : hp.Perm (.own e sz ao n c xs :: F)) (hr : ⟨b, o, sz, ys⟩ ∈ ro) (hm : ys.length = m) (b1 : n + m ≤ maxLen) (b2 : (n + m) * by_ ≤ 140737488355328) (hd : Nat.ble (d + 1) N = true)
    (h : ∀ ao' c', WO P N E ops rest ⟨(d, .slice ao' (n + m) c') :: fr, .own e sz ao' (n + m) c' (xs ++ ys) :: F, ro⟩ Kn) : WO P N E ops (⟨some d, .call ⟨.builtin .append, #[x, y], #[t, t]⟩, ty, pos, af, none⟩ :: rest) ⟨fr, hp, ro⟩ Kn :=
  wo_eff (L := [_]) hs hd fun a w ok => by
    have hS : OwnSat w e sz ao n c xs := ok.s.get hs
    obtain ⟨hro, cur, tt, fz, hcur, hseg⟩ := ok.s.rds _ hr
    simp only at hro hcur hseg
    obtain ⟨ao', c', w', h1, h2, h3, h4, h5⟩ := run_append_sl (P := P) (t := t) (ty := ty) (ad := ⟨b, o, none⟩) (c2 := c2) hS hro hm (fun j u hj => by rw [Addr.add_lit]; simp only [World.cell?, hcur]; exact hseg j u hj) b1 b2
    exact ⟨_, [.own e sz ao' (n + m) c' (xs ++ ys)], w', exec_append (ok.h.eval hx) (ok.h.eval hy) h1, Sat.regrow h3 h2 h4, by simpa [putF] using h ao' c'⟩

/-! cuts -/
theorem OwnSat.cut {w : World} {t sz n c l h m : Nat} {ao : Option Addr} {xs : List (List Value)} (hS : OwnSat w t sz ao n c xs) (h1 : l ≤ h) (h2 : h ≤ n) (h3 : h ≤ m) (h4 : m ≤ c) :
    OwnSat w t sz (if m = l then ao else ao.map (·.add (l * sz))) (h - l) (m - l) ((xs.take h).drop l) := by
  have hrows : RowsOk sz ((xs.take h).drop l) := fun r hr => hS.rows r (List.mem_of_mem_take (List.mem_of_mem_drop hr))
  have hlen : ((xs.take h).drop l).length = h - l := by simp [hS.len]; omega
  have hmax := hS.max
  have hle := hS.le
  refine ⟨hlen, hrows, by omega, by omega, fun e => ?_, fun a ha => ?_⟩
  · by_cases c1 : m = l
    · omega
    · rw [if_neg c1] at e
      cases ao with
      | none => have := hS.nil rfl; omega
      | some a => cases e
  · by_cases c1 : m = l
    · rw [if_pos c1] at ha
      obtain ⟨g1, cur, g2, g3, g4⟩ := hS.at_ a ha
      have h0 : (xs.take h).drop l = [] := List.eq_nil_of_length_eq_zero (by omega)
      refine ⟨g1, cur, g2, ?_, ?_⟩
      · have : (m - l) * sz = 0 := by rw [show m - l = 0 by omega]; simp
        omega
      · rw [h0]; intro j u hj; simp at hj
    · rw [if_neg c1] at ha
      cases ao with
      | none => cases ha
      | some a0 =>
        obtain ⟨g1, cur, g2, g3, g4⟩ := hS.at_ a0 rfl
        obtain ⟨b, o, s⟩ := a0
        simp only at g1 g2 g3 g4
        subst g1
        rw [Option.map_some, Option.some.injEq, Addr.add_lit] at ha
        subst ha
        refine ⟨rfl, cur, g2, ?_, ?_⟩
        · have e1 : l * sz + (m - l) * sz = m * sz := by rw [← Nat.add_mul]; congr 1; omega
          have e2 : m * sz ≤ c * sz := Nat.mul_le_mul_right _ h4
          simp only; omega
        · refine (seg_iff hrows.lens).2 ?_
          have hR := (seg_iff hS.rows.lens).1 g4
          intro i row hi j u hj
          rw [List.getElem?_drop, List.getElem?_take] at hi
          split at hi
          · have := hR (l + i) row hi j u hj
            rw [show o + l * sz + (i * sz + j) = o + ((l + i) * sz + j) by rw [Nat.add_mul]; omega]
            exact this
          · cases hi
theorem Ro.cut {w : World} {b o sz l h : Nat} {xs : List (List Value)} (hS : Ro.sat w ⟨b, o, sz, xs⟩) : Ro.sat w ⟨b, elt o l sz, sz, (xs.take h).drop l⟩ := by
  obtain ⟨h0, cur, t, fz, h1, h2⟩ := hS
  simp only at h0 h1 h2
  have hrows : RowsOk sz ((xs.take h).drop l) := fun r hr => h0 r (List.mem_of_mem_take (List.mem_of_mem_drop hr))
  refine ⟨hrows, cur, t, fz, h1, (seg_iff hrows.lens).2 ?_⟩
  have hR := (seg_iff h0.lens).1 h2
  intro i row hi j u hj
  rw [List.getElem?_drop, List.getElem?_take] at hi
  split at hi
  · have := hR (l + i) row hi j u hj
    unfold elt
    rw [show o + l * sz + (i * sz + j) = o + ((l + i) * sz + j) by rw [Nat.add_mul]; omega]
    exact this
  · cases hi
/-- the bounds of a cut, as the operands give them -/
inductive Bnds (fr : List (Nat × Value)) (n c : Nat) : Option Operand → Option Operand → Option Operand → Nat → Nat → Nat → Prop
  | lo {x k} {l : Nat} {z : Int} (hx : opd fr x = some (.int k z)) (hz : z = (l : Int)) (hl : l ≤ n) : Bnds fr n c (some x) none none l n c
  | hi {y k} {h : Nat} {z : Int} (hy : opd fr y = some (.int k z)) (hz : z = (h : Int)) (hh : h ≤ c) : Bnds fr n c none (some y) none 0 h c
  | lohi {x y k k'} {l h : Nat} {z z' : Int} (hx : opd fr x = some (.int k z)) (hz : z = (l : Int)) (hy : opd fr y = some (.int k' z')) (hz' : z' = (h : Int)) (hl : l ≤ h) (hh : h ≤ c) : Bnds fr n c (some x) (some y) none l h c
  | himax {y u k k'} {h m : Nat} {z z' : Int} (hy : opd fr y = some (.int k z)) (hz : z = (h : Int)) (hu : opd fr u = some (.int k' z')) (hz' : z' = (m : Int)) (hh : h ≤ m) (hm : m ≤ c) : Bnds fr n c none (some y) (some u) 0 h m
  | all : Bnds fr n c none none none 0 n c
theorem Bnds.run {fr : List (Nat × Value)} {n c l h m : Nat} {lo hi mx : Option Operand} {a : Act} {w : World} {isS : Bool} (hb : Bnds fr n c lo hi mx l h m) (hh : Holds N fr a) (hS : mx.isSome = true → isS = true) :
    (Instr.sliceBounds isS n c (lo.map a.eval) (hi.map a.eval) (mx.map a.eval)).run P w = .ok (l, h, m) w := by
  have key : ∀ (k : IntKind) (l y : Nat) (code : BoundsCode), l ≤ y → (Instr.sliceBound (.int k (l : Int)) y code).run P w = .ok l w := by
    intro k l y code hl
    have : (0 : Int) ≤ (l : Int) ∧ (l : Int) ≤ (y : Int) := by omega
    simp only [Instr.sliceBound, asIntOf, Sem.run_bind, Sem.run_pure, Result.andThen_ok, this, and_self, if_true, Int.toNat_natCast]
  cases hb with
  | lo hx hz hl => subst hz; simp only [Instr.sliceBounds, Option.map_some, Option.map_none, hh.eval hx, Sem.run_bind, Sem.run_pure, Result.andThen_ok, key _ _ _ _ hl]
  | hi hy hz hl => subst hz; simp only [Instr.sliceBounds, Option.map_some, Option.map_none, hh.eval hy, Sem.run_bind, Sem.run_pure, Result.andThen_ok, key _ _ _ _ hl]
  | lohi hx hz hy hz' hl hl' => subst hz; subst hz'; simp only [Instr.sliceBounds, Option.map_some, Option.map_none, hh.eval hx, hh.eval hy, Sem.run_bind, Sem.run_pure, Result.andThen_ok, key _ _ _ _ hl, key _ _ _ _ hl']
  | himax hy hz hu hz' hl hl' => subst hz; subst hz'; simp only [Instr.sliceBounds, Option.map_some, Option.map_none, hh.eval hy, hh.eval hu, Sem.run_bind, Sem.run_pure, Result.andThen_ok, key _ _ _ _ hl, key _ _ _ _ hl']
  | all => simp only [Instr.sliceBounds, Option.map_none, Sem.run_bind, Sem.run_pure, Result.andThen_ok]
theorem exec_cut {a : Act} {e sz by_ n c l h m : Nat} {ao : Option Addr} {lo hi mx : Option Operand} {w : World} {g : Option (Nat × Bool)} [hT : TSl P T e sz by_] (hh : Holds N fr a) (hx : opd fr x = some (.slice ao n c)) (hb : Bnds fr n c lo hi mx l h m) :
    (execOp a.eval ⟨dst, .slice T x lo hi mx, ty, pos, af, g⟩).run P w = .ok (.value (.slice (if m = l then ao else ao.map (·.add (l * sz))) (h - l) (m - l))) w := by
  obtain ⟨i, z, h1, h2, h3, h4, h5, h6, h7⟩ := sl_und hT.h
  have hsz : (sizeOf e).run P w = .ok sz w := by simp [sizeOf, typeInfo, h2, h5, go_sem]
  simp only [execOp, hh.eval hx, Instr.sliceAt, Sem.run_bind, run_underlying h1, Result.andThen_ok, Instr.slice, hb.run hh (fun _ => rfl), hsz, Sem.run_pure]
theorem wo_cut {d e sz by_ n c l h m : Nat} {ao : Option Addr} {xs : List (List Value)} {lo hi mx : Option Operand} [TSl P T e sz by_] (hx : opd fr x = some (.slice ao n c)) (hs : hp.Perm (.own e sz ao n c xs :: F)) (hb : Bnds fr n c lo hi mx l h m)
    (hlh : l ≤ h ∧ h ≤ n ∧ h ≤ m ∧ m ≤ c) (hd : Nat.ble (d + 1) N = true)
    (hk : ∀ ao', WO P N E ops rest ⟨(d, .slice ao' (h - l) (m - l)) :: fr, .own e sz ao' (h - l) (m - l) ((xs.take h).drop l) :: F, ro⟩ Kn) : WO P N E ops (⟨some d, .slice T x lo hi mx, ty, pos, af, none⟩ :: rest) ⟨fr, hp, ro⟩ Kn :=
  wo_eff (L := [_]) hs hd fun a w ok => by
    have hS : OwnSat w e sz ao n c xs := ok.s.get hs
    refine ⟨_, [.own e sz (if m = l then ao else ao.map (·.add (l * sz))) (h - l) (m - l) ((xs.take h).drop l)], w, exec_cut ok.h hx hb, Sat.regrow (Frm.refl _ _) (hS.cut hlh.1 hlh.2.1 hlh.2.2.1 hlh.2.2.2) (fun b hbb => .inl ?_), by simpa [putF] using hk _⟩
    refine mem_feet.2 ⟨_, .head _, ?_⟩
    by_cases c1 : m = l
    · simpa [It.foot, c1] using hbb
    · cases ao with
      | none => simp [It.foot, c1] at hbb
      | some a0 =>
        simp only [It.foot, c1, if_false, Option.map_some, Option.some.injEq] at hbb ⊢
        rw [← hbb]; unfold Addr.add; split <;> rfl
theorem wo_cut_lo {d e sz by_ n c l : Nat} {ao : Option Addr} {xs : List (List Value)} {lo : Operand} {z : Int} {k : IntKind} [TSl P T e sz by_] (hx : opd fr x = some (.slice ao n c)) (hs : hp.Perm (.own e sz ao n c xs :: F)) (hlo : opd fr lo = some (.int k z)) (hz : z = (l : Int)) (hl : l ≤ n)
    (hd : Nat.ble (d + 1) N = true) (hk : ∀ ao', WO P N E ops rest ⟨(d, .slice ao' (n - l) (c - l)) :: fr, .own e sz ao' (n - l) (c - l) (xs.drop l) :: F, ro⟩ Kn) : WO P N E ops (⟨some d, .slice T x (some lo) none none, ty, pos, af, none⟩ :: rest) ⟨fr, hp, ro⟩ Kn := by
  intro Q hQ a w ok
  have hS : OwnSat w e sz ao n c xs := ok.s.get hs
  refine wo_cut (h := n) (m := c) hx hs (.lo hlo hz hl) ⟨hl, Nat.le_refl _, hS.le, Nat.le_refl _⟩ hd (fun ao' => ?_) Q hQ a w ok
  have : xs.take n = xs := List.take_of_length_le (by rw [hS.len]; exact Nat.le_refl _)
  rw [this]
  exact hk ao'
theorem wo_cut_hi {d e sz by_ n c h : Nat} {ao : Option Addr} {xs : List (List Value)} {hi : Operand} {z : Int} {k : IntKind} [TSl P T e sz by_] (hx : opd fr x = some (.slice ao n c)) (hs : hp.Perm (.own e sz ao n c xs :: F)) (hhi : opd fr hi = some (.int k z)) (hz : z = (h : Int)) (hl : h ≤ n)
    (hd : Nat.ble (d + 1) N = true) (hk : ∀ ao', WO P N E ops rest ⟨(d, .slice ao' h c) :: fr, .own e sz ao' h c (xs.take h) :: F, ro⟩ Kn) : WO P N E ops (⟨some d, .slice T x none (some hi) none, ty, pos, af, none⟩ :: rest) ⟨fr, hp, ro⟩ Kn := by
  intro Q hQ a w ok
  have hS : OwnSat w e sz ao n c xs := ok.s.get hs
  have hle := hS.le
  refine wo_cut (l := 0) (h := h) (m := c) hx hs (.hi hhi hz (by omega)) ⟨Nat.zero_le _, hl, by omega, Nat.le_refl _⟩ hd (fun ao' => ?_) Q hQ a w ok
  simpa using hk ao'
/-- a cut of a segment that is only read -/
theorem wo_cut_ro {d e sz by_ n c l h m b o : Nat} {xs : List (List Value)} {lo hi mx : Option Operand} [TSl P T e sz by_] (hx : opd fr x = some (.slice (some ⟨b, o, none⟩) n c)) (hr : ⟨b, o, sz, xs⟩ ∈ ro) (hb : Bnds fr n c lo hi mx l h m)
    (hlh : l ≤ h ∧ h ≤ m) (hd : Nat.ble (d + 1) N = true)
    (hk : ∀ o', (0 < h - l → o' = elt o l sz) → WO P N E ops rest ⟨(d, .slice (some ⟨b, o', none⟩) (h - l) (m - l)) :: fr, hp, ⟨b, elt o l sz, sz, (xs.take h).drop l⟩ :: ro⟩ Kn) : WO P N E ops (⟨some d, .slice T x lo hi mx, ty, pos, af, none⟩ :: rest) ⟨fr, hp, ro⟩ Kn := by
  intro Q hQ a w ok
  have hv := exec_cut (P := P) (N := N) (T := T) (fr := fr) (x := x) (dst := some d) (ty := ty) (pos := pos) (af := af) (g := none) (w := w) ok.h hx hb
  have e : (if m = l then some (⟨b, o, none⟩ : Addr) else (some (⟨b, o, none⟩ : Addr)).map (·.add (l * sz))) = some ⟨b, if m = l then o else elt o l sz, none⟩ := by
    by_cases c1 : m = l
    · simp [c1]
    · simp [c1, Addr.add_lit, elt]
  rw [e] at hv
  unfold wpList
  rw [if_pos (by simp [Region.wanted])]
  refine .inl ?_
  unfold Oper.wp
  rw [hv]
  refine hk (if m = l then o else elt o l sz) (fun h0 => if_neg (by omega)) Q hQ _ w ⟨ok.h.put (Nat.le_of_ble_eq_true hd) _, ⟨ok.s.frm, ok.s.sat, ok.s.own, ok.s.dis, fun r hr' => ?_, fun r hr' => ?_, fun r hr' => ?_⟩⟩
  · rcases List.mem_cons.1 hr' with rfl | hr'
    · exact Ro.cut (ok.s.rds _ hr)
    · exact ok.s.rds r hr'
  · rcases List.mem_cons.1 hr' with rfl | hr'
    · exact ok.s.rod ⟨b, o, sz, xs⟩ hr
    · exact ok.s.rod r hr'
  · rcases List.mem_cons.1 hr' with rfl | hr'
    · exact ok.s.rok ⟨b, o, sz, xs⟩ hr
    · exact ok.s.rok r hr'
theorem pv_cut_s {l h m : Nat} {s : ByteArray} {lo hi : Option Operand} [hT : TStr P T] (hx : opd fr x = some (.string s)) (hb : Bnds fr s.size s.size lo hi none l h m) : Pv P ⟨fr, hp, ro⟩ (.slice T x lo hi none) (.string (s.extract l h)) :=
  fun N E a w dst ty pos af g ok => by
  simp only [execOp, ok.h.eval hx, Instr.sliceAt, Sem.run_bind, run_underlying hT.h, Result.andThen_ok, Instr.slice, Option.map_none, Option.isSome_none, Bool.false_eq_true, if_false]
  have := hb.run (P := P) (w := w) (isS := false) ok.h (by intro h; cases h)
  simp only [Option.map_none] at this
  simp only [Sem.run_bind, this, Result.andThen_ok, Sem.run_pure]
/-- a made slice -/
theorem wo_make {d e sz by_ l c : Nat} {z : List Value} {zl zc : Int} {k k' : IntKind} [hT : TSl P T e sz by_] [hZ : TZ P e z] (hx : opd fr x = some (.int k zl)) (hl : zl = (l : Int)) (hy : opd fr y = some (.int k' zc)) (hc : zc = (c : Int)) (hlc : l ≤ c) (hb : by_ * c ≤ 140737488355328)
    (hm : c ≤ 4611686018427387904) (hz : Nat.beq z.length sz = true) (ho : allOne z = true) (hd : Nat.ble (d + 1) N = true)
    (h : ∀ b, WO P N E ops rest ⟨(d, .slice (some ⟨b, 0, none⟩) l c) :: fr, .own e sz (some ⟨b, 0, none⟩) l c (List.replicate l z) :: hp, ro⟩ Kn) : WO P N E ops (⟨some d, .makeSlice T x y, ty, pos, af, none⟩ :: rest) ⟨fr, hp, ro⟩ Kn :=
  wo_eff (L := []) (.refl _) hd fun a w ok => by
    subst hl; subst hc
    obtain ⟨i, zz, h1, h2, h3, h4, h5, h6, h7⟩ := sl_und hT.h
    obtain ⟨zv, hzv, hzc⟩ := run_zeroValue (P := P) (T := e) (w := w)
    have hz := Nat.eq_of_beq_eq_true hz
    have hrow : RowsOk sz (List.replicate l z) := fun r hr => by
      obtain ⟨_, rfl⟩ := List.mem_replicate.1 hr
      exact ⟨hz, allOne_mem ho⟩
    have hsz : (sizeOf e).run P w = .ok sz w := by simp [sizeOf, typeInfo, h2, h5, go_sem]
    have hti : (typeInfo e).run P w = .ok i w := by simp [typeInfo, h2, go_sem]
    have hlw : IntKind.i64.wrap (l : Int) = (l : Int) := IntWalk.i64_in _ (by omega)
    have hcw : IntKind.i64.wrap (c : Int) = (c : Int) := IntWalk.i64_in _ (by omega)
    have hbi : ¬ ((by_ : Int) * (c : Int) > 2 ^ 48) := by
      have : (by_ : Int) * (c : Int) = ((by_ * c : Nat) : Int) := by simp
      rw [this]; omega
    refine ⟨.slice (some ⟨w.heap.size, 0, none⟩) l c, [.own e sz (some ⟨w.heap.size, 0, none⟩) l c (List.replicate l z)], w.alloc (.cells ((Array.range (c * sz)).map (fun j => z.toArray[j % sz]!)) e), ?_, ?_, h _⟩
    · simp only [execOp, ok.h.eval hx, ok.h.eval hy, Instr.makeSlice, asInt, asIntOf, Sem.run_bind, run_underlying h1, Result.andThen_ok, Sem.run_pure, hti, hlw, hcw, h6]
      have c1 : ¬ ((decide ((c : Int) < 0) || decide ((by_ : Int) * (c : Int) > 2 ^ 48)) || decide ((l : Int) < 0) || decide ((l : Int) > (c : Int))) = true := by
        simp only [Bool.or_eq_true, decide_eq_true_eq, not_or]
        exact ⟨⟨⟨by omega, hbi⟩, by omega⟩, by omega⟩
      rw [if_neg c1]
      have hask : ∀ b, (askRoom b).run P w = .ok () w := by intro b; unfold askRoom; split <;> rfl
      have hzs : z.toArray.size = sz := by simp [hz]
      by_cases h0 : c * sz = 0
      · simp only [Sem.run_bind, hask, Result.andThen_ok, Int.toNat_natCast, hsz, h0, if_true, Sem.run_pure]
        have hr1 : ∀ f : Nat → Value, (Array.range 0).map f = #[] := fun f => by simp
        simp only [hr1]
        rfl
      · simp only [Sem.run_bind, hask, Result.andThen_ok, Int.toNat_natCast, hsz, h0, if_false, Sem.run_pure, hzv, hzc, hzs]
        rfl
    · refine Sat.one ⟨rfl, rfl, rfl, by simp, fun k hk _ => Below.heap_alloc w _ k hk⟩ ?_ (fun b hb => .inr (by simp only [It.foot, Option.map_some, Option.some.injEq] at hb; omega))
      refine ⟨by simp, hrow, hlc, by unfold maxLen; omega, (fun h => by cases h), fun ad had => ?_⟩
      simp only [Option.some.injEq] at had
      subst had
      refine ⟨rfl, _, heap_alloc_new w _, by simp, (seg_iff hrow.lens).2 ?_⟩
      intro i row hi j u hj
      rw [List.getElem?_replicate] at hi
      split at hi
      · rename_i hil
        simp only [Option.some.injEq] at hi
        subst hi
        have hjl : j < sz := by have := (List.getElem?_eq_some_iff.1 hj).1; omega
        have h8 : (i + 1) * sz ≤ c * sz := Nat.mul_le_mul_right _ (by omega)
        rw [Nat.add_mul] at h8
        have h9 : (i * sz + j) % sz = j := by rw [Nat.mul_comm, Nat.mul_add_mod, Nat.mod_eq_of_lt hjl]
        have h10 : i * sz + j < c * sz := by omega
        simp [h10, h9]
        have := (List.getElem?_eq_some_iff.1 hj)
        obtain ⟨g1, g2⟩ := this
        simp [g1, g2]
      · cases hi
end

end Go.Proofs.Ytlhlidmhlhodiaa

/-
  Sparse frames: strings, arrays with a computed index. No program in sight.
-/
namespace Go.Proofs.Ytlhlidmhlhodiaa
set_option linter.unusedSimpArgs false
set_option linter.unusedVariables false
open Go.RowKit

section
variable {P : Program} {fr : List (Nat × Value)} {hp : List It} {ro : List Ro} {T t t' : TypeId} {x y c : Operand} {v u : Value} {F : List It}
theorem str_beq (a b : ByteArray) : (a.toList == b.toList) = decide (a = b) := by
  rw [ByteArray.toList_eq, ByteArray.toList_eq]
  rw [Bool.eq_iff_iff]
  simp only [beq_iff_eq, decide_eq_true_eq]
  exact ⟨fun h => ByteArray.ext (Array.toList_inj.mp h), fun h => by rw [h]⟩
theorem pv_eql_s {a b : ByteArray} (hx : opd fr x = some (.string a)) (hy : opd fr y = some (.string b)) : Pv P ⟨fr, hp, ro⟩ (.binOp .eql t x y t') (.bool (decide (a = b))) := fun N E ac w dst ty pos af g ok => by
  simp only [execOp, ok.h.eval hx, ok.h.eval hy]; simp [eqGuard, binOp, Op.stringOp, str_beq, go_sem]
theorem pv_neq_s {a b : ByteArray} (hx : opd fr x = some (.string a)) (hy : opd fr y = some (.string b)) : Pv P ⟨fr, hp, ro⟩ (.binOp .neq t x y t') (.bool (decide (a ≠ b))) := fun N E ac w dst ty pos af g ok => by
  simp only [execOp, ok.h.eval hx, ok.h.eval hy]; simp [eqGuard, binOp, Op.stringOp, str_beq, go_sem]
theorem pv_add_s {a b : ByteArray} (hx : opd fr x = some (.string a)) (hy : opd fr y = some (.string b)) (h : a.size + b.size ≤ 9223372036854775807) : Pv P ⟨fr, hp, ro⟩ (.binOp .add t x y t') (.string (a ++ b)) := fun N E ac w dst ty pos af g ok => by
  simp only [execOp, ok.h.eval hx, ok.h.eval hy]; simp [eqGuard, binOp, Op.stringOp, go_sem]; omega
theorem pv_idx_ar_e {n e sz bl o : Nat} {k : IntKind} {z : Int} (i : Nat) [h : TAr P t n e sz] (hx : opd fr x = some (.pointer (some ⟨bl, o, none⟩))) (hy : opd fr y = some (.int k z)) (hz : z = (i : Int)) (hi : i < n) (hn : 1 < n) :
    Pv P ⟨fr, hp, ro⟩ (.indexAddr t x y) (.pointer (some ⟨bl, o + i * sz, none⟩)) := by subst hz; exact pv_idx_ar hx hy hi hn
end
end Go.Proofs.Ytlhlidmhlhodiaa

/-
  Sparse frames: regions that draw their order and change memory. Each operation either only reads what nobody in the region changes, or changes the items of one class; operations of one class wait for one another. One walk in the text's order serves every order.
-/
namespace Go.Proofs.Ytlhlidmhlhodiaa
set_option linter.unusedSimpArgs false
set_option linter.unusedVariables false
open Go.RowKit

def upd (m : Nat → List It) (c : Nat) (M : List It) : Nat → List It := fun d => bif Nat.beq c d then M else m d
theorem upd_self (m : Nat → List It) (c : Nat) (M : List It) : upd m c M c = M := by simp [upd]
theorem upd_ne (m : Nat → List It) {c d : Nat} (M : List It) (h : c ≠ d) : upd m c M d = m d := by
  have : Nat.beq c d = false := by
    cases hb : Nat.beq c d with
    | false => rfl
    | true => exact absurd (Nat.eq_of_beq_eq_true hb) h
  simp [upd, this]
theorem upd_comm (m : Nat → List It) {c d : Nat} (M M' : List It) (h : c ≠ d) : upd (upd m c M) d M' = upd (upd m d M') c M := by
  funext k
  by_cases h1 : c = k
  · subst h1; rw [upd_ne _ _ (Ne.symm h), upd_self, upd_self]
  · by_cases h2 : d = k
    · subst h2; rw [upd_self, upd_ne _ _ h1, upd_self]
    · rw [upd_ne _ _ h2, upd_ne _ _ h1, upd_ne _ _ h1, upd_ne _ _ h2]

section
variable (P : Program) (E : Env) (B0 : List It) (ro : List Ro)
def Hp (cs : List Nat) (m : Nat → List It) : List It := B0 ++ cs.flatMap m
def PV (o : Oper) (a : Act) (v : Value) : Prop := ∀ F w, Sat E.B E.S E.T (B0 ++ F) ro w → (execOp a.eval o).run P w = .ok (.value v) w
def outcU (F : List It) (Post : Value → List It → Prop) (w : World) : Result Next → Prop
  | .ok (.value v) w' => ∃ M, Post v M ∧ Sat E.B E.S E.T (M ++ (B0 ++ F)) ro w'
  | .ok .skip w' => ∃ M, Post undef M ∧ Sat E.B E.S E.T (M ++ (B0 ++ F)) ro w'
  | .ok (.enter f args) w' => w' = w ∧ Calls P f args w fun e w'' => ∃ v M, e = .returned v ∧ Post v M ∧ Sat E.B E.S E.T (M ++ (B0 ++ F)) ro w''
  | _ => False
def Outc (o : Oper) (a : Act) (L : List It) (Post : Value → List It → Prop) : Prop :=
  ∀ F w, Sat E.B E.S E.T (L ++ (B0 ++ F)) ro w → outcU P E B0 ro F Post w ((execOp a.eval o).run P w)
variable (ops : Array Oper) (cls : Nat → Option Nat) (tbl : Nat → List It → Value → List It → Prop)
def safe (i : Nat) (o : Oper) (a : Act) (m : Nat → List It) : Prop :=
  if Region.wanted o (yielded ops a.tmps) then
    match cls i with
    | none => ∃ v, PV P E B0 ro o a v
    | some c => (∃ v M, tbl i (m c) v M) ∧ Outc P E B0 ro o a (m c) (tbl i (m c))
  else True
def outm (i : Nat) (o : Oper) (a : Act) (m : Nat → List It) (v : Value) (m' : Nat → List It) : Prop :=
  if Region.wanted o (yielded ops a.tmps) then
    match cls i with
    | none => PV P E B0 ro o a v ∧ m' = m
    | some c => ∃ M, tbl i (m c) v M ∧ m' = upd m c M
  else v = undef ∧ m' = m
def rOp (i : Nat) (K : Act → (Nat → List It) → Prop) (a : Act) (m : Nat → List It) : Prop :=
  ∀ o, ops[i]? = some o → safe P E B0 ro ops cls tbl i o a m ∧ ∀ v m', outm P E B0 ro ops cls tbl i o a m v m' → K (a.put o.dst v) m'
end
section
variable {P : Program} {E : Env} {B0 : List It} {ro : List Ro} {ops : Array Oper} {cls : Nat → Option Nat} {tbl : Nat → List It → Value → List It → Prop} {md : Region.Mode}
theorem safe_out {i : Nat} {o : Oper} {a : Act} {m : Nat → List It} (h : safe P E B0 ro ops cls tbl i o a m) : ∃ v m', outm P E B0 ro ops cls tbl i o a m v m' := by
  unfold safe at h
  unfold outm
  split at h
  · rename_i hw
    simp only [hw, if_true]
    cases hc : cls i with
    | none => rw [hc] at h; simp only at h ⊢; obtain ⟨v, hv⟩ := h; exact ⟨v, m, hv, rfl⟩
    | some c => rw [hc] at h; simp only at h ⊢; obtain ⟨⟨v, M, hv⟩, _⟩ := h; exact ⟨v, _, M, hv, rfl⟩
  · rename_i hw
    simp only [hw]
    exact ⟨undef, m, rfl, rfl⟩
theorem rOp_mono {i : Nat} {a : Act} {m : Nat → List It} {K K' : Act → (Nat → List It) → Prop} (h : ∀ a m, K a m → K' a m) (hh : rOp P E B0 ro ops cls tbl i K a m) : rOp P E B0 ro ops cls tbl i K' a m :=
  fun o ho => ⟨(hh o ho).1, fun v m' hv => h _ _ ((hh o ho).2 v m' hv)⟩
section
variable {i j : Nat} {oi oj : Oper} {a : Act} {m m' : Nat → List It} {u v : Value} {dst : Option Tmp}
theorem safe_put (hs : ∀ cs b, oj.op ≠ .select cs b) (h : ∀ d, dst = some d → d ∉ oj.looksAt ops) : safe P E B0 ro ops cls tbl j oj (a.put dst v) m = safe P E B0 ro ops cls tbl j oj a m := by
  unfold safe PV Outc
  rw [wanted_put oj a dst v h, execOp_put oj hs a dst v h]
theorem out_put (hs : ∀ cs b, oj.op ≠ .select cs b) (h : ∀ d, dst = some d → d ∉ oj.looksAt ops) : outm P E B0 ro ops cls tbl j oj (a.put dst v) m u m' = outm P E B0 ro ops cls tbl j oj a m u m' := by
  unfold outm PV
  rw [wanted_put oj a dst v h, execOp_put oj hs a dst v h]
/-- what one operation does leaves the classes of the others alone -/
theorem out_other (h : outm P E B0 ro ops cls tbl i oi a m v m') {c : Nat} (hc : cls i ≠ some c) : m' c = m c := by
  unfold outm at h
  split at h
  · cases hi : cls i with
    | none => rw [hi] at h; rw [h.2]
    | some d =>
      rw [hi] at h
      obtain ⟨M, _, rfl⟩ := h
      exact upd_ne _ _ (fun e => hc (by rw [hi, e]))
  · rw [h.2]
theorem safe_other (h : outm P E B0 ro ops cls tbl i oi a m v m') (hc : ∀ c, cls i = some c → cls j ≠ some c) : safe P E B0 ro ops cls tbl j oj a m' = safe P E B0 ro ops cls tbl j oj a m := by
  unfold safe
  split
  · cases hj : cls j with
    | none => rfl
    | some c => simp only; rw [out_other h (fun e => hc c e hj)]
  · rfl
theorem out_diamond {m1 m2 : Nat → List It} (hc : ∀ c, cls i = some c → cls j ≠ some c) (h1 : outm P E B0 ro ops cls tbl j oj a m u m1) (h2 : outm P E B0 ro ops cls tbl i oi a m1 v m2) :
    ∃ m3, outm P E B0 ro ops cls tbl i oi a m v m3 ∧ outm P E B0 ro ops cls tbl j oj a m3 u m2 := by
  have key : (∀ c, cls i = some c → m1 c = m c) := fun c hi => out_other h1 (hc c hi)
  unfold outm at h1 h2 ⊢
  by_cases wi : Region.wanted oi (yielded ops a.tmps) = true
  · simp only [wi, if_true] at h2 ⊢
    by_cases wj : Region.wanted oj (yielded ops a.tmps) = true
    · simp only [wj, if_true] at h1 ⊢
      cases hi : cls i with
      | none =>
        rw [hi] at h2
        simp only at h2 ⊢
        obtain ⟨h2, rfl⟩ := h2
        exact ⟨m, ⟨h2, rfl⟩, h1⟩
      | some c =>
        rw [hi] at h2
        simp only at h2 ⊢
        obtain ⟨M, h2, rfl⟩ := h2
        rw [key c hi] at h2
        refine ⟨upd m c M, ⟨M, h2, rfl⟩, ?_⟩
        cases hj : cls j with
        | none => rw [hj] at h1; simp only at h1 ⊢; exact ⟨h1.1, by rw [h1.2]⟩
        | some d =>
          rw [hj] at h1
          simp only at h1 ⊢
          obtain ⟨M', h1, rfl⟩ := h1
          have hne : c ≠ d := fun e => hc c hi (by rw [hj, e])
          exact ⟨M', by rw [upd_ne _ _ hne]; exact h1, upd_comm m M' M (Ne.symm hne)⟩
    · simp only [wj] at h1 ⊢
      obtain ⟨rfl, rfl⟩ := h1
      exact ⟨m2, h2, rfl, rfl⟩
  · simp only [wi] at h2 ⊢
    obtain ⟨rfl, rfl⟩ := h2
    exact ⟨m, ⟨rfl, rfl⟩, h1⟩
theorem rOp_swap {K : Act → (Nat → List It) → Prop} (hi : ops[i]? = some oi) (hj : ops[j]? = some oj) (hap : oi.apart ops oj = true) (hc : ∀ c, cls i = some c → cls j ≠ some c) (hsi : ∀ cs b, oi.op ≠ .select cs b) (hsj : ∀ cs b, oj.op ≠ .select cs b)
    (H : rOp P E B0 ro ops cls tbl i (rOp P E B0 ro ops cls tbl j K) a m) : rOp P E B0 ro ops cls tbl j (rOp P E B0 ro ops cls tbl i K) a m := by
  obtain ⟨h1, h2, h3⟩ := Oper.apart_spec hap
  obtain ⟨Hs, Ho⟩ := H oi hi
  intro o ho
  obtain rfl : oj = o := by rw [hj] at ho; exact Option.some.inj ho
  refine ⟨?_, fun u m1 hu o ho => ?_⟩
  · obtain ⟨v, m1, hv⟩ := safe_out Hs
    have := (Ho v m1 hv oj hj).1
    rw [safe_put hsj h1, safe_other hv hc] at this
    exact this
  · obtain rfl : oi = o := by rw [hi] at ho; exact Option.some.inj ho
    refine ⟨?_, fun v m2 hv => ?_⟩
    · rw [safe_put hsi h3, safe_other hu (fun c e e' => hc c e' e)]
      exact Hs
    · rw [out_put hsi h3] at hv
      obtain ⟨m3, h4, h5⟩ := out_diamond hc hu hv
      have := (Ho v m3 h4 oj hj).2 u m2 (by rw [out_put hsj h1]; exact h5)
      rw [← Act.put_comm a v u h2]
      exact this
end
def wpAnyR (P : Program) (E : Env) (B0 : List It) (ro : List Ro) (ops : Array Oper) (cls : Nat → Option Nat) (tbl : Nat → List It → Value → List It → Prop) (md : Region.Mode) (Q : Act → (Nat → List It) → Prop) : Nat → Array Bool → Act → (Nat → List It) → Prop
  | 0, listed, a, m => Region.ready md ops listed = [] ∧ Q a m
  | fuel + 1, listed, a, m => (Region.ready md ops listed = [] → Q a m) ∧ ∀ i ∈ Region.ready md ops listed, rOp P E B0 ro ops cls tbl i (wpAnyR P E B0 ro ops cls tbl md Q fuel (listed.setIfInBounds i true)) a m
/-- what an operation waits for is listed ahead of it -/
def Closed (md : Region.Mode) (ops : Array Oper) (listed : Array Bool) : Prop := ∀ j oj, ops[j]? = some oj → listed.getD j true = true → ∀ e ∈ oj.after, Region.binds md e = true → listed.getD e.on false = true
theorem getD_false_of {listed : Array Bool} {j k : Nat} (h : listed.getD k false = true) : (listed.setIfInBounds j true).getD k false = true := by
  have hk : k < listed.size := by
    rcases Nat.lt_or_ge k listed.size with h' | h'
    · exact h'
    · simp [Array.getD, Nat.not_lt.2 h'] at h
  by_cases hjk : j = k
  · subst hjk; simp [Array.getD, hk]
  · simp [Array.getD, hk] at h ⊢
    rw [Array.getElem_setIfInBounds_ne (by simpa using hk) hjk]; exact h
theorem Closed.set {listed : Array Bool} (h : Closed md ops listed) {j : Nat} (hj : j ∈ Region.ready md ops listed) : Closed md ops (listed.setIfInBounds j true) := by
  intro k ok hk hl e he hb
  obtain ⟨_, oj, hoj, hall⟩ := mem_ready.1 hj
  by_cases hjk : j = k
  · subst hjk
    rw [hoj] at hk
    obtain rfl := Option.some.inj hk
    exact getD_false_of (hall e he hb)
  · rw [getD_set_ne true hjk] at hl
    exact getD_false_of (h k ok hk hl e he hb)
/-- j waits for i, directly or through others -/
def reachB (md : Region.Mode) (ops : Array Oper) (i : Nat) : Nat → Nat → Bool
  | 0, _ => false
  | n + 1, j => ((ops[j]?).map fun o => o.after.any fun e => Region.binds md e && (e.on == i || reachB md ops i n e.on)).getD false
theorem reach_not {listed : Array Bool} (hc : Closed md ops listed) {i : Nat} (hi : listed.getD i true = false) (his : i < listed.size) : ∀ (n j : Nat), reachB md ops i n j = true → ∃ oj, ops[j]? = some oj ∧ ∃ e ∈ oj.after, Region.binds md e = true ∧ listed.getD e.on false = false
  | 0, _, h => by simp [reachB] at h
  | n + 1, j, h => by
    unfold reachB at h
    cases hj : ops[j]? with
    | none => rw [hj] at h; simp at h
    | some oj =>
      rw [hj] at h
      simp only [Option.map_some, Option.getD_some] at h
      rw [Array.any_eq_true'] at h
      obtain ⟨e, he, h⟩ := h
      rw [Bool.and_eq_true] at h
      obtain ⟨hb, h⟩ := h
      refine ⟨oj, rfl, e, he, hb, ?_⟩
      rw [Bool.or_eq_true] at h
      rcases h with h | h
      · have h := beq_iff_eq.1 h
        rw [h]
        simp [Array.getD, his] at hi ⊢
        exact hi
      · obtain ⟨o2, h2, e2, he2, hb2, hl2⟩ := reach_not hc hi his n e.on h
        cases hx : listed.getD e.on false with
        | false => rfl
        | true =>
          have hlt : e.on < listed.size := by
            rcases Nat.lt_or_ge e.on listed.size with h' | h'
            · exact h'
            · simp [Array.getD, Nat.not_lt.2 h'] at hx
          have := hc e.on o2 h2 (by simp [Array.getD, hlt] at hx ⊢; exact hx) e2 he2 hb2
          rw [hl2] at this; cases this
theorem wpAnyR_first {Q : Act → (Nat → List It) → Prop} {i : Nat} {oi : Oper} (hi : ops[i]? = some oi) (hsel : ∀ (j : Nat) (o : Oper) cs b, ops[j]? = some o → o.op ≠ .select cs b)
    (hcls : ∀ (j : Nat) (listed : Array Bool), j ≠ i → Closed md ops listed → (∀ k, k < i → listed.getD k true = true) → listed.getD i true = false → j ∈ Region.ready md ops listed → ∀ c, cls i = some c → cls j ≠ some c) :
    ∀ (fuel : Nat) (listed : Array Bool) (a : Act) (m : Nat → List It), Closed md ops listed → (∀ k, k < i → listed.getD k true = true) →
      (∀ j oj, ops[j]? = some oj → j ≠ i → listed.getD j true = false → (∀ e ∈ oj.after, Region.binds md e = true → e.on ≠ i) → oi.apart ops oj = true) →
      i ∈ Region.ready md ops listed → rOp P E B0 ro ops cls tbl i (wpAnyR P E B0 ro ops cls tbl md Q fuel (listed.setIfInBounds i true)) a m → wpAnyR P E B0 ro ops cls tbl md Q (fuel + 1) listed a m := by
  intro fuel
  induction fuel with
  | zero =>
    intro listed a m _ _ _ hr H
    refine ⟨fun h => (by rw [h] at hr; cases hr), fun j hj => ?_⟩
    by_cases hji : j = i
    · subst hji; exact H
    · have := ready_mono hj hji
      obtain ⟨hs, ho⟩ := H oi hi
      obtain ⟨v, m', hv⟩ := safe_out hs
      rw [(ho v m' hv).1] at this
      cases this
  | succ fuel ih =>
    intro listed a m hcl hpre hfree hr H
    refine ⟨fun h => (by rw [h] at hr; cases hr), fun j hj => ?_⟩
    by_cases hji : j = i
    · subst hji; exact H
    · obtain ⟨hjun, oj, hoj, hall⟩ := mem_ready.1 hj
      have hnot : ∀ e ∈ oj.after, Region.binds md e = true → e.on ≠ i := fun e he hb heq => by
        have h1 := hall e he hb
        have h0 := (mem_ready.1 hr).1
        rw [heq] at h1
        rcases Nat.lt_or_ge i listed.size with h' | h'
        · simp [h'] at h0 h1; rw [h0] at h1; cases h1
        · simp [Array.getElem?_eq_none h'] at h1
      have h1 := rOp_mono (fun a' m' h => h.2 j (ready_mono hj hji)) H
      have f1 := hfree j oj hoj hji hjun hnot
      have f2 := hcls j listed hji hcl hpre (mem_ready.1 hr).1 hj
      have h2 := rOp_swap hi hoj f1 f2 (fun cs b => hsel i oi cs b hi) (fun cs b => hsel j oj cs b hoj) h1
      refine rOp_mono (fun a' m' h3 => ih (listed.setIfInBounds j true) a' m' (hcl.set hj) (fun k hk => ?_) (fun k ok hk hki hun hno => ?_) (ready_mono hr (Ne.symm hji)) ?_) h2
      · by_cases hjk : j = k
        · subst hjk
          rcases Nat.lt_or_ge j listed.size with h2 | h2
          · simp [h2]
          · simp [h2]
        · rw [getD_set_ne true hjk]; exact hpre k hk
      · refine hfree k ok hk hki ?_ hno
        by_cases hjk : j = k
        · subst hjk; exact hjun
        · rw [getD_set_ne true hjk] at hun; exact hun
      · rw [Array.setIfInBounds_comm _ _ hji]
        exact h3
def wpR (P : Program) (E : Env) (B0 : List It) (ro : List Ro) (ops : Array Oper) (cls : Nat → Option Nat) (tbl : Nat → List It → Value → List It → Prop) (Q : Act → (Nat → List It) → Prop) : List Oper → Nat → Act → (Nat → List It) → Prop
  | [], _, a, m => Q a m
  | o :: l, k, a, m => rOp P E B0 ro ops cls tbl k (wpR P E B0 ro ops cls tbl Q l (k + 1)) a m
/-- operations of one class wait for the earlier ones, directly or through others -/
def clsB (md : Region.Mode) (ops : Array Oper) (cls : Nat → Option Nat) : Bool :=
  (List.range ops.size).all fun j => (List.range j).all fun i => match cls i, cls j with
    | some c, some d => c != d || reachB md ops i ops.size j
    | _, _ => true
theorem clsB_spec (h : clsB md ops cls = true) {i j : Nat} {oj : Oper} (hj : ops[j]? = some oj) (hij : i < j) {c : Nat} (hi : cls i = some c) (hcj : cls j = some c) : reachB md ops i ops.size j = true := by
  unfold clsB at h
  rw [List.all_eq_true] at h
  have h1 := h j (by have := (Array.getElem?_eq_some_iff.1 hj).1; simpa using this)
  rw [List.all_eq_true] at h1
  have h2 := h1 i (by simpa using hij)
  rw [hi, hcj] at h2
  simpa using h2
theorem lex_lt {k : Nat} {listed : Array Bool} (hl : ∀ j, j < k → listed.getD j true = true) {j : Nat} (hj : listed.getD j true = false) : k ≤ j := by
  rcases Nat.lt_or_ge j k with h | h
  · rw [hl j h] at hj; cases hj
  · exact h
theorem closed0 : Closed md ops (Array.replicate ops.size false) := fun j oj hj hl => by
  have := (Array.getElem?_eq_some_iff.1 hj).1
  simp [Array.getD, this] at hl
theorem wpAnyR_lex {Q : Act → (Nat → List It) → Prop} (hs : Region.noSelect ops = true) (hcl : clsB md ops cls = true) : ∀ (l : List Oper) (k : Nat) (listed : Array Bool) (a : Act) (m : Nat → List It), Closed md ops listed → ops.size = listed.size → (∀ j, l[j]? = ops[k + j]?) → (∀ j, j < k → listed.getD j true = true) →
    Region.lexFrom md ops l.length k listed = true → wpR P E B0 ro ops cls tbl Q l k a m → wpAnyR P E B0 ro ops cls tbl md Q l.length listed a m
  | [], _, _, _, _, _, _, _, _, hB, h => ⟨by simpa [Region.lexFrom] using hB, h⟩
  | o :: l, k, listed, a, m, hC, hz, hl, hk, hB, h => by
    have h0 : ops[k]? = some o := by simpa using (hl 0).symm
    simp only [List.length_cons, Region.lexFrom, Bool.and_eq_true] at hB
    obtain ⟨⟨hr, hf⟩, hB'⟩ := hB
    have hr' : k ∈ Region.ready md ops listed := by simpa using hr
    refine wpAnyR_first h0 (Region.noSelect_spec hs) (fun j ld hjk hCl hpre hun hj c hc hcj => ?_) l.length listed a m hC hk (fun j oj hj hjk hun hno => Region.free_spec h0 hf j oj hj hjk hun hno) hr' ?_
    · obtain ⟨hjun, oj, hoj, hall⟩ := mem_ready.1 hj
      have hle := lex_lt hpre hjun
      have hks : k < ld.size := by
        rcases Nat.lt_or_ge k ld.size with h' | h'
        · exact h'
        · simp [Array.getD, Nat.not_lt.2 h'] at hun
      obtain ⟨o2, h2, e, he, hb, hne⟩ := reach_not hCl hun hks _ _ (clsB_spec hcl hoj (show k < j by omega) hc hcj)
      rw [hoj] at h2
      obtain rfl := Option.some.inj h2
      rw [hall e he hb] at hne; cases hne
    · refine rOp_mono (fun a' m' h' => wpAnyR_lex hs hcl l (k + 1) _ a' m' (hC.set hr') (by simpa using hz) (fun j => by have := hl (j + 1); simpa [Nat.add_assoc, Nat.add_comm 1 j] using this) (fun j hj => ?_) hB' h') h
      rcases Nat.lt_or_ge j k with h1 | h1
      · rw [getD_set_ne true (show k ≠ j by omega)]; exact hk j h1
      · obtain rfl : j = k := by omega
        rcases Nat.lt_or_ge j listed.size with h2 | h2
        · simp [h2]
        · simp [h2]
theorem flat_upd {cs : List Nat} (hn : cs.Nodup) {c : Nat} (hc : c ∈ cs) (m : Nat → List It) : (cs.flatMap m).Perm (m c ++ (cs.erase c).flatMap m) := by
  have := (List.perm_cons_erase hc).flatMap_right m
  simpa using this
theorem flat_same {cs : List Nat} (hn : cs.Nodup) {c : Nat} (m : Nat → List It) (M : List It) : (cs.erase c).flatMap (upd m c M) = (cs.erase c).flatMap m := by
  have : ∀ d ∈ cs.erase c, upd m c M d = m d := fun d hd => upd_ne _ _ (fun e => by subst e; exact (hn.not_mem_erase) hd)
  rw [List.flatMap_def, List.flatMap_def, List.map_congr_left this]
theorem wpAny_of_R {cs : List Nat} (hn : cs.Nodup) (hcs : ∀ i c, cls i = some c → c ∈ cs) {Q : Act → (Nat → List It) → Prop} {Q' : Exit → Act → World → Prop} (hQ : ∀ a m w, Sat E.B E.S E.T (Hp B0 cs m) ro w → Q a m → Q' .normal a w) :
    ∀ (fuel : Nat) (listed : Array Bool) (a : Act) (m : Nat → List It) (w : World), Sat E.B E.S E.T (Hp B0 cs m) ro w → wpAnyR P E B0 ro ops cls tbl md Q fuel listed a m → wpAny P md ops Q' fuel listed a w
  | 0, _, _, _, _, hw, h => ⟨h.1, hQ _ _ _ hw h.2⟩
  | fuel + 1, listed, a, m, w, hw, h => ⟨fun h0 => hQ _ _ _ hw (h.1 h0), fun i hi => by
    obtain ⟨_, o, ho, _⟩ := mem_ready.1 hi
    obtain ⟨hs, hk⟩ := h.2 i hi o ho
    have ih := wpAny_of_R hn hcs hQ fuel (listed.setIfInBounds i true)
    unfold wpOp
    simp only [ho]
    unfold safe at hs
    unfold outm at hk
    split
    · rename_i hwt
      simp only [hwt, if_true] at hs hk
      refine .inl ?_
      cases hc : cls i with
      | none =>
        rw [hc] at hs hk
        obtain ⟨v, hv⟩ := hs
        unfold Oper.wp
        rw [hv _ w hw]
        exact ih _ _ _ hw (hk v m ⟨hv, rfl⟩)
      | some c =>
        rw [hc] at hs hk
        simp only at hs hk
        have hp1 : (Hp B0 cs m).Perm (m c ++ (B0 ++ (cs.erase c).flatMap m)) := by
          unfold Hp
          exact ((flat_upd hn (hcs i c hc) m).append_left B0).trans (by rw [← List.append_assoc, ← List.append_assoc]; exact List.perm_append_comm.append_right _)
        have hp2 : ∀ M, (M ++ (B0 ++ (cs.erase c).flatMap m)).Perm (Hp B0 cs (upd m c M)) := fun M => by
          unfold Hp
          refine List.Perm.trans ?_ ((flat_upd hn (hcs i c hc) (upd m c M)).append_left B0).symm
          rw [upd_self, flat_same hn, ← List.append_assoc, ← List.append_assoc]
          exact List.perm_append_comm.append_right _
        have h1 := hs.2 _ w (hw.perm hp1)
        unfold Oper.wp
        generalize (execOp a.eval o).run P w = r at h1
        cases r with
        | ok n w' =>
          cases n <;> simp only [outcU] at h1 <;> simp only [Oper.upon] <;> first | exact h1.elim | skip
          case value u => obtain ⟨M, h2, h3⟩ := h1; exact ih _ _ _ (h3.perm (hp2 M)) (hk _ _ ⟨M, h2, rfl⟩)
          case skip => obtain ⟨M, h2, h3⟩ := h1; exact ih _ _ _ (h3.perm (hp2 M)) (hk _ _ ⟨M, h2, rfl⟩)
          case enter f args =>
            obtain ⟨rfl, h2⟩ := h1
            refine h2.mono fun e w'' ⟨v, M, he, h3, h4⟩ => ?_
            subst he
            exact ih _ _ _ (h4.perm (hp2 M)) (hk _ _ ⟨M, h3, rfl⟩)
        | halt x w' => simp only [outcU] at h1
    · rename_i hwt
      simp only [hwt] at hk
      exact ih _ _ _ hw (hk undef m ⟨rfl, rfl⟩)⟩
/-! the derivation: one walk over sparse frames -/
def GOk (ops : Array Oper) (fr : List (Nat × Value)) (g : Option (Nat × Bool)) : Prop := g = none ∨ ∃ j s b, g = some (j, b) ∧ gslot ops j = some s ∧ fget fr s = some (.bool b)
theorem gok_none {fr : List (Nat × Value)} : GOk ops fr none := .inl rfl
theorem gok_run {fr : List (Nat × Value)} {j s : Nat} {b : Bool} (hg : gslot ops j = some s) (hs : fget fr s = some (.bool b)) : GOk ops fr (some (j, b)) := .inr ⟨j, s, b, rfl, hg, hs⟩
theorem GOk.wanted {N : Nat} {fr : List (Nat × Value)} {dst : Option Tmp} {op : Op} {ty : TypeId} {pos : String} {af : Array Edge} {g : Option (Nat × Bool)} (h : GOk ops fr g) {a : Act} (ha : Holds N fr a) : Region.wanted (⟨dst, op, ty, pos, af, g⟩ : Oper) (yielded ops a.tmps) = true := by
  rcases h with rfl | ⟨j, s, b, rfl, hg, hs⟩
  · simp [Region.wanted]
  · simp [Region.wanted, yielded_of ha hg hs]
inductive HdE (P : Program) (N : Nat) (E : Env) (B0 : List It) (ro : List Ro) (ops : Array Oper) (cls : Nat → Option Nat) (tbl : Nat → List It → Value → List It → Prop) (K : List (Nat × Value) → (Nat → List It) → Prop) : Nat → List Oper → List (Nat × Value) → (Nat → List It) → Prop
  | nil {k fr m} (h : K fr m) : HdE P N E B0 ro ops cls tbl K k [] fr m
  | val {k fr m op ty pos af rest d v g} (hd : Nat.ble (d + 1) N = true) (hc : cls k = none) (hg : GOk ops fr g) (hv : Pv P ⟨fr, B0, ro⟩ op v) (h : HdE P N E B0 ro ops cls tbl K (k + 1) rest ((d, v) :: fr) m) :
      HdE P N E B0 ro ops cls tbl K k (⟨some d, op, ty, pos, af, g⟩ :: rest) fr m
  | eff {k fr m dst op ty pos af rest c L g} (hc : cls k = some c) (hm : m c = L) (hd : dstOk dst N = true) (hg : GOk ops fr g) (ho : ∀ a, Holds N fr a → Outc P E B0 ro ⟨dst, op, ty, pos, af, g⟩ a L (tbl k L)) (hin : ∃ v M, tbl k L v M)
      (h : ∀ v M, tbl k L v M → HdE P N E B0 ro ops cls tbl K (k + 1) rest (putF dst v fr) (upd m c M)) : HdE P N E B0 ro ops cls tbl K k (⟨dst, op, ty, pos, af, g⟩ :: rest) fr m
  | skip {k fr m d op ty pos af rest j s b c} (hg : gslot ops j = some s) (hs : fget fr s = some (.bool b)) (hb : (b == c) = false) (hd : Nat.ble (d + 1) N = true) (h : HdE P N E B0 ro ops cls tbl K (k + 1) rest ((d, undef) :: fr) m) :
      HdE P N E B0 ro ops cls tbl K k (⟨some d, op, ty, pos, af, some (j, c)⟩ :: rest) fr m
  | skipu {k fr m d op ty pos af rest j s c} (hg : gslot ops j = some s) (hs : fget fr s = some undef) (hd : Nat.ble (d + 1) N = true) (h : HdE P N E B0 ro ops cls tbl K (k + 1) rest ((d, undef) :: fr) m) :
      HdE P N E B0 ro ops cls tbl K k (⟨some d, op, ty, pos, af, some (j, c)⟩ :: rest) fr m
  | dec {k fr m rest s} {p : Prop} [Decidable p] (hs : fget fr s = some (.bool (decide p))) (ht : p → HdE P N E B0 ro ops cls tbl K k rest ((s, .bool true) :: fr) m) (hf : ¬p → HdE P N E B0 ro ops cls tbl K k rest ((s, .bool false) :: fr) m) :
      HdE P N E B0 ro ops cls tbl K k rest fr m
theorem HdE.sound {N : Nat} {K : List (Nat × Value) → (Nat → List It) → Prop} {k : Nat} {l : List Oper} {fr : List (Nat × Value)} {m : Nat → List It} (h : HdE P N E B0 ro ops cls tbl K k l fr m) (hw0 : ∃ F w, Sat E.B E.S E.T (B0 ++ F) ro w) {Q : Act → (Nat → List It) → Prop}
    (hQ : ∀ fr a m, K fr m → Holds N fr a → Q a m) : (∀ j, l[j]? = ops[k + j]?) → ∀ a, Holds N fr a → wpR P E B0 ro ops cls tbl Q l k a m := by
  have shift : ∀ {o : Oper} {l : List Oper} {k : Nat}, (∀ j, (o :: l)[j]? = ops[k + j]?) → ops[k]? = some o ∧ ∀ j, l[j]? = ops[k + 1 + j]? := fun h =>
    ⟨by simpa using (h 0).symm, fun j => by have := h (j + 1); simpa [Nat.add_assoc, Nat.add_comm 1 j] using this⟩
  induction h with
  | nil h => exact fun _ a ha => hQ _ a _ h ha
  | @val k fr m op ty pos af rest d v g hd hc hg hv _ ih =>
    intro hl a ha o ho
    obtain ⟨h0, hl'⟩ := shift hl
    rw [h0] at ho
    obtain rfl := Option.some.inj ho
    have hpv : PV P E B0 ro ⟨some d, op, ty, pos, af, g⟩ a v := fun F w hw => hv N E a w _ _ _ _ _ ⟨ha, hw.left⟩
    unfold safe outm
    simp only [hg.wanted ha, if_true, hc]
    refine ⟨⟨v, hpv⟩, fun v' m' ⟨hv', hm'⟩ => ?_⟩
    subst hm'
    obtain ⟨F, w, hw⟩ := hw0
    have e : v' = v := by
      have h1 := hpv F w hw
      have h2 := hv' F w hw
      rw [h1] at h2
      injection h2 with h2 _
      injection h2 with h2
      exact h2.symm
    subst e
    exact ih hl' _ (ha.put (Nat.le_of_ble_eq_true hd) _)
  | @eff k fr m dst op ty pos af rest c L g hc hm hd hg ho hin _ ih =>
    intro hl a ha o ho'
    obtain ⟨h0, hl'⟩ := shift hl
    rw [h0] at ho'
    obtain rfl := Option.some.inj ho'
    unfold safe outm
    simp only [hg.wanted ha, if_true, hc, hm]
    refine ⟨⟨hin, ho a ha⟩, fun v' m' ⟨M, hv', hm'⟩ => ?_⟩
    subst hm'
    exact ih v' M hv' hl' _ (ha.putF hd _)
  | @skip k fr m d op ty pos af rest j s b c hg hs hb hd _ ih =>
    intro hl a ha o ho
    obtain ⟨h0, hl'⟩ := shift hl
    rw [h0] at ho
    obtain rfl := Option.some.inj ho
    have hwt : ¬ Region.wanted (⟨some d, op, ty, pos, af, some (j, c)⟩ : Oper) (yielded ops a.tmps) = true := by simp [Region.wanted, yielded_of ha hg hs]; simpa using hb
    unfold safe outm
    simp only [hwt]
    refine ⟨trivial, fun v' m' ⟨hv', hm'⟩ => ?_⟩
    subst hv'; subst hm'
    exact ih hl' _ (ha.put (Nat.le_of_ble_eq_true hd) _)
  | @skipu k fr m d op ty pos af rest j s c hg hs hd _ ih =>
    intro hl a ha o ho
    obtain ⟨h0, hl'⟩ := shift hl
    rw [h0] at ho
    obtain rfl := Option.some.inj ho
    have hwt : ¬ Region.wanted (⟨some d, op, ty, pos, af, some (j, c)⟩ : Oper) (yielded ops a.tmps) = true := by simp [Region.wanted, yielded_undef ha hg hs]
    unfold safe outm
    simp only [hwt]
    refine ⟨trivial, fun v' m' ⟨hv', hm'⟩ => ?_⟩
    subst hv'; subst hm'
    exact ih hl' _ (ha.put (Nat.le_of_ble_eq_true hd) _)
  | @dec k fr m rest s p _ hs _ _ iht ihf =>
    intro hl a ha
    by_cases hp : p
    · exact iht hp hl a (ha.same hs (by simp [hp]))
    · exact ihf hp hl a (ha.same hs (by simp [hp]))
theorem wc_reg {N : Nat} {fr : List (Nat × Value)} {hp : List It} {Kn Kr : St → Prop} {Kx : List (Nat × (St → Prop))} {id : Nat} {l : List Oper} (cs : List Nat) (cls : Nat → Option Nat) (tbl : Nat → List It → Value → List It → Prop) (B0 : List It) (m0 : Nat → List It)
    (hm : P.follows .mixedOrders = true) (hB : Region.lexB .any l.toArray = true) (hcl : clsB .any l.toArray cls = true) (hn : cs.Nodup) (hcs : ∀ i c, cls i = some c → c ∈ cs) (hperm : hp.Perm (Hp B0 cs m0))
    (h : HdE P N E B0 ro l.toArray cls tbl (fun fr m => ∀ H, H = Hp B0 cs m → Kn ⟨fr, H, ro⟩) 0 l fr m0) : WC P N E (.region id l.toArray true) ⟨fr, hp, ro⟩ Kn Kx Kr := fun a w ok => by
  simp only [Region.lexB, Bool.and_eq_true] at hB
  have hw : Sat E.B E.S E.T (Hp B0 cs m0) ro _ := (ok.s.drawn (w.drawn + 1)).perm hperm
  refine wp_region_any hm (wpAny_of_R (ro := ro) (tbl := tbl) (Q := fun a m => ∃ fr', Kn ⟨fr', Hp B0 cs m, ro⟩ ∧ Holds N fr' a) hn hcs (fun a m w' hs ⟨fr', hk, ha⟩ => ⟨_, hk, ha, hs⟩) _ _ a m0 _ hw ?_)
  have := wpAnyR_lex (P := P) (E := E) (B0 := B0) (ro := ro) (tbl := tbl) (md := .any) hB.1 hcl l 0 (Array.replicate l.toArray.size false) a m0 closed0 (by simp) (by simp) (fun j hj => by omega) (by simpa using hB.2)
    (h.sound (Q := fun a m => ∃ fr', Kn ⟨fr', Hp B0 cs m, ro⟩ ∧ Holds N fr' a) ⟨_, _, hw⟩ (fun fr a m hk ha => ⟨fr, hk _ rfl, ha⟩) (by simp) a ok.h)
  simpa using this
/-- a call, as what one operation of such a region does -/
theorem outc_call {N : Nat} {fr : List (Nat × Value)} {f : FuncId} [HasBody P f] {vs : List Value} {L Lc F1 : List It} {R : List Ro} {Post : Value → List It → List Ro → Prop} {T : Value → List It → Prop} {l : List Operand} {ats : Array TypeId} {dst : Option Tmp} {ty : TypeId} {pos : String} {af : Array Edge} {g : Option (Nat × Bool)}
    (hF : Fn P f vs.toArray L R Post) (ha : opdL fr l = some vs) (hs : (Lc ++ B0).Perm (L ++ F1)) (hr : ∀ r ∈ R, r ∈ ro) (hT : ∀ v L' R', Post v L' R' → ∃ M, T v M ∧ (L' ++ F1).Perm (M ++ B0)) :
    ∀ a, Holds N fr a → Outc P E B0 ro ⟨dst, .call ⟨.value (.func f), l.toArray, ats⟩, ty, pos, af, g⟩ a Lc T := fun a hh F w hw => by
  rw [HasBody.enter w, hh.evalL ha]
  refine ⟨rfl, ?_⟩
  have hp1 : (Lc ++ (B0 ++ F)).Perm (L ++ (F1 ++ F)) := by
    rw [← List.append_assoc, ← List.append_assoc]; exact hs.append_right F
  have hw1 := hw.perm hp1
  refine (hF w (hw1.start (.refl _) hr)).mono fun e w' ⟨v, L', R', he, hP, hS⟩ => ?_
  obtain ⟨M, h1, h2⟩ := hT v L' R' hP
  have h3 := (hw1.step (.refl _) (fun b hb => by obtain ⟨r, h1, h2⟩ := mem_blks.1 hb; exact mem_blks.2 ⟨r, hr r h1, h2⟩) hS).some_ro (fun r hr => List.mem_append_right _ hr)
  refine ⟨v, M, he, h1, h3.perm ?_⟩
  rw [← List.append_assoc, ← List.append_assoc]
  exact h2.append_right F
/-- a store into an owned slice -/
theorem outc_st_ownf {N : Nat} {fr : List (Nat × Value)} {T : TypeId} {x y : Operand} {v : Value} {dst : Option Tmp} {ty : TypeId} {pos : String} {af : Array Edge} {g : Option (Nat × Bool)} {b o i j sz n c : Nat} {t : TypeId} {xs : List (List Value)} {row row' : List Value} [TOne P T]
    (hx : opd fr x = some (.pointer (some ⟨b, elt o i sz + j, none⟩))) (hy : opd fr y = some v) (h1 : v.oneCell' = true) (hi : xs[i]? = some row) (hl : SetAt row j v row') :
    ∀ a, Holds N fr a → Outc P E B0 ro ⟨dst, .store T x y, ty, pos, af, g⟩ a [.own t sz (some ⟨b, o, none⟩) n c xs] (fun u M => u = undef ∧ M = [.own t sz (some ⟨b, o, none⟩) n c (xs.set i row')]) := fun a hh F w hw => by
    have hS : OwnSat w t sz (some ⟨b, o, none⟩) n c xs := hw.get (.refl _)
    obtain ⟨cur, hc, hfit⟩ := hS.fit hi
    have hsp := hl.lay.spec.1
    have hrow := hS.rows.lens row (List.mem_of_getElem? hi)
    have hfit2 : elt o i sz + j + [v].length ≤ cur.size := by simp at hsp ⊢; omega
    obtain ⟨w', h2, h3, h4⟩ := run_storeAt_lay (P := P) (T := T) (r := [v]) (cells_one h1) run_sizeOf_one hc hfit2 (by simpa using h1)
    have e : (execOp a.eval ⟨dst, .store T x y, ty, pos, af, g⟩).run P w = .ok .skip w' := by
      simp only [execOp, hh.eval hx, hh.eval hy, Sem.run_bind, h2]; rfl
    rw [e]
    refine ⟨_, ⟨rfl, rfl⟩, ?_⟩
    exact (hw.step (L := [_]) (T' := []) (.refl _) (by simp) (Sat.reown h4 (cells_stored hS hc hi hl.lay (by simpa using h1) h3 hfit2))).some_ro (fun r hr => by simpa using hr)
section
variable {N : Nat} {K : List (Nat × Value) → (Nat → List It) → Prop} {k : Nat} {rest : List Oper} {fr : List (Nat × Value)} {m : Nat → List It} {dst : Option Tmp} {op : Op} {ty : TypeId} {pos : String} {af : Array Edge} {j s : Nat} {c : Bool} {p : Prop} [Decidable p]
theorem he_gt (hg : gslot ops j = some s) (hs : fget fr s = some (.bool (decide p))) (hp' : p) (h : HdE P N E B0 ro ops cls tbl K k (⟨dst, op, ty, pos, af, some (j, c)⟩ :: rest) ((s, .bool true) :: fr) m) : HdE P N E B0 ro ops cls tbl K k (⟨dst, op, ty, pos, af, some (j, c)⟩ :: rest) fr m :=
  .dec hs (fun _ => h) (fun hn => absurd hp' hn)
theorem he_gf (hg : gslot ops j = some s) (hs : fget fr s = some (.bool (decide p))) (hp' : ¬p) (h : HdE P N E B0 ro ops cls tbl K k (⟨dst, op, ty, pos, af, some (j, c)⟩ :: rest) ((s, .bool false) :: fr) m) : HdE P N E B0 ro ops cls tbl K k (⟨dst, op, ty, pos, af, some (j, c)⟩ :: rest) fr m :=
  .dec hs (fun h => absurd h hp') (fun _ => h)
end
end
def asl : List (Nat × Nat) → Nat → Option Nat
  | [], _ => none
  | (i, c) :: l, k => bif Nat.beq i k then some c else asl l k
theorem asl_mem {cs : List Nat} : ∀ {l : List (Nat × Nat)}, (l.all fun p => cs.contains p.2) = true → ∀ i c, asl l i = some c → c ∈ cs
  | [], _, _, _, h => by cases h
  | (i, c) :: l, hl, k, d, h => by
    simp only [List.all_cons, Bool.and_eq_true] at hl
    unfold asl at h
    cases hb : Nat.beq i k with
    | true => rw [hb] at h; simp only [cond_true, Option.some.injEq] at h; subst h; simpa using hl.1
    | false => rw [hb] at h; exact asl_mem hl.2 k d h
theorem upd_01 (m M) : upd m 0 M 1 = m 1 := rfl
theorem upd_10 (m M) : upd m 1 M 0 = m 0 := rfl
theorem upd_02 (m M) : upd m 0 M 2 = m 2 := rfl
theorem upd_20 (m M) : upd m 2 M 0 = m 0 := rfl
theorem upd_12 (m M) : upd m 1 M 2 = m 2 := rfl
theorem upd_21 (m M) : upd m 2 M 1 = m 1 := rfl
theorem prm_cons {hp hp1 L : List It} {x : It} (hs : hp.Perm (x :: hp1)) (h : hp1.Perm L) : hp.Perm (x :: L) := hs.trans (h.cons x)
end Go.Proofs.Ytlhlidmhlhodiaa

/-
  Sparse frames: where ways meet again.
-/
namespace Go.Proofs.Ytlhlidmhlhodiaa
set_option linter.unusedSimpArgs false
set_option linter.unusedVariables false
open Go.RowKit
theorem wc_join {P : Program} {N : Nat} {E : Env} {x y : Code} {st : St} {Kn Kr Kr2 : St → Prop} {Kx Kx2 : List (Nat × (St → Prop))} (J : St → Prop) (h : WC P N E x st (fun st' => ∃ st'', Wk st' st'' ∧ J st'') Kx Kr) (hy : ∀ st'', J st'' → WC P N E y st'' Kn Kx2 Kr2) :
    WC P N E x st (fun st' => WC P N E y st' Kn Kx2 Kr2) Kx Kr := fun a w ok =>
  Code.wp_mono (fun e a w q => by
    cases e with
    | normal =>
      obtain ⟨st', ⟨st'', h1, h2⟩, ok'⟩ := q
      exact ⟨st', fun a2 w2 ok2 => hy st'' h2 a2 w2 (ok2.weak h1), ok'⟩
    | _ => exact q) (h a w ok)
theorem pv_conv_rs {P : Program} {fr : List (Nat × Value)} {hp : List It} {ro : List Ro} {t t' : TypeId} {x : Operand} {k : IntKind} {a : Int} [TInt P t k] [ht : TStr P t'] (hx : opd fr x = some (.int k a)) : Pv P ⟨fr, hp, ro⟩ (.convert t t' x) (.string (Utf8.encode a)) := fun N E ac w dst ty pos af g ok => by
  simp only [execOp, ok.h.eval hx]; simp [convert, run_underlying (TInt.h (P := P) (T := t)), run_underlying ht.h, Conv.intToString, go_sem]
/-- the same, for a part that leaves by no way but its end (or a return): the rest of the code is out of sight in it -/
theorem wc_join0 {P : Program} {N : Nat} {E : Env} {x y : Code} {st : St} {Kn Kr Kr2 : St → Prop} {Kx Kx2 : List (Nat × (St → Prop))} (J : St → Prop) (h : WC P N E x st (fun st' => ∃ st'', Wk st' st'' ∧ J st'') [] Kr) (hy : ∀ st'', J st'' → WC P N E y st'' Kn Kx2 Kr2) :
    WC P N E x st (fun st' => WC P N E y st' Kn Kx2 Kr2) Kx Kr := fun a w ok =>
  Code.wp_mono (fun e a w q => by
    cases e with
    | normal =>
      obtain ⟨st', ⟨st'', h1, h2⟩, ok'⟩ := q
      exact ⟨st', fun a2 w2 ok2 => hy st'' h2 a2 w2 (ok2.weak h1), ok'⟩
    | exit id => obtain ⟨st', K, h1, _⟩ := q; cases h1
    | _ => exact q) (h a w ok)
end Go.Proofs.Ytlhlidmhlhodiaa

/-
  Sparse frames: the lemmas once more, with the classes as premises behind what fixes them, so that 'apply' can use them ('exact' with a wrong lemma costs a tenth of a second).
-/
namespace Go.Proofs.Ytlhlidmhlhodiaa
set_option linter.unusedSimpArgs false
set_option linter.unusedVariables false
open Go.RowKit
theorem eqr {α : Sort _} (a : α) : a = a := rfl
section
variable {P : Program} {fr : List (Nat × Value)} {hp : List It} {ro : List Ro} {T : TypeId} {x y c : Operand} {v u : Value} {F : List It} {k k' : IntKind} {a b lo hi m : Int} {t t' : TypeId}
theorem a_add (hx : opd fr x = some (.int k a)) (hy : opd fr y = some (.int k b)) (hk : KB k lo hi) (h : lo ≤ a + b ∧ a + b ≤ hi) : Pv P ⟨fr, hp, ro⟩ (.binOp .add t x y t') (.int k (a + b)) := pv_add hx hy h
theorem a_sub (hx : opd fr x = some (.int k a)) (hy : opd fr y = some (.int k b)) (hk : KB k lo hi) (h : lo ≤ a - b ∧ a - b ≤ hi) : Pv P ⟨fr, hp, ro⟩ (.binOp .sub t x y t') (.int k (a - b)) := pv_sub hx hy h
theorem a_mul (hx : opd fr x = some (.int k a)) (hy : opd fr y = some (.int k b)) (hk : KB k lo hi) (h : lo ≤ a * b ∧ a * b ≤ hi) : Pv P ⟨fr, hp, ro⟩ (.binOp .mul t x y t') (.int k (a * b)) := pv_mul hx hy h
theorem a_quo (hx : opd fr x = some (.int k a)) (hy : opd fr y = some (.int k b)) (hk : KB k lo hi) (h : 0 ≤ a ∧ 1 ≤ b ∧ lo ≤ 0 ∧ a ≤ hi) : Pv P ⟨fr, hp, ro⟩ (.binOp .quo t x y t') (.int k (a / b)) := pv_quo hx hy h
theorem a_add_u (hx : opd fr x = some (.int k a)) (hy : opd fr y = some (.int k b)) (hk : KU k m) : Pv P ⟨fr, hp, ro⟩ (.binOp .add t x y t') (.int k ((a + b) % m)) := pv_add_u hx hy
theorem a_sub_u (hx : opd fr x = some (.int k a)) (hy : opd fr y = some (.int k b)) (hk : KU k m) : Pv P ⟨fr, hp, ro⟩ (.binOp .sub t x y t') (.int k ((a - b) % m)) := pv_sub_u hx hy
theorem a_mul_u (hx : opd fr x = some (.int k a)) (hy : opd fr y = some (.int k b)) (hk : KU k m) : Pv P ⟨fr, hp, ro⟩ (.binOp .mul t x y t') (.int k ((a * b) % m)) := pv_mul_u hx hy
theorem a_neg (hx : opd fr x = some (.int k a)) (hk : KB k lo hi) (h : lo ≤ -a ∧ -a ≤ hi) : Pv P ⟨fr, hp, ro⟩ (.unOp .neg t x) (.int k (-a)) := pv_neg hx h
theorem a_conv (hx : opd fr x = some (.int k a)) (h1 : TInt P t k) (h2 : TInt P t' k') (hk : KB k' lo hi) (h : lo ≤ a ∧ a ≤ hi) : Pv P ⟨fr, hp, ro⟩ (.convert t t' x) (.int k' a) := pv_conv hx h
theorem a_conv_u (hx : opd fr x = some (.int k a)) (h1 : TInt P t k) (h2 : TInt P t' k') (hk : KU k' m) : Pv P ⟨fr, hp, ro⟩ (.convert t t' x) (.int k' (a % m)) := pv_conv_u hx
theorem a_conv_w (hx : opd fr x = some (.int k a)) (h1 : TInt P t k) (h2 : TInt P t' k') : Pv P ⟨fr, hp, ro⟩ (.convert t t' x) (.int k' (k'.wrap a)) := pv_conv_w hx
theorem a_not_d {p : Prop} {d : Decidable p} (hx : opd fr x = some (.bool (@decide p d))) : Pv P ⟨fr, hp, ro⟩ (.unOp .not t x) (.bool (decide (¬p))) := pv_not_d hx
end
section
variable {P : Program} {N : Nat} {E : Env} {fr : List (Nat × Value)} {hp : List It} {ro : List Ro} {Kn Kr : St → Prop} {Kx : List (Nat × (St → Prop))} {ops : Array Oper} {rest : List Oper} {dst : Option Tmp} {op : Op} {ty : TypeId} {pos : String} {af : Array Edge} {j s : Nat} {c : Bool} {p : Prop} {d : Decidable p} {o : Operand} {x y : Code}
theorem a_gt (hg : gslot ops j = some s) (hs : fget fr s = some (.bool (@decide p d))) (hpp : p) (h : WO P N E ops (⟨dst, op, ty, pos, af, some (j, c)⟩ :: rest) ⟨(s, .bool true) :: fr, hp, ro⟩ Kn) : WO P N E ops (⟨dst, op, ty, pos, af, some (j, c)⟩ :: rest) ⟨fr, hp, ro⟩ Kn := wo_gt hg hs hpp h
theorem a_gf (hg : gslot ops j = some s) (hs : fget fr s = some (.bool (@decide p d))) (hpp : ¬p) (h : WO P N E ops (⟨dst, op, ty, pos, af, some (j, c)⟩ :: rest) ⟨(s, .bool false) :: fr, hp, ro⟩ Kn) : WO P N E ops (⟨dst, op, ty, pos, af, some (j, c)⟩ :: rest) ⟨fr, hp, ro⟩ Kn := wo_gf hg hs hpp h
theorem a_dec_t (hc : opd fr o = some (.bool (@decide p d))) (hpp : p) (h : WC P N E x ⟨fr, hp, ro⟩ Kn Kx Kr) : WC P N E (.cond o x y) ⟨fr, hp, ro⟩ Kn Kx Kr := wc_dec_t hc hpp h
theorem a_dec_f (hc : opd fr o = some (.bool (@decide p d))) (hpp : ¬p) (h : WC P N E y ⟨fr, hp, ro⟩ Kn Kx Kr) : WC P N E (.cond o x y) ⟨fr, hp, ro⟩ Kn Kx Kr := wc_dec_f hc hpp h
variable {calls : Bool} {K : List (Nat × Value) → Prop}
theorem ah_gt (hg : gslot ops j = some s) (hs : fget fr s = some (.bool (@decide p d))) (hp' : p) (h : Hd P N calls ops hp ro K (⟨dst, op, ty, pos, af, some (j, c)⟩ :: rest) ((s, .bool true) :: fr)) : Hd P N calls ops hp ro K (⟨dst, op, ty, pos, af, some (j, c)⟩ :: rest) fr := hd_gt hg hs hp' h
theorem ah_gf (hg : gslot ops j = some s) (hs : fget fr s = some (.bool (@decide p d))) (hp' : ¬p) (h : Hd P N calls ops hp ro K (⟨dst, op, ty, pos, af, some (j, c)⟩ :: rest) ((s, .bool false) :: fr)) : Hd P N calls ops hp ro K (⟨dst, op, ty, pos, af, some (j, c)⟩ :: rest) fr := hd_gf hg hs hp' h
variable {B0 : List It} {cls : Nat → Option Nat} {tbl : Nat → List It → Value → List It → Prop} {K : List (Nat × Value) → (Nat → List It) → Prop} {k : Nat} {m : Nat → List It}
theorem ae_gt (hg : gslot ops j = some s) (hs : fget fr s = some (.bool (@decide p d))) (hp' : p) (h : HdE P N E B0 ro ops cls tbl K k (⟨dst, op, ty, pos, af, some (j, c)⟩ :: rest) ((s, .bool true) :: fr) m) : HdE P N E B0 ro ops cls tbl K k (⟨dst, op, ty, pos, af, some (j, c)⟩ :: rest) fr m := he_gt hg hs hp' h
theorem ae_gf (hg : gslot ops j = some s) (hs : fget fr s = some (.bool (@decide p d))) (hp' : ¬p) (h : HdE P N E B0 ro ops cls tbl K k (⟨dst, op, ty, pos, af, some (j, c)⟩ :: rest) ((s, .bool false) :: fr) m) : HdE P N E B0 ro ops cls tbl K k (⟨dst, op, ty, pos, af, some (j, c)⟩ :: rest) fr m := he_gf hg hs hp' h
end
end Go.Proofs.Ytlhlidmhlhodiaa
