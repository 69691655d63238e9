/-
  Sparse frames: the operations that yield a value and leave the world alone. No program in sight.
-/
import Derived.Test.YtlhlidmhlhodiaaSp
import Derived.IntWalk
import Derived.WalkSpells
namespace Go.Proofs.Ytlhlidmhlhodiaa
set_option linter.unusedSimpArgs false
set_option linter.unusedVariables false
open Go.RowKit

/-! ## what a program's types are -/
def plainD : TypeDesc → Bool
  | .struct _ => false
  | .array _ _ => false
  | _ => true
def oneB (P : Program) (T : TypeId) : Bool := match P.underlying T with
  | none => false
  | some d => match P.info? T with
    | none => false
    | some i => plainD d && i.size == 1
def aggB (P : Program) (T : TypeId) : Option Nat := match P.underlying T, P.info? T with
  | some (.struct _), some i | some (.array _ _), some i => some i.size
  | _, _ => none
def foB (P : Program) (T i : Nat) : Option (Nat × Nat) := match P.underlying T with
  | some (.struct fs) => match fs[i]? with
    | some f => match P.info? f.type with
      | some inf => if inf.size = 0 then none else some (f.offset, inf.size)
      | none => none
    | none => none
  | _ => none
def slB (P : Program) (T : TypeId) : Option (TypeId × Nat × Nat) := match P.underlying T with
  | some (.slice e) => match P.info? e with
    | some i => match i.zero with
      | some z => if z.cells.size = i.size ∧ 0 < i.size then some (e, i.size, i.bytes) else none
      | none => none
    | none => none
  | _ => none
def arB (P : Program) (T : TypeId) : Option (Nat × TypeId × Nat) := match P.underlying T with
  | some (.array n e) => match P.info? e with
    | some i => some (n, e, i.size)
    | none => none
  | _ => none
def zeB (P : Program) (T : TypeId) : Option (List Value) := match P.info? T with
  | some i => i.zero.map (·.cells.toList)
  | none => none
class TOne (P : Program) (T : TypeId) : Prop where h : oneB P T = true
class TAgg (P : Program) (T : TypeId) (n : outParam Nat) : Prop where h : aggB P T = some n
class FS (P : Program) (T i : Nat) (off sz : outParam Nat) : Prop where h : foB P T i = some (off, sz)
class TSl (P : Program) (T : TypeId) (e sz by_ : outParam Nat) : Prop where h : slB P T = some (e, sz, by_)
class TAr (P : Program) (T : TypeId) (n e sz : outParam Nat) : Prop where h : arB P T = some (n, e, sz)
class TZ (P : Program) (T : TypeId) (z : outParam (List Value)) : Prop where h : zeB P T = some z
class TInt (P : Program) (T : TypeId) (k : outParam IntKind) : Prop where h : P.underlying T = some (.int k)
class TBool (P : Program) (T : TypeId) : Prop where h : P.underlying T = some .bool
class TStr (P : Program) (T : TypeId) : Prop where h : P.underlying T = some .string
class TPtr (P : Program) (T : TypeId) (e : outParam TypeId) : Prop where h : P.underlying T = some (.pointer e)
class KB (k : IntKind) (lo hi : outParam Int) : Prop where h : ∀ n, lo ≤ n → n ≤ hi → k.wrap n = n
class KU (k : IntKind) (m : outParam Int) : Prop where h : ∀ n, k.wrap n = n % m
instance : KB .i8 (-128) 127 := ⟨fun n a b => IntWalk.i8_in n ⟨a, b⟩⟩
instance : KB .i16 (-32768) 32767 := ⟨fun n a b => IntWalk.i16_in n ⟨a, b⟩⟩
instance : KB .i32 (-2147483648) 2147483647 := ⟨fun n a b => IntWalk.i32_in n ⟨a, b⟩⟩
instance : KB .i64 (-9223372036854775808) 9223372036854775807 := ⟨fun n a b => IntWalk.i64_in n ⟨a, b⟩⟩
instance : KB .u8 0 255 := ⟨fun n a b => IntWalk.u8_in n ⟨a, b⟩⟩
instance : KB .u16 0 65535 := ⟨fun n a b => IntWalk.u16_in n ⟨a, b⟩⟩
instance : KB .u32 0 4294967295 := ⟨fun n a b => IntWalk.u32_in n ⟨a, b⟩⟩
instance : KB .u64 0 18446744073709551615 := ⟨fun n a b => IntWalk.u64_in n ⟨a, b⟩⟩
instance : KU .u8 256 := ⟨IntKind.wrap_u8⟩
instance : KU .u16 65536 := ⟨IntKind.wrap_u16⟩
instance : KU .u32 4294967296 := ⟨IntKind.wrap_u32⟩
instance : KU .u64 18446744073709551616 := ⟨IntKind.wrap_u64⟩

section
variable {P : Program} {T : TypeId} {w : World}
theorem one_und (h : oneB P T = true) : ∃ d i, P.underlying T = some d ∧ P.info? T = some i ∧ i.size = 1 ∧ plainD d = true := by
  unfold oneB at h
  split at h <;> first | (exfalso; revert h; simp; done) | skip
  rename_i d h1
  split at h <;> first | (exfalso; revert h; simp; done) | skip
  rename_i i h2
  simp only [Bool.and_eq_true, beq_iff_eq] at h
  exact ⟨d, i, h1, h2, h.2, h.1⟩
theorem run_isAgg_one [h : TOne P T] : (isAgg T).run P w = .ok false w := by
  obtain ⟨d, i, h1, h2, h3, h4⟩ := one_und h.h
  simp only [isAgg, Sem.run_bind, run_underlying h1, Result.andThen_ok]
  cases d <;> first | rfl | cases h4
theorem run_sizeOf_one [h : TOne P T] : (sizeOf T).run P w = .ok 1 w := by
  obtain ⟨d, i, h1, h2, h3, _⟩ := one_und h.h
  simp [sizeOf, typeInfo, h2, h3, go_sem]
theorem agg_und {n : Nat} (h : aggB P T = some n) : ∃ d i, P.underlying T = some d ∧ P.info? T = some i ∧ i.size = n ∧ ((∃ f, d = .struct f) ∨ ∃ n e, d = .array n e) := by
  unfold aggB at h
  split at h <;> first | (exfalso; revert h; simp; done) | skip
  · rename_i h1 h2; exact ⟨_, _, h1, h2, Option.some.inj h, .inl ⟨_, rfl⟩⟩
  · rename_i h1 h2; exact ⟨_, _, h1, h2, Option.some.inj h, .inr ⟨_, _, rfl⟩⟩
theorem run_isAgg_agg {n : Nat} [h : TAgg P T n] : (isAgg T).run P w = .ok true w := by
  obtain ⟨d, i, h1, h2, h3, h4⟩ := agg_und h.h
  simp only [isAgg, Sem.run_bind, run_underlying h1, Result.andThen_ok]
  rcases h4 with ⟨f, rfl⟩ | ⟨m, e, rfl⟩ <;> rfl
theorem run_sizeOf_agg {n : Nat} [h : TAgg P T n] : (sizeOf T).run P w = .ok n w := by
  obtain ⟨d, i, h1, h2, h3, _⟩ := agg_und h.h
  simp [sizeOf, typeInfo, h2, h3, go_sem]
theorem fs_und {i off sz : Nat} (h : foB P T i = some (off, sz)) : ∃ fs f inf, P.underlying T = some (.struct fs) ∧ fs[i]? = some f ∧ P.info? f.type = some inf ∧ inf.size = sz ∧ f.offset = off ∧ 0 < sz := by
  unfold foB at h
  split at h <;> first | (exfalso; revert h; simp; done) | skip
  rename_i fs h1
  split at h <;> first | (exfalso; revert h; simp; done) | skip
  rename_i f h2
  split at h <;> first | (exfalso; revert h; simp; done) | skip
  rename_i inf h3
  split at h <;> first | (exfalso; revert h; simp; done) | skip
  rename_i h4
  simp only [Option.some.injEq, Prod.mk.injEq] at h
  exact ⟨fs, f, inf, h1, h2, h3, h.2, h.1, by omega⟩
theorem run_fieldAt {i off sz : Nat} [h : FS P T i off sz] (b o : Nat) : (Instr.fieldAt T (.pointer (some ⟨b, o, none⟩)) i).run P w = .ok (.pointer (some ⟨b, o + off, none⟩)) w := by
  obtain ⟨fs, f, inf, h1, h2, h3, h4, h5, h6⟩ := fs_und h.h
  have hne : inf.size ≠ 0 := by omega
  simp [Instr.fieldAt, run_underlying h1, h2, Instr.sureAddr, fieldPlace, sizeOf, typeInfo, h3, hne, h5, Addr.add_lit, go_sem]
theorem sl_und {e sz by_ : Nat} (h : slB P T = some (e, sz, by_)) : ∃ i z, P.underlying T = some (.slice e) ∧ P.info? e = some i ∧ i.zero = some z ∧ z.cells.size = sz ∧ i.size = sz ∧ i.bytes = by_ ∧ 0 < sz := by
  unfold slB at h
  split at h <;> first | (exfalso; revert h; simp; done) | skip
  rename_i e' h1
  split at h <;> first | (exfalso; revert h; simp; done) | skip
  rename_i i h2
  split at h <;> first | (exfalso; revert h; simp; done) | skip
  rename_i z h3
  split at h <;> first | (exfalso; revert h; simp; done) | skip
  rename_i h4
  simp only [Option.some.injEq, Prod.mk.injEq] at h
  obtain ⟨rfl, rfl, rfl⟩ := h
  exact ⟨i, z, h1, h2, h3, h4.1, rfl, rfl, h4.2⟩
theorem ar_und {n e sz : Nat} (h : arB P T = some (n, e, sz)) : ∃ i, P.underlying T = some (.array n e) ∧ P.info? e = some i ∧ i.size = sz := by
  unfold arB at h
  split at h <;> first | (exfalso; revert h; simp; done) | skip
  rename_i n' e' h1
  split at h <;> first | (exfalso; revert h; simp; done) | skip
  rename_i i h2
  simp only [Option.some.injEq, Prod.mk.injEq] at h
  obtain ⟨rfl, rfl, rfl⟩ := h
  exact ⟨i, h1, h2, rfl⟩
theorem ze_und {z : List Value} (h : zeB P T = some z) : ∃ i v, P.info? T = some i ∧ i.zero = some v ∧ v.cells.toList = z := by
  unfold zeB at h
  split at h <;> first | (exfalso; revert h; simp; done) | skip
  rename_i i h1
  cases h2 : i.zero with
  | none => rw [h2] at h; cases h
  | some v => rw [h2] at h; simp only [Option.map_some, Option.some.injEq] at h; exact ⟨i, v, h1, h2, h⟩
end

/-! ## rows -/
theorem flat_len {sz : Nat} : ∀ {xs : List (List Value)}, (∀ r ∈ xs, r.length = sz) → xs.flatten.length = xs.length * sz
  | [], _ => by simp
  | x :: xs, h => by
    rw [List.flatten_cons, List.length_append, h x (.head _), flat_len (fun r hr => h r (.tail _ hr)), List.length_cons, Nat.add_mul]; omega
theorem flat_at {sz : Nat} : ∀ {xs : List (List Value)} {i j : Nat} {row : List Value} {u : Value}, (∀ r ∈ xs, r.length = sz) → xs[i]? = some row → row[j]? = some u → xs.flatten[i * sz + j]? = some u
  | [], _, _, _, _, _, h, _ => by cases h
  | x :: xs, 0, j, row, u, hl, h, hj => by
    simp only [List.getElem?_cons_zero, Option.some.injEq] at h
    subst h
    rw [List.flatten_cons, Nat.zero_mul, Nat.zero_add, List.getElem?_append_left (List.getElem?_eq_some_iff.1 hj).1]
    exact hj
  | x :: xs, i + 1, j, row, u, hl, h, hj => by
    rw [List.flatten_cons, List.getElem?_append_right (by rw [hl x (.head _), Nat.add_mul]; omega), hl x (.head _), show (i + 1) * sz + j - sz = i * sz + j by rw [Nat.add_mul]; omega]
    exact flat_at (fun r hr => hl r (.tail _ hr)) (by simpa using h) hj
/-- the place of element i of rows of sz cells each from o on -/
def elt (o i sz : Nat) : Nat := o + i * sz
theorem RowsOk.lens {sz : Nat} {xs : List (List Value)} (h : RowsOk sz xs) : ∀ r ∈ xs, r.length = sz := fun r hr => (h r hr).1
theorem OwnSat.cell {w : World} {t : TypeId} {sz b o n c : Nat} {xs : List (List Value)} (h : OwnSat w t sz (some ⟨b, o, none⟩) n c xs) {i j : Nat} {row : List Value} {u : Value} (hi : xs[i]? = some row) (hj : row[j]? = some u) :
    w.cell? ⟨b, elt o i sz + j, none⟩ = some u := by
  obtain ⟨_, cur, h1, _, h3⟩ := h.at_ _ rfl
  have := h3 _ _ (flat_at h.rows.lens hi hj)
  simp only at h1 this
  simp only [World.cell?, h1, elt, Nat.add_assoc]
  exact this
theorem Ro.cell {w : World} {b o sz : Nat} {xs : List (List Value)} (h : Ro.sat w ⟨b, o, sz, xs⟩) {i j : Nat} {row : List Value} {u : Value} (hi : xs[i]? = some row) (hj : row[j]? = some u) :
    w.cell? ⟨b, elt o i sz + j, none⟩ = some u := by
  obtain ⟨h0, cur, t, fz, h1, h3⟩ := h
  have := h3 _ _ (flat_at h0.lens hi hj)
  simp only at h1 this
  simp only [World.cell?, h1, elt, Nat.add_assoc]
  exact this
inductive Cut : List Value → Nat → Nat → List Value → Prop
  | here0 {l} : Cut l 0 0 []
  | here {x l n r} (h : Cut l 0 n r) : Cut (x :: l) 0 (n + 1) (x :: r)
  | there {x l o n r} (h : Cut l o n r) : Cut (x :: l) (o + 1) n r
theorem Cut.spec {l r : List Value} {o n : Nat} (h : Cut l o n r) : r.length = n ∧ ∀ j u, r[j]? = some u → l[o + j]? = some u := by
  induction h with
  | here0 => exact ⟨rfl, fun j u h => by simp at h⟩
  | here h ih =>
    refine ⟨by simp [ih.1], fun j u hj => ?_⟩
    cases j with
    | zero => simpa using hj
    | succ j => have := ih.2 j u (by simpa using hj); simpa [Nat.add_comm] using this
  | there h ih =>
    refine ⟨ih.1, fun j u hj => ?_⟩
    have := ih.2 j u hj
    rw [Nat.add_right_comm]; simpa using this

/-! ## operations that yield a value -/
section
variable {P : Program} {fr : List (Nat × Value)} {hp : List It} {ro : List Ro} {T : TypeId} {x y c : Operand} {v u : Value} {F : List It}
theorem Sat.get {B : World} {S T : List Nat} {hp F : List It} {ro : List Ro} {w : World} {x : It} (h : Sat B S T hp ro w) (hs : hp.Perm (x :: F)) : x.sat w := h.sat x (hs.mem_iff.2 (.head _))
theorem pv_move (hx : opd fr x = some v) : Pv P ⟨fr, hp, ro⟩ (.move x) v := fun N E a w dst ty pos af g ok => by simp only [execOp, ok.h.eval hx]; rfl
theorem pv_assign (hx : opd fr x = some v) : Pv P ⟨fr, hp, ro⟩ (.assign x) v := fun N E a w dst ty pos af g ok => by simp only [execOp, ok.h.eval hx]; rfl
theorem pv_pick_t (hc : opd fr c = some (.bool true)) (hx : opd fr x = some v) : Pv P ⟨fr, hp, ro⟩ (.pick c x y) v := fun N E a w dst ty pos af g ok => by simp only [execOp, ok.h.eval hx, ok.h.eval hc]; rfl
theorem pv_pick_f (hc : opd fr c = some (.bool false)) (hy : opd fr y = some v) : Pv P ⟨fr, hp, ro⟩ (.pick c x y) v := fun N E a w dst ty pos af g ok => by simp only [execOp, ok.h.eval hy, ok.h.eval hc]; rfl
theorem pv_nil {ad : Addr} (hx : opd fr x = some (.pointer (some ad))) : Pv P ⟨fr, hp, ro⟩ (.nilCheck x) (.pointer (some ad)) := fun N E a w dst ty pos af g ok => by simp only [execOp, ok.h.eval hx]; rfl
theorem pv_fld {i off sz b o : Nat} [FS P T i off sz] (hx : opd fr x = some (.pointer (some ⟨b, o, none⟩))) : Pv P ⟨fr, hp, ro⟩ (.fieldAddr T x i) (.pointer (some ⟨b, o + off, none⟩)) :=
  fun N E a w dst ty pos af g ok => by simp only [execOp, ok.h.eval hx, Sem.run_bind, run_fieldAt, Result.andThen_ok]; rfl
theorem run_loadAt_one [TOne P T] {w : World} {ad : Addr} (h : w.cell? ad = some v) : (Instr.loadAt T (.pointer (some ad))).run P w = .ok v w := by
  simp only [Instr.loadAt, Instr.sureAddr, loadVar, Sem.run_bind, Sem.run_pure, Result.andThen_ok, run_isAgg_one, Bool.false_eq_true, if_false]
  simp [h, go_sem]
theorem run_loadAt_agg {n : Nat} [TAgg P T n] {w : World} {b o : Nat} {r : List Value} (hn : r.length = n) (h : ∀ j u, r[j]? = some u → w.cell? ⟨b, o + j, none⟩ = some u) : (Instr.loadAt T (.pointer (some ⟨b, o, none⟩))).run P w = .ok (.agg r.toArray) w := by
  have := run_loadCells_list (P := P) w ⟨b, o, none⟩ r (fun j u hj => by rw [Addr.add_lit]; exact h j u hj)
  subst hn
  simp only [Instr.loadAt, Instr.sureAddr, loadVar, Sem.run_bind, Sem.run_pure, Result.andThen_ok, run_isAgg_agg, if_true, run_sizeOf_agg, this]
theorem cell_ob {w : World} {b : Nat} {l : List Value} {t : TypeId} {fz : Nat × Nat} (h : w.heap[b]? = some (.cells l.toArray t fz)) {o : Nat} (hl : l[o]? = some v) : w.cell? ⟨b, o, none⟩ = some v := by
  simp [World.cell?, h, hl]
theorem pv_ld {b o : Nat} {l : List Value} {t : TypeId} {fz : Nat × Nat} [TOne P T] (hx : opd fr x = some (.pointer (some ⟨b, o, none⟩))) (hs : hp.Perm (.ob b (.cells l.toArray t fz) :: F)) (hl : l[o]? = some v) :
    Pv P ⟨fr, hp, ro⟩ (.load T x) v := fun N E a w dst ty pos af g ok => by
  simp only [execOp, ok.h.eval hx, Sem.run_bind, run_loadAt_one (cell_ob (ok.s.get hs) hl), Result.andThen_ok]; rfl
theorem pv_lda {b o n : Nat} {l r : List Value} {t : TypeId} {fz : Nat × Nat} [TAgg P T n] (hx : opd fr x = some (.pointer (some ⟨b, o, none⟩))) (hs : hp.Perm (.ob b (.cells l.toArray t fz) :: F)) (hl : Cut l o n r) :
    Pv P ⟨fr, hp, ro⟩ (.load T x) (.agg r.toArray) := fun N E a w dst ty pos af g ok => by
  simp only [execOp, ok.h.eval hx, Sem.run_bind, run_loadAt_agg hl.spec.1 (fun j u hj => cell_ob (ok.s.get hs) (hl.spec.2 j u hj)), Result.andThen_ok]; rfl
/-- one-cell elements of an owned slice -/
theorem pv_ld_own1 {b o n c i : Nat} {xs : List (List Value)} {t : TypeId} [TOne P T] (hx : opd fr x = some (.pointer (some ⟨b, elt o i 1, none⟩))) (hs : hp.Perm (.own t 1 (some ⟨b, o, none⟩) n c xs :: F)) (hi : xs[i]? = some [v]) :
    Pv P ⟨fr, hp, ro⟩ (.load T x) v := fun N E a w dst ty pos af g ok => by
  simp only [execOp, ok.h.eval hx, Sem.run_bind, run_loadAt_one (ad := ⟨b, elt o i 1, none⟩) (OwnSat.cell (j := 0) (ok.s.get hs) hi rfl), Result.andThen_ok]; rfl
theorem pv_ld_ownf {b o n c i j sz : Nat} {xs : List (List Value)} {row : List Value} {t : TypeId} [TOne P T] (hx : opd fr x = some (.pointer (some ⟨b, elt o i sz + j, none⟩))) (hs : hp.Perm (.own t sz (some ⟨b, o, none⟩) n c xs :: F))
    (hi : xs[i]? = some row) (hj : row[j]? = some v) : Pv P ⟨fr, hp, ro⟩ (.load T x) v := fun N E a w dst ty pos af g ok => by
  simp only [execOp, ok.h.eval hx, Sem.run_bind, run_loadAt_one (OwnSat.cell (ok.s.get hs) hi hj), Result.andThen_ok]; rfl
theorem pv_ld_owna {b o n c i sz : Nat} {xs : List (List Value)} {row : List Value} {t : TypeId} [TAgg P T sz] (hx : opd fr x = some (.pointer (some ⟨b, elt o i sz, none⟩))) (hs : hp.Perm (.own t sz (some ⟨b, o, none⟩) n c xs :: F))
    (hi : xs[i]? = some row) : Pv P ⟨fr, hp, ro⟩ (.load T x) (.agg row.toArray) := fun N E a w dst ty pos af g ok => by
  have hS : OwnSat w t sz (some ⟨b, o, none⟩) n c xs := ok.s.get hs
  simp only [execOp, ok.h.eval hx, Sem.run_bind, run_loadAt_agg (hS.rows.lens row (List.mem_of_getElem? hi)) (fun j u hj => OwnSat.cell hS hi hj), Result.andThen_ok]; rfl
theorem pv_ld_ro1 {b o i : Nat} {xs : List (List Value)} [TOne P T] (hx : opd fr x = some (.pointer (some ⟨b, elt o i 1, none⟩))) (hs : ⟨b, o, 1, xs⟩ ∈ ro) (hi : xs[i]? = some [v]) :
    Pv P ⟨fr, hp, ro⟩ (.load T x) v := fun N E a w dst ty pos af g ok => by
  simp only [execOp, ok.h.eval hx, Sem.run_bind, run_loadAt_one (ad := ⟨b, elt o i 1, none⟩) (Ro.cell (j := 0) (ok.s.rds _ hs) hi rfl), Result.andThen_ok]; rfl
theorem pv_ld_rof {b o i j sz : Nat} {xs : List (List Value)} {row : List Value} [TOne P T] (hx : opd fr x = some (.pointer (some ⟨b, elt o i sz + j, none⟩))) (hs : ⟨b, o, sz, xs⟩ ∈ ro)
    (hi : xs[i]? = some row) (hj : row[j]? = some v) : Pv P ⟨fr, hp, ro⟩ (.load T x) v := fun N E a w dst ty pos af g ok => by
  simp only [execOp, ok.h.eval hx, Sem.run_bind, run_loadAt_one (Ro.cell (ok.s.rds _ hs) hi hj), Result.andThen_ok]; rfl
theorem pv_ld_roa {b o i sz : Nat} {xs : List (List Value)} {row : List Value} [TAgg P T sz] (hx : opd fr x = some (.pointer (some ⟨b, elt o i sz, none⟩))) (hs : ⟨b, o, sz, xs⟩ ∈ ro)
    (hi : xs[i]? = some row) : Pv P ⟨fr, hp, ro⟩ (.load T x) (.agg row.toArray) := fun N E a w dst ty pos af g ok => by
  have hS : Ro.sat w ⟨b, o, sz, xs⟩ := ok.s.rds _ hs
  simp only [execOp, ok.h.eval hx, Sem.run_bind, run_loadAt_agg (hS.1.lens row (List.mem_of_getElem? hi)) (fun j u hj => Ro.cell hS hi hj), Result.andThen_ok]; rfl

/-! integers -/
variable {k : IntKind} {a b lo hi m : Int} {t t' : TypeId}
theorem pv_add [hk : KB k lo hi] (hx : opd fr x = some (.int k a)) (hy : opd fr y = some (.int k b)) (h : lo ≤ a + b ∧ a + b ≤ hi) : Pv P ⟨fr, hp, ro⟩ (.binOp .add t x y t') (.int k (a + b)) := fun N E ac w dst ty pos af g ok => by
  simp only [execOp, ok.h.eval hx, ok.h.eval hy]; simp [eqGuard, binOp, Op.intArith, hk.h _ h.1 h.2, go_sem]
theorem pv_sub [hk : KB k lo hi] (hx : opd fr x = some (.int k a)) (hy : opd fr y = some (.int k b)) (h : lo ≤ a - b ∧ a - b ≤ hi) : Pv P ⟨fr, hp, ro⟩ (.binOp .sub t x y t') (.int k (a - b)) := fun N E ac w dst ty pos af g ok => by
  simp only [execOp, ok.h.eval hx, ok.h.eval hy]; simp [eqGuard, binOp, Op.intArith, hk.h _ h.1 h.2, go_sem]
theorem pv_mul [hk : KB k lo hi] (hx : opd fr x = some (.int k a)) (hy : opd fr y = some (.int k b)) (h : lo ≤ a * b ∧ a * b ≤ hi) : Pv P ⟨fr, hp, ro⟩ (.binOp .mul t x y t') (.int k (a * b)) := fun N E ac w dst ty pos af g ok => by
  simp only [execOp, ok.h.eval hx, ok.h.eval hy]; simp [eqGuard, binOp, Op.intArith, hk.h _ h.1 h.2, go_sem]
theorem pv_add_u [hk : KU k m] (hx : opd fr x = some (.int k a)) (hy : opd fr y = some (.int k b)) : Pv P ⟨fr, hp, ro⟩ (.binOp .add t x y t') (.int k ((a + b) % m)) := fun N E ac w dst ty pos af g ok => by
  simp only [execOp, ok.h.eval hx, ok.h.eval hy]; simp [eqGuard, binOp, Op.intArith, hk.h, go_sem]
theorem pv_sub_u [hk : KU k m] (hx : opd fr x = some (.int k a)) (hy : opd fr y = some (.int k b)) : Pv P ⟨fr, hp, ro⟩ (.binOp .sub t x y t') (.int k ((a - b) % m)) := fun N E ac w dst ty pos af g ok => by
  simp only [execOp, ok.h.eval hx, ok.h.eval hy]; simp [eqGuard, binOp, Op.intArith, hk.h, go_sem]
theorem pv_mul_u [hk : KU k m] (hx : opd fr x = some (.int k a)) (hy : opd fr y = some (.int k b)) : Pv P ⟨fr, hp, ro⟩ (.binOp .mul t x y t') (.int k ((a * b) % m)) := fun N E ac w dst ty pos af g ok => by
  simp only [execOp, ok.h.eval hx, ok.h.eval hy]; simp [eqGuard, binOp, Op.intArith, hk.h, go_sem]
theorem pv_add_w (hx : opd fr x = some (.int k a)) (hy : opd fr y = some (.int k b)) : Pv P ⟨fr, hp, ro⟩ (.binOp .add t x y t') (.int k (k.wrap (a + b))) := fun N E ac w dst ty pos af g ok => by
  simp only [execOp, ok.h.eval hx, ok.h.eval hy]; simp [eqGuard, binOp, Op.intArith, go_sem]
theorem pv_sub_w (hx : opd fr x = some (.int k a)) (hy : opd fr y = some (.int k b)) : Pv P ⟨fr, hp, ro⟩ (.binOp .sub t x y t') (.int k (k.wrap (a - b))) := fun N E ac w dst ty pos af g ok => by
  simp only [execOp, ok.h.eval hx, ok.h.eval hy]; simp [eqGuard, binOp, Op.intArith, go_sem]
theorem pv_mul_w (hx : opd fr x = some (.int k a)) (hy : opd fr y = some (.int k b)) : Pv P ⟨fr, hp, ro⟩ (.binOp .mul t x y t') (.int k (k.wrap (a * b))) := fun N E ac w dst ty pos af g ok => by
  simp only [execOp, ok.h.eval hx, ok.h.eval hy]; simp [eqGuard, binOp, Op.intArith, go_sem]
theorem pv_quo [hk : KB k lo hi] (hx : opd fr x = some (.int k a)) (hy : opd fr y = some (.int k b)) (h : 0 ≤ a ∧ 1 ≤ b ∧ lo ≤ 0 ∧ a ≤ hi) : Pv P ⟨fr, hp, ro⟩ (.binOp .quo t x y t') (.int k (a / b)) := fun N E ac w dst ty pos af g ok => by
  have hb : b ≠ 0 := by omega
  have h1 : a.tdiv b = a / b := Int.tdiv_eq_ediv_of_nonneg h.1
  have h2 : 0 ≤ a / b := Int.ediv_nonneg h.1 (by omega)
  have h3 : a / b ≤ a := Int.ediv_le_self _ h.1
  simp only [execOp, ok.h.eval hx, ok.h.eval hy]; simp [eqGuard, binOp, Op.intDiv, hb, h1, hk.h (a / b) (by omega) (by omega), go_sem]
theorem pv_rem (hx : opd fr x = some (.int k a)) (hy : opd fr y = some (.int k b)) (h : 0 ≤ a ∧ 1 ≤ b) : Pv P ⟨fr, hp, ro⟩ (.binOp .rem t x y t') (.int k (a % b)) := fun N E ac w dst ty pos af g ok => by
  have hb : b ≠ 0 := by omega
  have h1 : a.tmod b = a % b := Int.tmod_eq_emod_of_nonneg h.1
  simp only [execOp, ok.h.eval hx, ok.h.eval hy]; simp [eqGuard, binOp, Op.intDiv, hb, h1, go_sem]
theorem pv_quo_t (hx : opd fr x = some (.int k a)) (hy : opd fr y = some (.int k b)) (h : 1 ≤ b ∨ b ≤ -1) : Pv P ⟨fr, hp, ro⟩ (.binOp .quo t x y t') (.int k (k.wrap (a.tdiv b))) := fun N E ac w dst ty pos af g ok => by
  have hb : b ≠ 0 := by omega
  simp only [execOp, ok.h.eval hx, ok.h.eval hy]; simp [eqGuard, binOp, Op.intDiv, hb, go_sem]
theorem pv_rem_t (hx : opd fr x = some (.int k a)) (hy : opd fr y = some (.int k b)) (h : 1 ≤ b ∨ b ≤ -1) : Pv P ⟨fr, hp, ro⟩ (.binOp .rem t x y t') (.int k (a.tmod b)) := fun N E ac w dst ty pos af g ok => by
  have hb : b ≠ 0 := by omega
  simp only [execOp, ok.h.eval hx, ok.h.eval hy]; simp [eqGuard, binOp, Op.intDiv, hb, go_sem]
theorem pv_and (hx : opd fr x = some (.int k a)) (hy : opd fr y = some (.int k b)) : Pv P ⟨fr, hp, ro⟩ (.binOp .and t x y t') (.int k (bits .and k a b)) := fun N E ac w dst ty pos af g ok => by
  simp only [execOp, ok.h.eval hx, ok.h.eval hy]; simp [eqGuard, binOp, Op.intBits, bits, go_sem]
theorem pv_or (hx : opd fr x = some (.int k a)) (hy : opd fr y = some (.int k b)) : Pv P ⟨fr, hp, ro⟩ (.binOp .or t x y t') (.int k (bits .or k a b)) := fun N E ac w dst ty pos af g ok => by
  simp only [execOp, ok.h.eval hx, ok.h.eval hy]; simp [eqGuard, binOp, Op.intBits, bits, go_sem]
theorem pv_xor (hx : opd fr x = some (.int k a)) (hy : opd fr y = some (.int k b)) : Pv P ⟨fr, hp, ro⟩ (.binOp .xor t x y t') (.int k (bits .xor k a b)) := fun N E ac w dst ty pos af g ok => by
  simp only [execOp, ok.h.eval hx, ok.h.eval hy]; simp [eqGuard, binOp, Op.intBits, bits, go_sem]
theorem pv_shl {k' : IntKind} (hx : opd fr x = some (.int k a)) (hy : opd fr y = some (.int k' b)) (h : 0 ≤ b) : Pv P ⟨fr, hp, ro⟩ (.binOp .shl t x y t') (.int k (k.wrap (a * 2 ^ (min b.toNat k.bits)))) := fun N E ac w dst ty pos af g ok => by
  have hb : ¬ b < 0 := by omega
  simp only [execOp, ok.h.eval hx, ok.h.eval hy]; simp [eqGuard, binOp, Op.shift, hb, go_sem]
theorem pv_shr {k' : IntKind} (hx : opd fr x = some (.int k a)) (hy : opd fr y = some (.int k' b)) (h : 0 ≤ b) : Pv P ⟨fr, hp, ro⟩ (.binOp .shr t x y t') (.int k (a.fdiv (2 ^ (min b.toNat k.bits)))) := fun N E ac w dst ty pos af g ok => by
  have hb : ¬ b < 0 := by omega
  simp only [execOp, ok.h.eval hx, ok.h.eval hy]; simp [eqGuard, binOp, Op.shift, hb, go_sem]
theorem pv_lss (hx : opd fr x = some (.int k a)) (hy : opd fr y = some (.int k b)) : Pv P ⟨fr, hp, ro⟩ (.binOp .lss t x y t') (.bool (decide (a < b))) := fun N E ac w dst ty pos af g ok => by
  simp only [execOp, ok.h.eval hx, ok.h.eval hy]; simp [eqGuard, binOp, Op.intCmp, go_sem]
theorem pv_leq (hx : opd fr x = some (.int k a)) (hy : opd fr y = some (.int k b)) : Pv P ⟨fr, hp, ro⟩ (.binOp .leq t x y t') (.bool (decide (a ≤ b))) := fun N E ac w dst ty pos af g ok => by
  simp only [execOp, ok.h.eval hx, ok.h.eval hy]; simp [eqGuard, binOp, Op.intCmp, go_sem]
theorem pv_gtr (hx : opd fr x = some (.int k a)) (hy : opd fr y = some (.int k b)) : Pv P ⟨fr, hp, ro⟩ (.binOp .gtr t x y t') (.bool (decide (b < a))) := fun N E ac w dst ty pos af g ok => by
  simp only [execOp, ok.h.eval hx, ok.h.eval hy]; simp [eqGuard, binOp, Op.intCmp, go_sem]
theorem pv_geq (hx : opd fr x = some (.int k a)) (hy : opd fr y = some (.int k b)) : Pv P ⟨fr, hp, ro⟩ (.binOp .geq t x y t') (.bool (decide (b ≤ a))) := fun N E ac w dst ty pos af g ok => by
  simp only [execOp, ok.h.eval hx, ok.h.eval hy]; simp [eqGuard, binOp, Op.intCmp, go_sem]
theorem pv_eql (hx : opd fr x = some (.int k a)) (hy : opd fr y = some (.int k b)) : Pv P ⟨fr, hp, ro⟩ (.binOp .eql t x y t') (.bool (decide (a = b))) := fun N E ac w dst ty pos af g ok => by
  simp only [execOp, ok.h.eval hx, ok.h.eval hy]; simp [eqGuard, binOp, Op.intCmp, go_sem]
  by_cases hab : a = b <;> simp [hab]
theorem pv_neq (hx : opd fr x = some (.int k a)) (hy : opd fr y = some (.int k b)) : Pv P ⟨fr, hp, ro⟩ (.binOp .neq t x y t') (.bool (decide (a ≠ b))) := fun N E ac w dst ty pos af g ok => by
  simp only [execOp, ok.h.eval hx, ok.h.eval hy]; simp [eqGuard, binOp, Op.intCmp, go_sem]
  rfl
theorem pv_neg [hk : KB k lo hi] (hx : opd fr x = some (.int k a)) (h : lo ≤ -a ∧ -a ≤ hi) : Pv P ⟨fr, hp, ro⟩ (.unOp .neg t x) (.int k (-a)) := fun N E ac w dst ty pos af g ok => by
  simp only [execOp, ok.h.eval hx]; simp [Op.unary, Op.intArith, hk.h _ h.1 h.2, go_sem]
theorem pv_neg_w (hx : opd fr x = some (.int k a)) : Pv P ⟨fr, hp, ro⟩ (.unOp .neg t x) (.int k (k.wrap (0 - a))) := fun N E ac w dst ty pos af g ok => by
  simp only [execOp, ok.h.eval hx]; simp [Op.unary, Op.intArith, go_sem]
theorem pv_not_t (hx : opd fr x = some (.bool true)) : Pv P ⟨fr, hp, ro⟩ (.unOp .not t x) (.bool false) := fun N E ac w dst ty pos af g ok => by
  simp only [execOp, ok.h.eval hx]; simp [Op.unary, go_sem]
theorem pv_not_f (hx : opd fr x = some (.bool false)) : Pv P ⟨fr, hp, ro⟩ (.unOp .not t x) (.bool true) := fun N E ac w dst ty pos af g ok => by
  simp only [execOp, ok.h.eval hx]; simp [Op.unary, go_sem]
theorem pv_not_d {p : Prop} [Decidable p] (hx : opd fr x = some (.bool (decide p))) : Pv P ⟨fr, hp, ro⟩ (.unOp .not t x) (.bool (decide (¬p))) := fun N E ac w dst ty pos af g ok => by
  simp only [execOp, ok.h.eval hx]; simp [Op.unary, go_sem]
theorem pv_not {c : Bool} (hx : opd fr x = some (.bool c)) : Pv P ⟨fr, hp, ro⟩ (.unOp .not t x) (.bool (decide (c = false))) := fun N E ac w dst ty pos af g ok => by
  simp only [execOp, ok.h.eval hx]; simp [Op.unary, go_sem]
theorem pv_conv [TInt P t k] {k' : IntKind} [ht : TInt P t' k'] [hk : KB k' lo hi] (hx : opd fr x = some (.int k a)) (h : lo ≤ a ∧ a ≤ hi) : Pv P ⟨fr, hp, ro⟩ (.convert t t' x) (.int k' a) := fun N E ac w dst ty pos af g ok => by
  simp only [execOp, ok.h.eval hx]; simp [convert, run_underlying (TInt.h (P := P) (T := t)), run_underlying ht.h, Conv.intToInt, hk.h _ h.1 h.2, go_sem]
theorem pv_conv_u [TInt P t k] {k' : IntKind} [ht : TInt P t' k'] [hk : KU k' m] (hx : opd fr x = some (.int k a)) : Pv P ⟨fr, hp, ro⟩ (.convert t t' x) (.int k' (a % m)) := fun N E ac w dst ty pos af g ok => by
  simp only [execOp, ok.h.eval hx]; simp [convert, run_underlying (TInt.h (P := P) (T := t)), run_underlying ht.h, Conv.intToInt, hk.h, go_sem]
theorem pv_conv_w [TInt P t k] {k' : IntKind} [ht : TInt P t' k'] (hx : opd fr x = some (.int k a)) : Pv P ⟨fr, hp, ro⟩ (.convert t t' x) (.int k' (k'.wrap a)) := fun N E ac w dst ty pos af g ok => by
  simp only [execOp, ok.h.eval hx]; simp [convert, run_underlying (TInt.h (P := P) (T := t)), run_underlying ht.h, Conv.intToInt, go_sem]

/-! other equalities -/
theorem run_equal_bool [h : TBool P t] (w : World) (c d : Bool) : (Op.equal t (.bool c) (.bool d)).run P w = .ok (c == d) w := by
  show Sem.run P (Op.equalIn (9999 + 1) t _ _) w = _
  rw [Op.equalIn]
  simp only [Sem.run_bind, run_underlying h.h, Result.andThen_ok]; rfl
theorem pv_eql_b [TBool P t] {c d : Bool} (hx : opd fr x = some (.bool c)) (hy : opd fr y = some (.bool d)) : Pv P ⟨fr, hp, ro⟩ (.binOp .eql t x y t') (.bool (decide (c = d))) := fun N E ac w dst ty pos af g ok => by
  have := run_equal_bool (P := P) (t := t) w c d
  simp only [execOp, ok.h.eval hx, ok.h.eval hy]
  cases c <;> cases d <;> simp [eqGuard, binOp, this, go_sem]
theorem pv_neq_b [TBool P t] {c d : Bool} (hx : opd fr x = some (.bool c)) (hy : opd fr y = some (.bool d)) : Pv P ⟨fr, hp, ro⟩ (.binOp .neq t x y t') (.bool (decide (c ≠ d))) := fun N E ac w dst ty pos af g ok => by
  have := run_equal_bool (P := P) (t := t) w c d
  simp only [execOp, ok.h.eval hx, ok.h.eval hy]
  cases c <;> cases d <;> simp [eqGuard, binOp, this, go_sem]
theorem run_equal_ptr_nil {e : TypeId} [h : TPtr P t e] (w : World) (p : Option Addr) : (Op.equal t (.pointer p) (.pointer none)).run P w = .ok p.isNone w := by
  show Sem.run P (Op.equalIn (9999 + 1) t _ _) w = _
  rw [Op.equalIn]
  simp only [Sem.run_bind, run_underlying h.h, Result.andThen_ok]
  cases p <;> rfl
theorem run_eql_ptr {e : TypeId} [TPtr P t e] (w : World) (p : Option Addr) : (binOp .eql t (.pointer p) (.pointer none)).run P w = .ok (.bool p.isNone) w := by
  have := run_equal_ptr_nil (P := P) (t := t) w p
  cases p <;> (simp only [binOp, Sem.run_bind, this]; rfl)
theorem run_neq_ptr {e : TypeId} [TPtr P t e] (w : World) (p : Option Addr) : (binOp .neq t (.pointer p) (.pointer none)).run P w = .ok (.bool p.isSome) w := by
  have := run_equal_ptr_nil (P := P) (t := t) w p
  cases p <;> (simp only [binOp, Sem.run_bind, this]; rfl)
theorem pv_eql_p {e : TypeId} [TPtr P t e] {p : Option Addr} (hx : opd fr x = some (.pointer p)) (hy : opd fr y = some (.pointer none)) : Pv P ⟨fr, hp, ro⟩ (.binOp .eql t x y t') (.bool p.isNone) := fun N E ac w dst ty pos af g ok => by
  have := run_eql_ptr (P := P) (t := t) w p
  simp only [execOp, ok.h.eval hx, ok.h.eval hy]
  simp [eqGuard, this]
theorem pv_neq_p {e : TypeId} [TPtr P t e] {p : Option Addr} (hx : opd fr x = some (.pointer p)) (hy : opd fr y = some (.pointer none)) : Pv P ⟨fr, hp, ro⟩ (.binOp .neq t x y t') (.bool p.isSome) := fun N E ac w dst ty pos af g ok => by
  have := run_neq_ptr (P := P) (t := t) w p
  simp only [execOp, ok.h.eval hx, ok.h.eval hy]
  simp [eqGuard, this]

/-! values with parts -/
theorem pv_extract {l : List Value} {i : Nat} (hx : opd fr x = some (.tuple l.toArray)) (hi : l[i]? = some v) : Pv P ⟨fr, hp, ro⟩ (.extract x i) v := fun N E ac w dst ty pos af g ok => by
  simp only [execOp, ok.h.eval hx]; simp [Instr.extract, hi, go_sem]
theorem run_part_one [TOne P T] {w : World} {l : List Value} {o : Nat} (h : l[o]? = some v) : (part T l.toArray o).run P w = .ok v w := by
  simp only [part, Sem.run_bind, run_isAgg_one, Result.andThen_ok, Bool.false_eq_true, if_false]
  simp [h, go_sem]

/-! builtins -/
theorem pv_len_sl {e sz by_ n c : Nat} {ao : Option Addr} [h : TSl P t e sz by_] (hx : opd fr x = some (.slice ao n c)) : Pv P ⟨fr, hp, ro⟩ (.call ⟨.builtin .len, #[x], #[t]⟩) (.int .i64 n) := fun N E ac w dst ty pos af g ok => by
  obtain ⟨_, _, h1, _⟩ := sl_und h.h
  simp only [execOp, resolve, List.map_toArray, List.map_cons, List.map_nil, ok.h.eval hx]; simp [invoke, builtin, Builtin.len_, run_underlying h1, goInt, go_sem]
theorem pv_len_str {s : ByteArray} [h : TStr P t] (hx : opd fr x = some (.string s)) : Pv P ⟨fr, hp, ro⟩ (.call ⟨.builtin .len, #[x], #[t]⟩) (.int .i64 s.size) := fun N E ac w dst ty pos af g ok => by
  simp only [execOp, resolve, List.map_toArray, List.map_cons, List.map_nil, ok.h.eval hx]; simp [invoke, builtin, Builtin.len_, run_underlying h.h, goInt, go_sem]
theorem pv_min {ats : Array TypeId} (hx : opd fr x = some (.int k a)) (hy : opd fr y = some (.int k b)) : Pv P ⟨fr, hp, ro⟩ (.call ⟨.builtin .min, #[x, y], ats⟩) (.int k (min a b)) := fun N E ac w dst ty pos af g ok => by
  have e : (if b < a then b else a) = min a b := by omega
  simp only [execOp, resolve, List.map_toArray, List.map_cons, List.map_nil, ok.h.eval hx, ok.h.eval hy]; simp [invoke, builtin, Builtin.min_, Builtin.min2, e, go_sem]
theorem pv_max {ats : Array TypeId} (hx : opd fr x = some (.int k a)) (hy : opd fr y = some (.int k b)) : Pv P ⟨fr, hp, ro⟩ (.call ⟨.builtin .max, #[x, y], ats⟩) (.int k (max a b)) := fun N E ac w dst ty pos af g ok => by
  have e : (if b > a then b else a) = max a b := by omega
  simp only [execOp, resolve, List.map_toArray, List.map_cons, List.map_nil, ok.h.eval hx, ok.h.eval hy]; simp [invoke, builtin, Builtin.max_, Builtin.max2, e, go_sem]

/-! addresses of elements -/
theorem pv_idx {e sz by_ bl o n c : Nat} {i : Nat} [h : TSl P t e sz by_] (hx : opd fr x = some (.slice (some ⟨bl, o, none⟩) n c)) (hy : opd fr y = some (.int k (i : Int))) (hi : i < n) : Pv P ⟨fr, hp, ro⟩ (.indexAddr t x y) (.pointer (some ⟨bl, elt o i sz, none⟩)) :=
  fun N E ac w dst ty pos af g ok => by
  obtain ⟨inf, _, h1, h2, _, _, h3, _⟩ := sl_und h.h
  have hi' : (0 : Int) ≤ (i : Int) ∧ (i : Int) < (n : Int) := by omega
  simp only [execOp, ok.h.eval hx, ok.h.eval hy]; simp [Instr.indexAt, asIntOf, run_underlying h1, hi'.2, Nat.not_le.2 hi, sizeOf, typeInfo, h2, h3, Addr.add_lit, elt, go_sem]
theorem pv_idx_e {e sz by_ bl o n c : Nat} {z : Int} (i : Nat) [h : TSl P t e sz by_] (hx : opd fr x = some (.slice (some ⟨bl, o, none⟩) n c)) (hy : opd fr y = some (.int k z)) (hz : z = (i : Int)) (hi : i < n) :
    Pv P ⟨fr, hp, ro⟩ (.indexAddr t x y) (.pointer (some ⟨bl, elt o i sz, none⟩)) := by subst hz; exact pv_idx hx hy hi
theorem pv_idx_n {e sz by_ bl o n c : Nat} {z : Int} [h : TSl P t e sz by_] (hx : opd fr x = some (.slice (some ⟨bl, o, none⟩) n c)) (hy : opd fr y = some (.int k z)) (hz : 0 ≤ z ∧ z < (n : Int)) :
    Pv P ⟨fr, hp, ro⟩ (.indexAddr t x y) (.pointer (some ⟨bl, elt o z.toNat sz, none⟩)) := pv_idx_e z.toNat hx hy (by omega) (by omega)
theorem pv_idx_ar {n e sz bl o : Nat} {i : Nat} [h : TAr P t n e sz] (hx : opd fr x = some (.pointer (some ⟨bl, o, none⟩))) (hy : opd fr y = some (.int k (i : Int))) (hi : i < n) (hn : 1 < n) :
    Pv P ⟨fr, hp, ro⟩ (.indexAddr t x y) (.pointer (some ⟨bl, o + i * sz, none⟩)) := fun N E ac w dst ty pos af g ok => by
  obtain ⟨inf, h1, h2, h3⟩ := ar_und h.h
  have hi' : (0 : Int) ≤ (i : Int) ∧ (i : Int) < (n : Int) := by omega
  simp only [execOp, ok.h.eval hx, ok.h.eval hy]; simp [Instr.indexAt, Instr.sureAddr, asIntOf, run_underlying h1, hi'.2, Nat.not_le.2 hi, sizeOf, typeInfo, h2, h3, Addr.add_lit, go_sem]

/-! the plain ones at once, by computation -/
def cmpV (o : BinOp) (a b : Int) : Option Value :=
  match o with
  | .lss => some (.bool (decide (a < b)))
  | .leq => some (.bool (decide (a ≤ b)))
  | .gtr => some (.bool (decide (b < a)))
  | .geq => some (.bool (decide (b ≤ a)))
  | .eql => some (.bool (decide (a = b)))
  | .neq => some (.bool (decide (a ≠ b)))
  | _ => none
def ev (fr : List (Nat × Value)) : Op → Option Value
  | .move x => opd fr x
  | .assign x => opd fr x
  | .nilCheck x => match opd fr x with
    | some (.pointer (some ad)) => some (.pointer (some ad))
    | _ => none
  | .extract x i => match opd fr x with
    | some (.tuple ⟨l⟩) => l[i]?
    | _ => none
  | .binOp o _ x y _ => match opd fr x, opd fr y with
    | some (.int k a), some (.int k' b) => if k = k' then cmpV o a b else none
    | _, _ => none
  | _ => none
theorem pv_ev {op : Op} (h : ev fr op = some v) : Pv P ⟨fr, hp, ro⟩ op v := by
  cases op with
  | move x => exact pv_move h
  | assign x => exact pv_assign h
  | nilCheck x =>
    simp only [ev] at h
    split at h
    · rename_i ad hx; simp only [Option.some.injEq] at h; subst h; exact pv_nil hx
    · cases h
  | extract x i =>
    simp only [ev] at h
    split at h
    · rename_i l hx; exact pv_extract hx h
    · cases h
  | binOp o t x y t' =>
    simp only [ev] at h
    split at h
    · rename_i k a k' b hx hy
      split at h
      · rename_i hk
        subst hk
        cases o <;> simp only [cmpV] at h <;> first | (cases h; done) | skip
        all_goals (simp only [Option.some.injEq] at h; subst h)
        · exact pv_eql hx hy
        · exact pv_neq hx hy
        · exact pv_lss hx hy
        · exact pv_leq hx hy
        · exact pv_gtr hx hy
        · exact pv_geq hx hy
      · cases h
    · cases h
  | _ => cases h
theorem g_load {T' : TypeId} (h : Pv P ⟨fr, hp, ro⟩ (.load T' x) v) : Pv P ⟨fr, hp, ro⟩ (.load T' x) v := h
theorem g_bin {o : BinOp} (h : Pv P ⟨fr, hp, ro⟩ (.binOp o t x y t') v) : Pv P ⟨fr, hp, ro⟩ (.binOp o t x y t') v := h
theorem g_un {o : UnOp} (h : Pv P ⟨fr, hp, ro⟩ (.unOp o t x) v) : Pv P ⟨fr, hp, ro⟩ (.unOp o t x) v := h
theorem g_pick (h : Pv P ⟨fr, hp, ro⟩ (.pick c x y) v) : Pv P ⟨fr, hp, ro⟩ (.pick c x y) v := h
theorem g_conv (h : Pv P ⟨fr, hp, ro⟩ (.convert t t' x) v) : Pv P ⟨fr, hp, ro⟩ (.convert t t' x) v := h
theorem g_bi {b : Builtin} {l ats} (h : Pv P ⟨fr, hp, ro⟩ (.call ⟨.builtin b, l, ats⟩) v) : Pv P ⟨fr, hp, ro⟩ (.call ⟨.builtin b, l, ats⟩) v := h
theorem g_idx (h : Pv P ⟨fr, hp, ro⟩ (.indexAddr t x y) v) : Pv P ⟨fr, hp, ro⟩ (.indexAddr t x y) v := h
theorem g_build {l} (h : Pv P ⟨fr, hp, ro⟩ (.build t l) v) : Pv P ⟨fr, hp, ro⟩ (.build t l) v := h
end
end Go.Proofs.Ytlhlidmhlhodiaa
