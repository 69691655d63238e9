/-
  Sparse frames: the operations that make or change memory. No program in sight.
-/
import Derived.Test.YtlhlidmhlhodiaaSpV
import Derived.ArgAppend
namespace Go.Proofs.Ytlhlidmhlhodiaa
set_option linter.unusedSimpArgs false
set_option linter.unusedVariables false
open Go.RowKit

inductive SetAt : List Value → Nat → Value → List Value → Prop
  | here {x l v} : SetAt (x :: l) 0 v (v :: l)
  | there {x l n v l'} (h : SetAt l n v l') : SetAt (x :: l) (n + 1) v (x :: l')
/-- the cells r laid over l from place o on -/
inductive LayAt : List Value → Nat → List Value → List Value → Prop
  | nil {l} : LayAt l 0 [] l
  | here {x l v r l'} (h : LayAt l 0 r l') : LayAt (x :: l) 0 (v :: r) (v :: l')
  | there {x l n r l'} (h : LayAt l n r l') : LayAt (x :: l) (n + 1) r (x :: l')
theorem SetAt.lay {l l' : List Value} {n : Nat} {v : Value} (h : SetAt l n v l') : LayAt l n [v] l' := by
  induction h with
  | here => exact .here .nil
  | there _ ih => exact .there ih
theorem LayAt.spec {l r l' : List Value} {n : Nat} (h : LayAt l n r l') : n + r.length ≤ l.length ∧ l' = l.take n ++ r ++ l.drop (n + r.length) := by
  induction h with
  | nil => simp
  | here h ih => refine ⟨by simp at ih ⊢; omega, ?_⟩; have := ih.2; simp at this ⊢; exact this
  | @there x l n r l' h ih =>
    refine ⟨by simp at ih ⊢; omega, ?_⟩
    rw [ih.2]
    simp [Nat.add_right_comm]
def allOne (l : List Value) : Bool := l.all Value.oneCell'
theorem allOne_mem {l : List Value} (h : allOne l = true) : ∀ v ∈ l, v.oneCell' = true := List.all_eq_true.1 h

section
variable {P : Program} {T : TypeId} {w : World}
theorem run_storeCells_lay {b o : Nat} {t : TypeId} {cur : Array Value} {r : List Value} (hg : w.heap[b]? = some (.cells cur t (0, 0))) (hf : o + r.length ≤ cur.size) (h1 : ∀ v ∈ r, v.oneCell' = true) :
    ∃ w', (storeCells ⟨b, o, none⟩ r).run P w = .ok () w' ∧ w'.heap[b]? = some (.cells (cur.toList.take o ++ r ++ cur.toList.drop (o + r.length)).toArray t (0, 0)) ∧ Frm [b] w w' := by
  have h := run_storeCells_at P b o t r 0 cur w hg (by simpa using hf) h1
  simp only [Nat.add_zero] at h
  refine ⟨_, h, setRow_heap w b cur _ t _ hg, ⟨rfl, rfl, rfl, by simp [World.setRow], fun k _ hk => ?_⟩⟩
  exact setRow_other w b k _ (fun e => hk (by simp [e]))
theorem cells_one {v : Value} (h : v.oneCell' = true) : v.cells = #[v] := by cases v <;> first | rfl | cases h
theorem run_storeAt_lay {b o : Nat} {t : TypeId} {cur : Array Value} {v : Value} {r : List Value} (hr : v.cells = r.toArray) (hT : (sizeOf T).run P w = .ok r.length w) (hg : w.heap[b]? = some (.cells cur t (0, 0))) (hf : o + r.length ≤ cur.size) (h1 : ∀ v ∈ r, v.oneCell' = true) :
    ∃ w', (Instr.storeAt T (.pointer (some ⟨b, o, none⟩)) v).run P w = .ok () w' ∧ w'.heap[b]? = some (.cells (cur.toList.take o ++ r ++ cur.toList.drop (o + r.length)).toArray t (0, 0)) ∧ Frm [b] w w' := by
  obtain ⟨w', h2, h3, h4⟩ := run_storeCells_lay (P := P) hg hf h1
  refine ⟨w', ?_, h3, h4⟩
  have hne : ¬ (r.toArray.size ≠ r.length) := by simp
  simp only [Instr.storeAt, Instr.sureAddr, storeVar, Sem.run_bind, Sem.run_pure, Result.andThen_ok, hT, hr, hne, if_false]
  exact h2
end

section
variable {P : Program} {N : Nat} {E : Env} {fr : List (Nat × Value)} {hp : List It} {ro : List Ro} {Kn : St → Prop} {ops : Array Oper} {rest : List Oper} {dst : Option Tmp} {ty : TypeId} {pos : String} {af : Array Edge} {T : TypeId} {x y : Operand} {v : Value} {F : List It}

/-- an item is laid anew -/
theorem Sat.relay {w w' : World} {b : Nat} {o o' : Obj} (hf : Frm [b] w w') (hs : w'.heap[b]? = some o') : Sat w (feet [It.ob b o]) [] [.ob b o'] [] w' :=
  Sat.one (by simpa [feet, It.foot] using hf) hs (fun c hc => .inl (by simp only [It.foot, Option.some.injEq] at hc; simp [feet, It.foot, hc]))
theorem wo_st {b o : Nat} {l l' : List Value} {t : TypeId} [TOne P T] (hx : opd fr x = some (.pointer (some ⟨b, o, none⟩))) (hy : opd fr y = some v) (h1 : v.oneCell' = true)
    (hs : hp.Perm (.ob b (.cells l.toArray t (0, 0)) :: F)) (hl : SetAt l o v l') (hd : dstOk dst N = true)
    (h : WO P N E ops rest ⟨putF dst undef fr, .ob b (.cells l'.toArray t (0, 0)) :: F, ro⟩ Kn) : WO P N E ops (⟨dst, .store T x y, ty, pos, af, none⟩ :: rest) ⟨fr, hp, ro⟩ Kn :=
  wo_eff_skip (L := [_]) hs hd fun a w ok => by
    obtain ⟨hf, rfl⟩ := hl.lay.spec
    obtain ⟨w', h2, h3, h4⟩ := run_storeAt_lay (P := P) (T := T) (r := [v]) (cells_one h1) run_sizeOf_one (show w.heap[b]? = _ from ok.s.get hs) (by simpa using hf) (by simpa using h1)
    refine ⟨_, w', ?_, Sat.relay h4 h3, by simpa using h⟩
    simp only [execOp, ok.h.eval hx, ok.h.eval hy, Sem.run_bind, h2]; rfl
theorem wo_sta {b o n : Nat} {l l' r : List Value} {t : TypeId} [TAgg P T n] (hx : opd fr x = some (.pointer (some ⟨b, o, none⟩))) (hy : opd fr y = some (.agg r.toArray)) (hn : Nat.beq r.length n = true) (h1 : allOne r = true)
    (hs : hp.Perm (.ob b (.cells l.toArray t (0, 0)) :: F)) (hl : LayAt l o r l') (hd : dstOk dst N = true)
    (h : WO P N E ops rest ⟨putF dst undef fr, .ob b (.cells l'.toArray t (0, 0)) :: F, ro⟩ Kn) : WO P N E ops (⟨dst, .store T x y, ty, pos, af, none⟩ :: rest) ⟨fr, hp, ro⟩ Kn :=
  wo_eff_skip (L := [_]) hs hd fun a w ok => by
    obtain ⟨hf, rfl⟩ := hl.spec
    have hn := Nat.eq_of_beq_eq_true hn
    subst hn
    obtain ⟨w', h2, h3, h4⟩ := run_storeAt_lay (P := P) (T := T) (v := .agg r.toArray) rfl run_sizeOf_agg (show w.heap[b]? = _ from ok.s.get hs) (by simpa using hf) (allOne_mem h1)
    refine ⟨_, w', ?_, Sat.relay h4 h3, by simpa using h⟩
    simp only [execOp, ok.h.eval hx, ok.h.eval hy, Sem.run_bind, h2]; rfl

/-- a new block -/
theorem Sat.fresh {w : World} (o : Obj) : Sat w (feet []) [] [.ob w.heap.size o] [] (w.alloc o) :=
  Sat.one ⟨rfl, rfl, rfl, by simp, fun k hk _ => Below.heap_alloc w o k hk⟩ (heap_alloc_new w o) (fun b hb => .inr (by simp only [It.foot, Option.some.injEq] at hb; omega))
theorem wo_box1 {d : Nat} (hx : opd fr x = some v) (h1 : v.oneCell' = true) (hd : Nat.ble (d + 1) N = true)
    (h : ∀ b, WO P N E ops rest ⟨(d, .pointer (some ⟨b, 0, none⟩)) :: fr, .ob b (.cells #[v] T (0, 0)) :: hp, ro⟩ Kn) : WO P N E ops (⟨some d, .box T x, ty, pos, af, none⟩ :: rest) ⟨fr, hp, ro⟩ Kn :=
  wo_eff (L := []) (.refl _) hd fun a w ok => ⟨.pointer (some ⟨w.heap.size, 0, none⟩), _, _, by
    simp only [execOp, ok.h.eval hx, Instr.box, newVar, newRow, newObj, cells_one h1]; rfl, Sat.fresh _, h _⟩
theorem wo_boxa {d : Nat} {l : List Value} (hx : opd fr x = some (.agg l.toArray)) (hd : Nat.ble (d + 1) N = true)
    (h : ∀ b, WO P N E ops rest ⟨(d, .pointer (some ⟨b, 0, none⟩)) :: fr, .ob b (.cells l.toArray T (0, 0)) :: hp, ro⟩ Kn) : WO P N E ops (⟨some d, .box T x, ty, pos, af, none⟩ :: rest) ⟨fr, hp, ro⟩ Kn :=
  wo_eff (L := []) (.refl _) hd fun a w ok => ⟨.pointer (some ⟨w.heap.size, 0, none⟩), _, _, by
    simp only [execOp, ok.h.eval hx, Instr.box, newVar, newRow, newObj]; rfl, Sat.fresh _, h _⟩
theorem run_zeroValue {z : List Value} [hz : TZ P T z] {w : World} : ∃ v, (zeroValue T).run P w = .ok v w ∧ v.cells = z.toArray := by
  obtain ⟨i, v, h1, h2, h3⟩ := ze_und hz.h
  exact ⟨v, by simp [zeroValue, typeInfo, h1, h2, go_sem], by rw [← h3]⟩
theorem wo_alloc {d : Nat} {z : List Value} [TZ P T z] (hd : Nat.ble (d + 1) N = true)
    (h : ∀ b, WO P N E ops rest ⟨(d, .pointer (some ⟨b, 0, none⟩)) :: fr, .ob b (.cells z.toArray T (0, 0)) :: hp, ro⟩ Kn) : WO P N E ops (⟨some d, .alloc T, ty, pos, af, none⟩ :: rest) ⟨fr, hp, ro⟩ Kn :=
  wo_eff (L := []) (.refl _) hd fun a w ok => by
    obtain ⟨v, hv, hc⟩ := run_zeroValue (P := P) (T := T) (w := w)
    refine ⟨.pointer (some ⟨w.heap.size, 0, none⟩), _, w.alloc (.cells z.toArray T), ?_, Sat.fresh _, h _⟩
    simp only [execOp, Instr.alloc, Sem.run_bind, hv, Result.andThen_ok, newVar, newRow, newObj, hc]; rfl

/-! structs by value -/
inductive Bld (P : Program) (T : TypeId) : List Value → List (Nat × Operand) → List (Nat × Value) → List Value → Prop
  | nil {fr z} : Bld P T z [] fr z
  | one {fr z z' r i x v rest off} [FS P T i off 1] (hx : opd fr x = some v) (h1 : v.oneCell' = true) (hz : SetAt z off v z') (h : Bld P T z' rest fr r) : Bld P T z ((i, x) :: rest) fr r
  | agg {fr z z' r i x l rest off sz} [FS P T i off sz] (hx : opd fr x = some (.agg (List.toArray l))) (hn : Nat.beq l.length sz = true) (hz : LayAt z off l z') (h : Bld P T z' rest fr r) : Bld P T z ((i, x) :: rest) fr r
theorem foldl_lay : ∀ (r : List Value) (z z' : List Value) (o j : Nat), LayAt z (o + j) r z' →
    ((r.zipIdx j).foldl (fun (cs : Array Value) (p : Value × Nat) => cs.setIfInBounds (o + p.2) p.1) z.toArray) = z'.toArray
  | [], z, z', o, j, h => by
    have := h.spec.2
    simp at this
    simp [this]
  | v :: r, z, z', o, j, h => by
    rw [List.zipIdx_cons, List.foldl_cons]
    simp only
    obtain ⟨h1, h2⟩ := h.spec
    have hlen : o + j < z.length := by simp at h1; omega
    have hset : z.toArray.setIfInBounds (o + j) v = (z.set (o + j) v).toArray := by simp
    rw [hset]
    refine foldl_lay r _ z' o (j + 1) ?_
    have key : ∀ (z : List Value) (n : Nat) (z' : List Value), LayAt z n (v :: r) z' → LayAt (z.set n v) (n + 1) r z' := by
      intro z n z' hh
      generalize hr : v :: r = rr at hh
      induction hh with
      | nil => cases hr
      | here h _ => injection hr with e1 e2; subst e1; subst e2; exact .there h
      | there h ih => exact .there (ih hr)
    exact key z (o + j) z' h
theorem fill_bld {i off : Nat} {place : Nat → Option (Nat × Nat)} {z z' l : List Value} {v : Value} {rest : List (Nat × Value)} (hp : place i = some (off, l.length)) (hv : v.cells = l.toArray) (hz : LayAt z off l z') :
    Instr.fill place z.toArray ((i, v) :: rest) = Instr.fill place z'.toArray rest := by
  have h1 : v.cells.size = l.length := by rw [hv]; simp
  have h2 := hz.spec.1
  have h3 : ¬ ((v.cells.size ≠ l.length || off + v.cells.size > z.toArray.size) = true) := by simp [h1]; omega
  have h4 := foldl_lay l z z' off 0 hz
  rw [Instr.fill]
  simp only [hp]
  rw [if_neg h3, hv, ← Array.foldl_toList, Array.toList_zipIdx]
  exact congrArg (fun c => Instr.fill place c rest) h4
theorem mapM_places {fs : Array Field} (P : Program) (w : World) (h : ∀ f ∈ fs, ∃ i, P.info? f.type = some i) :
    (fs.mapM fun f => do pure (f.offset, ← sizeOf f.type) : Sem (Array (Nat × Nat))).run P w = .ok (fs.map fun f => (f.offset, P.cellsOf f.type)) w := by
  have key : ∀ l : List Field, (∀ f ∈ l, ∃ i, P.info? f.type = some i) → (l.mapM fun f => do pure (f.offset, ← sizeOf f.type) : Sem (List (Nat × Nat))).run P w = .ok (l.map fun f => (f.offset, P.cellsOf f.type)) w := by
    intro l
    induction l with
    | nil => intro _; rfl
    | cons f l ih =>
      intro hl
      obtain ⟨i, hi⟩ := hl f (.head _)
      have h1 : (sizeOf f.type).run P w = .ok (P.cellsOf f.type) w := by simp [sizeOf, typeInfo, hi, Program.cellsOf, go_sem]
      rw [List.mapM_cons]
      simp only [Sem.run_bind, h1, Result.andThen_ok, Sem.run_pure, ih (fun g hg => hl g (.tail _ hg)), List.map_cons]
  rw [Array.mapM_eq_mapM_toList, Sem.run_map, key _ (fun f hf => h f (by simpa using hf))]
  simp [Result.andThen]
  exact Array.ext' (by simp)
class TSt (P : Program) (T : TypeId) : Prop where h : (match P.underlying T with | some (.struct fs) => fs.all fun f => (P.info? f.type).isSome | _ => false) = true
theorem pv_build {z r : List Value} {l : List (Nat × Operand)} [TSt P T] [TZ P T z] (hb : Bld P T z l fr r) : Pv P ⟨fr, hp, ro⟩ (.build T l.toArray) (.agg r.toArray) := fun N E a w dst ty pos af g ok => by
  have hT := TSt.h (P := P) (T := T)
  split at hT <;> first | (exfalso; revert hT; simp; done) | skip
  rename_i fs hfs
  obtain ⟨zv, hzv, hzc⟩ := run_zeroValue (P := P) (T := T) (w := w)
  have hpl := mapM_places (fs := fs) P w (fun f hf => by
    have := Array.all_eq_true'.1 hT f hf
    exact Option.isSome_iff_exists.1 this)
  have hfill : ∀ {z r : List Value} {l : List (Nat × Operand)} {fr : List (Nat × Value)}, Bld P T z l fr r → Holds N fr a →
      Instr.fill (fun i => (fs.map fun f => (f.offset, P.cellsOf f.type))[i]?) z.toArray (l.map fun p => (p.1, a.eval p.2)) = some r.toArray := by
    intro z r l fr hb hfr
    have place : ∀ {i off sz : Nat}, FS P T i off sz → (fs.map fun f => (f.offset, P.cellsOf f.type))[i]? = some (off, sz) := by
      intro i off sz hF
      obtain ⟨fs', f, inf, h1, h2, h3, h4, h5, _⟩ := fs_und hF.h
      have : fs = fs' := by rw [hfs] at h1; injection h1 with h1; injection h1
      subst this
      simp [h2, Program.cellsOf, h3, h4, h5]
    induction hb with
    | nil => rfl
    | one hx h1 hz _ ih =>
      rename_i hF _
      rw [List.map_cons, fill_bld (l := [_]) (place hF) (by rw [hfr.eval hx]; exact cells_one h1) hz.lay]
      exact ih hfr
    | agg hx hn hz _ ih =>
      rename_i hF _
      rw [List.map_cons, fill_bld (place (by rw [Nat.eq_of_beq_eq_true hn]; exact hF)) (by rw [hfr.eval hx]; rfl) hz]
      exact ih hfr
  have h1 := hfill hb ok.h
  simp only [execOp, Instr.build, Sem.run_bind, hzv, Result.andThen_ok, run_underlying hfs, hpl, hzc, Sem.run_pure]
  have e : (List.map (fun (x : Nat × Operand) => match x with | (i, x) => (i, a.eval x)) l) = l.map (fun p => (p.1, a.eval p.2)) := rfl
  simp only [List.map_toArray, e, h1]
  rfl
end
/-! what a map's type is; a type's zero as one value -/
class TMap (P : Program) (T : TypeId) (k e : outParam TypeId) : Prop where h : P.underlying T = some (.map k e)
class TZV (P : Program) (T : TypeId) (v : outParam Value) : Prop where h : ((P.info? T).bind (·.zero)) = some v
theorem run_zeroV {P : Program} {T : TypeId} {v : Value} [hz : TZV P T v] {w : World} : (zeroValue T).run P w = .ok v w := by
  have h := hz.h
  cases h1 : P.info? T with
  | none => rw [h1] at h; cases h
  | some i =>
    rw [h1] at h
    simp only [Option.bind_some] at h
    simp [zeroValue, typeInfo, h1, h, go_sem]
end Go.Proofs.Ytlhlidmhlhodiaa
