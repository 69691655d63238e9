/-
  Texts of this proof, laid together (part 3 of 7).
-/
import Derived.Test.YteaccbbmphcmnaaB2
import Derived.MapKept
import Derived.Carry
/-
  Sparse frames: maps with whole-number keys, known whole. No program in sight.
-/
namespace Go.Proofs.Yteaccbbmphcmnaa
set_option linter.unusedSimpArgs false
set_option linter.unusedVariables false
open Go.RowKit

def mEnt (k : IntKind) : Nat → List (Int × Value) → List MapEntry
  | _, [] => []
  | n, (a, v) :: l => ⟨.int k a, v, n⟩ :: mEnt k (n + 1) l
abbrev mob (k : IntKind) (l : List (Int × Value)) : Obj := .map (mEnt k 0 l).toArray l.length
def alook : List (Int × Value) → Int → Option Value
  | [], _ => none
  | (a, v) :: l, x => if x = a then some v else alook l x
def aidx : List (Int × Value) → Int → Nat
  | [], _ => 0
  | (a, _) :: l, x => if x = a then 0 else aidx l x + 1
def aset : List (Int × Value) → Int → Value → List (Int × Value)
  | [], x, v => [(x, v)]
  | (a, u) :: l, x, v => if x = a then (a, v) :: l else (a, u) :: aset l x v
theorem mEnt_len (k : IntKind) : ∀ (l : List (Int × Value)) (n : Nat), (mEnt k n l).length = l.length
  | [], _ => rfl
  | _ :: l, n => by simp [mEnt, mEnt_len k l]
theorem alook_set (l : List (Int × Value)) (x : Int) (v : Value) (y : Int) : alook (aset l x v) y = if y = x then some v else alook l y := by
  induction l with
  | nil => simp [aset, alook]
  | cons p l ih =>
    obtain ⟨a, u⟩ := p
    unfold aset
    by_cases h : x = a
    · subst h; simp only [if_true, alook]
      by_cases h2 : y = x <;> simp [h2]
    · simp only [if_neg h, alook, ih]
      by_cases h2 : y = a
      · subst h2; simp [Ne.symm h]
      · simp [h2]
theorem aidx_lt {l : List (Int × Value)} {x : Int} {v : Value} (h : alook l x = some v) : aidx l x < l.length := by
  induction l with
  | nil => cases h
  | cons p l ih =>
    obtain ⟨a, u⟩ := p
    unfold alook at h
    unfold aidx
    by_cases h2 : x = a
    · simp [h2]
    · rw [if_neg h2] at h ⊢
      have := ih h
      simp; omega
theorem aidx_le (l : List (Int × Value)) (x : Int) : aidx l x ≤ l.length := by
  induction l with
  | nil => simp [aidx]
  | cons p l ih =>
    obtain ⟨a, u⟩ := p
    unfold aidx
    by_cases h2 : x = a
    · simp [h2]
    · rw [if_neg h2]; simp; omega
theorem aidx_none {l : List (Int × Value)} {x : Int} (h : alook l x = none) : aidx l x = l.length := by
  induction l with
  | nil => rfl
  | cons p l ih =>
    obtain ⟨a, u⟩ := p
    unfold alook at h
    unfold aidx
    by_cases h2 : x = a
    · rw [if_pos h2] at h; cases h
    · rw [if_neg h2] at h ⊢
      rw [ih h]; simp
theorem aset_none {l : List (Int × Value)} {x : Int} (v : Value) (h : alook l x = none) : aset l x v = l ++ [(x, v)] := by
  induction l with
  | nil => rfl
  | cons p l ih =>
    obtain ⟨a, u⟩ := p
    unfold alook at h
    unfold aset
    by_cases h2 : x = a
    · rw [if_pos h2] at h; cases h
    · rw [if_neg h2] at h ⊢
      rw [ih h]; rfl
theorem aset_same {l : List (Int × Value)} {x : Int} {v : Value} (h : alook l x = some v) : aset l x v = l := by
  induction l with
  | nil => cases h
  | cons p l ih =>
    obtain ⟨a, u⟩ := p
    unfold alook at h
    unfold aset
    by_cases h2 : x = a
    · rw [if_pos h2] at h ⊢; cases h; rfl
    · rw [if_neg h2] at h ⊢
      rw [ih h]
theorem aset_len_some {l : List (Int × Value)} {x : Int} {u : Value} (v : Value) (h : alook l x = some u) : (aset l x v).length = l.length := by
  induction l with
  | nil => cases h
  | cons p l ih =>
    obtain ⟨a, u⟩ := p
    unfold alook at h
    unfold aset
    by_cases h2 : x = a
    · rw [if_pos h2]; rfl
    · rw [if_neg h2] at h ⊢
      simp [ih h]
theorem aset_len_none {l : List (Int × Value)} {x : Int} (v : Value) (h : alook l x = none) : (aset l x v).length = l.length + 1 := by
  rw [aset_none v h]; simp
theorem aset_len_le (l : List (Int × Value)) (x : Int) (v : Value) : (aset l x v).length ≤ l.length + 1 := by
  cases h : alook l x with
  | none => rw [aset_len_none v h]; omega
  | some u => rw [aset_len_some v h]; omega
theorem aset_aset (l : List (Int × Value)) (x : Int) (u v : Value) : aset (aset l x u) x v = aset l x v := by
  induction l with
  | nil => simp [aset]
  | cons p l ih =>
    obtain ⟨a, z⟩ := p
    by_cases h2 : x = a
    · subst h2; simp [aset]
    · simp [aset, h2, ih]
theorem aidx_set (l : List (Int × Value)) (x : Int) (v : Value) : aidx (aset l x v) x = aidx l x := by
  induction l with
  | nil => simp [aset, aidx]
  | cons p l ih =>
    obtain ⟨a, z⟩ := p
    by_cases h2 : x = a
    · subst h2; simp [aset, aidx]
    · simp [aset, aidx, h2, ih]
theorem findNow_m (k : IntKind) (x : Int) : ∀ (l : List (Int × Value)) (n i : Nat), Instr.findNow (.int k) (.int k x) (mEnt k n l) i = some ((alook l x).map fun v => (i + aidx l x, v))
  | [], _, _ => rfl
  | (a, v) :: l, n, i => by
    have e : Instr.sameNow (.int k) (.int k x) (.int k a) = some (x == a) := by simp [Instr.sameNow]
    unfold mEnt Instr.findNow
    rw [e]
    by_cases h : x = a
    · subst h; simp [alook, aidx]
    · have hb : (x == a) = false := by simpa using h
      rw [hb]
      simp only [findNow_m k x l (n + 1) (i + 1), alook, aidx, if_neg h]
      cases alook l x <;> simp; omega
theorem mEnt_modify (k : IntKind) (x : Int) (v : Value) : ∀ (l : List (Int × Value)) (n : Nat) {u : Value}, alook l x = some u → (mEnt k n l).modify (aidx l x) (fun e => { e with key := .int k x, val := v }) = mEnt k n (aset l x v)
  | [], _, _, h => by cases h
  | (a, z) :: l, n, u, h => by
    unfold alook at h
    by_cases h2 : x = a
    · subst h2; simp [aset, aidx, mEnt]
    · rw [if_neg h2] at h
      simp only [aset, aidx, if_neg h2, mEnt, List.modify_succ_cons, mEnt_modify k x v l (n + 1) h]
theorem mEnt_modify' (k : IntKind) (x : Int) : ∀ (l : List (Int × Value)) (n : Nat) {u : Value}, alook l x = some u → (mEnt k n l).modify (aidx l x) (fun e => { e with key := .int k x }) = mEnt k n l
  | [], _, _, h => by cases h
  | (a, z) :: l, n, u, h => by
    unfold alook at h
    by_cases h2 : x = a
    · subst h2; simp [aidx, mEnt]
    · rw [if_neg h2] at h
      simp only [aidx, if_neg h2, mEnt, List.modify_succ_cons, mEnt_modify' k x l (n + 1) h]
theorem mEnt_modv (k : IntKind) (x : Int) (v : Value) : ∀ (l : List (Int × Value)) (n : Nat) {u : Value}, alook l x = some u → (mEnt k n l).modify (aidx l x) (fun e => { e with val := v }) = mEnt k n (aset l x v)
  | [], _, _, h => by cases h
  | (a, z) :: l, n, u, h => by
    unfold alook at h
    by_cases h2 : x = a
    · subst h2; simp [aset, aidx, mEnt]
    · rw [if_neg h2] at h
      simp only [aset, aidx, if_neg h2, mEnt, List.modify_succ_cons, mEnt_modv k x v l (n + 1) h]
theorem mEnt_at (k : IntKind) (x : Int) : ∀ (l : List (Int × Value)) (n : Nat) {u : Value}, alook l x = some u → (mEnt k n l)[aidx l x]? = some ⟨.int k x, u, n + aidx l x⟩
  | [], _, _, h => by cases h
  | (a, z) :: l, n, u, h => by
    unfold alook at h
    by_cases h2 : x = a
    · subst h2
      rw [if_pos rfl] at h; cases h
      simp [aidx, mEnt]
    · rw [if_neg h2] at h
      simp only [aidx, if_neg h2, mEnt, List.getElem?_cons_succ, mEnt_at k x l (n + 1) h]
      simp; omega
theorem mEnt_push (k : IntKind) (x : Int) (v : Value) : ∀ (l : List (Int × Value)) (n : Nat), mEnt k n l ++ [⟨.int k x, v, n + l.length⟩] = mEnt k n (l ++ [(x, v)])
  | [], _ => rfl
  | (a, z) :: l, n => by
    have := mEnt_push k x v l (n + 1)
    simp only [mEnt, List.cons_append, List.length_cons, List.cons.injEq, true_and]
    rw [← this]
    have e : n + (l.length + 1) = n + 1 + l.length := by omega
    rw [e]
theorem mEnt_find (k : IntKind) : ∀ (l : List (Int × Value)) (n j : Nat), j < l.length → (mEnt k n l).findIdx? (fun e => (e.born : Int) == ((n + j : Nat) : Int)) = some j
  | [], _, _, h => by simp at h
  | (a, z) :: l, n, 0, h => by simp [mEnt, List.findIdx?_cons]
  | (a, z) :: l, n, j + 1, h => by
    have h' := mEnt_find k l (n + 1) j (by simpa using h)
    have e : n + 1 + j = n + (j + 1) := by omega
    rw [e] at h'
    unfold mEnt
    rw [List.findIdx?_cons]
    have hb : (((n : Nat) : Int) == ((n + (j + 1) : Nat) : Int)) = false := by simp; omega
    simp only [hb]
    rw [h']; rfl
/-! contracts of the older kind turned into these -/
section
variable {P : Program} {f : FuncId} {args : Array Value} {g : Nat} {T : TypeId} {cs : Array Value}
theorem sat_none {w w' : World} (h : Below w.heap.size w w') : Sat w (feet []) (blks []) [] [] w' :=
  ⟨⟨h.os, h.tape, h.output, h.size, fun k hk _ => h.block k hk⟩, (by intro x hx; cases hx), (by intro x hx; cases hx), .nil, (by intro r hr; cases hr), (by intro r hr; cases hr), (by intro r hr; cases hr)⟩
theorem fn_pure {v : Value} (h : ∀ w, Calls P f args w fun e w' => e = .returned v ∧ Below w.heap.size w w') : Fn P f args [] [] (fun u L' R' => u = v ∧ L' = [] ∧ R' = []) :=
  fun w _ => (h w).mono fun _ _ ⟨h1, h2⟩ => ⟨v, [], [], h1, ⟨rfl, rfl, rfl⟩, sat_none h2⟩
theorem fn_blk {Q : Value → Array Value → Prop} (h : ∀ w, Blk w g T cs → Calls P f args w fun e w' => ∃ v cs', e = .returned v ∧ Q v cs' ∧ Blk w' g T cs' ∧ w.grownBy w' (some g)) :
    Fn P f args [.ob g (.cells cs T (0, 0))] [] (fun u L' R' => ∃ cs', Q u cs' ∧ L' = [.ob g (.cells cs' T (0, 0))] ∧ R' = []) :=
  fun w hw => (h w (hw.sat _ (.head _))).mono fun _ _ ⟨v, cs', h1, h2, h3, h4⟩ => ⟨v, _, [], h1, ⟨cs', h2, rfl, rfl⟩, Sat.relay (by simpa using Frm.grown h4) h3⟩
theorem fn_read {v : Value} (h : ∀ w, Blk w g T cs → Calls P f args w fun e w' => e = .returned v ∧ w = w') :
    Fn P f args [.ob g (.cells cs T (0, 0))] [] (fun u L' R' => u = v ∧ L' = [.ob g (.cells cs T (0, 0))] ∧ R' = []) :=
  fun w hw => (h w (hw.sat _ (.head _))).mono fun _ _ ⟨h1, h2⟩ => ⟨v, _, [], h1, ⟨rfl, rfl, rfl⟩, by subst h2; exact hw⟩
theorem fn_new {Q : Array Value → Prop} (h : ∀ w, Calls P f args w fun e w' => ∃ g cs, e = .returned (.pointer (some ⟨g, 0, none⟩)) ∧ Q cs ∧ Blk w' g T cs ∧ w.heap.size ≤ g ∧ Below w.heap.size w w') :
    Fn P f args [] [] (fun u L' R' => ∃ g cs, u = .pointer (some ⟨g, 0, none⟩) ∧ Q cs ∧ L' = [.ob g (.cells cs T (0, 0))] ∧ R' = []) :=
  fun w _ => (h w).mono fun _ w' ⟨g, cs, h1, h2, h3, h4, h5⟩ => ⟨_, _, [], h1, ⟨g, cs, rfl, h2, rfl, rfl⟩, Sat.one (L := []) ⟨h5.os, h5.tape, h5.output, h5.size, fun k hk _ => h5.block k hk⟩ h3 (fun b hb => by
    simp only [It.foot, Option.some.injEq] at hb; subst hb; exact .inr h4)⟩
end
section
variable {P : Program} {N : Nat} {E : Env} {fr : List (Nat × Value)} {hp : List It} {ro : List Ro} {Kn Kr : St → Prop} {ops : Array Oper} {rest : List Oper} {dst : Option Tmp} {ty t : TypeId} {pos : String} {af : Array Edge} {F : List It} {x y z : Operand} {k : IntKind} {b : Nat} {l : List (Int × Value)} {a : Int} {v : Value} {kt e : TypeId}
theorem pv_mlook {zv : Value} [ht : TMap P t kt e] [hk : TInt P kt k] [hz : TZV P e zv] (hx : opd fr x = some (.map (some b))) (hy : opd fr y = some (.int k a)) (hs : hp.Perm (.ob b (mob k l) :: F)) :
    Pv P ⟨fr, hp, ro⟩ (.lookup t x y true) (.tuple #[(alook l a).getD zv, .bool (alook l a).isSome]) := fun N E ac w dst ty pos af g ok => by
  have hb : w.heap[b]? = some (mob k l) := ok.s.get hs
  simp only [execOp, ok.h.eval hx, ok.h.eval hy]
  have h1 := findNow_m k a l 0 0
  have hf := MapKept.run_findKey (P := P) (w := w) hk.h h1
  have hc : ∀ em, (Instr.checkKey em 10000 kt (.int k a)).run P w = .ok () w := fun em => MapKept.run_checkKey hk.h (by simp [MapKept.IsKey]) em 9999
  cases h : alook l a with
  | none => rw [h] at hf; simp [Instr.lookup, run_underlying ht.h, MapKept.run_getObj_map hb, hc, hf, Result.andThen, run_zeroV (P := P) (T := e)]
  | some u => rw [h] at hf; simp [Instr.lookup, run_underlying ht.h, MapKept.run_getObj_map hb, hc, hf, Result.andThen]
theorem pv_mlook1 {zv : Value} [ht : TMap P t kt e] [hk : TInt P kt k] [hz : TZV P e zv] (hx : opd fr x = some (.map (some b))) (hy : opd fr y = some (.int k a)) (hs : hp.Perm (.ob b (mob k l) :: F)) :
    Pv P ⟨fr, hp, ro⟩ (.lookup t x y false) ((alook l a).getD zv) := fun N E ac w dst ty pos af g ok => by
  have hb : w.heap[b]? = some (mob k l) := ok.s.get hs
  simp only [execOp, ok.h.eval hx, ok.h.eval hy]
  have h1 := findNow_m k a l 0 0
  have hf := MapKept.run_findKey (P := P) (w := w) hk.h h1
  have hc : ∀ em, (Instr.checkKey em 10000 kt (.int k a)).run P w = .ok () w := fun em => MapKept.run_checkKey hk.h (by simp [MapKept.IsKey]) em 9999
  cases h : alook l a with
  | none => rw [h] at hf; simp [Instr.lookup, run_underlying ht.h, MapKept.run_getObj_map hb, hc, hf, Result.andThen, run_zeroV (P := P) (T := e)]
  | some u => rw [h] at hf; simp [Instr.lookup, run_underlying ht.h, MapKept.run_getObj_map hb, hc, hf, Result.andThen]
theorem pv_min3 {k : IntKind} {a b c : Int} {ats : Array TypeId} (hx : opd fr x = some (.int k a)) (hy : opd fr y = some (.int k b)) (hz : opd fr z = some (.int k c)) : Pv P ⟨fr, hp, ro⟩ (.call ⟨.builtin .min, #[x, y, z], ats⟩) (.int k (min (min a b) c)) := fun N E ac w dst ty pos af g ok => by
  have e : (if b < a then b else a) = min a b := by omega
  have e2 : (if c < min a b then c else min a b) = min (min a b) c := by omega
  simp only [execOp, resolve, List.map_toArray, List.map_cons, List.map_nil, ok.h.eval hx, ok.h.eval hy, ok.h.eval hz]; simp [invoke, builtin, Builtin.min_, Builtin.min2, e, e2, go_sem]
/-! rows of strings that came in -/
def sseg (S : Nat → ByteArray) (n : Nat) : List (List Value) := (List.range n).map fun i => [.string (S i)]
theorem sseg_at {S : Nat → ByteArray} {n i : Nat} (h : i < n) : (sseg S n)[i]? = some [.string (S i)] := by simp [sseg, h]
theorem rws_s {w : World} {A : Option Addr} {n c : Nat} {V : Nat → Nat → Value} (h : Rws [.string] w A n c V) :
    ∃ (S : Nat → ByteArray) (R : List Ro), (∀ r ∈ R, r.sat w) ∧ (∀ i, i < n → (S i).size ≤ maxLen) ∧ (0 < n → ∃ b o, A = some ⟨b, o, none⟩ ∧ ⟨b, o, 1, sseg S n⟩ ∈ R) ∧ n ≤ 9223372036854775807 := by
  obtain ⟨R, hR, h0⟩ := rws_ro h (by simp)
  obtain ⟨h1, h2, _, h4⟩ := h
  refine ⟨fun i => match V i 0 with | .string z => z | _ => ByteArray.empty, R, hR, fun i hi => ?_, fun hn => ?_, by unfold maxLen at h2; omega⟩
  · obtain ⟨z, hz, hw⟩ := h4 i 0 _ hi rfl
    simp only [hz]
    exact hw
  · obtain ⟨b, o, hA, hm⟩ := h0 hn
    refine ⟨b, o, hA, ?_⟩
    have e : rowsOf [.string] V n = sseg (fun i => match V i 0 with | .string z => z | _ => ByteArray.empty) n := by
      unfold rowsOf sseg
      refine List.map_congr_left fun i hi => ?_
      obtain ⟨z, hz, _⟩ := h4 i 0 _ (List.mem_range.1 hi) rfl
      simp [hz]
    rw [← e]; exact hm
theorem g_lk {c : Bool} (h : Pv P ⟨fr, hp, ro⟩ (.lookup t x y c) v) : Pv P ⟨fr, hp, ro⟩ (.lookup t x y c) v := h
theorem pv_mlk_s [ht : TMap P t kt e] [hk : TInt P kt k] {zv : Value} [hz : TZV P e zv] (hx : opd fr x = some (.map (some b))) (hy : opd fr y = some (.int k a)) (hs : hp.Perm (.ob b (mob k l) :: F)) (hl : alook l a = some v) : Pv P ⟨fr, hp, ro⟩ (.lookup t x y false) v := by
  have := pv_mlook1 (P := P) (ro := ro) hx hy hs (t := t); rwa [hl] at this
theorem pv_mlk_n [ht : TMap P t kt e] [hk : TInt P kt k] {zv : Value} [hz : TZV P e zv] (hx : opd fr x = some (.map (some b))) (hy : opd fr y = some (.int k a)) (hs : hp.Perm (.ob b (mob k l) :: F)) (hl : alook l a = none) : Pv P ⟨fr, hp, ro⟩ (.lookup t x y false) zv := by
  have := pv_mlook1 (P := P) (ro := ro) hx hy hs (t := t); rwa [hl] at this
theorem pv_mlko_s [ht : TMap P t kt e] [hk : TInt P kt k] {zv : Value} [hz : TZV P e zv] (hx : opd fr x = some (.map (some b))) (hy : opd fr y = some (.int k a)) (hs : hp.Perm (.ob b (mob k l) :: F)) (hl : alook l a = some v) : Pv P ⟨fr, hp, ro⟩ (.lookup t x y true) (.tuple #[v, .bool true]) := by
  have := pv_mlook (P := P) (ro := ro) hx hy hs (t := t); rwa [hl] at this
theorem pv_mlko_n [ht : TMap P t kt e] [hk : TInt P kt k] {zv : Value} [hz : TZV P e zv] (hx : opd fr x = some (.map (some b))) (hy : opd fr y = some (.int k a)) (hs : hp.Perm (.ob b (mob k l) :: F)) (hl : alook l a = none) : Pv P ⟨fr, hp, ro⟩ (.lookup t x y true) (.tuple #[zv, .bool false]) := by
  have := pv_mlook (P := P) (ro := ro) hx hy hs (t := t); rwa [hl] at this
theorem pv_mlen [ht : TMap P t kt e] (hx : opd fr x = some (.map (some b))) (hs : hp.Perm (.ob b (mob k l) :: F)) : Pv P ⟨fr, hp, ro⟩ (.call ⟨.builtin .len, #[x], #[t]⟩) (.int .i64 l.length) := fun N E ac w dst ty pos af g ok => by
  have hb : w.heap[b]? = some (mob k l) := ok.s.get hs
  simp only [execOp, resolve, List.map_toArray, List.map_cons, List.map_nil, ok.h.eval hx]; simp [invoke, builtin, Builtin.len_, run_underlying ht.h, MapKept.run_getObj_map hb, Result.andThen, goInt, mEnt_len, go_sem]
theorem wo_mmake {d : Nat} (k : IntKind) (hd : Nat.ble (d + 1) N = true)
    (h : ∀ b, WO P N E ops rest ⟨(d, .map (some b)) :: fr, .ob b (mob k []) :: hp, ro⟩ Kn) : WO P N E ops (⟨some d, .makeMap t none, ty, pos, af, none⟩ :: rest) ⟨fr, hp, ro⟩ Kn :=
  wo_eff (L := []) (.refl _) hd fun a w ok => ⟨.map (some w.heap.size), _, w.alloc (.map #[] 0), by simp only [execOp, Option.map_none, Sem.run_bind, run_makeMap, Result.andThen_ok]; rfl, Sat.fresh _, h _⟩
theorem set_frm {w : World} {b : Nat} {o o' : Obj} (hb : w.heap[b]? = some o) : Frm [b] w { w with heap := w.heap.setIfInBounds b o' } ∧ ({ w with heap := w.heap.setIfInBounds b o' } : World).heap[b]? = some o' :=
  ⟨⟨rfl, rfl, rfl, by simp, fun k _ hn => (MapKept.heap_set hb).2 k (by simpa using hn)⟩, (MapKept.heap_set hb).1⟩
theorem run_mput {w : World} [ht : TMap P t kt e] [hk : TInt P kt k] (hb : w.heap[b]? = some (mob k l)) :
    (Instr.mapUpdate t (.map (some b)) (.int k a) v).run P w = .ok () { w with heap := w.heap.setIfInBounds b (mob k (aset l a v)) } := by
  have h1 := findNow_m k a l 0 0
  have hf := MapKept.run_findKey (P := P) (w := w) hk.h h1
  have hc : (Instr.checkKey false 10000 kt (.int k a)).run P w = .ok () w := MapKept.run_checkKey hk.h (by simp [MapKept.IsKey]) false 9999
  cases h : alook l a with
  | none =>
    rw [h] at hf
    have e1 := mEnt_push k a v l 0
    rw [Nat.zero_add] at e1
    simp [Instr.mapUpdate, run_underlying ht.h, MapKept.run_getObj_map hb, hc, hf, MapKept.run_setObj_map _ hb, Result.andThen, mob, aset_none v h, e1]
  | some u =>
    rw [h] at hf
    have e1 := mEnt_modify k a v l 0 h
    have e2 := mEnt_at k a l 0 h
    have hks : (Instr.keyThatStays (.int k a) (.int k a)).run P w = .ok (.int k a) w := MapKept.run_keyThatStays (d := .int k) (by simp [MapKept.IsKey])
    simp [Instr.mapUpdate, run_underlying ht.h, MapKept.run_getObj_map hb, hc, hf, MapKept.run_setObj_map _ hb, Result.andThen, mob, aset_len_some v h, e1, e2, hks]
theorem wo_mput [ht : TMap P t kt e] [hk : TInt P kt k] (hx : opd fr x = some (.map (some b))) (hy : opd fr y = some (.int k a)) (hz : opd fr z = some v) (hs : hp.Perm (.ob b (mob k l) :: F)) (hd : dstOk dst N = true)
    (h : WO P N E ops rest ⟨putF dst undef fr, .ob b (mob k (aset l a v)) :: F, ro⟩ Kn) : WO P N E ops (⟨dst, .mapUpdate t x y z, ty, pos, af, none⟩ :: rest) ⟨fr, hp, ro⟩ Kn :=
  wo_eff_skip (L := [_]) hs hd fun ac w ok => by
    have hb : w.heap[b]? = some (mob k l) := ok.s.get hs
    refine ⟨_, _, ?_, Sat.relay (set_frm hb).1 (set_frm (o' := mob k (aset l a v)) hb).2, by simpa using h⟩
    simp only [execOp, ok.h.eval hx, ok.h.eval hy, ok.h.eval hz, Sem.run_bind, run_mput hb]; rfl
theorem wo_mentry {d : Nat} {zv : Value} [ht : TMap P t kt e] [hk : TInt P kt k] [hzv : TZV P e zv] (hx : opd fr x = some (.map (some b))) (hy : opd fr y = some (.int k a)) (hs : hp.Perm (.ob b (mob k l) :: F)) (hd : Nat.ble (d + 1) N = true)
    (h : WO P N E ops rest ⟨(d, .tuple #[(alook l a).getD zv, .int .i64 (aidx l a)]) :: fr, .ob b (mob k (aset l a ((alook l a).getD zv))) :: F, ro⟩ Kn) : WO P N E ops (⟨some d, .mapEntry t x y, ty, pos, af, none⟩ :: rest) ⟨fr, hp, ro⟩ Kn :=
  wo_eff (L := [_]) hs hd fun ac w ok => by
    have hb : w.heap[b]? = some (mob k l) := ok.s.get hs
    refine ⟨_, _, _, ?_, Sat.relay (set_frm hb).1 (set_frm (o' := mob k (aset l a ((alook l a).getD zv))) hb).2, by simpa [putF] using h⟩
    have h1 := findNow_m k a l 0 0
    have hf := MapKept.run_findKey (P := P) (w := w) hk.h h1
    have hc : (Instr.checkKey false 10000 kt (.int k a)).run P w = .ok () w := MapKept.run_checkKey hk.h (by simp [MapKept.IsKey]) false 9999
    simp only [execOp, ok.h.eval hx, ok.h.eval hy]
    cases h : alook l a with
    | none =>
      rw [h] at hf
      have e1 := mEnt_push k a zv l 0
      rw [Nat.zero_add] at e1
      simp [Instr.mapEntry, run_underlying ht.h, MapKept.run_getObj_map hb, hc, hf, MapKept.run_setObj_map _ hb, Result.andThen, mob, aset_none _ h, e1, run_zeroV (P := P) (T := e), goInt, aidx_none h]
    | some u =>
      rw [h] at hf
      have e1 := mEnt_modify' k a l 0 h
      have e2 := mEnt_at k a l 0 h
      have hks : (Instr.keyThatStays (.int k a) (.int k a)).run P w = .ok (.int k a) w := MapKept.run_keyThatStays (d := .int k) (by simp [MapKept.IsKey])
      simp [Instr.mapEntry, run_underlying ht.h, MapKept.run_getObj_map hb, hc, hf, MapKept.run_setObj_map _ hb, Result.andThen, mob, aset_same h, e1, e2, hks, goInt]
theorem wo_mstore {j : Nat} [ht : TMap P t kt e] (hx : opd fr x = some (.map (some b))) (hy : opd fr y = some (.int .i64 j)) (hz : opd fr z = some v) (hs : hp.Perm (.ob b (mob k l) :: F)) {u : Value} (hl : alook l a = some u) (hj : aidx l a = j) (hd : dstOk dst N = true)
    (h : WO P N E ops rest ⟨putF dst undef fr, .ob b (mob k (aset l a v)) :: F, ro⟩ Kn) : WO P N E ops (⟨dst, .entryStore t x y z, ty, pos, af, none⟩ :: rest) ⟨fr, hp, ro⟩ Kn :=
  wo_eff_skip (L := [_]) hs hd fun ac w ok => by
    have hb : w.heap[b]? = some (mob k l) := ok.s.get hs
    refine ⟨_, _, ?_, Sat.relay (set_frm hb).1 (set_frm (o' := mob k (aset l a v)) hb).2, by simpa using h⟩
    have e1 := mEnt_modv k a v l 0 hl
    have e2 := mEnt_find k l 0 (aidx l a) (aidx_lt hl)
    rw [Nat.zero_add] at e2
    subst hj
    simp only [execOp, ok.h.eval hx, ok.h.eval hy, ok.h.eval hz, Sem.run_bind]
    simp [Instr.entryStore, MapKept.run_getObj_map hb, MapKept.run_setObj_map _ hb, Result.andThen, asInt, asIntOf, e2, mob, e1, aset_len_some v hl, go_sem]
end
end Go.Proofs.Yteaccbbmphcmnaa

/-
  Packets of rtcp as values.
-/
namespace Go.Proofs.Yteaccbbmphcmnaa
set_option linter.unusedSimpArgs false
set_option linter.unusedVariables false
open Go.RowKit

structure Bk where
  ss : Int
  lo : Int
  tt : Int
  la : Int
  ji : Int
  ls : Int
  dl : Int
def Bk.ok (b : Bk) : Prop := (0 ≤ b.ss ∧ b.ss ≤ 4294967295) ∧ (0 ≤ b.lo ∧ b.lo ≤ 255) ∧ (0 ≤ b.tt ∧ b.tt ≤ 4294967295) ∧ (0 ≤ b.la ∧ b.la ≤ 4294967295) ∧ (0 ≤ b.ji ∧ b.ji ≤ 4294967295) ∧ (0 ≤ b.ls ∧ b.ls ≤ 4294967295) ∧ (0 ≤ b.dl ∧ b.dl ≤ 4294967295)
def c16 (l : List Int) : List (List Value) := l.map fun z => [.int .u16 z]
def c32 (l : List Int) : List (List Value) := l.map fun z => [.int .u32 z]
def pairV (l : List (Int × Int)) : List (List Value) := l.map fun x => [.int .u16 x.1, .int .u16 x.2]
def ordV (l : List (Int × Int)) : List (List Value) := l.map fun x => [.int .u32 x.1, .int .u8 x.2]
def itmV (l : List (Int × ByteArray)) : List (List Value) := l.map fun x => [.int .u8 x.1, .string x.2]
def blkV (l : List Bk) : List (List Value) := l.map fun b => [.int .u32 b.ss, .int .u8 b.lo, .int .u32 b.tt, .int .u32 b.la, .int .u32 b.ji, .int .u32 b.ls, .int .u32 b.dl]
theorem c16_at {l : List Int} {i : Nat} {z : Int} (h : l[i]? = some z) : (c16 l)[i]? = some [.int .u16 z] := by simp [c16, h]
theorem c32_at {l : List Int} {i : Nat} {z : Int} (h : l[i]? = some z) : (c32 l)[i]? = some [.int .u32 z] := by simp [c32, h]
theorem pairV_at {l : List (Int × Int)} {i : Nat} {x : Int × Int} (h : l[i]? = some x) : (pairV l)[i]? = some [.int .u16 x.1, .int .u16 x.2] := by simp [pairV, h]
theorem ordV_at {l : List (Int × Int)} {i : Nat} {x : Int × Int} (h : l[i]? = some x) : (ordV l)[i]? = some [.int .u32 x.1, .int .u8 x.2] := by simp [ordV, h]
theorem itmV_at {l : List (Int × ByteArray)} {i : Nat} {x : Int × ByteArray} (h : l[i]? = some x) : (itmV l)[i]? = some [.int .u8 x.1, .string x.2] := by simp [itmV, h]
theorem blkV_at {l : List Bk} {i : Nat} {b : Bk} (h : l[i]? = some b) : (blkV l)[i]? = some [.int .u32 b.ss, .int .u8 b.lo, .int .u32 b.tt, .int .u32 b.la, .int .u32 b.ji, .int .u32 b.ls, .int .u32 b.dl] := by simp [blkV, h]
theorem c16_app (a b : List Int) : c16 (a ++ b) = c16 a ++ c16 b := by simp [c16]
theorem c16_len (a : List Int) : (c16 a).length = a.length := by simp [c16]
theorem c32_len (a : List Int) : (c32 a).length = a.length := by simp [c32]
theorem pairV_len (a : List (Int × Int)) : (pairV a).length = a.length := by simp [pairV]
theorem ordV_len (a : List (Int × Int)) : (ordV a).length = a.length := by simp [ordV]
theorem itmV_len (a : List (Int × ByteArray)) : (itmV a).length = a.length := by simp [itmV]
theorem blkV_len (a : List Bk) : (blkV a).length = a.length := by simp [blkV]
inductive Pkt where
  | sender (ss ntp t pk oc : Int) (bl : List Bk)
  | receiver (ss : Int) (bl : List Bk)
  | sdes (ch : List (Int × List (Int × ByteArray)))
  | bye (ss : List Int) (rs : ByteArray)
  | nack (fm to : Int) (ps : List (Int × Int))
  | pli (fm to : Int)
  | fir (fm : Int) (os : List (Int × Int))
  | remb (fm rt : Int) (ss : List Int)
  | other (kd ct : Int) (bd : ByteArray)
def ChV (R : List Ro) (c : Int × List (Int × ByteArray)) (row : List Value) : Prop := ∃ A n k, row = [.int .u32 c.1, .slice A n k] ∧ SQ R 2 A n k (itmV c.2)
def ChsV (R : List Ro) (l : List (Int × List (Int × ByteArray))) (rows : List (List Value)) : Prop := rows.length = l.length ∧ ∀ (i : Nat) c, l[i]? = some c → ∃ row, rows[i]? = some row ∧ ChV R c row
theorem ChV.mono {R R' : List Ro} (hR : ∀ r ∈ R, r ∈ R') {c : Int × List (Int × ByteArray)} {row : List Value} (h : ChV R c row) : ChV R' c row := by
  obtain ⟨A, n, k, h1, h2⟩ := h; exact ⟨A, n, k, h1, h2.mono hR⟩
theorem ChsV.mono {R R' : List Ro} (hR : ∀ r ∈ R, r ∈ R') {l : List (Int × List (Int × ByteArray))} {rows : List (List Value)} (h : ChsV R l rows) : ChsV R' l rows :=
  ⟨h.1, fun i c hc => by obtain ⟨row, h1, h2⟩ := h.2 i c hc; exact ⟨row, h1, h2.mono hR⟩⟩
/-- a packet's value -/
def PkV (R : List Ro) : Pkt → Value → Prop
  | .sender ss ntp t pk oc bl, v => ∃ A n c, v = .iface 130 (.agg #[.int .u32 ss, .int .u64 ntp, .int .u32 t, .int .u32 pk, .int .u32 oc, .slice A n c]) ∧ SQ R 7 A n c (blkV bl)
  | .receiver ss bl, v => ∃ A n c, v = .iface 132 (.agg #[.int .u32 ss, .slice A n c]) ∧ SQ R 7 A n c (blkV bl)
  | .sdes ch, v => ∃ A n c rows, v = .iface 157 (.agg #[.slice A n c]) ∧ SQ R 2 A n c rows ∧ ChsV R ch rows
  | .bye ss rs, v => ∃ A n c, v = .iface 136 (.agg #[.slice A n c, .string rs]) ∧ SQ R 1 A n c (c32 ss)
  | .nack fm to ps, v => ∃ A n c, v = .iface 39 (.agg #[.int .u32 fm, .int .u32 to, .slice A n c]) ∧ SQ R 2 A n c (pairV ps)
  | .pli fm to, v => v = .iface 88 (.agg #[.int .u32 fm, .int .u32 to])
  | .fir fm os, v => ∃ A n c, v = .iface 106 (.agg #[.int .u32 fm, .slice A n c]) ∧ SQ R 2 A n c (ordV os)
  | .remb fm rt ss, v => ∃ A n c, v = .iface 111 (.agg #[.int .u32 fm, .int .u64 rt, .slice A n c]) ∧ SQ R 1 A n c (c32 ss)
  | .other kd ct bd, v => v = .iface 114 (.agg #[.int .u8 kd, .int .u8 ct, .string bd])
theorem PkV.mono {R R' : List Ro} (hR : ∀ r ∈ R, r ∈ R') : ∀ {p : Pkt} {v : Value}, PkV R p v → PkV R' p v
  | .sender .., _, h => by obtain ⟨A, n, c, h1, h2⟩ := h; exact ⟨A, n, c, h1, h2.mono hR⟩
  | .receiver .., _, h => by obtain ⟨A, n, c, h1, h2⟩ := h; exact ⟨A, n, c, h1, h2.mono hR⟩
  | .sdes .., _, h => by obtain ⟨A, n, c, rows, h1, h2, h3⟩ := h; exact ⟨A, n, c, rows, h1, h2.mono hR, h3.mono hR⟩
  | .bye .., _, h => by obtain ⟨A, n, c, h1, h2⟩ := h; exact ⟨A, n, c, h1, h2.mono hR⟩
  | .nack .., _, h => by obtain ⟨A, n, c, h1, h2⟩ := h; exact ⟨A, n, c, h1, h2.mono hR⟩
  | .pli .., _, h => h
  | .fir .., _, h => by obtain ⟨A, n, c, h1, h2⟩ := h; exact ⟨A, n, c, h1, h2.mono hR⟩
  | .remb .., _, h => by obtain ⟨A, n, c, h1, h2⟩ := h; exact ⟨A, n, c, h1, h2.mono hR⟩
  | .other .., _, h => h
theorem PkV.one {R : List Ro} : ∀ {p : Pkt} {v : Value}, PkV R p v → v.oneCell' = true
  | .sender .., _, h => by obtain ⟨A, n, c, rfl, h2⟩ := h; rfl
  | .receiver .., _, h => by obtain ⟨A, n, c, rfl, h2⟩ := h; rfl
  | .sdes .., _, h => by obtain ⟨A, n, c, rows, rfl, h2, h3⟩ := h; rfl
  | .bye .., _, h => by obtain ⟨A, n, c, rfl, h2⟩ := h; rfl
  | .nack .., _, h => by obtain ⟨A, n, c, rfl, h2⟩ := h; rfl
  | .pli .., _, h => by obtain rfl := h; rfl
  | .fir .., _, h => by obtain ⟨A, n, c, rfl, h2⟩ := h; rfl
  | .remb .., _, h => by obtain ⟨A, n, c, rfl, h2⟩ := h; rfl
  | .other .., _, h => by obtain rfl := h; rfl
/-- a packet's numbers lie in their ranges, its lists are not too long -/
def in8 (x : Int) : Prop := 0 ≤ x ∧ x ≤ 255
def in16 (x : Int) : Prop := 0 ≤ x ∧ x ≤ 65535
def in32 (x : Int) : Prop := 0 ≤ x ∧ x ≤ 4294967295
def in64 (x : Int) : Prop := 0 ≤ x ∧ x ≤ 18446744073709551615
def Pkt.ok (m : Nat) : Pkt → Prop
  | .sender ss ntp t pk oc bl => in32 ss ∧ in64 ntp ∧ in32 t ∧ in32 pk ∧ in32 oc ∧ (∀ b ∈ bl, b.ok) ∧ bl.length ≤ m
  | .receiver ss bl => in32 ss ∧ (∀ b ∈ bl, b.ok) ∧ bl.length ≤ m
  | .sdes ch => (∀ c ∈ ch, in32 c.1 ∧ c.2.length ≤ m ∧ ∀ x ∈ c.2, in8 x.1 ∧ x.2.size ≤ m) ∧ ch.length ≤ m
  | .bye ss rs => (∀ x ∈ ss, in32 x) ∧ ss.length ≤ m ∧ rs.size ≤ m
  | .nack fm to ps => in32 fm ∧ in32 to ∧ (∀ x ∈ ps, in16 x.1 ∧ in16 x.2) ∧ ps.length ≤ m
  | .pli fm to => in32 fm ∧ in32 to
  | .fir fm os => in32 fm ∧ (∀ x ∈ os, in32 x.1 ∧ in8 x.2) ∧ os.length ≤ m
  | .remb fm rt ss => in32 fm ∧ in64 rt ∧ (∀ x ∈ ss, in32 x) ∧ ss.length ≤ m
  | .other kd ct bd => in8 kd ∧ in8 ct ∧ bd.size ≤ m
/-- packets in a slice: interface values -/
def PksV (R : List Ro) (l : List Pkt) (vs : List Value) : Prop := vs.length = l.length ∧ ∀ (i : Nat) p, l[i]? = some p → ∃ v, vs[i]? = some v ∧ PkV R p v
def one1 (vs : List Value) : List (List Value) := vs.map fun v => [v]
theorem one1_at {vs : List Value} {i : Nat} {v : Value} (h : vs[i]? = some v) : (one1 vs)[i]? = some [v] := by simp [one1, h]
theorem one1_len (vs : List Value) : (one1 vs).length = vs.length := by simp [one1]
theorem one1_app (a b : List Value) : one1 (a ++ b) = one1 a ++ one1 b := by simp [one1]
theorem PksV.mono {R R' : List Ro} (hR : ∀ r ∈ R, r ∈ R') {l : List Pkt} {vs : List Value} (h : PksV R l vs) : PksV R' l vs :=
  ⟨h.1, fun i p hp => by obtain ⟨v, h1, h2⟩ := h.2 i p hp; exact ⟨v, h1, h2.mono hR⟩⟩
theorem PksV.nil (R : List Ro) : PksV R [] [] := ⟨rfl, fun i p h => by simp at h⟩
theorem PksV.snoc {R : List Ro} {l : List Pkt} {vs : List Value} {p : Pkt} {v : Value} (h : PksV R l vs) (hp : PkV R p v) : PksV R (l ++ [p]) (vs ++ [v]) := by
  refine ⟨by simp [h.1], fun i q hq => ?_⟩
  by_cases hi : i < l.length
  · rw [List.getElem?_append_left hi] at hq
    obtain ⟨u, h1, h2⟩ := h.2 i q hq
    exact ⟨u, by rw [List.getElem?_append_left (by rw [h.1]; exact hi)]; exact h1, h2⟩
  · rw [List.getElem?_append_right (by omega)] at hq
    have : i - l.length = 0 := by
      rcases Nat.eq_zero_or_pos (i - l.length) with h0 | h0
      · exact h0
      · rw [List.getElem?_eq_none (by simp; omega)] at hq; cases hq
    rw [this] at hq
    simp only [List.getElem?_cons_zero, Option.some.injEq] at hq
    subst hq
    exact ⟨v, by rw [List.getElem?_append_right (by rw [h.1]; omega), h.1, this]; rfl, hp⟩
end Go.Proofs.Yteaccbbmphcmnaa

/-
  Package octet, the reader, and its reference.
-/
namespace Go.Proofs.Yteaccbbmphcmnaa
set_option linter.unusedSimpArgs false
set_option linter.unusedVariables false
set_option linter.unusedSimpArgs false
set_option linter.unusedVariables false
open Go.RowKit
set_option maxRecDepth 100000
attribute [local irreducible] Pv WO WC Fn
attribute [local irreducible] ByteArray.extract

abbrev E0 : ByteArray := ⟨#[]⟩
abbrev rdO (g : Nat) (s : ByteArray) (e : Int) : It := .ob g (.cells #[.string s, .int .i64 e] 122 (0, 0))
abbrev rrL (s : ByteArray) (e : Int) : List Value := [.string s, .int .i64 e]
def rdB (s : ByteArray) (e n : Int) : ByteArray × ByteArray × Int :=
  if e ≠ 0 then (E0, s, e) else if n < 0 then (E0, E0, 5) else if (s.size : Int) < n then (E0, E0, 1) else (s.extract 0 n.toNat, s.extract n.toNat s.size, 0)
def rdF (s : ByteArray) (e x : Int) : ByteArray × Int := if e = 0 ∧ x ≠ 0 then (E0, x) else (s, e)
theorem octRead (s : ByteArray) : Fn Try.prog 20 #[.string s] [] [] (fun v L' R' => ∃ g, v = .pointer (some ⟨g, 0, none⟩) ∧ L' = [rdO g s 0] ∧ R' = []) := by
  refine fn_intro Try.func20 rfl Try.ntmps20 rfl (fun E => ?_)
  (repeat (first | ((first | (apply wo_v; rfl) ); (· first | (apply pv_ev; rfl) | (apply g_build; apply pv_build; (· (repeat (first | apply Bld.nil | (apply Bld.one; rfl; rfl; (· (repeat (first | apply SetAt.here )))) )))) )) | apply wo_nil | apply wc_seq | apply wc_region | apply wc_ret | (apply wo_box1; rfl; rfl; rfl; intro bx) | (apply wo_boxa; rfl; rfl; intro bx) ))
  exact retv rfl (by (repeat (first | apply RV.nil | (apply RV.tmp; rfl) )); done) ⟨_, rfl, rfl, rfl⟩ (by (repeat (first | apply sub_nil )); done) (by first | exact fun _ h => h | (intro r hr; cases hr; done) | (simp; done) | exact fun _ h => List.mem_append_left _ h | (intro r hr; simp [hr]; done))
theorem octLen (g : Nat) (s : ByteArray) (e : Int) : Fn Try.prog 21 #[.pointer (some ⟨g, 0, none⟩)] [rdO g s e] [] (fun v L' R' => v = .int .i64 s.size ∧ L' = [rdO g s e] ∧ R' = []) := by
  refine fn_intro Try.func21 rfl Try.ntmps21 rfl (fun E => ?_)
  (repeat (first | ((first | (apply wo_v; rfl) ); (· first | (apply pv_ev; rfl) | (apply pv_fld; rfl) | (apply g_load; first | (apply pv_ld; rfl; (· (repeat (first | apply sel_here ))); rfl) ) | (apply g_bi; first | (apply pv_len_str; rfl) ) )) | apply wo_nil | apply wc_seq | apply wc_region | apply wc_ret ))
  exact retv rfl (by (repeat (first | apply RV.nil | (apply RV.tmp; rfl) )); done) (⟨rfl, rfl, rfl⟩) (by (repeat (first | apply sub_nil )); done) (by first | exact fun _ h => h | (intro r hr; cases hr; done) | (simp; done) | exact fun _ h => List.mem_append_left _ h | (intro r hr; simp [hr]; done))
theorem octErr (g : Nat) (s : ByteArray) (e : Int) : Fn Try.prog 22 #[.pointer (some ⟨g, 0, none⟩)] [rdO g s e] [] (fun v L' R' => v = .int .i64 e ∧ L' = [rdO g s e] ∧ R' = []) := by
  refine fn_intro Try.func22 rfl Try.ntmps22 rfl (fun E => ?_)
  (repeat (first | ((first | (apply wo_v; rfl) ); (· first | (apply pv_ev; rfl) | (apply pv_fld; rfl) | (apply g_load; first | (apply pv_ld; rfl; (· (repeat (first | apply sel_here ))); rfl) ) )) | apply wo_nil | apply wc_seq | apply wc_region | apply wc_ret ))
  exact retv rfl (by (repeat (first | apply RV.nil | (apply RV.tmp; rfl) )); done) (⟨rfl, rfl, rfl⟩) (by (repeat (first | apply sub_nil )); done) (by first | exact fun _ h => h | (intro r hr; cases hr; done) | (simp; done) | exact fun _ h => List.mem_append_left _ h | (intro r hr; simp [hr]; done))
theorem octFail (g : Nat) (s : ByteArray) (e x : Int) : Fn Try.prog 24 #[.pointer (some ⟨g, 0, none⟩), .int .i64 x] [rdO g s e] [] (fun v L' R' => v = .tuple #[] ∧ L' = [rdO g (rdF s e x).1 (rdF s e x).2] ∧ R' = []) := by
  have h : (e = 0 ∧ x ≠ 0) ∨ (e = 0 ∧ ¬ x ≠ 0) ∨ ¬ e = 0 := by omega
  rcases h with ⟨h1, h2⟩ | ⟨h1, h2⟩ | h1
  · have hf : rdF s e x = (E0, x) := if_pos ⟨h1, h2⟩
    rw [hf]
    refine fn_intro Try.func24 rfl Try.ntmps24 rfl (fun E => ?_)
    (repeat (first | ((first | (apply wo_v; rfl) ); (· first | (apply pv_ev; rfl) | (apply pv_fld; rfl) | (apply g_load; first | (apply pv_ld; rfl; (· (repeat (first | apply sel_here ))); rfl) ) | (apply g_pick; first | (apply pv_pick_t; rfl; rfl) ) )) | apply wo_nil | apply wc_seq | apply wc_region | (apply wc_true; rfl) | (apply wc_false; rfl) | (apply a_dec_t; rfl; (· first | assumption | omega)) | (apply wo_run; rfl; rfl) | (apply wo_skip; rfl; rfl; rfl; rfl) | (apply wo_skip_u; rfl; rfl; rfl) | (apply a_gt; rfl; rfl; (· first | assumption | omega)) | (apply wo_st; rfl; rfl; rfl; (· (repeat (first | apply sel_here ))); (· (repeat (first | apply SetAt.here | apply SetAt.there))); rfl) ))
    exact ret0 rfl ⟨rfl, rfl, rfl⟩ (by (repeat (first | apply sub_nil )); done) (by first | exact fun _ h => h | (intro r hr; cases hr; done) | (simp; done) | exact fun _ h => List.mem_append_left _ h | (intro r hr; simp [hr]; done))
  · have hf : rdF s e x = (s, e) := if_neg (fun h => h2 h.2)
    rw [hf]
    refine fn_intro Try.func24 rfl Try.ntmps24 rfl (fun E => ?_)
    (repeat (first | ((first | (apply wo_v; rfl) ); (· first | (apply pv_ev; rfl) | (apply pv_fld; rfl) | (apply g_load; first | (apply pv_ld; rfl; (· (repeat (first | apply sel_here ))); rfl) ) | (apply g_pick; first | (apply pv_pick_t; rfl; rfl) ) )) | apply wo_nil | apply wc_seq | apply wc_region | apply wc_skip | (apply wc_true; rfl) | (apply wc_false; rfl) | (apply a_dec_t; rfl; (· first | assumption | omega)) | (apply a_dec_f; rfl; (· first | assumption | omega)) | (apply wo_run; rfl; rfl) | (apply wo_skip; rfl; rfl; rfl; rfl) | (apply wo_skip_u; rfl; rfl; rfl) | (apply a_gt; rfl; rfl; (· first | assumption | omega)) ))
    exact ret0 rfl ⟨rfl, rfl, rfl⟩ (by (repeat (first | apply sub_nil )); done) (by first | exact fun _ h => h | (intro r hr; cases hr; done) | (simp; done) | exact fun _ h => List.mem_append_left _ h | (intro r hr; simp [hr]; done))
  · have hf : rdF s e x = (s, e) := if_neg (fun h => h1 h.1)
    rw [hf]
    refine fn_intro Try.func24 rfl Try.ntmps24 rfl (fun E => ?_)
    (repeat (first | ((first | (apply wo_v; rfl) ); (· first | (apply pv_ev; rfl) | (apply pv_fld; rfl) | (apply g_load; first | (apply pv_ld; rfl; (· (repeat (first | apply sel_here ))); rfl) ) | (apply g_pick; first | (apply pv_pick_t; rfl; rfl) | (apply pv_pick_f; rfl; rfl)) )) | apply wo_nil | apply wc_seq | apply wc_region | apply wc_skip | (apply wc_true; rfl) | (apply wc_false; rfl) | (apply wo_run; rfl; rfl) | (apply wo_skip; rfl; rfl; rfl; rfl) | (apply wo_skip_u; rfl; rfl; rfl) | (apply a_gt; rfl; rfl; (· first | assumption | omega)) | (apply a_gf; rfl; rfl; (· first | assumption | omega)) ))
    exact ret0 rfl ⟨rfl, rfl, rfl⟩ (by (repeat (first | apply sub_nil )); done) (by first | exact fun _ h => h | (intro r hr; cases hr; done) | (simp; done) | exact fun _ h => List.mem_append_left _ h | (intro r hr; simp [hr]; done))
set_option maxHeartbeats 2000000 in
theorem octBytes (g : Nat) (s : ByteArray) (e n : Int) (hs : s.size ≤ 1099511627776) : Fn Try.prog 45 #[.pointer (some ⟨g, 0, none⟩), .int .i64 n] [rdO g s e] []
    (fun v L' R' => v = .string (rdB s e n).1 ∧ L' = [rdO g (rdB s e n).2.1 (rdB s e n).2.2] ∧ R' = []) := by
  have h : ¬ e = 0 ∨ (e = 0 ∧ n < 0) ∨ (e = 0 ∧ ¬ n < 0 ∧ (s.size : Int) < n) ∨ (e = 0 ∧ ¬ n < 0 ∧ ¬ (s.size : Int) < n) := by omega
  rcases h with h1 | ⟨rfl, h2⟩ | ⟨rfl, h2, h3⟩ | ⟨rfl, h2, h3⟩
  · have hf : rdB s e n = (E0, s, e) := if_pos h1
    rw [hf]
    refine fn_intro Try.func45 rfl Try.ntmps45 rfl (fun E => ?_)
    (repeat (first | ((first | (apply wo_v; rfl) ); (· first | (apply pv_ev; rfl) | (apply pv_fld; rfl) | (apply g_load; first | (apply pv_ld; rfl; (· (repeat (first | apply sel_here ))); rfl) ) )) | apply wo_nil | apply wc_seq | apply wc_region | apply wc_block | apply wc_ret | (apply wc_true; rfl) | (apply wc_false; rfl) | (apply a_dec_t; rfl; (· first | assumption | omega)) ))
    exact retv rfl (by (repeat (first | apply RV.nil | (apply RV.tmp; rfl) )); done) (⟨rfl, rfl, rfl⟩) (by (repeat (first | apply sub_nil )); done) (by first | exact fun _ h => h | (intro r hr; cases hr; done) | (simp; done) | exact fun _ h => List.mem_append_left _ h | (intro r hr; simp [hr]; done))
  · have hf : rdB s 0 n = (E0, E0, 5) := by unfold rdB; rw [if_neg (by omega), if_pos h2]
    rw [hf]
    refine fn_intro Try.func45 rfl Try.ntmps45 rfl (fun E => ?_)
    (repeat (first | ((first | (apply wo_v; rfl) ); (· first | (apply pv_ev; rfl) | (apply pv_fld; rfl) | (apply g_load; first | (apply pv_ld; rfl; (· (repeat (first | apply sel_here ))); rfl) ) )) | apply wo_nil | apply wc_seq | apply wc_region | apply wc_block | (apply wc_true; rfl) | (apply wc_false; rfl) | (apply a_dec_t; rfl; (· first | assumption | omega)) ))
    (refine wo_call (octFail g s 0 5) rfl (by (repeat (first | apply sub_nil )); done) (by first | exact fun _ h => h | (intro r hr; cases hr; done) | (simp; done) | exact fun _ h => List.mem_append_left _ h | (intro r hr; simp [hr]; done)) rfl ?_; rintro v L' R' ⟨rfl, rfl, rfl⟩ H' hH RR hR; simp only [List.cons_append, List.nil_append] at hH hR; subst hH; have hR := hR.symm; subst hR)
    (repeat (first | ((first | (apply wo_v; rfl) ); (· first | (apply pv_ev; rfl) )) | apply wo_nil | apply wc_seq | apply wc_region | apply wc_ret ))
    exact retv rfl (by (repeat (first | apply RV.nil | (apply RV.tmp; rfl) )); done) (⟨rfl, rfl, rfl⟩) (by (repeat (first | apply sub_nil )); done) (by first | exact fun _ h => h | (intro r hr; cases hr; done) | (simp; done) | exact fun _ h => List.mem_append_left _ h | (intro r hr; simp [hr]; done))
  · have hf : rdB s 0 n = (E0, E0, 1) := by unfold rdB; rw [if_neg (by omega), if_neg h2, if_pos h3]
    rw [hf]
    refine fn_intro Try.func45 rfl Try.ntmps45 rfl (fun E => ?_)
    (repeat (first | ((first | (apply wo_v; rfl) ); (· first | (apply pv_ev; rfl) | (apply pv_fld; rfl) | (apply g_load; first | (apply pv_ld; rfl; (· (repeat (first | apply sel_here ))); rfl) ) | (apply g_bi; first | (apply pv_len_str; rfl) ) )) | apply wo_nil | apply wc_seq | apply wc_region | apply wc_block | (apply wc_true; rfl) | (apply wc_false; rfl) | (apply a_dec_t; rfl; (· first | assumption | omega)) | (apply a_dec_f; rfl; (· first | assumption | omega)) ))
    (refine wo_call (octFail g s 0 1) rfl (by (repeat (first | apply sub_nil )); done) (by first | exact fun _ h => h | (intro r hr; cases hr; done) | (simp; done) | exact fun _ h => List.mem_append_left _ h | (intro r hr; simp [hr]; done)) rfl ?_; rintro v L' R' ⟨rfl, rfl, rfl⟩ H' hH RR hR; simp only [List.cons_append, List.nil_append] at hH hR; subst hH; have hR := hR.symm; subst hR)
    (repeat (first | ((first | (apply wo_v; rfl) ); (· first | (apply pv_ev; rfl) )) | apply wo_nil | apply wc_seq | apply wc_region | apply wc_ret ))
    exact retv rfl (by (repeat (first | apply RV.nil | (apply RV.tmp; rfl) )); done) (⟨rfl, rfl, rfl⟩) (by (repeat (first | apply sub_nil )); done) (by first | exact fun _ h => h | (intro r hr; cases hr; done) | (simp; done) | exact fun _ h => List.mem_append_left _ h | (intro r hr; simp [hr]; done))
  · have hf : rdB s 0 n = (s.extract 0 n.toNat, s.extract n.toNat s.size, 0) := by unfold rdB; rw [if_neg (by omega), if_neg h2, if_neg h3]
    rw [hf]
    refine fn_intro Try.func45 rfl Try.ntmps45 rfl (fun E => ?_)
    (repeat (first | ((first | (apply wo_v; rfl) ); (· first | (apply pv_ev; rfl) | (apply pv_fld; rfl) | (apply g_load; first | (apply pv_ld; rfl; (· (repeat (first | apply sel_here ))); rfl) ) | (apply g_bi; first | (apply pv_len_str; rfl) ) | (apply pv_cs_lo; rfl; rfl; omega) | (apply pv_cs_hi; rfl; rfl; omega) )) | apply wo_nil | apply wc_seq | apply wc_region | apply wc_block | apply wc_skip | apply wc_ret | (apply wc_true; rfl) | (apply wc_false; rfl) | (apply a_dec_t; rfl; (· first | assumption | omega)) | (apply a_dec_f; rfl; (· first | assumption | omega)) | (apply wo_st; rfl; rfl; rfl; (· (repeat (first | apply sel_here ))); (· (repeat (first | apply SetAt.here ))); rfl) ))
    exact retv rfl (by (repeat (first | apply RV.nil | (apply RV.tmp; rfl) )); done) (⟨rfl, rfl, rfl⟩) (by (repeat (first | apply sub_nil )); done) (by first | exact fun _ h => h | (intro r hr; cases hr; done) | (simp; done) | exact fun _ h => List.mem_append_left _ h | (intro r hr; simp [hr]; done))
/-! the reference -/
end Go.Proofs.Yteaccbbmphcmnaa

/-
  Package octet: the reader's numbers, and the reference's.
-/
namespace Go.Proofs.Yteaccbbmphcmnaa
set_option linter.unusedSimpArgs false
set_option linter.unusedVariables false
set_option linter.unusedSimpArgs false
set_option linter.unusedVariables false
open Go.RowKit
set_option maxRecDepth 100000
attribute [local irreducible] Pv WO WC Fn
attribute [local irreducible] ByteArray.extract

def valK (s : ByteArray) : Nat → Int
  | 0 => 0
  | k + 1 => valK s k * 256 + sb s k
theorem valK_b (s : ByteArray) : (∀ k, 0 ≤ valK s k) ∧ valK s 1 ≤ 255 ∧ valK s 2 ≤ 65535 ∧ valK s 3 ≤ 16777215 ∧ valK s 4 ≤ 4294967295 ∧ valK s 5 ≤ 1099511627775 ∧ valK s 6 ≤ 281474976710655 ∧ valK s 7 ≤ 72057594037927935 ∧ valK s 8 ≤ 18446744073709551615 := by
  have h := sb_b s
  refine ⟨fun k => ?_, ?_⟩
  · induction k with
    | zero => exact Int.le_refl _
    | succ k ih => have := h k; simp only [valK]; omega
  · have h0 := h 0; have h1 := h 1; have h2 := h 2; have h3 := h 3; have h4 := h 4; have h5 := h 5; have h6 := h 6; have h7 := h 7
    simp only [valK]
    omega
theorem valK_le7 (s : ByteArray) {k : Nat} (hk : k ≤ 7) : 0 ≤ valK s k ∧ valK s k ≤ 72057594037927935 := by
  obtain ⟨h0, h1, h2, h3, h4, h5, h6, h7, h8⟩ := valK_b s
  have := h0 k
  obtain rfl | rfl | rfl | rfl | rfl | rfl | rfl | rfl : k = 0 ∨ k = 1 ∨ k = 2 ∨ k = 3 ∨ k = 4 ∨ k = 5 ∨ k = 6 ∨ k = 7 := by omega
  · simp [valK]
  all_goals omega
theorem valK_le8 (s : ByteArray) {k : Nat} (hk : k ≤ 8) : 0 ≤ valK s k ∧ valK s k ≤ 18446744073709551615 := by
  by_cases h : k ≤ 7
  · have := valK_le7 s h; omega
  · obtain rfl : k = 8 := by omega
    have := valK_b s; exact ⟨this.1 8, this.2.2.2.2.2.2.2.2⟩
theorem rdB_size (s : ByteArray) (e n : Int) (hn : 0 ≤ n) : (((rdB s e n).1).size : Int) ≤ n := by
  have hE : E0.size = 0 := rfl
  unfold rdB
  split
  · simpa [hE] using hn
  · split
    · simpa [hE] using hn
    · split
      · simpa [hE] using hn
      · simp only [ByteArray.size_extract]; omega
theorem rdB_size2 (s : ByteArray) (e n : Int) : ((rdB s e n).2.1).size ≤ s.size := by
  have hE : E0.size = 0 := rfl
  unfold rdB
  split
  · exact Nat.le_refl _
  · split
    · simp [hE]
    · split
      · simp [hE]
      · simp only [ByteArray.size_extract]; omega
set_option maxHeartbeats 1000000 in
theorem octNum (g : Nat) (s b s2 : ByteArray) (e n e2 : Int) (hs : s.size ≤ 1099511627776) (hq : rdB s e (min (max n 1) 8) = (b, s2, e2)) : Fn Try.prog 44 #[.pointer (some ⟨g, 0, none⟩), .int .i64 n] [rdO g s e] []
    (fun v L' R' => v = .int .u64 (valK b b.size) ∧ L' = [rdO g s2 e2] ∧ R' = []) := by
  have hB := octBytes g s e (min (max n 1) 8) hs
  have hz := rdB_size s e (min (max n 1) 8) (by omega)
  rw [hq] at hB hz
  simp only at hB hz
  have hz8 : b.size ≤ 8 := by omega
  clear hz hq
  refine fn_intro Try.func44 rfl Try.ntmps44 rfl (fun E => ?_)
  (repeat (first | ((first | (apply wo_v; rfl) ); (· first | (apply pv_ev; rfl) | (apply g_bi; first | (apply pv_min; rfl; rfl) | (apply pv_max; rfl; rfl)) )) | apply wo_nil | apply wc_seq | apply wc_region ))
  (refine wo_call (hB) rfl (by (repeat (first | apply sub_nil )); done) (by first | exact fun _ h => h | (intro r hr; cases hr; done) | (simp; done) | exact fun _ h => List.mem_append_left _ h | (intro r hr; simp [hr]; done)) rfl ?_; rintro v L' R' ⟨rfl, rfl, rfl⟩ H' hH RR hR; simp only [List.cons_append, List.nil_append] at hH hR; subst hH; have hR := hR.symm; subst hR)
  (repeat (first | ((first | (apply wo_v; rfl) ); (· first | (apply pv_ev; rfl) | (apply g_bi; first | (apply pv_len_sl; rfl) ) | (apply g_conv; first | (apply a_conv; rfl; infer_instance; infer_instance; infer_instance; omega) | (apply a_conv_u; rfl; infer_instance; infer_instance; infer_instance) | (apply a_conv_w; rfl; infer_instance; infer_instance) ) )) | apply wo_nil | apply wc_block | (apply wo_conv_sb; rfl; rfl; intro bc cc hcc) ))
  refine wc_loop' (fun m st => ∃ (k : Nat), m = b.size - k ∧ st = ⟨[(5, .int .u64 (valK b k)), (13, .slice (some ⟨bc, 0, none⟩) b.size cc), (14, .int .i64 b.size), (15, .int .i64 k)], [rdO g s2 e2], [⟨bc, 0, 1, brows b⟩]⟩ ∧ k ≤ b.size)
    ⟨0, rfl, rfl, Nat.zero_le _⟩ (wk_mk (by (repeat (first | apply wkf_nil | (apply wkf_cons; rfl))); done) (by (repeat (first | apply sub_nil )); done) (by first | exact fun _ h => h | (intro r hr; cases hr; done) | (simp; done) | exact fun _ h => List.mem_append_left _ h | (intro r hr; simp [hr]; done))) ?_
  rintro m st ⟨k, rfl, rfl, hk⟩
  by_cases hlt : k < b.size
  · have hr := brows_at hlt
    have hv := valK_le7 b (show k ≤ 7 by omega)
    have hb := sb_b b k
    (repeat (first | ((first | (apply wo_v; rfl) ); (· first | (apply pv_ev; rfl) | (apply g_load; first | (apply pv_ld; rfl; (· (repeat (first | apply sel_there))); rfl) | (apply pv_ld_ownf; rfl; (· (repeat (first | fail ))); (· assumption); rfl) | (apply pv_ld_own1; rfl; (· (repeat (first | apply sel_there))); (· assumption)) | (apply pv_ld_rof; rfl; (· (first | assumption )); (· assumption); rfl) | (apply pv_ld_ro1; rfl; (· (first | assumption | ((repeat (first | apply List.Mem.head )); done))); (· assumption)) ) | (apply g_bin; first | (apply a_add; rfl; rfl; infer_instance; omega) | (apply (a_or 8); rfl; rfl; infer_instance; rfl; omega) | (apply a_shl; rfl; rfl; rfl; omega; rfl; infer_instance; omega) ) | (apply g_conv; first | (apply a_conv; rfl; infer_instance; infer_instance; infer_instance; omega) ) | (apply g_idx; first | (apply pv_idx; rfl; rfl; omega) ) )) | apply wo_nil | apply wc_seq | apply wc_region | apply wc_block | apply wc_skip | (apply wc_true; rfl) | (apply wc_false; rfl) | (apply a_dec_t; rfl; (· first | assumption | omega)) ))
    exact loop_end ⟨k + 1, rfl, rfl, by omega⟩ (by omega) (wk_mk (by (repeat (first | apply wkf_nil | (apply wkf_cons; rfl))); done) (by (repeat (first | apply sub_nil )); done) (by first | exact fun _ h => h | (intro r hr; cases hr; done) | (simp; done) | exact fun _ h => List.mem_append_left _ h | (intro r hr; simp [hr]; done)))
  · obtain rfl : k = b.size := by omega
    (repeat (first | ((first | (apply wo_v; rfl) ); (· first | (apply pv_ev; rfl) )) | apply wo_nil | apply wc_seq | apply wc_region | (apply wc_exit; rfl) | apply wc_ret | (apply wc_true; rfl) | (apply wc_false; rfl) | (apply a_dec_t; rfl; (· first | assumption | omega)) | (apply a_dec_f; rfl; (· first | assumption | omega)) ))
    exact retv rfl (by (repeat (first | apply RV.nil | (apply RV.tmp; rfl) )); done) (⟨rfl, rfl, rfl⟩) (by (repeat (first | apply sub_nil )); done) (by first | exact fun _ h => h | (intro r hr; cases hr; done) | (simp; done) | exact fun _ h => List.mem_append_left _ h | (intro r hr; simp [hr]; done))
theorem octU8 (g : Nat) (s b s2 : ByteArray) (e e2 : Int) (hs : s.size ≤ 1099511627776) (hq : rdB s e 1 = (b, s2, e2)) : Fn Try.prog 23 #[.pointer (some ⟨g, 0, none⟩)] [rdO g s e] []
    (fun v L' R' => v = .int .u8 (valK b b.size) ∧ L' = [rdO g s2 e2] ∧ R' = []) := by
  have hN := octNum g s b s2 e 1 e2 hs (by rw [show min (max (1 : Int) 1) 8 = 1 from rfl]; exact hq)
  have hz := rdB_size s e 1 (by omega)
  rw [hq] at hz
  have hv : 0 ≤ valK b b.size ∧ valK b b.size ≤ 255 := by
    obtain ⟨h0, h1, _⟩ := valK_b b
    have h2 := h0 b.size
    obtain h | h : b.size = 0 ∨ b.size = 1 := by simp only at hz; omega
    · rw [h]; simp [valK]
    · rw [h] at h2 ⊢; omega
  refine fn_intro Try.func23 rfl Try.ntmps23 rfl (fun E => ?_)
  (repeat (first | ((first | (apply wo_v; rfl) ); (· first | (apply pv_ev; rfl) )) | apply wo_nil | apply wc_seq | apply wc_region ))
  (refine wo_call (hN) rfl (by (repeat (first | apply sub_nil )); done) (by first | exact fun _ h => h | (intro r hr; cases hr; done) | (simp; done) | exact fun _ h => List.mem_append_left _ h | (intro r hr; simp [hr]; done)) rfl ?_; rintro v L' R' ⟨rfl, rfl, rfl⟩ H' hH RR hR; simp only [List.cons_append, List.nil_append] at hH hR; subst hH; have hR := hR.symm; subst hR)
  (repeat (first | ((first | (apply wo_v; rfl) ); (· first | (apply pv_ev; rfl) | (apply g_conv; first | (apply a_conv; rfl; infer_instance; infer_instance; infer_instance; omega) ) )) | apply wo_nil | apply wc_ret ))
  exact retv rfl (by (repeat (first | apply RV.nil | (apply RV.tmp; rfl) )); done) (⟨rfl, rfl, rfl⟩) (by (repeat (first | apply sub_nil )); done) (by first | exact fun _ h => h | (intro r hr; cases hr; done) | (simp; done) | exact fun _ h => List.mem_append_left _ h | (intro r hr; simp [hr]; done))
theorem octU16 (g : Nat) (s b s2 : ByteArray) (e e2 : Int) (hs : s.size ≤ 1099511627776) (hq : rdB s e 2 = (b, s2, e2)) : Fn Try.prog 46 #[.pointer (some ⟨g, 0, none⟩)] [rdO g s e] []
    (fun v L' R' => v = .int .u16 (valK b b.size) ∧ L' = [rdO g s2 e2] ∧ R' = []) := by
  have hN := octNum g s b s2 e 2 e2 hs (by rw [show min (max (2 : Int) 1) 8 = 2 from rfl]; exact hq)
  have hz := rdB_size s e 2 (by omega)
  rw [hq] at hz
  have hv : 0 ≤ valK b b.size ∧ valK b b.size ≤ 65535 := by
    obtain ⟨h0, h1, h1', _⟩ := valK_b b
    have h2 := h0 b.size
    obtain h | h | h : b.size = 0 ∨ b.size = 1 ∨ b.size = 2 := by simp only at hz; omega
    · rw [h]; simp [valK]
    · rw [h] at h2 ⊢; omega
    · rw [h] at h2 ⊢; omega
  refine fn_intro Try.func46 rfl Try.ntmps46 rfl (fun E => ?_)
  (repeat (first | ((first | (apply wo_v; rfl) ); (· first | (apply pv_ev; rfl) )) | apply wo_nil | apply wc_seq | apply wc_region ))
  (refine wo_call (hN) rfl (by (repeat (first | apply sub_nil )); done) (by first | exact fun _ h => h | (intro r hr; cases hr; done) | (simp; done) | exact fun _ h => List.mem_append_left _ h | (intro r hr; simp [hr]; done)) rfl ?_; rintro v L' R' ⟨rfl, rfl, rfl⟩ H' hH RR hR; simp only [List.cons_append, List.nil_append] at hH hR; subst hH; have hR := hR.symm; subst hR)
  (repeat (first | ((first | (apply wo_v; rfl) ); (· first | (apply pv_ev; rfl) | (apply g_conv; first | (apply a_conv; rfl; infer_instance; infer_instance; infer_instance; omega) ) )) | apply wo_nil | apply wc_ret ))
  exact retv rfl (by (repeat (first | apply RV.nil | (apply RV.tmp; rfl) )); done) (⟨rfl, rfl, rfl⟩) (by (repeat (first | apply sub_nil )); done) (by first | exact fun _ h => h | (intro r hr; cases hr; done) | (simp; done) | exact fun _ h => List.mem_append_left _ h | (intro r hr; simp [hr]; done))
theorem octU32 (g : Nat) (s b s2 : ByteArray) (e e2 : Int) (hs : s.size ≤ 1099511627776) (hq : rdB s e 4 = (b, s2, e2)) : Fn Try.prog 47 #[.pointer (some ⟨g, 0, none⟩)] [rdO g s e] []
    (fun v L' R' => v = .int .u32 (valK b b.size) ∧ L' = [rdO g s2 e2] ∧ R' = []) := by
  have hN := octNum g s b s2 e 4 e2 hs (by rw [show min (max (4 : Int) 1) 8 = 4 from rfl]; exact hq)
  have hz := rdB_size s e 4 (by omega)
  rw [hq] at hz
  have hv : 0 ≤ valK b b.size ∧ valK b b.size ≤ 4294967295 := by
    obtain ⟨h0, h1, h1', h1'', h1''', _⟩ := valK_b b
    have h2 := h0 b.size
    obtain h | h | h | h | h : b.size = 0 ∨ b.size = 1 ∨ b.size = 2 ∨ b.size = 3 ∨ b.size = 4 := by simp only at hz; omega
    · rw [h]; simp [valK]
    all_goals (rw [h] at h2 ⊢; omega)
  refine fn_intro Try.func47 rfl Try.ntmps47 rfl (fun E => ?_)
  (repeat (first | ((first | (apply wo_v; rfl) ); (· first | (apply pv_ev; rfl) )) | apply wo_nil | apply wc_seq | apply wc_region ))
  (refine wo_call (hN) rfl (by (repeat (first | apply sub_nil )); done) (by first | exact fun _ h => h | (intro r hr; cases hr; done) | (simp; done) | exact fun _ h => List.mem_append_left _ h | (intro r hr; simp [hr]; done)) rfl ?_; rintro v L' R' ⟨rfl, rfl, rfl⟩ H' hH RR hR; simp only [List.cons_append, List.nil_append] at hH hR; subst hH; have hR := hR.symm; subst hR)
  (repeat (first | ((first | (apply wo_v; rfl) ); (· first | (apply pv_ev; rfl) | (apply g_conv; first | (apply a_conv; rfl; infer_instance; infer_instance; infer_instance; omega) ) )) | apply wo_nil | apply wc_ret ))
  exact retv rfl (by (repeat (first | apply RV.nil | (apply RV.tmp; rfl) )); done) (⟨rfl, rfl, rfl⟩) (by (repeat (first | apply sub_nil )); done) (by first | exact fun _ h => h | (intro r hr; cases hr; done) | (simp; done) | exact fun _ h => List.mem_append_left _ h | (intro r hr; simp [hr]; done))
theorem octRest (g : Nat) (s : ByteArray) (e : Int) (hs : s.size ≤ 1099511627776) : Fn Try.prog 54 #[.pointer (some ⟨g, 0, none⟩)] [rdO g s e] []
    (fun v L' R' => v = .string (rdB s e s.size).1 ∧ L' = [rdO g (rdB s e s.size).2.1 (rdB s e s.size).2.2] ∧ R' = []) := by
  have hB := octBytes g s e s.size hs
  refine fn_intro Try.func54 rfl Try.ntmps54 rfl (fun E => ?_)
  (repeat (first | ((first | (apply wo_v; rfl) ); (· first | (apply pv_ev; rfl) )) | apply wo_nil | apply wc_seq | apply wc_region ))
  (refine wo_call (octLen g s e) rfl (by (repeat (first | apply sub_nil )); done) (by first | exact fun _ h => h | (intro r hr; cases hr; done) | (simp; done) | exact fun _ h => List.mem_append_left _ h | (intro r hr; simp [hr]; done)) rfl ?_; rintro v L' R' ⟨rfl, rfl, rfl⟩ H' hH RR hR; simp only [List.cons_append, List.nil_append] at hH hR; subst hH; have hR := hR.symm; subst hR)
  (repeat (first | ((first | (apply wo_v; rfl) ); (· first | (apply pv_ev; rfl) )) ))
  (refine wo_call (hB) rfl (by (repeat (first | apply sub_nil )); done) (by first | exact fun _ h => h | (intro r hr; cases hr; done) | (simp; done) | exact fun _ h => List.mem_append_left _ h | (intro r hr; simp [hr]; done)) rfl ?_; rintro v L' R' ⟨rfl, rfl, rfl⟩ H' hH RR hR; simp only [List.cons_append, List.nil_append] at hH hR; subst hH; have hR := hR.symm; subst hR)
  (repeat (first | ((first | (apply wo_v; rfl) ); (· first | (apply pv_ev; rfl) )) | apply wo_nil | apply wc_ret ))
  exact retv rfl (by (repeat (first | apply RV.nil | (apply RV.tmp; rfl) )); done) (⟨rfl, rfl, rfl⟩) (by (repeat (first | apply sub_nil )); done) (by first | exact fun _ h => h | (intro r hr; cases hr; done) | (simp; done) | exact fun _ h => List.mem_append_left _ h | (intro r hr; simp [hr]; done))
def rdE (s : ByteArray) (e : Int) : Int := if e = 0 ∧ s ≠ E0 then 2 else e
theorem octEnd (g : Nat) (s : ByteArray) (e : Int) (he : e ≠ 0 → s = E0) : Fn Try.prog 27 #[.pointer (some ⟨g, 0, none⟩)] [rdO g s e] []
    (fun v L' R' => v = .int .i64 (rdE s e) ∧ L' = [rdO g E0 (rdE s e)] ∧ R' = []) := by
  by_cases h1 : s = E0
  · have hf : rdE s e = e := if_neg (fun h => h.2 h1)
    rw [hf]
    subst h1
    refine fn_intro Try.func27 rfl Try.ntmps27 rfl (fun E => ?_)
    (repeat (first | ((first | (apply wo_v; rfl) ); (· first | (apply pv_ev; rfl) | (apply pv_fld; rfl) | (apply g_load; first | (apply pv_ld; rfl; (· (repeat (first | apply sel_here ))); rfl) ) | (apply g_bin; first | (apply pv_neq_s; rfl; rfl) ) )) | apply wo_nil | apply wc_seq | apply wc_region | apply wc_skip | apply wc_ret | (apply wc_true; rfl) | (apply wc_false; rfl) ))
    exact retv rfl (by (repeat (first | apply RV.nil | (apply RV.tmp; rfl) )); done) (⟨rfl, rfl, rfl⟩) (by (repeat (first | apply sub_nil )); done) (by first | exact fun _ h => h | (intro r hr; cases hr; done) | (simp; done) | exact fun _ h => List.mem_append_left _ h | (intro r hr; simp [hr]; done))
  · have h2 : e = 0 := by
      by_cases h2 : e = 0
      · exact h2
      · exact absurd (he h2) h1
    subst h2
    have hf : rdE s 0 = 2 := if_pos ⟨rfl, h1⟩
    rw [hf]
    have hF := octFail g s 0 2
    rw [show rdF s 0 2 = (E0, 2) from if_pos ⟨rfl, by omega⟩] at hF
    refine fn_intro Try.func27 rfl Try.ntmps27 rfl (fun E => ?_)
    (repeat (first | ((first | (apply wo_v; rfl) ); (· first | (apply pv_ev; rfl) | (apply pv_fld; rfl) | (apply g_load; first | (apply pv_ld; rfl; (· (repeat (first | apply sel_here ))); rfl) ) | (apply g_bin; first | (apply pv_neq_s; rfl; rfl) ) )) | apply wo_nil | apply wc_seq | apply wc_region | (apply wc_true; rfl) | (apply wc_false; rfl) | (apply a_dec_t; rfl; (· first | assumption | omega)) ))
    (refine wo_call (hF) rfl (by (repeat (first | apply sub_nil )); done) (by first | exact fun _ h => h | (intro r hr; cases hr; done) | (simp; done) | exact fun _ h => List.mem_append_left _ h | (intro r hr; simp [hr]; done)) rfl ?_; rintro v L' R' ⟨rfl, rfl, rfl⟩ H' hH RR hR; simp only [List.cons_append, List.nil_append] at hH hR; subst hH; have hR := hR.symm; subst hR)
    (repeat (first | ((first | (apply wo_v; rfl) ); (· first | (apply pv_ev; rfl) | (apply pv_fld; rfl) | (apply g_load; first | (apply pv_ld; rfl; (· (repeat (first | apply sel_here ))); rfl) ) )) | apply wo_nil | apply wc_seq | apply wc_region | apply wc_ret ))
    exact retv rfl (by (repeat (first | apply RV.nil | (apply RV.tmp; rfl) )); done) (⟨rfl, rfl, rfl⟩) (by (repeat (first | apply sub_nil )); done) (by first | exact fun _ h => h | (intro r hr; cases hr; done) | (simp; done) | exact fun _ h => List.mem_append_left _ h | (intro r hr; simp [hr]; done))
/-! the reference -/
def cutS (s : ByteArray) (n : Nat) : ByteArray := if n < s.size then s.extract 0 n else s
theorem cutS_size (s : ByteArray) (n : Nat) : (cutS s n).size ≤ n := by
  unfold cutS
  split
  · simp only [ByteArray.size_extract]; omega
  · omega
theorem octCut (s : ByteArray) (n : Nat) : Fn Try.prog 8 #[.string s, .int .i64 n] [] [] (fun v L' R' => v = .string (cutS s n) ∧ L' = [] ∧ R' = []) := by
  by_cases h : n < s.size
  · rw [show cutS s n = s.extract 0 n from if_pos h]
    refine fn_intro Try.func8 rfl Try.ntmps8 rfl (fun E => ?_)
    (repeat (first | ((first | (apply wo_v; rfl) ); (· first | (apply pv_ev; rfl) | (apply g_bi; first | (apply pv_len_str; rfl) ) | (apply pv_cs_hi; rfl; rfl; omega) )) | apply wo_nil | apply wc_seq | apply wc_region | apply wc_ret | (apply wc_true; rfl) | (apply wc_false; rfl) | (apply a_dec_t; rfl; (· first | assumption | omega)) ))
    exact retv rfl (by (repeat (first | apply RV.nil | (apply RV.tmp; rfl) )); done) (⟨by simp [outV], rfl, rfl⟩) (by (repeat (first | apply sub_nil )); done) (by first | exact fun _ h => h | (intro r hr; cases hr; done) | (simp; done) | exact fun _ h => List.mem_append_left _ h | (intro r hr; simp [hr]; done))
  · rw [show cutS s n = s from if_neg h]
    refine fn_intro Try.func8 rfl Try.ntmps8 rfl (fun E => ?_)
    (repeat (first | ((first | (apply wo_v; rfl) ); (· first | (apply pv_ev; rfl) | (apply g_bi; first | (apply pv_len_str; rfl) ) )) | apply wo_nil | apply wc_seq | apply wc_region | apply wc_skip | apply wc_ret | (apply wc_true; rfl) | (apply wc_false; rfl) | (apply a_dec_t; rfl; (· first | assumption | omega)) | (apply a_dec_f; rfl; (· first | assumption | omega)) ))
    exact retv rfl (by (repeat (first | apply RV.nil | (apply RV.tmp; rfl) )); done) (⟨rfl, rfl, rfl⟩) (by (repeat (first | apply sub_nil )); done) (by first | exact fun _ h => h | (intro r hr; cases hr; done) | (simp; done) | exact fun _ h => List.mem_append_left _ h | (intro r hr; simp [hr]; done))
end Go.Proofs.Yteaccbbmphcmnaa

/-
  Package octet, the writer (over strings.Builder).
-/
namespace Go.Proofs.Yteaccbbmphcmnaa
set_option linter.unusedSimpArgs false
set_option linter.unusedVariables false
set_option linter.unusedSimpArgs false
set_option linter.unusedVariables false
open Go.RowKit
attribute [local irreducible] Pv WO WC Fn
attribute [local irreducible] ByteArray.extract

instance : TUns Try.prog 177 := ⟨by kernel_rfl⟩
abbrev wrT : TypeId := 95
abbrev wrO (g : Nat) (p ao : Option Addr) (n c : Nat) : It := .ob g (.cells #[.pointer p, .slice ao n c] wrT (0, 0))
abbrev wrH (g : Nat) (p ao : Option Addr) (c : Nat) (s : ByteArray) : List It := [wrO g p ao s.size c, .own 5 1 ao s.size c (brows s)]
structure WOk (g : Nat) (p ao : Option Addr) (c : Nat) (s : ByteArray) : Prop where
  p : p = none ∨ p = some ⟨g, 0, none⟩
  b : (ao = none ∧ c = 0 ∧ s = E0) ∨ (∃ b, ao = some ⟨b, 0, none⟩ ∧ 0 < s.size)
theorem WOk.h0 {g : Nat} {p ao : Option Addr} {c : Nat} {s : ByteArray} (h : WOk g p ao c s) : ao = none ∨ ∃ b, ao = some ⟨b, 0, none⟩ := by
  rcases h.b with ⟨h, _⟩ | ⟨b, h, _⟩
  · exact .inl h
  · exact .inr ⟨b, h⟩
theorem E0_append (s : ByteArray) : E0 ++ s = s := by
  apply ByteArray.ext; simp
theorem append_E0 (s : ByteArray) : s ++ E0 = s := by
  apply ByteArray.ext; simp
theorem size_zero {s : ByteArray} (h : s.size = 0) : s = E0 := by
  apply ByteArray.ext
  exact Array.eq_empty_of_size_eq_zero h
set_option maxRecDepth 100000 in
theorem noEsc {fr : List (Nat × Value)} {hp : List It} {ro : List Ro} {x : Operand} {v : Value} {ats : Array TypeId} (hx : opd fr x = some v) : Pv Try.prog ⟨fr, hp, ro⟩ (.call ⟨.value (.func 84), #[x], ats⟩) v :=
  pv_ext Try.func84 (by kernel_rfl) (by kernel_rfl) (by kernel_rfl) (e := Extern.AbiNoEscape.same) (by kernel_rfl) hx (fun w => rfl)
theorem wrLies : liesAt Try.prog Try.prog.depth wrT (2 / Try.prog.cellsOf wrT) 0 93 1 = true := by kernel_rfl
set_option maxRecDepth 100000 in
theorem bCheck (g n c : Nat) (p ao : Option Addr) (hp : p = none ∨ p = some ⟨g, 0, none⟩) : Fn Try.prog 78 #[.pointer (some ⟨g, 0, none⟩)] [wrO g p ao n c] [] (fun v L' R' => v = .tuple #[] ∧ L' = [wrO g (some ⟨g, 0, none⟩) ao n c] ∧ R' = []) := by
  rcases hp with rfl | rfl
  · refine fn_intro Try.func78 rfl Try.ntmps78 rfl (fun E => ?_)
    (repeat (first | ((first | (apply wo_v; rfl) ); (· first | (apply pv_ev; rfl) | (apply pv_fld; rfl) | (apply g_load; first | (apply pv_ld; rfl; (· (repeat (first | apply sel_here ))); rfl) ) | (apply g_bin; first | (apply pv_eql_p; rfl; rfl) ) | (apply g_conv; first | (apply a_conv; rfl; infer_instance; infer_instance; infer_instance; omega) | (apply a_conv_u; rfl; infer_instance; infer_instance; infer_instance) | (apply a_conv_w; rfl; infer_instance; infer_instance) ) )) | apply wo_nil | apply wc_seq | apply wc_region | (apply wc_true; rfl) ))
    refine wo_v rfl (pv_tou rfl (by (repeat (first | apply sel_here )); done) rfl) ?_
    refine wo_v rfl (noEsc rfl) ?_
    refine wo_v rfl (pv_fromu rfl (by (repeat (first | apply sel_here )); done) wrLies) ?_
    (repeat (first | ((first | (apply wo_v; rfl) ); (· first | (apply pv_ev; rfl) | (apply pv_fld; rfl) )) | apply wo_nil | (apply wo_st; rfl; rfl; rfl; (· (repeat (first | apply sel_here ))); (· (repeat (first | apply SetAt.here ))); rfl) ))
    exact ret0 rfl ⟨rfl, rfl, rfl⟩ (by (repeat (first | apply sub_nil )); done) (by first | exact fun _ h => h | (intro r hr; cases hr; done) | (simp; done) | exact fun _ h => List.mem_append_left _ h | (intro r hr; simp [hr]; done))
  · refine fn_intro Try.func78 rfl Try.ntmps78 rfl (fun E => ?_)
    (repeat (first | ((first | (apply wo_v; rfl) ); (· first | (apply pv_ev; rfl) | (apply pv_fld; rfl) | (apply g_load; first | (apply pv_ld; rfl; (· (repeat (first | apply sel_here ))); rfl) ) | (apply g_bin; first | (apply pv_eql_p; rfl; rfl) | (apply pv_neq_p; rfl; rfl) | (apply pv_neq_pp; rfl; rfl) ) )) | apply wo_nil | apply wc_seq | apply wc_region | apply wc_skip | (apply wc_true; rfl) | (apply wc_false; rfl) ))
    exact ret0 rfl ⟨rfl, rfl, rfl⟩ (by (repeat (first | apply sub_nil )); done) (by first | exact fun _ h => h | (intro r hr; cases hr; done) | (simp; done) | exact fun _ h => List.mem_append_left _ h | (intro r hr; simp [hr]; done))
theorem bWriteString (g c : Nat) (p ao : Option Addr) (s z : ByteArray) (hw : WOk g p ao c s) (hz : s.size + z.size ≤ 1099511627776) : Fn Try.prog 59 #[.pointer (some ⟨g, 0, none⟩), .string z] (wrH g p ao c s) []
    (fun v L' R' => ∃ p' ao' c', v = .tuple #[.int .i64 z.size, .nilIface] ∧ L' = wrH g p' ao' c' (s ++ z) ∧ R' = [] ∧ WOk g p' ao' c' (s ++ z)) := by
  have e1 : brows s ++ brows z = brows (s ++ z) := (brows_append s z).symm
  have e2 : s.size + z.size = (s ++ z).size := by simp
  refine fn_intro Try.func59 rfl Try.ntmps59 rfl (fun E => ?_)
  (repeat (first | ((first | (apply wo_v; rfl) ); (· first | (apply pv_ev; rfl) )) | apply wo_nil | apply wc_seq | apply wc_region ))
  (refine wo_call (bCheck g s.size c p ao hw.p) rfl (by (repeat (first | apply sub_nil )); done) (by first | exact fun _ h => h | (intro r hr; cases hr; done) | (simp; done) | exact fun _ h => List.mem_append_left _ h | (intro r hr; simp [hr]; done)) rfl ?_; rintro v L' R' ⟨rfl, rfl, rfl⟩ H' hH RR hR; simp only [List.cons_append, List.nil_append] at hH hR; subst hH; have hR := hR.symm; subst hR)
  (repeat (first | ((first | (apply wo_v; rfl) ); (· first | (apply pv_ev; rfl) | (apply pv_fld; rfl) | (apply g_load; first | (apply pv_ld; rfl; (· (repeat (first | apply sel_here ))); rfl) ) | (apply g_bi; first | fail ) )) | apply wo_nil | apply wc_seq | apply wc_region ))
  refine wo_app_str rfl rfl (by (repeat (first | apply sel_here | apply sel_there)); done) hw.h0 hz rfl (fun ao' c' h1 h2 h3 => ?_)
  rw [e1, e2]
  rw [e2] at h1
  (repeat (first | ((first | (apply wo_v; rfl) ); (· first | (apply pv_ev; rfl) | (apply pv_fld; rfl) | (apply g_bi; first | (apply pv_len_str; rfl) ) )) | apply wo_nil | apply wc_seq | apply wc_region | apply wc_ret | (apply wo_st; rfl; rfl; rfl; (· (repeat (first | apply sel_here | apply sel_there))); (· (repeat (first | apply SetAt.here | apply SetAt.there))); rfl) ))
  refine retv rfl (by (repeat (first | apply RV.nil | (apply RV.tmp; rfl) )); done) ⟨some ⟨g, 0, none⟩, ao', c', rfl, rfl, rfl, ⟨.inr rfl, ?_⟩⟩ (by (repeat (first | apply sub_nil )); done) (by first | exact fun _ h => h | (intro r hr; cases hr; done) | (simp; done) | exact fun _ h => List.mem_append_left _ h | (intro r hr; simp [hr]; done))
  rcases h1 with ⟨h1, h4⟩ | ⟨b, h1⟩
  · exact .inl ⟨h1, h3 h1, size_zero h4⟩
  · refine .inr ⟨b, h1, ?_⟩
    rcases hw.b with ⟨h5, _, h6⟩ | ⟨_, _, h6⟩
    · have h7 : z.size ≠ 0 := fun h => by rw [h2 h5 h] at h1; cases h1
      omega
    · omega
theorem bLen (g n c : Nat) (p ao : Option Addr) : Fn Try.prog 58 #[.pointer (some ⟨g, 0, none⟩)] [wrO g p ao n c] [] (fun v L' R' => v = .int .i64 n ∧ L' = [wrO g p ao n c] ∧ R' = []) := by
  refine fn_intro Try.func58 rfl Try.ntmps58 rfl (fun E => ?_)
  (repeat (first | ((first | (apply wo_v; rfl) ); (· first | (apply pv_ev; rfl) | (apply pv_fld; rfl) | (apply g_load; first | (apply pv_ld; rfl; (· (repeat (first | apply sel_here ))); rfl) ) | (apply g_bi; first | (apply pv_len_sl; rfl) ) )) | apply wo_nil | apply wc_seq | apply wc_region | apply wc_ret ))
  exact retv rfl (by (repeat (first | apply RV.nil | (apply RV.tmp; rfl) )); done) (⟨rfl, rfl, rfl⟩) (by (repeat (first | apply sub_nil )); done) (by first | exact fun _ h => h | (intro r hr; cases hr; done) | (simp; done) | exact fun _ h => List.mem_append_left _ h | (intro r hr; simp [hr]; done))
theorem bString (g c : Nat) (p ao : Option Addr) (s : ByteArray) (hw : WOk g p ao c s) : Fn Try.prog 60 #[.pointer (some ⟨g, 0, none⟩)] (wrH g p ao c s) []
    (fun v L' R' => v = .string s ∧ L' = [wrO g p ao s.size c] ∧ R' = []) := by
  rcases hw.b with ⟨rfl, rfl, rfl⟩ | ⟨b, rfl, h0⟩
  · refine fn_intro Try.func60 rfl Try.ntmps60 rfl (fun E => ?_)
    (repeat (first | ((first | (apply wo_v; rfl) ); (· first | (apply pv_ev; rfl) )) | apply wo_nil | apply wc_seq | apply wc_region ))
    (refine wc_quiet mixed (by kernel_rfl) ?_; (repeat (first | ((first | (apply hd_v; rfl) ); (· first | (apply pv_ev; rfl) | (apply pv_fld; rfl) | (apply g_load; first | (apply pv_ld; rfl; (· (repeat (first | apply sel_here ))); rfl) ) | (apply g_bi; first | (apply pv_sld; rfl; omega) | (apply pv_sld0; rfl) | (apply pv_ustr0; rfl; rfl) | (apply pv_len_sl; rfl) ) )) | apply Hd.nil | apply wc_ret )))
    exact retv rfl (by (repeat (first | apply RV.nil | (apply RV.tmp; rfl) )); done) (⟨rfl, rfl, rfl⟩) (by (repeat (first | apply sub_nil )); done) (by first | exact fun _ h => h | (intro r hr; cases hr; done) | (simp; done) | exact fun _ h => List.mem_append_left _ h | (intro r hr; simp [hr]; done))
  · refine fn_intro Try.func60 rfl Try.ntmps60 rfl (fun E => ?_)
    (repeat (first | ((first | (apply wo_v; rfl) ); (· first | (apply pv_ev; rfl) )) | apply wo_nil | apply wc_seq | apply wc_region ))
    refine wc_own (t := 5) (sz := 1) (ao := some ⟨b, 0, none⟩) (n := s.size) (k := c) (xs := brows s) (by (repeat (first | apply sel_here | apply sel_there)); done) (fun hl1 hl2 hl3 => ?_)
    (refine wc_tail 10 mixed (by kernel_rfl) ?_; (repeat (first | ((first | (apply wo_v; rfl) | (apply hd_v; rfl) ); (· first | (apply pv_ev; rfl) | (apply pv_fld; rfl) | (apply g_load; first | (apply pv_ld; rfl; (· (repeat (first | apply sel_here ))); rfl) ) | (apply g_bi; first | (apply pv_sld; rfl; omega) | (apply pv_ustr0; rfl; rfl) | (apply pv_len_sl; rfl) ) )) | apply Hd.nil )))
    refine wo_ustr (e := 5) (by kernel_rfl) rfl rfl (by (repeat (first | apply sel_here | apply sel_there)); done) h0 rfl ?_
    (repeat (first | ((first | (apply wo_v; rfl) ); (· first | (apply pv_ev; rfl) )) | apply wo_nil | apply wc_ret ))
    exact retv rfl (by (repeat (first | apply RV.nil | (apply RV.tmp; rfl) )); done) (⟨rfl, rfl, rfl⟩) (by (repeat (first | apply sub_nil )); done) (by first | exact fun _ h => h | (intro r hr; cases hr; done) | (simp; done) | exact fun _ h => List.mem_append_left _ h | (intro r hr; simp [hr]; done))
end Go.Proofs.Yteaccbbmphcmnaa

/-
  Package octet: the writer's methods.
-/
namespace Go.Proofs.Yteaccbbmphcmnaa
set_option linter.unusedSimpArgs false
set_option linter.unusedVariables false
set_option linter.unusedSimpArgs false
set_option linter.unusedVariables false
open Go.RowKit
set_option maxRecDepth 100000
attribute [local irreducible] Pv WO WC Fn
attribute [local irreducible] ByteArray.extract

/-- one byte -/
def b1 (x : Int) : ByteArray := ⟨#[UInt8.ofNat x.toNat]⟩
theorem b1_size (x : Int) : (b1 x).size = 1 := rfl
theorem b1_rows {x : Int} (h : 0 ≤ x ∧ x ≤ 255) : brows (b1 x) = [[.int .u8 x]] := by
  have e : (((UInt8.ofNat x.toNat).toNat : Nat) : Int) = x := by
    simp only [UInt8.toNat_ofNat']; omega
  show [[Value.int .u8 (((UInt8.ofNat x.toNat).toNat : Nat) : Int)]] = _
  rw [e]
set_option maxHeartbeats 1000000 in
theorem bWriteByte (g c : Nat) (p ao : Option Addr) (s : ByteArray) (x : Int) (hx : 0 ≤ x ∧ x ≤ 255) (hw : WOk g p ao c s) (hz : s.size + 1 ≤ 1099511627776) : Fn Try.prog 55 #[.pointer (some ⟨g, 0, none⟩), .int .u8 x] (wrH g p ao c s) []
    (fun v L' R' => ∃ p' ao' c', v = .nilIface ∧ L' = wrH g p' ao' c' (s ++ b1 x) ∧ R' = [] ∧ WOk g p' ao' c' (s ++ b1 x)) := by
  have e1 : brows s ++ [[.int .u8 x]] = brows (s ++ b1 x) := by rw [brows_append, b1_rows hx]
  have e2 : s.size + 1 = (s ++ b1 x).size := by simp [b1_size]
  refine fn_intro Try.func55 rfl Try.ntmps55 rfl (fun E => ?_)
  (repeat (first | ((first | (apply wo_v; rfl) ); (· first | (apply pv_ev; rfl) )) | apply wo_nil | apply wc_seq | apply wc_region ))
  (refine wo_call (bCheck g s.size c p ao hw.p) rfl (by (repeat (first | apply sub_nil )); done) (by first | exact fun _ h => h | (intro r hr; cases hr; done) | (simp; done) | exact fun _ h => List.mem_append_left _ h | (intro r hr; simp [hr]; done)) rfl ?_; rintro v L' R' ⟨rfl, rfl, rfl⟩ H' hH RR hR; simp only [List.cons_append, List.nil_append] at hH hR; subst hH; have hR := hR.symm; subst hR)
  (repeat (first | ((first | (apply wo_v; rfl) ); (· first | (apply pv_ev; rfl) | (apply pv_fld; rfl) | (apply g_load; first | (apply pv_ld; rfl; (· (repeat (first | apply sel_here ))); rfl) ) | (apply g_bi; first | fail ) )) | apply wo_nil | apply wc_seq | apply wc_region | (apply wo_bsl; (· (repeat (first | apply Rws'.nil | (apply Rws'.one; rfl; rfl; rfl) ))); rfl; rfl; rfl; rfl; intro bx) ))
  refine wo_app0 rfl rfl (by (repeat (first | apply sel_here | apply sel_there)); done) (by (repeat (first | apply sel_here )); done) (by unfold maxLen; omega) (by omega) rfl (fun ao' c' h1 h2 h3 => ?_)
  rw [e1, e2]
  (repeat (first | ((first | (apply wo_v; rfl) ); (· first | (apply pv_ev; rfl) | (apply pv_fld; rfl) )) | apply wo_nil | apply wc_seq | apply wc_region | apply wc_ret | (apply wo_st; rfl; rfl; rfl; (· (repeat (first | apply sel_here | apply sel_there))); (· (repeat (first | apply SetAt.here | apply SetAt.there))); rfl) ))
  refine retv rfl (by (repeat (first | apply RV.nil | (apply RV.tmp; rfl) )); done) ⟨some ⟨g, 0, none⟩, ao', c', rfl, rfl, rfl, ⟨.inr rfl, .inr ?_⟩⟩ (by (repeat (first | apply sub_nil )); done) (by first | exact fun _ h => h | (intro r hr; cases hr; done) | (simp; done) | exact fun _ h => List.mem_append_left _ h | (intro r hr; simp [hr]; done))
  cases ao' with
  | none => have := h2 rfl; omega
  | some a =>
    rcases h1 a rfl with ⟨b, h⟩ | h
    · exact ⟨b, h, by omega⟩
    · rcases hw.b with ⟨h5, _, _⟩ | ⟨b, h5, _⟩
      · rw [h5] at h; cases h
      · exact ⟨b, h.trans h5, by omega⟩
abbrev byO (bl c : Nat) (z : ByteArray) : It := .own 5 1 (some ⟨bl, 0, none⟩) z.size c (brows z)
set_option maxHeartbeats 1000000 in
theorem bWrite (g c bl c2 : Nat) (p ao : Option Addr) (s z : ByteArray) (hw : WOk g p ao c s) (hz0 : 0 < z.size) (hz : s.size + z.size ≤ 1099511627776) : Fn Try.prog 56 #[.pointer (some ⟨g, 0, none⟩), .slice (some ⟨bl, 0, none⟩) z.size c2] (wrH g p ao c s ++ [byO bl c2 z]) []
    (fun v L' R' => ∃ p' ao' c', v = .tuple #[.int .i64 z.size, .nilIface] ∧ L' = wrH g p' ao' c' (s ++ z) ∧ R' = [] ∧ WOk g p' ao' c' (s ++ z)) := by
  have e1 : brows s ++ brows z = brows (s ++ z) := (brows_append s z).symm
  have e2 : s.size + z.size = (s ++ z).size := by simp
  refine fn_intro Try.func56 rfl Try.ntmps56 rfl (fun E => ?_)
  (repeat (first | ((first | (apply wo_v; rfl) ); (· first | (apply pv_ev; rfl) )) | apply wo_nil | apply wc_seq | apply wc_region ))
  (refine wo_call (bCheck g s.size c p ao hw.p) rfl (by (repeat (first | apply sub_nil )); done) (by first | exact fun _ h => h | (intro r hr; cases hr; done) | (simp; done) | exact fun _ h => List.mem_append_left _ h | (intro r hr; simp [hr]; done)) rfl ?_; rintro v L' R' ⟨rfl, rfl, rfl⟩ H' hH RR hR; simp only [List.cons_append, List.nil_append] at hH hR; subst hH; have hR := hR.symm; subst hR)
  (repeat (first | ((first | (apply wo_v; rfl) ); (· first | (apply pv_ev; rfl) | (apply pv_fld; rfl) | (apply g_load; first | (apply pv_ld; rfl; (· (repeat (first | apply sel_here ))); rfl) ) | (apply g_bi; first | fail ) )) | apply wo_nil | apply wc_seq | apply wc_region ))
  refine wo_app0 rfl rfl (ao := ao) (n := s.size) (c := c) (xs := brows s) (by (repeat (first | apply sel_here | apply sel_there)); done) (c2 := c2) (m := z.size) (ys := brows z) (by (repeat (first | apply sel_here | apply sel_there)); done) (by unfold maxLen; omega) (by omega) rfl (fun ao' c' h1 h2 h3 => ?_)
  rw [e1, e2]
  (repeat (first | ((first | (apply wo_v; rfl) ); (· first | (apply pv_ev; rfl) | (apply pv_fld; rfl) | (apply g_bi; first | (apply pv_len_sl; rfl) ) )) | apply wo_nil | apply wc_seq | apply wc_region | apply wc_ret | (apply wo_st; rfl; rfl; rfl; (· (repeat (first | apply sel_here | apply sel_there))); (· (repeat (first | apply SetAt.here | apply SetAt.there))); rfl) ))
  refine retv rfl (by (repeat (first | apply RV.nil | (apply RV.tmp; rfl) )); done) ⟨some ⟨g, 0, none⟩, ao', c', rfl, rfl, rfl, ⟨.inr rfl, .inr ?_⟩⟩ (by (repeat (first | apply sub_nil )); done) (by first | exact fun _ h => h | (intro r hr; cases hr; done) | (simp; done) | exact fun _ h => List.mem_append_left _ h | (intro r hr; simp [hr]; done))
  cases ao' with
  | none => have := h2 rfl; omega
  | some a =>
    rcases h1 a rfl with ⟨b, h⟩ | h
    · exact ⟨b, h, by omega⟩
    · rcases hw.b with ⟨h5, _, _⟩ | ⟨b, h5, _⟩
      · rw [h5] at h; cases h
      · exact ⟨b, h.trans h5, by omega⟩
theorem wU8 (g c bl c2 : Nat) (p ao : Option Addr) (s z : ByteArray) (hw : WOk g p ao c s) (hz0 : 0 < z.size) (hz : s.size + z.size ≤ 1099511627776) : Fn Try.prog 31 #[.pointer (some ⟨g, 0, none⟩), .slice (some ⟨bl, 0, none⟩) z.size c2] (wrH g p ao c s ++ [byO bl c2 z]) []
    (fun v L' R' => ∃ p' ao' c', v = .pointer (some ⟨g, 0, none⟩) ∧ L' = wrH g p' ao' c' (s ++ z) ∧ R' = [] ∧ WOk g p' ao' c' (s ++ z)) := by
  refine fn_intro Try.func31 rfl Try.ntmps31 rfl (fun E => ?_)
  (repeat (first | ((first | (apply wo_v; rfl) ); (· first | (apply pv_ev; rfl) | (apply pv_fld; rfl) )) | apply wo_nil | apply wc_seq | apply wc_region ))
  (refine wo_call (bWrite g c bl c2 p ao s z hw hz0 hz) rfl (by (repeat (first | apply sub_nil )); done) (by first | exact fun _ h => h | (intro r hr; cases hr; done) | (simp; done) | exact fun _ h => List.mem_append_left _ h | (intro r hr; simp [hr]; done)) rfl ?_; rintro v L' R' ⟨p', ao', c', rfl, rfl, rfl, hw2⟩ H' hH RR hR; simp only [List.cons_append, List.nil_append] at hH hR; subst hH; have hR := hR.symm; subst hR)
  (repeat (first | ((first | (apply wo_v; rfl) ); (· first | (apply pv_ev; rfl) )) | apply wo_nil | apply wc_seq | apply wc_region | apply wc_ret ))
  exact retv rfl (by (repeat (first | apply RV.nil | (apply RV.tmp; rfl) )); done) ⟨p', ao', c', rfl, rfl, rfl, hw2⟩ (by (repeat (first | apply sub_nil )); done) (by first | exact fun _ h => h | (intro r hr; cases hr; done) | (simp; done) | exact fun _ h => List.mem_append_left _ h | (intro r hr; simp [hr]; done))
theorem wLen (g c : Nat) (p ao : Option Addr) (n : Nat) : Fn Try.prog 33 #[.pointer (some ⟨g, 0, none⟩)] [wrO g p ao n c] [] (fun v L' R' => v = .int .i64 n ∧ L' = [wrO g p ao n c] ∧ R' = []) := by
  refine fn_intro Try.func33 rfl Try.ntmps33 rfl (fun E => ?_)
  (repeat (first | ((first | (apply wo_v; rfl) ); (· first | (apply pv_ev; rfl) | (apply pv_fld; rfl) )) | apply wo_nil | apply wc_seq | apply wc_region ))
  (refine wo_call (bLen g n c p ao) rfl (by (repeat (first | apply sub_nil )); done) (by first | exact fun _ h => h | (intro r hr; cases hr; done) | (simp; done) | exact fun _ h => List.mem_append_left _ h | (intro r hr; simp [hr]; done)) rfl ?_; rintro v L' R' ⟨rfl, rfl, rfl⟩ H' hH RR hR; simp only [List.cons_append, List.nil_append] at hH hR; subst hH; have hR := hR.symm; subst hR)
  (repeat (first | ((first | (apply wo_v; rfl) ); (· first | (apply pv_ev; rfl) )) | apply wo_nil | apply wc_ret ))
  exact retv rfl (by (repeat (first | apply RV.nil | (apply RV.tmp; rfl) )); done) (⟨rfl, rfl, rfl⟩) (by (repeat (first | apply sub_nil )); done) (by first | exact fun _ h => h | (intro r hr; cases hr; done) | (simp; done) | exact fun _ h => List.mem_append_left _ h | (intro r hr; simp [hr]; done))
theorem wText (g c : Nat) (p ao : Option Addr) (s : ByteArray) (hw : WOk g p ao c s) : Fn Try.prog 35 #[.pointer (some ⟨g, 0, none⟩)] (wrH g p ao c s) []
    (fun v L' R' => v = .string s ∧ L' = [wrO g p ao s.size c] ∧ R' = []) := by
  refine fn_intro Try.func35 rfl Try.ntmps35 rfl (fun E => ?_)
  (repeat (first | ((first | (apply wo_v; rfl) ); (· first | (apply pv_ev; rfl) | (apply pv_fld; rfl) )) | apply wo_nil | apply wc_seq | apply wc_region ))
  (refine wo_call (bString g c p ao s hw) rfl (by (repeat (first | apply sub_nil )); done) (by first | exact fun _ h => h | (intro r hr; cases hr; done) | (simp; done) | exact fun _ h => List.mem_append_left _ h | (intro r hr; simp [hr]; done)) rfl ?_; rintro v L' R' ⟨rfl, rfl, rfl⟩ H' hH RR hR; simp only [List.cons_append, List.nil_append] at hH hR; subst hH; have hR := hR.symm; subst hR)
  (repeat (first | ((first | (apply wo_v; rfl) ); (· first | (apply pv_ev; rfl) )) | apply wo_nil | apply wc_ret ))
  exact retv rfl (by (repeat (first | apply RV.nil | (apply RV.tmp; rfl) )); done) (⟨rfl, rfl, rfl⟩) (by (repeat (first | apply sub_nil )); done) (by first | exact fun _ h => h | (intro r hr; cases hr; done) | (simp; done) | exact fun _ h => List.mem_append_left _ h | (intro r hr; simp [hr]; done))
/-- a number's bytes, the highest first -/
def numS : Nat → Int → ByteArray
  | 0, _ => E0
  | k + 1, x => numS k (x / 256) ++ b1 (x % 256)
theorem numS_size : ∀ (k : Nat) (x : Int), (numS k x).size = k
  | 0, _ => rfl
  | k + 1, x => by simp [numS, numS_size k, b1_size]
def sh (x : Int) : Nat → Int
  | 0 => x
  | k + 1 => sh x k / 256
theorem sh_nonneg {x : Int} (h : 0 ≤ x) : ∀ k, 0 ≤ sh x k
  | 0 => h
  | k + 1 => by have := sh_nonneg h k; simp only [sh]; omega
theorem sh_fdiv {x : Int} (h : 0 ≤ x) : ∀ k : Nat, k ≤ 7 → x.fdiv (2 ^ (min ((8 * (k : Int)).toNat) IntKind.u64.bits)) = sh x k := by
  intro k hk
  have e : min ((8 * (k : Int)).toNat) IntKind.u64.bits = 8 * k := by
    have : IntKind.u64.bits = 64 := rfl
    omega
  rw [e, Int.fdiv_eq_ediv_of_nonneg _ (Int.le_of_lt (Int.pow_pos (by omega)))]
  clear e
  induction k with
  | zero => simp [sh]
  | succ k ih =>
    rw [sh, ← ih (by omega), show 8 * (k + 1) = 8 * k + 8 by omega, Int.pow_add, ← Int.ediv_ediv_of_nonneg (Int.le_of_lt (Int.pow_pos (by omega)))]
    rfl
end Go.Proofs.Yteaccbbmphcmnaa

/-
  Package octet: Writer.Num, and what is made of it.
-/
namespace Go.Proofs.Yteaccbbmphcmnaa
set_option linter.unusedSimpArgs false
set_option linter.unusedVariables false
set_option linter.unusedSimpArgs false
set_option linter.unusedVariables false
open Go.RowKit
set_option maxRecDepth 100000
attribute [local irreducible] Pv WO WC Fn
attribute [local irreducible] ByteArray.extract

def numsS (k : Nat) : List Int → ByteArray
  | [] => E0
  | x :: xs => numS k x ++ numsS k xs
theorem numsS_append (k : Nat) : ∀ a b : List Int, numsS k (a ++ b) = numsS k a ++ numsS k b
  | [], b => (E0_append _).symm
  | x :: a, b => by
    show numS k x ++ numsS k (a ++ b) = (numS k x ++ numsS k a) ++ numsS k b
    rw [numsS_append k a b, ByteArray.append_assoc]
theorem numsS_size (k : Nat) : ∀ a : List Int, (numsS k a).size = k * a.length
  | [] => rfl
  | x :: a => by
    simp only [numsS, ByteArray.size_append, numS_size, numsS_size k a, List.length_cons]
    rw [Nat.mul_add]; omega
theorem numsS_take {k : Nat} {xs : List Int} {j : Nat} {x : Int} (h : xs[j]? = some x) : numsS k (xs.take (j + 1)) = numsS k (xs.take j) ++ numS k x := by
  rw [List.take_add_one, h, numsS_append]
  show numsS k (xs.take j) ++ (numS k x ++ E0) = _
  rw [append_E0]
abbrev uO (bl c : Nat) (xs : List Int) : It := .own 52 1 (some ⟨bl, 0, none⟩) xs.length c (xs.map fun x => [.int .u64 x])
theorem WOk.ex (g : Nat) (s : ByteArray) : ∃ p ao c, WOk g p ao c s := by
  by_cases h : s.size = 0
  · exact ⟨none, none, 0, .inl rfl, .inl ⟨rfl, rfl, size_zero h⟩⟩
  · exact ⟨none, some ⟨0, 0, none⟩, 0, .inl rfl, .inr ⟨0, rfl, by omega⟩⟩
set_option maxHeartbeats 2000000 in
theorem wNum (g c bl c2 : Nat) (p ao : Option Addr) (s : ByteArray) (n : Int) (k : Nat) (xs : List Int) (hk : min (max n 1) 8 = (k : Int)) (hx : ∀ x ∈ xs, 0 ≤ x ∧ x ≤ 18446744073709551615) (hl : xs.length ≤ 1000000) (hw : WOk g p ao c s) (hz : s.size ≤ 1099000000000) :
    Fn Try.prog 57 #[.pointer (some ⟨g, 0, none⟩), .int .i64 n, .slice (some ⟨bl, 0, none⟩) xs.length c2] (wrH g p ao c s ++ [uO bl c2 xs]) []
    (fun v L' R' => ∃ p' ao' c', v = .pointer (some ⟨g, 0, none⟩) ∧ L' = wrH g p' ao' c' (s ++ numsS k xs) ∧ R' = [] ∧ WOk g p' ao' c' (s ++ numsS k xs)) := by
  have hk1 : 1 ≤ k ∧ k ≤ 8 := by omega
  refine fn_intro Try.func57 rfl Try.ntmps57 rfl (fun E => ?_)
  (repeat (first | ((first | (apply wo_v; rfl) ); (· first | (apply pv_ev; rfl) | (apply g_bi; first | (apply pv_len_sl; rfl) | (apply pv_min; rfl; rfl) | (apply pv_max; rfl; rfl)) )) | apply wo_nil | apply wc_seq | apply wc_region | apply wc_block ))
  rw [hk]
  refine wc_loop' (fun m st => ∃ (j : Nat) (p' ao' : Option Addr) (c' : Nat), m = xs.length - j ∧ st = ⟨[(0, .pointer (some ⟨g, 0, none⟩)), (1, .int .i64 k), (13, .slice (some ⟨bl, 0, none⟩) xs.length c2), (14, .int .i64 xs.length), (15, .int .i64 j)], wrH g p' ao' c' (s ++ numsS k (xs.take j)) ++ [uO bl c2 xs], []⟩ ∧ j ≤ xs.length ∧ WOk g p' ao' c' (s ++ numsS k (xs.take j)))
    ⟨0, p, ao, c, rfl, by rw [List.take_zero, show numsS k [] = E0 from rfl, append_E0], Nat.zero_le _, by rw [List.take_zero, show numsS k [] = E0 from rfl, append_E0]; exact hw⟩ (wk_mk (by (repeat (first | apply wkf_nil | (apply wkf_cons; rfl))); done) (by (repeat (first | apply sub_nil )); done) (by first | exact fun _ h => h | (intro r hr; cases hr; done) | (simp; done) | exact fun _ h => List.mem_append_left _ h | (intro r hr; simp [hr]; done))) ?_
  clear hw p ao c hk
  rintro m st ⟨j, p, ao, c, rfl, rfl, hj, hw⟩
  by_cases hlt : j < xs.length
  · obtain ⟨x, he⟩ : ∃ x, xs[j]? = some x := ⟨_, List.getElem?_eq_getElem hlt⟩
    have hr : (xs.map fun x => [Value.int .u64 x])[j]? = some [.int .u64 x] := by simp [he]
    have hxb := hx x (List.mem_of_getElem? he)
    have hS : (s ++ numsS k (xs.take j)).size + 8 ≤ 1099511627776 := by
      rw [ByteArray.size_append, numsS_size, List.length_take]
      have : k * min j xs.length ≤ 8 * 1000000 := Nat.mul_le_mul hk1.2 (by omega)
      omega
    have hnext := numsS_take (k := k) he
    obtain ⟨S0, hS0⟩ : ∃ S0, s ++ numsS k (xs.take j) = S0 := ⟨_, rfl⟩
    have hnx : s ++ numsS k (xs.take (j + 1)) = S0 ++ numS k x := by rw [hnext, ← ByteArray.append_assoc, hS0]
    rw [hS0] at hw hS ⊢
    clear hnext hS0
    (repeat (first | ((first | (apply wo_v; rfl) ); (· first | (apply pv_ev; rfl) | (apply g_load; first | (apply pv_ld; rfl; (· (repeat (first | apply sel_there))); rfl) | (apply pv_ld_ownf; rfl; (· (repeat (first | fail ))); (· assumption); rfl) | (apply pv_ld_own1; rfl; (· (repeat (first | apply sel_here | apply sel_there))); (· assumption)) ) | (apply g_bin; first | (apply a_sub; rfl; rfl; infer_instance; omega) ) | (apply g_idx; first | (apply pv_idx; rfl; rfl; omega) ) )) | apply wo_nil | apply wc_seq | apply wc_region | apply wc_block | apply wc_skip | (apply wc_true; rfl) | (apply wc_false; rfl) | (apply a_dec_t; rfl; (· first | assumption | omega)) ))
    refine wc_loop' (fun m st => ∃ (t : Nat) (z : Int) (p' ao' : Option Addr) (c' : Nat), m = k - t ∧ st = ⟨[(0, .pointer (some ⟨g, 0, none⟩)), (1, .int .i64 k), (8, .int .u64 x), (9, .int .i64 z), (13, .slice (some ⟨bl, 0, none⟩) xs.length c2), (14, .int .i64 xs.length), (15, .int .i64 j)], wrH g p' ao' c' (S0 ++ numS t (sh x (k - t))) ++ [uO bl c2 xs], []⟩ ∧ t ≤ k ∧ z = (k : Int) - 1 - (t : Int) ∧ WOk g p' ao' c' (S0 ++ numS t (sh x (k - t))))
      ⟨0, (k : Int) - 1, p, ao, c, rfl, by rw [show numS 0 (sh x (k - 0)) = E0 from rfl, append_E0], Nat.zero_le _, by omega, by rw [show numS 0 (sh x (k - 0)) = E0 from rfl, append_E0]; exact hw⟩ (wk_mk (by (repeat (first | apply wkf_nil | (apply wkf_cons; rfl))); done) (by (repeat (first | apply sub_nil )); done) (by first | exact fun _ h => h | (intro r hr; cases hr; done) | (simp; done) | exact fun _ h => List.mem_append_left _ h | (intro r hr; simp [hr]; done))) ?_
    clear hw p ao c
    rintro m st ⟨t, z, p, ao, c, rfl, rfl, ht, hz, hw⟩
    by_cases htk : t < k
    · obtain rfl : z = ((k - 1 - t : Nat) : Int) := by omega
      have hsh := sh_nonneg hxb.1 (k - 1 - t)
      have hfd := sh_fdiv hxb.1 (k - 1 - t) (by omega)
      have hs1 : numS (t + 1) (sh x (k - (t + 1))) = numS t (sh x (k - t)) ++ b1 (sh x (k - 1 - t) % 256) := by
        show numS t (sh x (k - (t + 1)) / 256) ++ b1 (sh x (k - (t + 1)) % 256) = _
        rw [show k - (t + 1) = k - 1 - t by omega, show k - t = (k - 1 - t) + 1 by omega]
        rfl
      have hsz : (S0 ++ numS t (sh x (k - t))).size + 1 ≤ 1099511627776 := by rw [ByteArray.size_append, numS_size]; omega
      have hB := fun p ao c hw => bWriteByte g c p ao (S0 ++ numS t (sh x (k - t))) (sh x (k - 1 - t) % 256) (by omega) hw hsz
      rw [ByteArray.append_assoc, ← hs1] at hB
      have hB := hB p ao c hw
      generalize S0 ++ numS t (sh x (k - t)) = S1 at hB hw hsz
      obtain ⟨S2, hS2⟩ : ∃ S2, S0 ++ numS (t + 1) (sh x (k - (t + 1))) = S2 := ⟨_, rfl⟩
      rw [hS2] at hB
      (repeat (first | ((first | (apply wo_v; rfl) ); (· first | (apply pv_ev; rfl) )) | apply wo_nil | apply wc_seq | apply wc_region | apply wc_block | apply wc_skip | (apply wc_true; rfl) ))
      (refine wc_reg [0] (asl [(8, 0)]) (fun _ _ v M => ∃ p' ao' c', v = .nilIface ∧ M = wrH g p' ao' c' S2 ∧ WOk g p' ao' c' S2) ([uO bl c2 xs]) (fm [(0, wrH g p ao c S1)]) mixed (by kernel_rfl) (by kernel_rfl) (by decide) (asl_mem (by decide)) (by (repeat (first | (apply prm_cons; (· (repeat (first | apply sel_here | apply sel_there)))) | apply List.Perm.nil )); done) ?_; (repeat (first | ((first | (apply HdE.val; rfl; rfl; (· first | apply gok_none ))); (· first | (apply pv_ev; rfl) | (apply pv_fld; rfl) | (apply g_bin; first | (apply a_mul; rfl; rfl; infer_instance; omega) | (apply a_shr; rfl; rfl; rfl; omega; rfl) | (apply pv_shr; rfl; rfl; omega) ) | (apply g_conv; first | (apply a_conv; rfl; infer_instance; infer_instance; infer_instance; omega) | (apply a_conv_u; rfl; infer_instance; infer_instance; infer_instance) ) )) )))
      rw [hfd]
      (refine he_eff rfl rfl rfl (by first | exact gok_none | exact gok_run rfl rfl) (outc_call (hB) rfl (by (repeat (first | apply sub_nil )); done) (by first | exact fun _ h => h | (intro r hr; cases hr; done) | (simp; done) | exact fun _ h => List.mem_append_left _ h | (intro r hr; simp [hr]; done)) ?_) ((by obtain ⟨p', ao', c', h⟩ := WOk.ex g S2; exact ⟨_, _, p', ao', c', rfl, rfl, h⟩)) ?_; (· rintro v L' R' ⟨p', ao', c', hv, rfl, _, hw'⟩; exact ⟨_, ⟨p', ao', c', hv, rfl, hw'⟩, (by (repeat (first | (apply prm_cons; (· (repeat (first | apply sel_here )))) | apply List.Perm.nil )); done)⟩); rintro v M ⟨p', ao', c', rfl, rfl, hw'⟩; simp only [setl, reduceIte, Nat.reduceEqDiff]; (repeat (first | fail )))
      (refine HdE.nil ?_; intro H hH; simp only [Hp, fm, look, setl, List.flatMap_cons, List.flatMap_nil, reduceIte, Nat.reduceEqDiff, Option.getD_some, List.append_nil, List.cons_append, List.nil_append] at hH; subst hH)
      (repeat (first | ((first | (apply wo_v; rfl) ); (· first | (apply pv_ev; rfl) | (apply g_bin; first | (apply a_sub; rfl; rfl; infer_instance; omega) ) )) | apply wo_nil | apply wc_region ))
      exact loop_end ⟨t + 1, ((k - 1 - t : Nat) : Int) - 1, p', ao', c', rfl, by rw [hS2], by omega, by omega, by rw [hS2]; exact hw'⟩ (by omega) (wk_mk (by (repeat (first | apply wkf_nil | (apply wkf_cons; rfl))); done) (by (repeat (first | apply sub_nil | (apply sub_cons; (· (repeat (first | apply sel_here | apply sel_there)))))); done) (by first | exact fun _ h => h | (intro r hr; cases hr; done) | (simp; done) | exact fun _ h => List.mem_append_left _ h | (intro r hr; simp [hr]; done)))
    · obtain rfl : t = k := by omega
      rw [Nat.sub_self] at hw ⊢
      rw [show sh x 0 = x from rfl, ← hnx] at hw ⊢
      subst hz
      (repeat (first | ((first | (apply wo_v; rfl) ); (· first | (apply pv_ev; rfl) | (apply g_bin; first | (apply a_add; rfl; rfl; infer_instance; omega) ) )) | apply wo_nil | apply wc_seq | apply wc_region | (apply wc_exit; rfl) | (apply wc_true; rfl) | (apply wc_false; rfl) | (apply a_dec_t; rfl; (· first | assumption | omega)) | (apply a_dec_f; rfl; (· first | assumption | omega)) ))
      exact loop_end ⟨j + 1, p, ao, c, rfl, rfl, by omega, hw⟩ (by omega) (wk_mk (by (repeat (first | apply wkf_nil | (apply wkf_cons; rfl))); done) (by (repeat (first | apply sub_nil )); done) (by first | exact fun _ h => h | (intro r hr; cases hr; done) | (simp; done) | exact fun _ h => List.mem_append_left _ h | (intro r hr; simp [hr]; done)))
  · obtain rfl : j = xs.length := by omega
    rw [List.take_length] at hw ⊢
    (repeat (first | ((first | (apply wo_v; rfl) ); (· first | (apply pv_ev; rfl) )) | apply wo_nil | apply wc_seq | apply wc_region | (apply wc_exit; rfl) | apply wc_ret | (apply wc_true; rfl) | (apply wc_false; rfl) | (apply a_dec_t; rfl; (· first | assumption | omega)) | (apply a_dec_f; rfl; (· first | assumption | omega)) ))
    exact retv rfl (by (repeat (first | apply RV.nil | (apply RV.tmp; rfl) )); done) ⟨p, ao, c, rfl, rfl, rfl, hw⟩ (by (repeat (first | apply sub_nil )); done) (by first | exact fun _ h => h | (intro r hr; cases hr; done) | (simp; done) | exact fun _ h => List.mem_append_left _ h | (intro r hr; simp [hr]; done))
end Go.Proofs.Yteaccbbmphcmnaa

/-
  Package octet: Writer.U16, U32, Put, Pad.
-/
namespace Go.Proofs.Yteaccbbmphcmnaa
set_option linter.unusedSimpArgs false
set_option linter.unusedVariables false
set_option linter.unusedSimpArgs false
set_option linter.unusedVariables false
open Go.RowKit
set_option maxRecDepth 100000
attribute [local irreducible] Pv WO WC Fn
attribute [local irreducible] ByteArray.extract

theorem min_max_lit (n : Int) (h : 1 ≤ n ∧ n ≤ 8) : min (max n 1) 8 = n := by omega
abbrev u16O (bl c : Nat) (xs : List Int) : It := .own 34 1 (some ⟨bl, 0, none⟩) xs.length c (xs.map fun x => [.int .u16 x])
set_option maxHeartbeats 1000000 in
theorem wU16 (g c bl c2 : Nat) (p ao : Option Addr) (s : ByteArray) (xs : List Int) (hx : ∀ x ∈ xs, 0 ≤ x ∧ x ≤ 65535) (hl : xs.length ≤ 1000000) (hw : WOk g p ao c s) (hz : s.size ≤ 1098000000000) :
    Fn Try.prog 32 #[.pointer (some ⟨g, 0, none⟩), .slice (some ⟨bl, 0, none⟩) xs.length c2] (wrH g p ao c s ++ [u16O bl c2 xs]) []
    (fun v L' R' => ∃ p' ao' c', v = .pointer (some ⟨g, 0, none⟩) ∧ L' = wrH g p' ao' c' (s ++ numsS 2 xs) ∧ R' = [] ∧ WOk g p' ao' c' (s ++ numsS 2 xs)) := by
  refine fn_intro Try.func32 rfl Try.ntmps32 rfl (fun E => ?_)
  (repeat (first | ((first | (apply wo_v; rfl) ); (· first | (apply pv_ev; rfl) | (apply g_bi; first | (apply pv_len_sl; rfl) ) )) | apply wo_nil | apply wc_seq | apply wc_region | apply wc_block ))
  refine wc_loop' (fun m st => ∃ (j : Nat) (p' ao' : Option Addr) (c' : Nat), m = xs.length - j ∧ st = ⟨[(0, .pointer (some ⟨g, 0, none⟩)), (7, .slice (some ⟨bl, 0, none⟩) xs.length c2), (8, .int .i64 xs.length), (9, .int .i64 j)], wrH g p' ao' c' (s ++ numsS 2 (xs.take j)) ++ [u16O bl c2 xs], []⟩ ∧ j ≤ xs.length ∧ WOk g p' ao' c' (s ++ numsS 2 (xs.take j)))
    ⟨0, p, ao, c, rfl, by rw [List.take_zero, show numsS 2 [] = E0 from rfl, append_E0], Nat.zero_le _, by rw [List.take_zero, show numsS 2 [] = E0 from rfl, append_E0]; exact hw⟩ (wk_mk (by (repeat (first | apply wkf_nil | (apply wkf_cons; rfl))); done) (by (repeat (first | apply sub_nil )); done) (by first | exact fun _ h => h | (intro r hr; cases hr; done) | (simp; done) | exact fun _ h => List.mem_append_left _ h | (intro r hr; simp [hr]; done))) ?_
  clear hw p ao c
  rintro m st ⟨j, p, ao, c, rfl, rfl, hj, hw⟩
  by_cases hlt : j < xs.length
  · obtain ⟨x, he⟩ : ∃ x, xs[j]? = some x := ⟨_, List.getElem?_eq_getElem hlt⟩
    have hr : (xs.map fun x => [Value.int .u16 x])[j]? = some [.int .u16 x] := by simp [he]
    have hxb := hx x (List.mem_of_getElem? he)
    have hS : (s ++ numsS 2 (xs.take j)).size ≤ 1099000000000 := by
      rw [ByteArray.size_append, numsS_size, List.length_take]; omega
    have hnext := numsS_take (k := 2) he
    obtain ⟨S0, hS0⟩ : ∃ S0, s ++ numsS 2 (xs.take j) = S0 := ⟨_, rfl⟩
    have hnx : s ++ numsS 2 (xs.take (j + 1)) = S0 ++ numsS 2 [x] := by rw [hnext, ← ByteArray.append_assoc, hS0]; show S0 ++ numS 2 x = S0 ++ (numS 2 x ++ E0); rw [append_E0]
    rw [hS0] at hw hS ⊢
    clear hnext hS0
    have hN := fun bl c2 => wNum g c bl c2 p ao S0 2 2 [x] rfl (by intro y hy; rcases List.mem_singleton.1 hy with rfl; omega) (by simp) hw hS
    rw [← hnx] at hN
    (repeat (first | ((first | (apply wo_v; rfl) ); (· first | (apply pv_ev; rfl) | (apply g_load; first | (apply pv_ld; rfl; (· (repeat (first | apply sel_there))); rfl) | (apply pv_ld_ownf; rfl; (· (repeat (first | fail ))); (· assumption); rfl) | (apply pv_ld_own1; rfl; (· (repeat (first | apply sel_here | apply sel_there))); (· assumption)) ) | (apply g_conv; first | (apply a_conv; rfl; infer_instance; infer_instance; infer_instance; omega) ) | (apply g_idx; first | (apply pv_idx; rfl; rfl; omega) ) )) | apply wo_nil | apply wc_seq | apply wc_region | apply wc_block | apply wc_skip | (apply wc_true; rfl) | (apply wc_false; rfl) | (apply a_dec_t; rfl; (· first | assumption | omega)) | (apply wo_bsl; (· (repeat (first | apply Rws'.nil | (apply Rws'.one; rfl; rfl; rfl) ))); rfl; rfl; rfl; rfl; intro bx) ))
    (refine wo_call (hN _ _) rfl (by (repeat (first | apply sub_nil | (apply sub_cons; (· (repeat (first | apply sel_here | apply sel_there)))))); done) (by first | exact fun _ h => h | (intro r hr; cases hr; done) | (simp; done) | exact fun _ h => List.mem_append_left _ h | (intro r hr; simp [hr]; done)) rfl ?_; rintro v L' R' ⟨p', ao', c', rfl, rfl, rfl, hw'⟩ H' hH RR hR; simp only [List.cons_append, List.nil_append] at hH hR; subst hH; have hR := hR.symm; subst hR)
    (repeat (first | ((first | (apply wo_v; rfl) ); (· first | (apply pv_ev; rfl) | (apply g_bin; first | (apply a_add; rfl; rfl; infer_instance; omega) ) )) | apply wo_nil | apply wc_region ))
    exact loop_end ⟨j + 1, p', ao', c', rfl, rfl, by omega, hw'⟩ (by omega) (wk_mk (by (repeat (first | apply wkf_nil | (apply wkf_cons; rfl))); done) (by (repeat (first | apply sub_nil )); done) (by first | exact fun _ h => h | (intro r hr; cases hr; done) | (simp; done) | exact fun _ h => List.mem_append_left _ h | (intro r hr; simp [hr]; done)))
  · obtain rfl : j = xs.length := by omega
    rw [List.take_length] at hw ⊢
    (repeat (first | ((first | (apply wo_v; rfl) ); (· first | (apply pv_ev; rfl) )) | apply wo_nil | apply wc_seq | apply wc_region | (apply wc_exit; rfl) | apply wc_ret | (apply wc_true; rfl) | (apply wc_false; rfl) | (apply a_dec_t; rfl; (· first | assumption | omega)) | (apply a_dec_f; rfl; (· first | assumption | omega)) ))
    exact retv rfl (by (repeat (first | apply RV.nil | (apply RV.tmp; rfl) )); done) ⟨p, ao, c, rfl, rfl, rfl, hw⟩ (by (repeat (first | apply sub_nil )); done) (by first | exact fun _ h => h | (intro r hr; cases hr; done) | (simp; done) | exact fun _ h => List.mem_append_left _ h | (intro r hr; simp [hr]; done))
abbrev u32O (bl c : Nat) (xs : List Int) : It := .own 37 1 (some ⟨bl, 0, none⟩) xs.length c (xs.map fun x => [.int .u32 x])
set_option maxHeartbeats 1000000 in
theorem wU32 (g c bl c2 : Nat) (p ao : Option Addr) (s : ByteArray) (xs : List Int) (hx : ∀ x ∈ xs, 0 ≤ x ∧ x ≤ 4294967295) (hl : xs.length ≤ 1000000) (hw : WOk g p ao c s) (hz : s.size ≤ 1098000000000) :
    Fn Try.prog 102 #[.pointer (some ⟨g, 0, none⟩), .slice (some ⟨bl, 0, none⟩) xs.length c2] (wrH g p ao c s ++ [u32O bl c2 xs]) []
    (fun v L' R' => ∃ p' ao' c', v = .pointer (some ⟨g, 0, none⟩) ∧ L' = wrH g p' ao' c' (s ++ numsS 4 xs) ∧ R' = [] ∧ WOk g p' ao' c' (s ++ numsS 4 xs)) := by
  refine fn_intro Try.func102 rfl Try.ntmps102 rfl (fun E => ?_)
  (repeat (first | ((first | (apply wo_v; rfl) ); (· first | (apply pv_ev; rfl) | (apply g_bi; first | (apply pv_len_sl; rfl) ) )) | apply wo_nil | apply wc_seq | apply wc_region | apply wc_block ))
  refine wc_loop' (fun m st => ∃ (j : Nat) (p' ao' : Option Addr) (c' : Nat), m = xs.length - j ∧ st = ⟨[(0, .pointer (some ⟨g, 0, none⟩)), (7, .slice (some ⟨bl, 0, none⟩) xs.length c2), (8, .int .i64 xs.length), (9, .int .i64 j)], wrH g p' ao' c' (s ++ numsS 4 (xs.take j)) ++ [u32O bl c2 xs], []⟩ ∧ j ≤ xs.length ∧ WOk g p' ao' c' (s ++ numsS 4 (xs.take j)))
    ⟨0, p, ao, c, rfl, by rw [List.take_zero, show numsS 4 [] = E0 from rfl, append_E0], Nat.zero_le _, by rw [List.take_zero, show numsS 4 [] = E0 from rfl, append_E0]; exact hw⟩ (wk_mk (by (repeat (first | apply wkf_nil | (apply wkf_cons; rfl))); done) (by (repeat (first | apply sub_nil )); done) (by first | exact fun _ h => h | (intro r hr; cases hr; done) | (simp; done) | exact fun _ h => List.mem_append_left _ h | (intro r hr; simp [hr]; done))) ?_
  clear hw p ao c
  rintro m st ⟨j, p, ao, c, rfl, rfl, hj, hw⟩
  by_cases hlt : j < xs.length
  · obtain ⟨x, he⟩ : ∃ x, xs[j]? = some x := ⟨_, List.getElem?_eq_getElem hlt⟩
    have hr : (xs.map fun x => [Value.int .u32 x])[j]? = some [.int .u32 x] := by simp [he]
    have hxb := hx x (List.mem_of_getElem? he)
    have hS : (s ++ numsS 4 (xs.take j)).size ≤ 1099000000000 := by
      rw [ByteArray.size_append, numsS_size, List.length_take]; omega
    have hnext := numsS_take (k := 4) he
    obtain ⟨S0, hS0⟩ : ∃ S0, s ++ numsS 4 (xs.take j) = S0 := ⟨_, rfl⟩
    have hnx : s ++ numsS 4 (xs.take (j + 1)) = S0 ++ numsS 4 [x] := by rw [hnext, ← ByteArray.append_assoc, hS0]; show S0 ++ numS 4 x = S0 ++ (numS 4 x ++ E0); rw [append_E0]
    rw [hS0] at hw hS ⊢
    clear hnext hS0
    have hN := fun bl c2 => wNum g c bl c2 p ao S0 4 4 [x] rfl (by intro y hy; rcases List.mem_singleton.1 hy with rfl; omega) (by simp) hw hS
    rw [← hnx] at hN
    (repeat (first | ((first | (apply wo_v; rfl) ); (· first | (apply pv_ev; rfl) | (apply g_load; first | (apply pv_ld; rfl; (· (repeat (first | apply sel_there))); rfl) | (apply pv_ld_ownf; rfl; (· (repeat (first | fail ))); (· assumption); rfl) | (apply pv_ld_own1; rfl; (· (repeat (first | apply sel_here | apply sel_there))); (· assumption)) ) | (apply g_conv; first | (apply a_conv; rfl; infer_instance; infer_instance; infer_instance; omega) ) | (apply g_idx; first | (apply pv_idx; rfl; rfl; omega) ) )) | apply wo_nil | apply wc_seq | apply wc_region | apply wc_block | apply wc_skip | (apply wc_true; rfl) | (apply wc_false; rfl) | (apply a_dec_t; rfl; (· first | assumption | omega)) | (apply wo_bsl; (· (repeat (first | apply Rws'.nil | (apply Rws'.one; rfl; rfl; rfl) ))); rfl; rfl; rfl; rfl; intro bx) ))
    (refine wo_call (hN _ _) rfl (by (repeat (first | apply sub_nil | (apply sub_cons; (· (repeat (first | apply sel_here | apply sel_there)))))); done) (by first | exact fun _ h => h | (intro r hr; cases hr; done) | (simp; done) | exact fun _ h => List.mem_append_left _ h | (intro r hr; simp [hr]; done)) rfl ?_; rintro v L' R' ⟨p', ao', c', rfl, rfl, rfl, hw'⟩ H' hH RR hR; simp only [List.cons_append, List.nil_append] at hH hR; subst hH; have hR := hR.symm; subst hR)
    (repeat (first | ((first | (apply wo_v; rfl) ); (· first | (apply pv_ev; rfl) | (apply g_bin; first | (apply a_add; rfl; rfl; infer_instance; omega) ) )) | apply wo_nil | apply wc_region ))
    exact loop_end ⟨j + 1, p', ao', c', rfl, rfl, by omega, hw'⟩ (by omega) (wk_mk (by (repeat (first | apply wkf_nil | (apply wkf_cons; rfl))); done) (by (repeat (first | apply sub_nil )); done) (by first | exact fun _ h => h | (intro r hr; cases hr; done) | (simp; done) | exact fun _ h => List.mem_append_left _ h | (intro r hr; simp [hr]; done)))
  · obtain rfl : j = xs.length := by omega
    rw [List.take_length] at hw ⊢
    (repeat (first | ((first | (apply wo_v; rfl) ); (· first | (apply pv_ev; rfl) )) | apply wo_nil | apply wc_seq | apply wc_region | (apply wc_exit; rfl) | apply wc_ret | (apply wc_true; rfl) | (apply wc_false; rfl) | (apply a_dec_t; rfl; (· first | assumption | omega)) | (apply a_dec_f; rfl; (· first | assumption | omega)) ))
    exact retv rfl (by (repeat (first | apply RV.nil | (apply RV.tmp; rfl) )); done) ⟨p, ao, c, rfl, rfl, rfl, hw⟩ (by (repeat (first | apply sub_nil )); done) (by first | exact fun _ h => h | (intro r hr; cases hr; done) | (simp; done) | exact fun _ h => List.mem_append_left _ h | (intro r hr; simp [hr]; done))
def catS : List ByteArray → ByteArray
  | [] => E0
  | z :: zs => z ++ catS zs
theorem catS_append : ∀ a b : List ByteArray, catS (a ++ b) = catS a ++ catS b
  | [], b => (E0_append _).symm
  | x :: a, b => by
    show x ++ catS (a ++ b) = (x ++ catS a) ++ catS b
    rw [catS_append a b, ByteArray.append_assoc]
theorem catS_take {zs : List ByteArray} {j : Nat} {z : ByteArray} (h : zs[j]? = some z) : catS (zs.take (j + 1)) = catS (zs.take j) ++ z := by
  rw [List.take_add_one, h, catS_append]
  show catS (zs.take j) ++ (z ++ E0) = _
  rw [append_E0]
theorem catS_size : ∀ {zs : List ByteArray}, (∀ z ∈ zs, z.size ≤ 1000000) → (catS zs).size ≤ 1000000 * zs.length
  | [], _ => Nat.le_refl _
  | z :: zs, h => by
    have h1 := h z (.head _)
    have h2 := catS_size (zs := zs) (fun y hy => h y (.tail _ hy))
    simp only [catS, ByteArray.size_append, List.length_cons]; omega
abbrev stO (bl c : Nat) (zs : List ByteArray) : It := .own 9 1 (some ⟨bl, 0, none⟩) zs.length c (zs.map fun z => [.string z])
set_option maxHeartbeats 1000000 in
theorem wPut (g c bl c2 : Nat) (p ao : Option Addr) (s : ByteArray) (zs : List ByteArray) (hx : ∀ z ∈ zs, z.size ≤ 1000000) (hl : zs.length ≤ 1000) (hw : WOk g p ao c s) (hz : s.size ≤ 1098000000000) :
    Fn Try.prog 34 #[.pointer (some ⟨g, 0, none⟩), .slice (some ⟨bl, 0, none⟩) zs.length c2] (wrH g p ao c s ++ [stO bl c2 zs]) []
    (fun v L' R' => ∃ p' ao' c', v = .pointer (some ⟨g, 0, none⟩) ∧ L' = wrH g p' ao' c' (s ++ catS zs) ∧ R' = [] ∧ WOk g p' ao' c' (s ++ catS zs)) := by
  refine fn_intro Try.func34 rfl Try.ntmps34 rfl (fun E => ?_)
  (repeat (first | ((first | (apply wo_v; rfl) ); (· first | (apply pv_ev; rfl) | (apply g_bi; first | (apply pv_len_sl; rfl) ) )) | apply wo_nil | apply wc_seq | apply wc_region | apply wc_block ))
  refine wc_loop' (fun m st => ∃ (j : Nat) (p' ao' : Option Addr) (c' : Nat), m = zs.length - j ∧ st = ⟨[(0, .pointer (some ⟨g, 0, none⟩)), (7, .slice (some ⟨bl, 0, none⟩) zs.length c2), (8, .int .i64 zs.length), (9, .int .i64 j)], wrH g p' ao' c' (s ++ catS (zs.take j)) ++ [stO bl c2 zs], []⟩ ∧ j ≤ zs.length ∧ WOk g p' ao' c' (s ++ catS (zs.take j)))
    ⟨0, p, ao, c, rfl, by rw [List.take_zero, show catS [] = E0 from rfl, append_E0], Nat.zero_le _, by rw [List.take_zero, show catS [] = E0 from rfl, append_E0]; exact hw⟩ (wk_mk (by (repeat (first | apply wkf_nil | (apply wkf_cons; rfl))); done) (by (repeat (first | apply sub_nil )); done) (by first | exact fun _ h => h | (intro r hr; cases hr; done) | (simp; done) | exact fun _ h => List.mem_append_left _ h | (intro r hr; simp [hr]; done))) ?_
  clear hw p ao c
  rintro m st ⟨j, p, ao, c, rfl, rfl, hj, hw⟩
  by_cases hlt : j < zs.length
  · obtain ⟨x, he⟩ : ∃ x, zs[j]? = some x := ⟨_, List.getElem?_eq_getElem hlt⟩
    have hr : (zs.map fun z => [Value.string z])[j]? = some [.string x] := by simp [he]
    have hxb := hx x (List.mem_of_getElem? he)
    have hS : (s ++ catS (zs.take j)).size + x.size ≤ 1099511627776 := by
      have := catS_size (zs := zs.take j) (fun y hy => hx y (List.mem_of_mem_take hy))
      rw [List.length_take] at this
      rw [ByteArray.size_append]; omega
    have hnext := catS_take he
    obtain ⟨S0, hS0⟩ : ∃ S0, s ++ catS (zs.take j) = S0 := ⟨_, rfl⟩
    have hnx : s ++ catS (zs.take (j + 1)) = S0 ++ x := by rw [hnext, ← ByteArray.append_assoc, hS0]
    rw [hS0] at hw hS ⊢
    clear hnext hS0
    have hN := bWriteString g c p ao S0 x hw hS
    rw [← hnx] at hN
    (repeat (first | ((first | (apply wo_v; rfl) ); (· first | (apply pv_ev; rfl) | (apply pv_fld; rfl) | (apply g_load; first | (apply pv_ld; rfl; (· (repeat (first | apply sel_there))); rfl) | (apply pv_ld_ownf; rfl; (· (repeat (first | fail ))); (· assumption); rfl) | (apply pv_ld_own1; rfl; (· (repeat (first | apply sel_here | apply sel_there))); (· assumption)) ) | (apply g_idx; first | (apply pv_idx; rfl; rfl; omega) ) )) | apply wo_nil | apply wc_seq | apply wc_region | apply wc_block | apply wc_skip | (apply wc_true; rfl) | (apply wc_false; rfl) | (apply a_dec_t; rfl; (· first | assumption | omega)) ))
    (refine wo_call (hN) rfl (by (repeat (first | apply sub_nil )); done) (by first | exact fun _ h => h | (intro r hr; cases hr; done) | (simp; done) | exact fun _ h => List.mem_append_left _ h | (intro r hr; simp [hr]; done)) rfl ?_; rintro v L' R' ⟨p', ao', c', rfl, rfl, rfl, hw'⟩ H' hH RR hR; simp only [List.cons_append, List.nil_append] at hH hR; subst hH; have hR := hR.symm; subst hR)
    (repeat (first | ((first | (apply wo_v; rfl) ); (· first | (apply pv_ev; rfl) | (apply g_bin; first | (apply a_add; rfl; rfl; infer_instance; omega) ) )) | apply wo_nil | apply wc_region ))
    exact loop_end ⟨j + 1, p', ao', c', rfl, rfl, by omega, hw'⟩ (by omega) (wk_mk (by (repeat (first | apply wkf_nil | (apply wkf_cons; rfl))); done) (by (repeat (first | apply sub_nil )); done) (by first | exact fun _ h => h | (intro r hr; cases hr; done) | (simp; done) | exact fun _ h => List.mem_append_left _ h | (intro r hr; simp [hr]; done)))
  · obtain rfl : j = zs.length := by omega
    rw [List.take_length] at hw ⊢
    (repeat (first | ((first | (apply wo_v; rfl) ); (· first | (apply pv_ev; rfl) )) | apply wo_nil | apply wc_seq | apply wc_region | (apply wc_exit; rfl) | apply wc_ret | (apply wc_true; rfl) | (apply wc_false; rfl) | (apply a_dec_t; rfl; (· first | assumption | omega)) | (apply a_dec_f; rfl; (· first | assumption | omega)) ))
    exact retv rfl (by (repeat (first | apply RV.nil | (apply RV.tmp; rfl) )); done) ⟨p, ao, c, rfl, rfl, rfl, hw⟩ (by (repeat (first | apply sub_nil )); done) (by first | exact fun _ h => h | (intro r hr; cases hr; done) | (simp; done) | exact fun _ h => List.mem_append_left _ h | (intro r hr; simp [hr]; done))
/-- so many zeros -/
def zb : Nat → ByteArray
  | 0 => E0
  | k + 1 => zb k ++ b1 0
theorem zb_size : ∀ k, (zb k).size = k
  | 0 => rfl
  | k + 1 => by simp [zb, zb_size k, b1_size]
def padJ (n T : Nat) : Nat := (T - n % T) % T
theorem padJ_lt (n : Nat) {T : Nat} (hT : 1 ≤ T) : padJ n T < T := Nat.mod_lt _ (by omega)
theorem padJ_eq (n : Nat) {T : Nat} (hT : 1 ≤ T) : (n + padJ n T) % T = 0 := by
  unfold padJ
  have h1 := Nat.mod_lt n (show 0 < T by omega)
  by_cases h : n % T = 0
  · rw [h, Nat.sub_zero, Nat.mod_self, Nat.add_zero]; exact h
  · rw [Nat.mod_eq_of_lt (show T - n % T < T by omega), Nat.add_mod, Nat.mod_eq_of_lt (show T - n % T < T by omega), show n % T + (T - n % T) = T by omega, Nat.mod_self]
theorem padJ_ne {n T j : Nat} (hT : 1 ≤ T) (hj : j < padJ n T) : (n + j) % T ≠ 0 := by
  have h1 := Nat.mod_lt n (show 0 < T by omega)
  unfold padJ at hj
  by_cases h : n % T = 0
  · rw [h, Nat.sub_zero, Nat.mod_self] at hj; omega
  · rw [Nat.mod_eq_of_lt (show T - n % T < T by omega)] at hj
    rw [Nat.add_mod, Nat.mod_eq_of_lt (show j < T by omega), Nat.mod_eq_of_lt (show n % T + j < T by omega)]
    omega
set_option maxHeartbeats 1000000 in
theorem wPad (g c : Nat) (p ao : Option Addr) (s : ByteArray) (to : Int) (T : Nat) (hT : max to 1 = (T : Int)) (hT2 : T ≤ 1000000) (hw : WOk g p ao c s) (hz : s.size ≤ 1098000000000) :
    Fn Try.prog 30 #[.pointer (some ⟨g, 0, none⟩), .int .i64 to] (wrH g p ao c s) []
    (fun v L' R' => ∃ p' ao' c', v = .pointer (some ⟨g, 0, none⟩) ∧ L' = wrH g p' ao' c' (s ++ zb (padJ s.size T)) ∧ R' = [] ∧ WOk g p' ao' c' (s ++ zb (padJ s.size T))) := by
  have hT1 : 1 ≤ T := by omega
  have hJ := padJ_lt s.size hT1
  refine fn_intro Try.func30 rfl Try.ntmps30 rfl (fun E => ?_)
  (repeat (first | ((first | (apply wo_v; rfl) ); (· first | (apply pv_ev; rfl) | (apply g_bi; first | (apply pv_max; rfl; rfl)) )) | apply wo_nil | apply wc_seq | apply wc_region | apply wc_block ))
  rw [hT]
  refine wc_loop' (fun m st => ∃ (j : Nat) (p' ao' : Option Addr) (c' : Nat), m = padJ s.size T - j ∧ st = ⟨[(0, .pointer (some ⟨g, 0, none⟩)), (1, .int .i64 T)], wrH g p' ao' c' (s ++ zb j), []⟩ ∧ j ≤ padJ s.size T ∧ WOk g p' ao' c' (s ++ zb j))
    ⟨0, p, ao, c, rfl, by rw [show zb 0 = E0 from rfl, append_E0], Nat.zero_le _, by rw [show zb 0 = E0 from rfl, append_E0]; exact hw⟩ (wk_mk (by (repeat (first | apply wkf_nil | (apply wkf_cons; rfl))); done) (by (repeat (first | apply sub_nil )); done) (by first | exact fun _ h => h | (intro r hr; cases hr; done) | (simp; done) | exact fun _ h => List.mem_append_left _ h | (intro r hr; simp [hr]; done))) ?_
  clear hw p ao c hT
  rintro m st ⟨j, p, ao, c, rfl, rfl, hj, hw⟩
  have hsz : (s ++ zb j).size = s.size + j := by rw [ByteArray.size_append, zb_size]
  have hL := wLen g c p ao (s ++ zb j).size
  by_cases hlt : j < padJ s.size T
  · have hne : ¬ (((s ++ zb j).size : Nat) : Int) % (T : Int) = 0 := by
      rw [hsz]; have := padJ_ne hT1 hlt; omega
    have hB := bWriteByte g c p ao (s ++ zb j) 0 (by omega) hw (by omega)
    rw [show s ++ zb j ++ b1 0 = s ++ zb (j + 1) from ByteArray.append_assoc] at hB
    generalize s ++ zb j = S0 at hL hB hne hw
    (repeat (first | ((first | (apply wo_v; rfl) ); (· first | (apply pv_ev; rfl) )) | apply wc_seq | apply wc_region ))
    (refine wo_call (hL) rfl (by (repeat (first | apply sub_nil )); done) (by first | exact fun _ h => h | (intro r hr; cases hr; done) | (simp; done) | exact fun _ h => List.mem_append_left _ h | (intro r hr; simp [hr]; done)) rfl ?_; rintro v L' R' ⟨rfl, rfl, rfl⟩ H' hH RR hR; simp only [List.cons_append, List.nil_append] at hH hR; subst hH; have hR := hR.symm; subst hR)
    (repeat (first | ((first | (apply wo_v; rfl) ); (· first | (apply pv_ev; rfl) | (apply pv_fld; rfl) | (apply g_bin; first | (apply pv_rem; rfl; rfl; omega) ) )) | apply wo_nil | apply wc_region | apply wc_block | apply wc_skip | (apply wc_true; rfl) | (apply wc_false; rfl) | (apply a_dec_t; rfl; (· first | assumption | omega)) ))
    (refine wo_call (hB) rfl (by (repeat (first | apply sub_nil )); done) (by first | exact fun _ h => h | (intro r hr; cases hr; done) | (simp; done) | exact fun _ h => List.mem_append_left _ h | (intro r hr; simp [hr]; done)) rfl ?_; rintro v L' R' ⟨p', ao', c', rfl, rfl, rfl, hw'⟩ H' hH RR hR; simp only [List.cons_append, List.nil_append] at hH hR; subst hH; have hR := hR.symm; subst hR)
    (repeat (first | apply wo_nil ))
    exact loop_end ⟨j + 1, p', ao', c', rfl, rfl, by omega, hw'⟩ (by omega) (wk_mk (by (repeat (first | apply wkf_nil | (apply wkf_cons; rfl))); done) (by (repeat (first | apply sub_nil )); done) (by first | exact fun _ h => h | (intro r hr; cases hr; done) | (simp; done) | exact fun _ h => List.mem_append_left _ h | (intro r hr; simp [hr]; done)))
  · obtain rfl : j = padJ s.size T := by omega
    have hne : (((s ++ zb (padJ s.size T)).size : Nat) : Int) % (T : Int) = 0 := by
      rw [hsz]; have := padJ_eq s.size hT1; omega
    generalize s ++ zb (padJ s.size T) = S0 at hL hne hw
    (repeat (first | ((first | (apply wo_v; rfl) ); (· first | (apply pv_ev; rfl) )) | apply wc_seq | apply wc_region ))
    (refine wo_call (hL) rfl (by (repeat (first | apply sub_nil )); done) (by first | exact fun _ h => h | (intro r hr; cases hr; done) | (simp; done) | exact fun _ h => List.mem_append_left _ h | (intro r hr; simp [hr]; done)) rfl ?_; rintro v L' R' ⟨rfl, rfl, rfl⟩ H' hH RR hR; simp only [List.cons_append, List.nil_append] at hH hR; subst hH; have hR := hR.symm; subst hR)
    (repeat (first | ((first | (apply wo_v; rfl) ); (· first | (apply pv_ev; rfl) | (apply g_bin; first | (apply pv_rem; rfl; rfl; omega) ) )) | apply wo_nil | apply wc_seq | apply wc_region | (apply wc_exit; rfl) | apply wc_ret | (apply wc_true; rfl) | (apply wc_false; rfl) | (apply a_dec_t; rfl; (· first | assumption | omega)) | (apply a_dec_f; rfl; (· first | assumption | omega)) ))
    exact retv rfl (by (repeat (first | apply RV.nil | (apply RV.tmp; rfl) )); done) ⟨p, ao, c, rfl, rfl, rfl, hw⟩ (by (repeat (first | apply sub_nil )); done) (by first | exact fun _ h => h | (intro r hr; cases hr; done) | (simp; done) | exact fun _ h => List.mem_append_left _ h | (intro r hr; simp [hr]; done))
end Go.Proofs.Yteaccbbmphcmnaa

/-
  Layer 2: numbers written and read; the reference's Num.
-/
namespace Go.Proofs.Yteaccbbmphcmnaa
set_option linter.unusedSimpArgs false
set_option linter.unusedVariables false
set_option linter.unusedSimpArgs false
set_option linter.unusedVariables false
open Go.RowKit
set_option maxRecDepth 100000
attribute [local irreducible] Pv WO WC Fn

theorem sb_left (a b : ByteArray) {i : Nat} (h : i < a.size) : sb (a ++ b) i = sb a i := by
  have h' : i < a.data.toList.length := by simpa using h
  unfold sb
  congr 2
  rw [ByteArray.data_append, Array.toList_append, List.getD_eq_getElem?_getD, List.getD_eq_getElem?_getD, List.getElem?_append_left h']
theorem sb_last (a : ByteArray) {x : Int} (h : 0 ≤ x ∧ x ≤ 255) : sb (a ++ b1 x) a.size = x := by
  have e : (((UInt8.ofNat x.toNat).toNat : Nat) : Int) = x := by
    simp only [UInt8.toNat_ofNat']; omega
  unfold sb
  rw [ByteArray.data_append, Array.toList_append, List.getD_eq_getElem?_getD, List.getElem?_append_right (by simp)]
  have : a.size - a.data.toList.length = 0 := by simp
  rw [this]
  exact e
theorem valK_left (a b : ByteArray) : ∀ k, k ≤ a.size → valK (a ++ b) k = valK a k
  | 0, _ => rfl
  | k + 1, h => by rw [valK, valK, valK_left a b k (by omega), sb_left a b (by omega)]
theorem valK_b1 (a : ByteArray) {x : Int} (h : 0 ≤ x ∧ x ≤ 255) : valK (a ++ b1 x) (a.size + 1) = valK a a.size * 256 + x := by
  rw [valK, valK_left a _ _ (Nat.le_refl _), sb_last a h]
theorem valK_num (k : Nat) (x : Int) : valK (numS (k + 1) x) (k + 1) = valK (numS k (x / 256)) k * 256 + x % 256 := by
  have := valK_b1 (numS k (x / 256)) (x := x % 256) (by omega)
  rw [numS_size] at this
  exact this
theorem num_val : ∀ (k : Nat) (x : Int), numS k (valK (numS k x) k) = numS k x
  | 0, _ => rfl
  | k + 1, x => by
    rw [valK_num]
    show numS k ((valK (numS k (x / 256)) k * 256 + x % 256) / 256) ++ b1 ((valK (numS k (x / 256)) k * 256 + x % 256) % 256) = numS k (x / 256) ++ b1 (x % 256)
    rw [show (valK (numS k (x / 256)) k * 256 + x % 256) / 256 = valK (numS k (x / 256)) k by omega, show (valK (numS k (x / 256)) k * 256 + x % 256) % 256 = x % 256 by omega, num_val k]
theorem val_num2 {x : Int} (h : 0 ≤ x ∧ x ≤ 65535) : valK (numS 2 x) 2 = x := by
  rw [valK_num, valK_num]
  show (0 * 256 + x / 256 % 256) * 256 + x % 256 = x
  omega
theorem val_num4 {x : Int} (h : 0 ≤ x ∧ x ≤ 4294967295) : valK (numS 4 x) 4 = x := by
  rw [valK_num, valK_num, valK_num, valK_num]
  show (((0 * 256 + x / 256 / 256 / 256 % 256) * 256 + x / 256 / 256 % 256) * 256 + x / 256 % 256) * 256 + x % 256 = x
  omega
theorem val_b1 {x : Int} (h : 0 ≤ x ∧ x ≤ 255) : valK (b1 x) 1 = x := by
  have := valK_b1 E0 h
  rw [E0_append] at this
  have e : valK (b1 x) 1 = valK E0 0 * 256 + x := this
  rw [e]
  show 0 * 256 + x = x
  omega
theorem numS_front : ∀ (k : Nat) (x : Int), numS (k + 1) x = b1 (sh x k % 256) ++ numS k x
  | 0, x => by
    show E0 ++ b1 (x % 256) = b1 (x % 256) ++ E0
    rw [E0_append, append_E0]
  | k + 1, x => by
    have e : ∀ k, sh (x / 256) k = sh x (k + 1) := fun k => by
      induction k with
      | zero => rfl
      | succ k ih => rw [sh, ih]; rfl
    show numS (k + 1) (x / 256) ++ b1 (x % 256) = b1 (sh x (k + 1) % 256) ++ (numS k (x / 256) ++ b1 (x % 256))
    rw [numS_front k (x / 256), ByteArray.append_assoc, e]
theorem ext_head2 (s z : ByteArray) : (s ++ z).extract 0 s.size = s := by
  apply ByteArray.ext
  simp [ByteArray.data_extract]
theorem ext_tail2 (s z : ByteArray) : (s ++ z).extract s.size (s ++ z).size = z := by
  apply ByteArray.ext
  simp [ByteArray.data_extract]
  rw [show s.data.extract s.size (s.size + z.size) = #[] from by apply Array.eq_empty_of_size_eq_zero; simp]
  show #[] ++ z.data.extract 0 z.data.size = z.data
  simp
theorem rdB_front (z rest : ByteArray) (n : Int) (h : n = (z.size : Int)) : rdB (z ++ rest) 0 n = (z, rest, 0) := by
  unfold rdB
  rw [if_neg (by omega), if_neg (by omega), if_neg (by rw [ByteArray.size_append]; omega), h, Int.toNat_natCast, ext_head2, ext_tail2]
attribute [local irreducible] ByteArray.extract
set_option maxHeartbeats 1000000 in
theorem rNum (n x : Int) (k : Nat) (hk : min (max n 1) 8 = (k : Int)) (hx : 0 ≤ x ∧ x ≤ 18446744073709551615) : Fn Try.prog 43 #[.int .i64 n, .int .u64 x] [] [] (fun v L' R' => v = .string (numS k x) ∧ L' = [] ∧ R' = []) := by
  have hk1 : 1 ≤ k ∧ k ≤ 8 := by omega
  refine fn_intro Try.func43 rfl Try.ntmps43 rfl (fun E => ?_)
  (repeat (first | ((first | (apply wo_v; rfl) ); (· first | (apply pv_ev; rfl) )) | apply wo_nil | apply wc_seq | apply wc_region | apply wc_block ))
  refine wc_loop' (fun m st => ∃ (j : Nat), m = k - j ∧ st = ⟨[(0, .int .i64 n), (1, .int .u64 (sh x j)), (5, .string (numS j x)), (6, .int .i64 j)], [], []⟩ ∧ j ≤ k)
    ⟨0, rfl, rfl, Nat.zero_le _⟩ (wk_mk (by (repeat (first | apply wkf_nil | (apply wkf_cons; rfl))); done) (by (repeat (first | apply sub_nil )); done) (by first | exact fun _ h => h | (intro r hr; cases hr; done) | (simp; done) | exact fun _ h => List.mem_append_left _ h | (intro r hr; simp [hr]; done))) ?_
  rintro m st ⟨j, rfl, rfl, hj⟩
  have hs := sh_nonneg hx.1 j
  have hs2 : sh x j ≤ 18446744073709551615 := by
    have : ∀ j, sh x j ≤ 18446744073709551615 := fun j => by
      induction j with
      | zero => exact hx.2
      | succ j ih => have := sh_nonneg hx.1 j; simp only [sh]; omega
    exact this j
  have hz := numS_size j x
  by_cases hlt : j < k
  · have hf := numS_front j x
    have hb : bytesOf [sh x j % 256] = b1 (sh x j % 256) := rfl
    (repeat (first | ((first | (apply wo_v; rfl) ); (· first | (apply pv_ev; rfl) | (apply g_bin; first | (apply pv_rem; rfl; rfl; omega) ) | (apply g_bi; first | (apply pv_min; rfl; rfl) | (apply pv_max; rfl; rfl)) | (apply g_conv; first | (apply a_conv; rfl; infer_instance; infer_instance; infer_instance; omega) | (apply a_conv_u; rfl; infer_instance; infer_instance; infer_instance) | (apply a_conv_w; rfl; infer_instance; infer_instance) ) )) | apply wo_nil | apply wc_seq | apply wc_region | apply wc_block | apply wc_skip | (apply wc_true; rfl) | (apply wc_false; rfl) | (apply a_dec_t; rfl; (· first | assumption | omega)) | (apply wo_bsl; (· (repeat (first | apply Rws'.nil | (apply Rws'.one; rfl; rfl; rfl) ))); rfl; rfl; rfl; rfl; intro bx) ))
    refine wo_v rfl (pv_conv_bs (ns := [sh x j % 256]) rfl (by (repeat (first | apply sel_here )); done) rfl) ?_
    rw [hb]
    have hb1 := b1_size (sh x j % 256)
    (repeat (first | ((first | (apply wo_v; rfl) ); (· first | (apply pv_ev; rfl) | (apply g_bin; first | (apply a_add; rfl; rfl; infer_instance; omega) | (apply a_quo; rfl; rfl; infer_instance; omega) | (apply pv_add_s; rfl; rfl; omega) ) )) | apply wo_nil | apply wc_region ))
    rw [← hf]
    exact loop_end ⟨j + 1, rfl, rfl, by omega⟩ (by omega) (wk_mk (by (repeat (first | apply wkf_nil | (apply wkf_cons; rfl))); done) (by (repeat (first | apply sub_nil )); done) (by first | exact fun _ h => h | (intro r hr; cases hr; done) | (simp; done) | exact fun _ h => List.mem_append_left _ h | (intro r hr; simp [hr]; done)))
  · obtain rfl : j = k := by omega
    (repeat (first | ((first | (apply wo_v; rfl) ); (· first | (apply pv_ev; rfl) | (apply g_bi; first | (apply pv_min; rfl; rfl) | (apply pv_max; rfl; rfl)) )) | apply wo_nil | apply wc_seq | apply wc_region | (apply wc_exit; rfl) | apply wc_ret | (apply wc_true; rfl) | (apply wc_false; rfl) | (apply a_dec_t; rfl; (· first | assumption | omega)) | (apply a_dec_f; rfl; (· first | assumption | omega)) ))
    exact retv rfl (by (repeat (first | apply RV.nil | (apply RV.tmp; rfl) )); done) ⟨rfl, rfl, rfl⟩ ((by (repeat (first | apply sub_nil )); done) : List.Perm _ ([] ++ _)) (by first | exact fun _ h => h | (intro r hr; cases hr; done) | (simp; done) | exact fun _ h => List.mem_append_left _ h | (intro r hr; simp [hr]; done))
theorem numsS_one (k : Nat) (x : Int) : numsS k [x] = numS k x := append_E0 _
theorem brows_one {x : Int} (h : 0 ≤ x ∧ x ≤ 255) : [[Value.int .u8 x]] = brows (b1 x) := (b1_rows h).symm
end Go.Proofs.Yteaccbbmphcmnaa

/-
  Layer 4, plain: descriptors, how they are read of bytes, their bytes. No program in sight.
-/
namespace Go.Proofs.Yteaccbbmphcmnaa
set_option linter.unusedSimpArgs false
set_option linter.unusedVariables false
open Go.RowKit
attribute [local irreducible] ByteArray.extract

/-! bits of bytes -/
theorem u8_all {p : Int → Prop} (h : ∀ n : Fin 256, p ((n.val : Nat) : Int)) {a : Int} (ha : 0 ≤ a ∧ a ≤ 255) : p a := by
  have := h ⟨a.toNat, by omega⟩
  rwa [show (((⟨a.toNat, by omega⟩ : Fin 256).val : Nat) : Int) = a by simp; omega] at this
theorem and8_32 {a : Int} : 0 ≤ a ∧ a ≤ 255 → bits .and .u8 a 32 = a / 32 % 2 * 32 := u8_all (p := fun a => bits .and .u8 a 32 = a / 32 % 2 * 32) (by decide +kernel)
theorem and8_16 {a : Int} : 0 ≤ a ∧ a ≤ 255 → bits .and .u8 a 16 = a / 16 % 2 * 16 := u8_all (p := fun a => bits .and .u8 a 16 = a / 16 % 2 * 16) (by decide +kernel)
theorem and8_7 {a : Int} : 0 ≤ a ∧ a ≤ 255 → bits .and .u8 a 7 = a % 8 := u8_all (p := fun a => bits .and .u8 a 7 = a % 8) (by decide +kernel)
theorem and8_128 {a : Int} : 0 ≤ a ∧ a ≤ 255 → bits .and .u8 a 128 = a / 128 % 2 * 128 := u8_all (p := fun a => bits .and .u8 a 128 = a / 128 % 2 * 128) (by decide +kernel)
theorem and8_64 {a : Int} : 0 ≤ a ∧ a ≤ 255 → bits .and .u8 a 64 = a / 64 % 2 * 64 := u8_all (p := fun a => bits .and .u8 a 64 = a / 64 % 2 * 64) (by decide +kernel)
theorem and8_48 {a : Int} : 0 ≤ a ∧ a ≤ 255 → bits .and .u8 a 48 = a / 16 % 4 * 16 := u8_all (p := fun a => bits .and .u8 a 48 = a / 16 % 4 * 16) (by decide +kernel)
theorem and8_31 {a : Int} : 0 ≤ a ∧ a ≤ 255 → bits .and .u8 a 31 = a % 32 := u8_all (p := fun a => bits .and .u8 a 31 = a % 32) (by decide +kernel)
theorem and8_1 {a : Int} : 0 ≤ a ∧ a ≤ 255 → bits .and .u8 a 1 = a % 2 := u8_all (p := fun a => bits .and .u8 a 1 = a % 2) (by decide +kernel)

/-! one byte read -/
abbrev Rs := ByteArray × Int
def t1 (r : Rs) : Int × Rs := (valK (rdB r.1 r.2 1).1 (rdB r.1 r.2 1).1.size, (rdB r.1 r.2 1).2)
theorem t1_b (r : Rs) : 0 ≤ (t1 r).1 ∧ (t1 r).1 ≤ 255 := by
  have h : (rdB r.1 r.2 1).1.size ≤ 1 := by have := rdB_size r.1 r.2 1 (by omega); omega
  have h1 := valK_b (rdB r.1 r.2 1).1
  show 0 ≤ valK _ _ ∧ valK _ _ ≤ 255
  have h2 : (rdB r.1 r.2 1).1.size = 0 ∨ (rdB r.1 r.2 1).1.size = 1 := by omega
  rcases h2 with h2 | h2
  · rw [h2]; simp [valK]
  · rw [h2]; exact ⟨h1.1 1, h1.2.1⟩
theorem t1_size (r : Rs) : (t1 r).2.1.size ≤ r.1.size := rdB_size2 r.1 r.2 1
theorem t1_front {x : Int} (h : 0 ≤ x ∧ x ≤ 255) (z : ByteArray) : t1 (b1 x ++ z, 0) = (x, z, 0) := by
  unfold t1
  rw [rdB_front (b1 x) z 1 rfl]
  show (valK (b1 x) 1, z, 0) = _
  rw [val_b1 h]
theorem t1_err {r : Rs} (h : r.2 ≠ 0) : (t1 r).2 = r := by
  obtain ⟨s, e⟩ := r
  show (rdB s e 1).2 = (s, e)
  unfold rdB
  rw [if_pos h]
theorem t1_end : t1 (E0, 0) = (0, E0, 1) := by decide
/-- a byte that is read stands in front -/
theorem t1_ok {r : Rs} (h : (t1 r).2.2 = 0) : r.2 = 0 ∧ r.1 = b1 (t1 r).1 ++ (t1 r).2.1 := by
  obtain ⟨s, e⟩ := r
  have h0 : e = 0 := by
    by_cases h0 : e = 0
    · exact h0
    · rw [t1_err h0] at h; exact absurd h h0
  subst h0
  refine ⟨rfl, ?_⟩
  have hz : ¬ ((s.size : Int) < 1) := fun hz => by
    have : (t1 (s, 0)).2.2 = 1 := by
      show (rdB s 0 1).2.2 = 1
      unfold rdB
      rw [if_neg (by simp), if_neg (by simp), if_pos hz]
    rw [this] at h; cases h
  obtain ⟨x, z, rfl, hx⟩ : ∃ x z, s = b1 x ++ z ∧ 0 ≤ x ∧ x ≤ 255 := by
    obtain ⟨⟨l⟩⟩ := s
    cases l with
    | nil => exact absurd (by show ((0 : Nat) : Int) < 1; decide) hz
    | cons u l =>
      refine ⟨(u.toNat : Int), ⟨l.toArray⟩, ?_, by have := u.toNat_lt; omega⟩
      have : b1 (u.toNat : Int) = ⟨#[u]⟩ := by simp [b1]
      rw [this]
      apply ByteArray.ext
      simp
  rw [t1_front hx]
theorem t1_more {s z : ByteArray} {x : Int} {s' : ByteArray} (h : t1 (s, 0) = (x, s', 0)) : t1 (s ++ z, 0) = (x, s' ++ z, 0) := by
  have hb := t1_b (s, 0)
  obtain ⟨_, h2⟩ := t1_ok (r := (s, 0)) (by rw [h])
  rw [h] at h2 hb
  simp only at h2 hb
  rw [h2, ByteArray.append_assoc, t1_front hb]
theorem t1_e (r : Rs) (h : r.2 = 0) : (t1 r).2.2 = 0 ∨ (t1 r).2.2 = 1 := by
  obtain ⟨s, e⟩ := r
  simp only at h; subst h
  show (rdB s 0 1).2.2 = 0 ∨ (rdB s 0 1).2.2 = 1
  unfold rdB
  rw [if_neg (by simp), if_neg (by simp)]
  split <;> simp
end Go.Proofs.Yteaccbbmphcmnaa

/-
  Layer 5, plain: how packets of rtcp are read of bytes. No program in sight.
-/
namespace Go.Proofs.Yteaccbbmphcmnaa
set_option linter.unusedSimpArgs false
set_option linter.unusedVariables false
open Go.RowKit
attribute [local irreducible] ByteArray.extract

/-- a number of k bytes -/
def uK (k : Int) (r : Rs) : Int × Rs := (valK (rdB r.1 r.2 k).1 (rdB r.1 r.2 k).1.size, (rdB r.1 r.2 k).2)
theorem uK_size (k : Int) (r : Rs) : (uK k r).2.1.size ≤ r.1.size := rdB_size2 r.1 r.2 k
/-- behind an error nothing is left -/
def Ri (r : Rs) : Prop := r.2 ≠ 0 → r.1 = E0
theorem Ri.start (s : ByteArray) : Ri (s, 0) := fun h => absurd rfl h
theorem Ri.rdB {r : Rs} (h : Ri r) (n : Int) : Ri (rdB r.1 r.2 n).2 := by
  unfold Go.Proofs.Yteaccbbmphcmnaa.rdB
  split
  · exact h
  · split
    · exact fun _ => rfl
    · split
      · exact fun _ => rfl
      · exact fun h => absurd rfl h
theorem Ri.uK {r : Rs} (h : Ri r) (k : Int) : Ri (uK k r).2 := h.rdB k
theorem Ri.rdF {r : Rs} (h : Ri r) (x : Int) : Ri (rdF r.1 r.2 x) := by
  unfold Go.Proofs.Yteaccbbmphcmnaa.rdF
  split
  · exact fun _ => rfl
  · exact h
theorem rdF_sz (r : Rs) (x : Int) : (rdF r.1 r.2 x).1.size ≤ r.1.size := by
  unfold rdF
  split
  · exact Nat.zero_le _
  · exact Nat.le_refl _
/-- what is read of something is less, if there was something -/
theorem rdB_less {r : Rs} (h : Ri r) {n : Int} (hn : 0 < n) (hr : 0 < r.1.size) : (rdB r.1 r.2 n).2.1.size < r.1.size := by
  unfold Go.Proofs.Yteaccbbmphcmnaa.rdB
  split
  · rename_i h0
    rw [h h0] at hr; exact absurd hr (by decide)
  · split
    · exact hr
    · split
      · exact hr
      · simp only [ByteArray.size_extract]; omega
theorem uK_less {r : Rs} (h : Ri r) {n : Int} (hn : 0 < n) (hr : 0 < r.1.size) : (uK n r).2.1.size < r.1.size := rdB_less h hn hr
theorem uK_b (k : Nat) (r : Rs) : 0 ≤ (uK k r).1 ∧ (uK k r).1 < 256 ^ k := by
  have h : (rdB r.1 r.2 k).1.size ≤ k := by have := rdB_size r.1 r.2 k (by omega); omega
  have h2 : ∀ (s : ByteArray) (n : Nat), 0 ≤ valK s n ∧ valK s n < 256 ^ n := by
    intro s n
    induction n with
    | zero => simp [valK]
    | succ n ih =>
      have := sb_b s n
      rw [valK, Int.pow_succ]
      omega
  have h3 := h2 (rdB r.1 r.2 k).1 (rdB r.1 r.2 k).1.size
  refine ⟨h3.1, Int.lt_of_lt_of_le h3.2 ?_⟩
  have : (256 : Nat) ^ (rdB r.1 r.2 k).1.size ≤ 256 ^ k := Nat.pow_le_pow_right (by omega) h
  rw [show (256:Int) = ((256:Nat):Int) from rfl, ← Int.natCast_pow, ← Int.natCast_pow]
  exact Int.ofNat_le.2 this
theorem uK1_b (r : Rs) : 0 ≤ (uK 1 r).1 ∧ (uK 1 r).1 ≤ 255 := by have := uK_b 1 r; rw [show (((1 : Nat) : Int)) = 1 from rfl] at this; omega
theorem uK2_b (r : Rs) : 0 ≤ (uK 2 r).1 ∧ (uK 2 r).1 ≤ 65535 := by have := uK_b 2 r; rw [show (((2 : Nat) : Int)) = 2 from rfl] at this; omega
theorem uK3_b (r : Rs) : 0 ≤ (uK 3 r).1 ∧ (uK 3 r).1 ≤ 16777215 := by have := uK_b 3 r; rw [show (((3 : Nat) : Int)) = 3 from rfl] at this; omega
theorem uK4_b (r : Rs) : 0 ≤ (uK 4 r).1 ∧ (uK 4 r).1 ≤ 4294967295 := by have := uK_b 4 r; rw [show (((4 : Nat) : Int)) = 4 from rfl] at this; omega
theorem uK8_b (r : Rs) : 0 ≤ (uK 8 r).1 ∧ (uK 8 r).1 ≤ 18446744073709551615 := by have := uK_b 8 r; rw [show (((8 : Nat) : Int)) = 8 from rfl] at this; omega
/-- so many times -/
def repM {α : Type} (f : Rs → α × Rs) : Nat → Rs → List α × Rs
  | 0, r => ([], r)
  | n + 1, r => ((f r).1 :: (repM f n (f r).2).1, (repM f n (f r).2).2)
theorem repM_size {α : Type} {f : Rs → α × Rs} (h : ∀ r, (f r).2.1.size ≤ r.1.size) : ∀ (n : Nat) (r : Rs), (repM f n r).2.1.size ≤ r.1.size
  | 0, r => Nat.le_refl _
  | n + 1, r => Nat.le_trans (repM_size h n (f r).2) (h r)
theorem repM_ri {α : Type} {f : Rs → α × Rs} (h : ∀ r, Ri r → Ri (f r).2) : ∀ (n : Nat) (r : Rs), Ri r → Ri (repM f n r).2
  | 0, r, hr => hr
  | n + 1, r, hr => repM_ri h n (f r).2 (h r hr)
theorem repM_len {α : Type} {f : Rs → α × Rs} : ∀ (n : Nat) (r : Rs), (repM f n r).1.length = n
  | 0, r => rfl
  | n + 1, r => congrArg (· + 1) (repM_len n (f r).2)
/-- up to the end -/
def tilM {α : Type} (f : Rs → α × Rs) : Nat → Rs → List α × Rs
  | 0, r => ([], r)
  | n + 1, r => if r.1.size = 0 then ([], r) else ((f r).1 :: (tilM f n (f r).2).1, (tilM f n (f r).2).2)
theorem tilM_size {α : Type} {f : Rs → α × Rs} (h : ∀ r, (f r).2.1.size ≤ r.1.size) : ∀ (n : Nat) (r : Rs), (tilM f n r).2.1.size ≤ r.1.size
  | 0, r => Nat.le_refl _
  | n + 1, r => by
    rw [tilM]
    split
    · exact Nat.le_refl _
    · exact Nat.le_trans (tilM_size h n (f r).2) (h r)
theorem tilM_ri {α : Type} {f : Rs → α × Rs} (h : ∀ r, Ri r → Ri (f r).2) : ∀ (n : Nat) (r : Rs), Ri r → Ri (tilM f n r).2
  | 0, r, hr => hr
  | n + 1, r, hr => by
    rw [tilM]
    split
    · exact hr
    · exact tilM_ri h n (f r).2 (h r hr)
theorem tilM_len {α : Type} {f : Rs → α × Rs} : ∀ (n : Nat) (r : Rs), (tilM f n r).1.length ≤ n
  | 0, r => Nat.le_refl _
  | n + 1, r => by
    rw [tilM]
    split
    · exact Nat.zero_le _
    · have := tilM_len (f := f) n (f r).2
      simp only [List.length_cons]; omega
theorem tilM_end {α : Type} {f : Rs → α × Rs} {n : Nat} {r : Rs} (h : r.1.size = 0) : tilM f n r = ([], r) := by
  cases n with
  | zero => rfl
  | succ n => rw [tilM, if_pos h]
/-- enough is enough -/
theorem tilM_more {α : Type} {f : Rs → α × Rs} (h : ∀ r, Ri r → 0 < r.1.size → (f r).2.1.size < r.1.size) (hi : ∀ r, Ri r → Ri (f r).2) : ∀ (n m : Nat) (r : Rs), Ri r → r.1.size ≤ n → r.1.size ≤ m → tilM f n r = tilM f m r
  | 0, m, r, hr, h1, h2 => by rw [tilM_end (by omega), tilM_end (by omega)]
  | n + 1, 0, r, hr, h1, h2 => by rw [tilM_end (by omega), tilM_end (by omega)]
  | n + 1, m + 1, r, hr, h1, h2 => by
    rw [tilM, tilM]
    split
    · rfl
    · have := h r hr (by omega)
      rw [tilM_more h hi n m (f r).2 (hi r hr) (by omega) (by omega)]

def tBk (r : Rs) : Bk × Rs :=
  let a := uK 4 r; let b := uK 1 a.2; let c := uK 3 b.2; let d := uK 4 c.2; let e := uK 4 d.2; let f := uK 4 e.2; let g := uK 4 f.2
  (⟨a.1, b.1, c.1, d.1, e.1, f.1, g.1⟩, g.2)
def tPr (r : Rs) : (Int × Int) × Rs := (((uK 2 r).1, (uK 2 (uK 2 r).2).1), (uK 2 (uK 2 r).2).2)
def tOr (r : Rs) : (Int × Int) × Rs := (((uK 4 r).1, (uK 1 (uK 4 r).2).1), (rdB (uK 1 (uK 4 r).2).2.1 (uK 1 (uK 4 r).2).2.2 3).2)
def itmM : Nat → Rs → List (Int × ByteArray) × Rs
  | 0, r => ([], r)
  | n + 1, r => if r.2 ≠ 0 then ([], r) else if (uK 1 r).1 = 0 then ([], (uK 1 r).2) else
    (((uK 1 r).1, (rdB (uK 1 (uK 1 r).2).2.1 (uK 1 (uK 1 r).2).2.2 (uK 1 (uK 1 r).2).1).1) :: (itmM n (rdB (uK 1 (uK 1 r).2).2.1 (uK 1 (uK 1 r).2).2.2 (uK 1 (uK 1 r).2).1).2).1, (itmM n (rdB (uK 1 (uK 1 r).2).2.1 (uK 1 (uK 1 r).2).2.2 (uK 1 (uK 1 r).2).1).2).2)
def itmS (r : Rs) : Rs := (rdB (uK 1 (uK 1 r).2).2.1 (uK 1 (uK 1 r).2).2.2 (uK 1 (uK 1 r).2).1).2
theorem itmM_step {n : Nat} {r : Rs} (h : r.2 = 0) (h1 : (uK 1 r).1 ≠ 0) : itmM (n + 1) r = (((uK 1 r).1, (rdB (uK 1 (uK 1 r).2).2.1 (uK 1 (uK 1 r).2).2.2 (uK 1 (uK 1 r).2).1).1) :: (itmM n (itmS r)).1, (itmM n (itmS r)).2) := by
  rw [itmM, if_neg (by simp [h]), if_neg h1]; rfl
theorem itmS_size (r : Rs) : (itmS r).1.size ≤ r.1.size := Nat.le_trans (rdB_size2 _ _ _) (Nat.le_trans (uK_size _ _) (uK_size _ _))
theorem itmS_less {r : Rs} (h : Ri r) (h1 : (uK 1 r).1 ≠ 0) : (itmS r).1.size < r.1.size := by
  have h0 : 0 < r.1.size := by
    rcases Nat.eq_zero_or_pos r.1.size with h0 | h0
    · exfalso
      apply h1
      have hz : (rdB r.1 r.2 1).1.size = 0 := by
        have hE : E0.size = 0 := rfl
        unfold rdB
        split
        · exact hE
        · split
          · exact hE
          · split
            · exact hE
            · simp only [ByteArray.size_extract]; omega
      show valK _ (rdB r.1 r.2 1).1.size = 0
      rw [hz]; rfl
    · exact h0
  exact Nat.lt_of_le_of_lt (Nat.le_trans (rdB_size2 _ _ _) (uK_size _ _)) (uK_less h (by omega) h0)
theorem itmS_ri {r : Rs} (h : Ri r) : Ri (itmS r) := ((h.uK 1).uK 1).rdB _
theorem itmM_size : ∀ (n : Nat) (r : Rs), (itmM n r).2.1.size ≤ r.1.size
  | 0, r => Nat.le_refl _
  | n + 1, r => by
    rw [itmM]
    split
    · exact Nat.le_refl _
    · split
      · exact uK_size 1 r
      · exact Nat.le_trans (itmM_size n (itmS r)) (itmS_size r)
theorem itmM_ri : ∀ (n : Nat) (r : Rs), Ri r → Ri (itmM n r).2
  | 0, r, h => h
  | n + 1, r, h => by
    rw [itmM]
    split
    · exact h
    · split
      · exact h.uK 1
      · exact itmM_ri n (itmS r) (itmS_ri h)
theorem itmM_len : ∀ (n : Nat) (r : Rs), (itmM n r).1.length ≤ n
  | 0, r => Nat.le_refl _
  | n + 1, r => by
    rw [itmM]
    split
    · exact Nat.zero_le _
    · split
      · exact Nat.zero_le _
      · have := itmM_len n (itmS r)
        simp only [List.length_cons]
        exact Nat.succ_le_succ this
def chE (n : Nat) (r : Rs) : Rs := (rdB r.1 r.2 ((4 - ((n : Int) - r.1.size) % 4) % 4)).2
def tCh (r : Rs) : (Int × List (Int × ByteArray)) × Rs :=
  (((uK 4 r).1, (itmM ((uK 4 r).2.1.size + 1) (uK 4 r).2).1), chE r.1.size (itmM ((uK 4 r).2.1.size + 1) (uK 4 r).2).2)
def byE (q : List Int × Rs) : Pkt × Rs :=
  if q.2.1.size = 0 then (.bye q.1 E0, q.2) else
    let b := rdB (uK 1 q.2).2.1 (uK 1 q.2).2.2 (uK 1 q.2).1
    (.bye q.1 b.1, (rdB b.2.1 b.2.2 b.2.1.size).2)
def tNk (r : Rs) : Pkt × Rs :=
  let a := uK 4 r; let b := uK 4 a.2; let q := tilM tPr b.2.1.size b.2
  (.nack a.1 b.1 q.1, q.2)
def tFi (r : Rs) : Pkt × Rs :=
  let a := uK 4 r; let b := uK 4 a.2; let q := tilM tOr b.2.1.size b.2
  (.fir a.1 q.1, q.2)
def shlM : Nat → Int → Int × Bool
  | 0, x => (x, false)
  | n + 1, x => if 9223372036854775808 ≤ x then (x, true) else shlM n (2 * x)
abbrev rembS : ByteArray := ⟨#[82, 69, 77, 66]⟩
def reA (r : Rs) : Rs := if (rdB r.1 r.2 4).1 = rembS then (rdB r.1 r.2 4).2 else rdF (rdB r.1 r.2 4).2.1 (rdB r.1 r.2 4).2.2 2
def reB (b : Bool) (r : Rs) : Rs := if b = true then rdF r.1 r.2 4 else r
def reC (n m : Int) (r : Rs) : Rs := if n = m then r else rdF r.1 r.2 2
def tRe (r : Rs) : Pkt × Rs :=
  let a := uK 4 r; let b := uK 4 a.2; let n := uK 1 (reA b.2); let x := uK 3 n.2
  let s := shlM (x.1 / 262144).toNat (x.1 % 262144)
  let r2 := reB s.2 x.2
  let q := tilM (uK 4) r2.1.size r2
  (.remb a.1 s.1 q.1, reC q.1.length n.1 q.2)
def tSn (ct : Int) (r : Rs) : Pkt × Rs :=
  let a := uK 4 r; let b := uK 8 a.2; let c := uK 4 b.2; let d := uK 4 c.2; let e := uK 4 d.2
  let q := repM tBk ct.toNat e.2
  (.sender a.1 b.1 c.1 d.1 e.1 q.1, q.2)
def tRv (ct : Int) (r : Rs) : Pkt × Rs :=
  let a := uK 4 r; let q := repM tBk ct.toNat a.2
  (.receiver a.1 q.1, q.2)
def tkM (r : Rs) (kd ct : Int) : Pkt × Rs :=
  if kd = 200 then tSn ct r
  else if kd = 201 then tRv ct r
  else if kd = 202 then (.sdes (repM tCh ct.toNat r).1, (repM tCh ct.toNat r).2)
  else if kd = 203 then byE (repM (uK 4) ct.toNat r)
  else if kd = 205 ∧ ct = 1 then tNk r
  else if kd = 206 ∧ ct = 1 then (.pli (uK 4 r).1 (uK 4 (uK 4 r).2).1, (uK 4 (uK 4 r).2).2)
  else if kd = 206 ∧ ct = 4 then tFi r
  else if kd = 206 ∧ ct = 15 then tRe r
  else (.other kd ct (rdB r.1 r.2 r.1.size).1, (rdB r.1 r.2 r.1.size).2)
/-- the body of the packet at the front, without its padding -/
def padN (s : ByteArray) : Int := if s.size = 0 then 0 else sb s (s.size - 1)
def bdE (pa : Bool) (s : ByteArray) (r : Rs) : ByteArray × Rs :=
  if pa = false ∨ r.2 ≠ 0 then (s, r)
  else if 0 < r.1.size ∨ padN s = 0 ∨ padN s % 4 ≠ 0 ∨ (s.size : Int) < padN s then (E0, rdF r.1 r.2 2)
  else (s.extract 0 ((s.size : Int) - padN s).toNat, r)
def bdM (r : Rs) (pa : Bool) : ByteArray × Rs :=
  bdE pa (rdB (uK 2 r).2.1 (uK 2 r).2.2 (4 * (uK 2 r).1)).1 (rdB (uK 2 r).2.1 (uK 2 r).2.2 (4 * (uK 2 r).1)).2
/-- behind a packet's first two bytes -/
def hdM (a k : Int) (r : Rs) : Rs := if r.2 = 0 ∧ (a / 64 ≠ 2 ∨ k < 192 ∨ 223 < k) then rdF r.1 r.2 2 else r
def stB (k ct : Int) (b : ByteArray) (r : Rs) : Pkt × Rs :=
  if r.2 ≠ 0 then (.pli 0 0, r) else ((tkM (b, 0) k ct).1, rdF r.1 r.2 (rdE (tkM (b, 0) k ct).2.1 (tkM (b, 0) k ct).2.2))
def stM (r : Rs) : Pkt × Rs :=
  let a := uK 1 r; let k := uK 1 a.2
  let b := bdM (hdM a.1 k.1 k.2) (decide (a.1 / 32 % 2 = 1))
  stB k.1 (a.1 % 32) b.1 b.2
/-- all packets -/
def paM : Nat → Bool → Rs → List Pkt × Int
  | 0, _, r => ([], r.2)
  | n + 1, f, r => if r.1.size = 0 ∧ ¬ (f = true ∧ r.2 = 0) then ([], r.2)
    else if (stM r).2.2 ≠ 0 then ([], (stM r).2.2)
    else ((stM r).1 :: (paM n false (stM r).2).1, (paM n false (stM r).2).2)
def pkM (s : ByteArray) : List Pkt × Int :=
  if 1500 < s.size then ([], 4)
  else if (paM (s.size + 1) true (s, 0)).2 ≠ 0 then ([], (paM (s.size + 1) true (s, 0)).2)
  else (paM (s.size + 1) true (s, 0)).1 |> fun l => (l, 0)
theorem bdE_size (pa : Bool) (s : ByteArray) (r : Rs) : (bdE pa s r).1.size ≤ s.size ∧ (bdE pa s r).2.1.size ≤ r.1.size := by
  unfold bdE
  split
  · exact ⟨Nat.le_refl _, Nat.le_refl _⟩
  · split
    · exact ⟨Nat.zero_le _, rdF_sz _ _⟩
    · refine ⟨?_, Nat.le_refl _⟩
      simp only [ByteArray.size_extract]; omega
theorem bdE_ri (pa : Bool) (s : ByteArray) {r : Rs} (h : Ri r) : Ri (bdE pa s r).2 := by
  unfold bdE
  split
  · exact h
  · split
    · exact h.rdF 2
    · exact h
theorem hdM_ri (a k : Int) {r : Rs} (h : Ri r) : Ri (hdM a k r) := by
  unfold hdM
  split
  · exact h.rdF 2
  · exact h
theorem hdM_size (a k : Int) (r : Rs) : (hdM a k r).1.size ≤ r.1.size := by
  unfold hdM
  split
  · exact rdF_sz _ _
  · exact Nat.le_refl _
theorem stB_ri (k ct : Int) (b : ByteArray) {r : Rs} (h : Ri r) : Ri (stB k ct b r).2 := by
  unfold stB
  split
  · exact h
  · exact h.rdF _
theorem stB_size (k ct : Int) (b : ByteArray) (r : Rs) : (stB k ct b r).2.1.size ≤ r.1.size := by
  unfold stB
  split
  · exact Nat.le_refl _
  · exact rdF_sz _ _
theorem stM_ri {r : Rs} (h : Ri r) : Ri (stM r).2 := stB_ri _ _ _ (bdE_ri _ _ (((hdM_ri _ _ ((h.uK 1).uK 1)).uK 2).rdB _))
theorem stM_size (r : Rs) : (stM r).2.1.size ≤ (uK 1 r).2.1.size :=
  Nat.le_trans (stB_size _ _ _ _) (Nat.le_trans (bdE_size _ _ _).2 (Nat.le_trans (rdB_size2 _ _ _) (Nat.le_trans (uK_size _ _) (Nat.le_trans (hdM_size _ _ _) (uK_size _ _)))))
theorem stM_less {r : Rs} (h : Ri r) (hr : 0 < r.1.size) : (stM r).2.1.size < r.1.size := Nat.lt_of_le_of_lt (stM_size r) (uK_less h (by omega) hr)
end Go.Proofs.Yteaccbbmphcmnaa

/-
  Package rtcp: Text, by what each packet writes; Pli and Nack.
-/
namespace Go.Proofs.Yteaccbbmphcmnaa
set_option linter.unusedSimpArgs false
set_option linter.unusedVariables false
open Go.RowKit
attribute [local irreducible] Pv WO WC Fn
set_option maxRecDepth 100000
attribute [local irreducible] ByteArray.extract

def HdC (v : Value) (kd ct : Int) : Prop := ∃ T w f, v = .iface T w ∧ TInv Try.prog T "Head" f ∧ HasBody Try.prog f ∧ Fn Try.prog f #[w] [] [] (fun u L' R' => u = .tuple #[.int .u8 kd, .int .u8 ct] ∧ L' = [] ∧ R' = [])
def PtC (R : List Ro) (v : Value) (tx : ByteArray) : Prop := ∀ g, Fn Try.prog 29 #[.pointer (some ⟨g, 0, none⟩), v] (wrH g none none 0 E0) R (fun u L' R' => ∃ p ao c, u = .tuple #[] ∧ L' = wrH g p ao c tx ∧ R' = [] ∧ WOk g p ao c tx)
theorem wo_head {N : Nat} {E : Env} {fr : List (Nat × Value)} {hp : List It} {ro : List Ro} {x : Operand} {v : Value} {kd ct : Int} {Kn : St → Prop} {ops : Array Oper} {rest : List Oper} {dst : Option Tmp} {ty : TypeId} {pos : String} {af : Array Edge} {ats : Array TypeId}
    (hx : opd fr x = some v) (hH : HdC v kd ct) (hd : dstOk dst N = true) (h : WO Try.prog N E ops rest ⟨putF dst (.tuple #[.int .u8 kd, .int .u8 ct]) fr, hp, ro⟩ Kn) :
    WO Try.prog N E ops (⟨dst, .call ⟨.invoke x "Head", #[], ats⟩, ty, pos, af, none⟩ :: rest) ⟨fr, hp, ro⟩ Kn := by
  obtain ⟨T, w, f, rfl, hT, hB, hF⟩ := hH
  haveI := hB
  refine wo_inv (l := []) (vs := []) (F := hp) hx hT hF rfl (.refl _) (fun r hr => by cases hr) hd ?_
  rintro v L' R' ⟨rfl, rfl, rfl⟩ H hH RR hR
  subst hH
  subst hR
  exact h
theorem zb_pad (s : ByteArray) : (s ++ zb (padJ s.size 4)).size % 4 = 0 := by
  rw [ByteArray.size_append, zb_size]; exact padJ_eq _ (by omega)
/-- a text, filled up to words of four bytes -/
def pad4 (s : ByteArray) : ByteArray := s ++ zb (padJ s.size 4)
theorem pad4_size (s : ByteArray) : (pad4 s).size ≤ s.size + 3 := by
  unfold pad4
  rw [ByteArray.size_append, zb_size]
  have := padJ_lt s.size (T := 4) (by omega)
  omega
theorem pad4_mod (s : ByteArray) : (pad4 s).size % 4 = 0 := zb_pad s
theorem pad4_id {s : ByteArray} (h : s.size % 4 = 0) : pad4 s = s := by
  unfold pad4 padJ
  rw [h]
  show s ++ E0 = s
  exact append_E0 s
def hd4 (kd ct : Int) (n : Nat) : ByteArray := b1 (128 + ct % 32) ++ b1 kd ++ numS 2 ((n / 4 : Nat) : Int)
/-- a packet's bytes -/
def one4 (x : Int × Int × ByteArray) : ByteArray := hd4 x.1 x.2.1 (pad4 x.2.2).size ++ pad4 x.2.2
def all4 : List (Int × Int × ByteArray) → ByteArray
  | [] => E0
  | x :: l => one4 x ++ all4 l
theorem all4_app : ∀ a b, all4 (a ++ b) = all4 a ++ all4 b
  | [], b => (E0_append _).symm
  | x :: a, b => by
    show one4 x ++ all4 (a ++ b) = (one4 x ++ all4 a) ++ all4 b
    rw [all4_app a b, ByteArray.append_assoc]
theorem all4_take {l : List (Int × Int × ByteArray)} {j : Nat} {x : Int × Int × ByteArray} (h : l[j]? = some x) : all4 (l.take (j + 1)) = all4 (l.take j) ++ one4 x := by
  rw [List.take_add_one, h, all4_app]
  show all4 (l.take j) ++ (one4 x ++ E0) = _
  rw [append_E0]
theorem one4_size (x : Int × Int × ByteArray) : (one4 x).size = 4 + (pad4 x.2.2).size := by
  unfold one4 hd4
  simp only [ByteArray.size_append, b1_size, numS_size]
theorem all4_size : ∀ {l : List (Int × Int × ByteArray)} {m : Nat}, (∀ x ∈ l, x.2.2.size ≤ m) → (all4 l).size ≤ (m + 7) * l.length
  | [], m, _ => Nat.le_refl _
  | x :: l, m, h => by
    have h1 := h x (.head _)
    have h2 := all4_size (fun y hy => h y (.tail _ hy))
    have h3 := one4_size x
    have h4 := pad4_size x.2.2
    show (one4 x ++ all4 l).size ≤ _
    rw [ByteArray.size_append, List.length_cons, Nat.mul_add]; omega
theorem or_128 {a : Int} : 0 ≤ a ∧ a ≤ 255 → bits .or .u8 128 (bits .and .u8 a 31) = 128 + a % 32 := u8_all (p := fun a => bits .or .u8 128 (bits .and .u8 a 31) = 128 + a % 32) (by decide +kernel)
theorem brows_two' {x y : Int} (hx : 0 ≤ x ∧ x ≤ 255) (hy : 0 ≤ y ∧ y ≤ 255) : [[Value.int .u8 x], [.int .u8 y]] = brows (b1 x ++ b1 y) := by
  have e1 := b1_rows hx
  have e2 := b1_rows hy
  have : brows (b1 x ++ b1 y) = brows (b1 x) ++ brows (b1 y) := by simp [brows]
  rw [this, e1, e2]; rfl
set_option maxHeartbeats 16000000 in
theorem tText (l : List (Int × Int × ByteArray)) (vs : List Value) (A : Option Addr) (n c : Nat) (R : List Ro) (hS : SQ R 1 A n c (one1 vs)) (hn : vs.length = l.length) (hl : l.length ≤ 1000) (hz : ∀ x ∈ l, x.2.2.size ≤ 200000) (hr : ∀ x ∈ l, in8 x.1 ∧ in8 x.2.1)
    (hH : ∀ (i : Nat) x v, l[i]? = some x → vs[i]? = some v → HdC v x.1 x.2.1 ∧ PtC R v x.2.2) :
    Fn Try.prog 11 #[.slice A n c] [] R (fun v L' R' => v = .string (all4 l) ∧ L' = [] ∧ R' = []) := by
  have hnl : n = l.length := by rw [← hS.len, one1_len, hn]
  subst hnl
  refine fn_intro Try.func11 rfl Try.ntmps11 rfl (fun E => ?_)
  (repeat (first | ((first | (apply wo_v; rfl) ); (· first | (apply pv_ev; rfl) | (apply g_bi; first | (apply pv_len_sl; rfl) ) )) | apply wo_nil | apply wc_seq | apply wc_region | (apply wo_alloc; rfl; intro bx) ))
  obtain ⟨go, hgo⟩ : ∃ g, g = bx := ⟨_, rfl⟩
  subst hgo
  refine wc_own0 5 1 ?_
  refine wc_join0 (fun st => ∃ p ao c', st = ⟨[(3, .pointer (some ⟨go, 0, none⟩))], wrH go p ao c' (all4 l), R⟩ ∧ WOk go p ao c' (all4 l)) ?_ ?_
  · refine wc_block ?_
    refine wc_loop' (fun q st => ∃ (i : Nat) (p ao : Option Addr) (c' : Nat) (s : ByteArray), q = l.length - i ∧ i ≤ l.length ∧ s = all4 (l.take i) ∧ WOk go p ao c' s ∧ st = ⟨[(3, .pointer (some ⟨go, 0, none⟩)), (9, .slice A l.length c), (10, .int .i64 l.length), (11, .int .i64 i)], wrH go p ao c' s, R⟩) ⟨0, none, none, 0, E0, rfl, Nat.zero_le _, rfl, ⟨.inl rfl, .inl ⟨rfl, rfl, rfl⟩⟩, rfl⟩ (wk_mk (by (repeat (first | apply wkf_nil | (apply wkf_cons; rfl))); done) (by (repeat (first | apply sub_nil | (apply sub_cons; (· (repeat (first | apply sel_here | apply sel_there)))))); done) (by first | exact fun _ h => h | (intro r hr; cases hr; done) | (simp; done) | exact fun _ h => List.mem_append_left _ h | (intro r hr; simp [hr]; done))) ?_
    rintro q st ⟨i, p, ao, c', s, rfl, hi, hs, hw, rfl⟩
    by_cases hlt : i < l.length
    · obtain ⟨x, hx⟩ : ∃ x, l[i]? = some x := ⟨_, List.getElem?_eq_getElem hlt⟩
      obtain ⟨v, hv⟩ : ∃ v, vs[i]? = some v := ⟨_, List.getElem?_eq_getElem (by omega)⟩
      obtain ⟨hHd, hPt⟩ := hH i x v hx hv
      have hrow := one1_at hv
      have hxm := List.mem_of_getElem? hx
      have hxz := hz x hxm
      obtain ⟨hk, hc⟩ := hr x hxm
      have hnx := all4_take hx
      rw [← hs] at hnx
      have hsz : s.size ≤ 200007 * i := by
        have := all4_size (l := l.take i) (m := 200000) (fun y hy => hz y (List.mem_of_mem_take hy))
        rw [← hs, List.length_take] at this
        have h2 : (200000 + 7) * min i l.length ≤ 200007 * i := Nat.mul_le_mul_left _ (by omega)
        omega
      obtain ⟨kd, ct, tx⟩ := x
      dsimp only at hHd hPt hxz hk hc hnx
      obtain ⟨a0, o0, rfl, hmem⟩ := hS.pos (by omega)
      (repeat (first | ((first | (apply wo_v; rfl) ); (· first | (apply pv_ev; rfl) )) | apply wo_nil | apply wc_seq | apply wc_region | apply wc_skip | (apply wc_true; rfl) | (apply wc_false; rfl) | (apply a_dec_t; rfl; (· first | assumption | omega)) ))
      refine wc_block ?_
      (repeat (first | ((first | (apply wo_v; rfl) ); (· first | (apply pv_ev; rfl) | (apply g_load; first | (apply pv_ld; rfl; (· (repeat (first | apply sel_there))); rfl) | (apply pv_ld_ownf; rfl; (· (repeat (first | fail ))); (· assumption); rfl) | (apply pv_ld_own1; rfl; (· (repeat (first | apply sel_there))); (· assumption)) | (apply pv_ld_rof; rfl; (· (first | assumption )); (· assumption); rfl) | (apply pv_ld_ro1; rfl; (· (first | assumption )); (· assumption)) ) | (apply g_idx; first | (apply pv_idx; rfl; rfl; omega) ) )) | apply wo_nil | apply wc_seq | apply wc_region ))
      refine wo_head rfl hHd rfl ?_
      (repeat (first | ((first | (apply wo_v; rfl) ); (· first | (apply pv_ev; rfl) )) | apply wo_nil | apply wc_seq | apply wc_region | (apply wo_alloc; rfl; intro bx) ))
      obtain ⟨gw, hgw⟩ : ∃ g, g = bx := ⟨_, rfl⟩
      subst hgw
      refine wo_own0 5 1 ?_
      (refine wo_call (hPt gw) rfl (by (repeat (first | apply sub_nil | (apply sub_cons; (· (repeat (first | apply sel_here | apply sel_there)))))); done) (by first | exact fun _ h => h | (intro r hr; cases hr; done) | (simp; done) | exact fun _ h => List.mem_append_left _ h | (intro r hr; simp [hr]; done)) rfl ?_; rintro v L' R' ⟨p1, ao1, c1, rfl, rfl, rfl, hw1⟩ H' hH RR hR; simp only [List.cons_append, List.nil_append] at hH hR; subst hH; have hR := hR.symm; subst hR)
      (repeat (first | ((first | (apply wo_v; rfl) ); (· first | (apply pv_ev; rfl) )) | apply wo_nil | apply wc_seq | apply wc_region ))
      have hpad := wPad gw c1 p1 ao1 tx 4 4 rfl (by omega) hw1 (by omega)
      rw [show tx ++ zb (padJ tx.size 4) = pad4 tx from rfl] at hpad
      have hpz := pad4_size tx
      rw [show one4 (kd, ct, tx) = hd4 kd ct (pad4 tx).size ++ pad4 tx from rfl] at hnx
      generalize pad4 tx = px at hpad hpz hnx
      (refine wo_call (hpad) rfl (by (repeat (first | apply sub_nil )); done) (by first | exact fun _ h => h | (intro r hr; cases hr; done) | (simp; done) | exact fun _ h => List.mem_append_left _ h | (intro r hr; simp [hr]; done)) rfl ?_; rintro v L' R' ⟨p2, ao2, c2, rfl, rfl, rfl, hw2⟩ H' hH RR hR; simp only [List.cons_append, List.nil_append] at hH hR; subst hH; have hR := hR.symm; subst hR)
      (repeat (first | ((first | (apply wo_v; rfl) ); (· first | (apply pv_ev; rfl) | (apply g_bin; first | (apply pv_and; rfl; rfl) | (apply (a_or 4); rfl; rfl; infer_instance; rfl; omega) | (apply (a_or 5); rfl; rfl; infer_instance; rfl; omega) | (apply (a_or 6); rfl; rfl; infer_instance; rfl; omega) | (apply (a_or 7); rfl; rfl; infer_instance; rfl; omega) | (apply (a_or 8); rfl; rfl; infer_instance; rfl; omega) | (apply (a_or 16); rfl; rfl; infer_instance; rfl; omega) | (apply (a_or 24); rfl; rfl; infer_instance; rfl; omega) | (apply (a_or 32); rfl; rfl; infer_instance; rfl; omega) | (apply pv_or; rfl; rfl) ) )) | apply wo_nil | apply wc_region | (apply wo_bsl; (· (repeat (first | apply Rws'.nil | (apply Rws'.one; rfl; rfl; rfl) ))); rfl; rfl; rfl; rfl; intro bx) ))
      have hct := or_128 hc
      have hk0 : 0 ≤ 128 + ct % 32 ∧ 128 + ct % 32 ≤ 255 := by omega
      have z1 : (b1 (128 + ct % 32) ++ b1 kd).size = 2 := by rw [ByteArray.size_append, b1_size, b1_size]
      rw [hct, brows_two' hk0 hk]
      have hW1 := fun bl => wU8 go c' bl 2 p ao s (b1 (128 + ct % 32) ++ b1 kd) hw (by rw [z1]; omega) (by rw [z1]; omega)
      simp only [z1] at hW1
      obtain ⟨s1, hs1⟩ : ∃ s1, s ++ (b1 (128 + ct % 32) ++ b1 kd) = s1 := ⟨_, rfl⟩
      have zs1 : s1.size = s.size + 2 := by rw [← hs1, ByteArray.size_append, z1]
      rw [hs1] at hW1
      (refine wo_call (hW1 _) rfl (by (repeat (first | apply sub_nil | (apply sub_cons; (· (repeat (first | apply sel_here | apply sel_there)))))); done) (by first | exact fun _ h => h | (intro r hr; cases hr; done) | (simp; done) | exact fun _ h => List.mem_append_left _ h | (intro r hr; simp [hr]; done)) rfl ?_; rintro v L' R' ⟨p3, ao3, c3, rfl, rfl, rfl, hw3⟩ H' hH RR hR; simp only [List.cons_append, List.nil_append] at hH hR; subst hH; have hR := hR.symm; subst hR)
      (repeat (first | ((first | (apply wo_v; rfl) ); (· first | (apply pv_ev; rfl) )) ))
      (refine wo_call (wLen gw c2 p2 ao2 px.size) rfl (by (repeat (first | apply sub_nil | (apply sub_cons; (· (repeat (first | apply sel_here | apply sel_there)))))); done) (by first | exact fun _ h => h | (intro r hr; cases hr; done) | (simp; done) | exact fun _ h => List.mem_append_left _ h | (intro r hr; simp [hr]; done)) rfl ?_; rintro v L' R' ⟨rfl, rfl, rfl⟩ H' hH RR hR; simp only [List.cons_append, List.nil_append] at hH hR; subst hH; have hR := hR.symm; subst hR)
      have ed : ((px.size / 4 : Nat) : Int) = (px.size : Int) / 4 := by omega
      have hW2 := fun bl => wU16 go c3 bl 1 p3 ao3 s1 [(px.size : Int) / 4] (by intro y hy; rcases List.mem_singleton.1 hy with rfl; omega) (by simp) hw3 (by omega)
      rw [numsS_one, ← ed] at hW2
      obtain ⟨s2, hs2⟩ : ∃ s2, s1 ++ numS 2 ((px.size / 4 : Nat) : Int) = s2 := ⟨_, rfl⟩
      have zs2 : s2.size = s.size + 4 := by rw [← hs2, ByteArray.size_append, numS_size, zs1]
      rw [hs2] at hW2
      (repeat (first | ((first | (apply wo_v; rfl) ); (· first | (apply pv_ev; rfl) | (apply g_bin; first | (apply a_quo; rfl; rfl; infer_instance; omega) ) | (apply g_conv; first | (apply a_conv; rfl; infer_instance; infer_instance; infer_instance; omega) ) )) | (apply wo_bsl; (· (repeat (first | apply Rws'.nil | (apply Rws'.one; rfl; rfl; rfl) ))); rfl; rfl; rfl; rfl; intro bx) ))
      rw [← ed]
      (refine wo_call (hW2 _) rfl (by (repeat (first | apply sub_nil | (apply sub_cons; (· (repeat (first | apply sel_here | apply sel_there)))))); done) (by first | exact fun _ h => h | (intro r hr; cases hr; done) | (simp; done) | exact fun _ h => List.mem_append_left _ h | (intro r hr; simp [hr]; done)) rfl ?_; rintro v L' R' ⟨p4, ao4, c4, rfl, rfl, rfl, hw4⟩ H' hH RR hR; simp only [List.cons_append, List.nil_append] at hH hR; subst hH; have hR := hR.symm; subst hR)
      (repeat (first | ((first | (apply wo_v; rfl) ); (· first | (apply pv_ev; rfl) )) ))
      (refine wo_call (wText gw c2 p2 ao2 px hw2) rfl (by (repeat (first | apply sub_nil | (apply sub_cons; (· (repeat (first | apply sel_here | apply sel_there)))))); done) (by first | exact fun _ h => h | (intro r hr; cases hr; done) | (simp; done) | exact fun _ h => List.mem_append_left _ h | (intro r hr; simp [hr]; done)) rfl ?_; rintro v L' R' ⟨rfl, rfl, rfl⟩ H' hH RR hR; simp only [List.cons_append, List.nil_append] at hH hR; subst hH; have hR := hR.symm; subst hR)
      (repeat (first | ((first | (apply wo_v; rfl) ); (· first | (apply pv_ev; rfl) )) | (apply wo_bsl; (· (repeat (first | apply Rws'.nil | (apply Rws'.one; rfl; rfl; rfl) ))); rfl; rfl; rfl; rfl; intro bx) ))
      have hW3 := fun bl => wPut go c4 bl 1 p4 ao4 s2 [px] (by intro y hy; rcases List.mem_singleton.1 hy with rfl; omega) (by simp) hw4 (by omega)
      rw [show catS [px] = px from append_E0 px] at hW3
      have hfin : s2 ++ px = all4 (l.take (i + 1)) := by
        rw [hnx, ← hs2, ← hs1]
        unfold hd4
        simp only [ByteArray.append_assoc]
      rw [hfin] at hW3
      (refine wo_call (hW3 _) rfl (by (repeat (first | apply sub_nil | (apply sub_cons; (· (repeat (first | apply sel_here | apply sel_there)))))); done) (by first | exact fun _ h => h | (intro r hr; cases hr; done) | (simp; done) | exact fun _ h => List.mem_append_left _ h | (intro r hr; simp [hr]; done)) rfl ?_; rintro v L' R' ⟨p5, ao5, c5, rfl, rfl, rfl, hw5⟩ H' hH RR hR; simp only [List.cons_append, List.nil_append] at hH hR; subst hH; have hR := hR.symm; subst hR)
      (repeat (first | ((first | (apply wo_v; rfl) ); (· first | (apply pv_ev; rfl) | (apply g_bin; first | (apply a_add; rfl; rfl; infer_instance; omega) ) )) | apply wo_nil | apply wc_region ))
      exact loop_end ⟨i + 1, p5, ao5, c5, _, rfl, by omega, rfl, hw5, rfl⟩ (by omega) (wk_mk (by (repeat (first | apply wkf_nil | (apply wkf_cons; rfl))); done) (by (repeat (first | apply sub_nil )); done) (by first | exact fun _ h => h | (intro r hr; cases hr; done) | (simp; done) | exact fun _ h => List.mem_append_left _ h | (intro r hr; simp [hr]; done)))
    · have e : i = l.length := by omega
      subst e
      rw [List.take_length] at hs
      subst hs
      (repeat (first | ((first | (apply wo_v; rfl) ); (· first | (apply pv_ev; rfl) )) | apply wo_nil | apply wc_seq | apply wc_region | (apply wc_exit; rfl) | (apply wc_true; rfl) | (apply wc_false; rfl) | (apply a_dec_t; rfl; (· first | assumption | omega)) | (apply a_dec_f; rfl; (· first | assumption | omega)) ))
      exact cut_end ⟨p, ao, c', rfl, hw⟩ (wk_mk (by (repeat (first | apply wkf_nil | (apply wkf_cons; rfl))); done) (by (repeat (first | apply sub_nil )); done) (by first | exact fun _ h => h | (intro r hr; cases hr; done) | (simp; done) | exact fun _ h => List.mem_append_left _ h | (intro r hr; simp [hr]; done)))
  rintro st ⟨p, ao, c', rfl, hw⟩
  (repeat (first | ((first | (apply wo_v; rfl) ); (· first | (apply pv_ev; rfl) )) | apply wc_seq | apply wc_region ))
  (refine wo_call (wText go c' p ao _ hw) rfl (by (repeat (first | apply sub_nil )); done) (by first | exact fun _ h => h | (intro r hr; cases hr; done) | (simp; done) | exact fun _ h => List.mem_append_left _ h | (intro r hr; simp [hr]; done)) rfl ?_; rintro v L' R' ⟨rfl, rfl, rfl⟩ H' hH RR hR; simp only [List.cons_append, List.nil_append] at hH hR; subst hH; have hR := hR.symm; subst hR)
  (repeat (first | ((first | (apply wo_v; rfl) ); (· first | (apply pv_ev; rfl) )) | apply wo_nil | apply wc_ret ))
  exact ret1 rfl rfl ⟨rfl, rfl, rfl⟩ ((by (repeat (first | apply sub_nil )); done) : List.Perm _ ([] ++ _)) (by first | exact fun _ h => h | (intro r hr; cases hr; done) | (simp; done) | exact fun _ h => List.mem_append_left _ h | (intro r hr; simp [hr]; done))
/-! ## Pli and Nack -/
theorem hPli (f0 to : Int) : Fn Try.prog 103 #[.agg #[.int .u32 f0, .int .u32 to]] [] [] (fun u L' R' => u = .tuple #[.int .u8 206, .int .u8 1] ∧ L' = [] ∧ R' = []) := by
  refine fn_intro Try.func103 rfl Try.ntmps103 rfl (fun E => ?_)
  (repeat (first | ((first | (apply wo_v; rfl) ); (· first | (apply pv_ev; rfl) )) | apply wo_nil | apply wc_seq | apply wc_region | apply wc_ret | (apply wo_box1; rfl; rfl; rfl; intro bx) | (apply wo_boxa; rfl; rfl; intro bx) ))
  exact retv rfl (by (repeat (first | apply RV.nil | (apply RV.tmp; rfl) )); done) (⟨rfl, rfl, rfl⟩) (by (repeat (first | apply sub_nil )); done) (by first | exact fun _ h => h | (intro r hr; cases hr; done) | (simp; done) | exact fun _ h => List.mem_append_left _ h | (intro r hr; simp [hr]; done))
theorem hNack (f0 to : Int) (w : Value) (hw : w.oneCell' = true) : Fn Try.prog 100 #[.agg #[.int .u32 f0, .int .u32 to, w]] [] [] (fun u L' R' => u = .tuple #[.int .u8 205, .int .u8 1] ∧ L' = [] ∧ R' = []) := by
  refine fn_intro Try.func100 rfl Try.ntmps100 rfl (fun E => ?_)
  (repeat (first | ((first | (apply wo_v; rfl) ); (· first | (apply pv_ev; rfl) )) | apply wo_nil | apply wc_seq | apply wc_region | apply wc_ret | (apply wo_box1; rfl; rfl; rfl; intro bx) | (apply wo_boxa; rfl; rfl; intro bx) ))
  exact retv rfl (by (repeat (first | apply RV.nil | (apply RV.tmp; rfl) )); done) (⟨rfl, rfl, rfl⟩) (by (repeat (first | apply sub_nil )); done) (by first | exact fun _ h => h | (intro r hr; cases hr; done) | (simp; done) | exact fun _ h => List.mem_append_left _ h | (intro r hr; simp [hr]; done))
abbrev PtF (f : FuncId) (R : List Ro) (g : Nat) (w : Value) (tx : ByteArray) : Prop := Fn Try.prog f #[w, .pointer (some ⟨g, 0, none⟩)] (wrH g none none 0 E0) R (fun u L' R' => ∃ p ao c, u = .tuple #[] ∧ L' = wrH g p ao c tx ∧ R' = [] ∧ WOk g p ao c tx)
theorem w0 (g : Nat) : WOk g none none 0 E0 := ⟨.inl rfl, .inl ⟨rfl, rfl, rfl⟩⟩
theorem pPli (R : List Ro) (g : Nat) (f0 to : Int) (h1 : in32 f0) (h2 : in32 to) : PtF 104 R g (.agg #[.int .u32 f0, .int .u32 to]) (numsS 4 [f0, to]) := by
  have hW := fun bl => wU32 g 0 bl 2 none none E0 [f0, to] (by intro y hy; simp only [List.mem_cons, List.not_mem_nil, or_false] at hy; rcases hy with rfl | rfl; exact h1; exact h2) (by simp) (w0 g) (by decide)
  rw [E0_append] at hW
  refine fn_intro Try.func104 rfl Try.ntmps104 rfl (fun E => ?_)
  (repeat (first | ((first | (apply wo_v; rfl) ); (· first | (apply pv_ev; rfl) | (apply pv_fld; rfl) | (apply g_load; first | (apply pv_ld; rfl; (· (repeat (first | apply sel_here ))); rfl) ) )) | apply wo_nil | apply wc_seq | apply wc_region | (apply wo_box1; rfl; rfl; rfl; intro bx) | (apply wo_boxa; rfl; rfl; intro bx) | (apply wo_bsl; (· (repeat (first | apply Rws'.nil | (apply Rws'.one; rfl; rfl; rfl) ))); rfl; rfl; rfl; rfl; intro bx) ))
  (refine wo_call (hW _) rfl (by (repeat (first | apply sub_nil | (apply sub_cons; (· (repeat (first | apply sel_here | apply sel_there)))))); done) (by first | exact fun _ h => h | (intro r hr; cases hr; done) | (simp; done) | exact fun _ h => List.mem_append_left _ h | (intro r hr; simp [hr]; done)) rfl ?_; rintro v L' R' ⟨p5, ao5, c5, rfl, rfl, rfl, hw5⟩ H' hH RR hR; simp only [List.cons_append, List.nil_append] at hH hR; subst hH; have hR := hR.symm; subst hR)
  (repeat (first | apply wo_nil ))
  exact ret0 rfl ⟨p5, ao5, c5, rfl, rfl, rfl, hw5⟩ (by (repeat (first | apply sub_nil )); done) (by first | exact fun _ h => h | (intro r hr; cases hr; done) | (simp; done) | exact fun _ h => List.mem_append_left _ h | (intro r hr; simp [hr]; done))
def prsT : List (Int × Int) → ByteArray
  | [] => E0
  | x :: l => numsS 2 [x.1, x.2] ++ prsT l
theorem prsT_app : ∀ a b, prsT (a ++ b) = prsT a ++ prsT b
  | [], b => (E0_append _).symm
  | x :: a, b => by
    show numsS 2 [x.1, x.2] ++ prsT (a ++ b) = (numsS 2 [x.1, x.2] ++ prsT a) ++ prsT b
    rw [prsT_app a b, ByteArray.append_assoc]
theorem prsT_take {l : List (Int × Int)} {j : Nat} {x : Int × Int} (h : l[j]? = some x) : prsT (l.take (j + 1)) = prsT (l.take j) ++ numsS 2 [x.1, x.2] := by
  rw [List.take_add_one, h, prsT_app]
  show prsT (l.take j) ++ (numsS 2 [x.1, x.2] ++ E0) = _
  rw [append_E0]
theorem prsT_size : ∀ l : List (Int × Int), (prsT l).size = 4 * l.length
  | [] => rfl
  | x :: l => by
    show (numsS 2 [x.1, x.2] ++ prsT l).size = _
    simp only [ByteArray.size_append, prsT_size l, numsS_size, List.length_cons, List.length_nil]; omega
set_option maxHeartbeats 8000000 in
theorem pNack (R : List Ro) (g : Nat) (f0 to : Int) (l : List (Int × Int)) (A : Option Addr) (n c : Nat) (hS : SQ R 2 A n c (pairV l)) (hl : l.length ≤ 10000) (h1 : in32 f0) (h2 : in32 to) (hb : ∀ x ∈ l, in16 x.1 ∧ in16 x.2) :
    PtF 101 R g (.agg #[.int .u32 f0, .int .u32 to, .slice A n c]) (numsS 4 [f0, to] ++ prsT l) := by
  have hn : n = l.length := by rw [← hS.len, pairV_len]
  subst hn
  have hW := fun bl => wU32 g 0 bl 2 none none E0 [f0, to] (by intro y hy; simp only [List.mem_cons, List.not_mem_nil, or_false] at hy; rcases hy with rfl | rfl; exact h1; exact h2) (by simp) (w0 g) (by decide)
  rw [E0_append] at hW
  have zh : (numsS 4 [f0, to]).size = 8 := by rw [numsS_size]; rfl
  generalize numsS 4 [f0, to] = th at hW zh
  refine fn_intro Try.func101 rfl Try.ntmps101 rfl (fun E => ?_)
  (repeat (first | ((first | (apply wo_v; rfl) ); (· first | (apply pv_ev; rfl) | (apply pv_fld; rfl) | (apply g_load; first | (apply pv_ld; rfl; (· (repeat (first | apply sel_here ))); rfl) ) )) | apply wo_nil | apply wc_seq | apply wc_region | (apply wo_box1; rfl; rfl; rfl; intro bx) | (apply wo_boxa; rfl; rfl; intro bx) | (apply wo_bsl; (· (repeat (first | apply Rws'.nil | (apply Rws'.one; rfl; rfl; rfl) ))); rfl; rfl; rfl; rfl; intro bx) ))
  (refine wo_call (hW _) rfl (by (repeat (first | apply sub_nil | (apply sub_cons; (· (repeat (first | apply sel_here | apply sel_there)))))); done) (by first | exact fun _ h => h | (intro r hr; cases hr; done) | (simp; done) | exact fun _ h => List.mem_append_left _ h | (intro r hr; simp [hr]; done)) rfl ?_; rintro v L' R' ⟨p5, ao5, c5, rfl, rfl, rfl, hw5⟩ H' hH RR hR; simp only [List.cons_append, List.nil_append] at hH hR; subst hH; have hR := hR.symm; subst hR)
  (repeat (first | ((first | (apply wo_v; rfl) ); (· first | (apply pv_ev; rfl) | (apply pv_fld; rfl) | (apply g_load; first | (apply pv_ld; rfl; (· (repeat (first | apply sel_here | apply sel_there))); rfl) ) | (apply g_bi; first | (apply pv_len_sl; rfl) ) )) | apply wo_nil | apply wc_seq | apply wc_region ))
  refine wc_block ?_
  refine wc_loop' (fun q st => ∃ (i : Nat) (p ao : Option Addr) (c' : Nat) (s : ByteArray), q = l.length - i ∧ i ≤ l.length ∧ s = th ++ prsT (l.take i) ∧ WOk g p ao c' s ∧ st = ⟨[(1, .pointer (some ⟨g, 0, none⟩)), (14, .slice A l.length c), (15, .int .i64 l.length), (16, .int .i64 i)], wrH g p ao c' s, R⟩) ⟨0, p5, ao5, c5, th, rfl, Nat.zero_le _, (append_E0 _).symm, hw5, rfl⟩ (wk_mk (by (repeat (first | apply wkf_nil | (apply wkf_cons; rfl))); done) (by (repeat (first | apply sub_nil )); done) (by first | exact fun _ h => h | (intro r hr; cases hr; done) | (simp; done) | exact fun _ h => List.mem_append_left _ h | (intro r hr; simp [hr]; done))) ?_
  clear hw5 hW p5 ao5 c5
  rintro q st ⟨i, p, ao, c', s, rfl, hi, hs, hw, rfl⟩
  by_cases hlt : i < l.length
  · obtain ⟨x, hx⟩ : ∃ x, l[i]? = some x := ⟨_, List.getElem?_eq_getElem hlt⟩
    have hr := pairV_at hx
    obtain ⟨⟨x1, x2⟩, x3, x4⟩ := hb _ (List.mem_of_getElem? hx)
    have hnx := prsT_take hx
    have hsz := prsT_size (l.take i)
    obtain ⟨a, b⟩ := x
    dsimp only at hr x1 x2 x3 x4 hnx
    have hsz2 : s.size ≤ 8 + 4 * i := by rw [hs, ByteArray.size_append, zh, hsz, List.length_take]; omega
    have hnx2 : s ++ numsS 2 [a, b] = th ++ prsT (l.take (i + 1)) := by rw [hnx, hs, ByteArray.append_assoc]
    obtain ⟨a0, o0, rfl, hmem⟩ := hS.pos (by omega)
    have hW2 := fun bl => wU16 g c' bl 2 p ao s [a, b] (by intro y hy; simp only [List.mem_cons, List.not_mem_nil, or_false] at hy; rcases hy with rfl | rfl; exact ⟨x1, x2⟩; exact ⟨x3, x4⟩) (by simp) hw (by omega)
    rw [hnx2] at hW2
    (repeat (first | ((first | (apply wo_v; rfl) ); (· first | (apply pv_ev; rfl) )) | apply wo_nil | apply wc_seq | apply wc_region | apply wc_skip | (apply wc_true; rfl) | (apply wc_false; rfl) | (apply a_dec_t; rfl; (· first | assumption | omega)) ))
    refine wc_block ?_
    (repeat (first | ((first | (apply wo_v; rfl) ); (· first | (apply pv_ev; rfl) | (apply pv_fld; rfl) | (apply g_load; first | (apply pv_ld; rfl; (· (repeat (first | apply sel_here ))); rfl) | (apply pv_lda; rfl; (· (repeat (first | apply sel_there))); (· (repeat (first | fail )))) | (apply pv_ld_owna; rfl; (· (repeat (first | apply sel_there))); (· assumption)) | (apply pv_ld_roa; rfl; (· (first | assumption )); (· assumption))) | (apply g_idx; first | (apply pv_idx; rfl; rfl; omega) ) )) | apply wo_nil | apply wc_seq | apply wc_region | (apply wo_alloc; rfl; intro bx) | (apply wo_bsl; (· (repeat (first | apply Rws'.nil | (apply Rws'.one; rfl; rfl; rfl) ))); rfl; rfl; rfl; rfl; intro bx) | (apply wo_sta; rfl; rfl; rfl; rfl; (· (repeat (first | apply sel_here ))); (· (repeat (first | apply LayAt.nil | apply LayAt.here ))); rfl) ))
    (refine wo_call (hW2 _) rfl (by (repeat (first | apply sub_nil | (apply sub_cons; (· (repeat (first | apply sel_here | apply sel_there)))))); done) (by first | exact fun _ h => h | (intro r hr; cases hr; done) | (simp; done) | exact fun _ h => List.mem_append_left _ h | (intro r hr; simp [hr]; done)) rfl ?_; rintro v L' R' ⟨p6, ao6, c6, rfl, rfl, rfl, hw6⟩ H' hH RR hR; simp only [List.cons_append, List.nil_append] at hH hR; subst hH; have hR := hR.symm; subst hR)
    (repeat (first | ((first | (apply wo_v; rfl) ); (· first | (apply pv_ev; rfl) | (apply g_bin; first | (apply a_add; rfl; rfl; infer_instance; omega) ) )) | apply wo_nil | apply wc_region ))
    exact loop_end ⟨i + 1, p6, ao6, c6, _, rfl, by omega, rfl, hw6, rfl⟩ (by omega) (wk_mk (by (repeat (first | apply wkf_nil | (apply wkf_cons; rfl))); done) (by (repeat (first | apply sub_nil )); done) (by first | exact fun _ h => h | (intro r hr; cases hr; done) | (simp; done) | exact fun _ h => List.mem_append_left _ h | (intro r hr; simp [hr]; done)))
  · have e : i = l.length := by omega
    subst e
    rw [List.take_length] at hs
    subst hs
    (repeat (first | ((first | (apply wo_v; rfl) ); (· first | (apply pv_ev; rfl) )) | apply wo_nil | apply wc_seq | apply wc_region | (apply wc_exit; rfl) | (apply wc_true; rfl) | (apply wc_false; rfl) | (apply a_dec_t; rfl; (· first | assumption | omega)) | (apply a_dec_f; rfl; (· first | assumption | omega)) ))
    exact ret0 rfl ⟨p, ao, c', rfl, rfl, rfl, hw⟩ (by (repeat (first | apply sub_nil )); done) (by first | exact fun _ h => h | (intro r hr; cases hr; done) | (simp; done) | exact fun _ h => List.mem_append_left _ h | (intro r hr; simp [hr]; done))
/-- through the interface -/
theorem tPli (R : List Ro) (f0 to : Int) (h1 : in32 f0) (h2 : in32 to) : PtC R (.iface 88 (.agg #[.int .u32 f0, .int .u32 to])) (numsS 4 [f0, to]) := fun g => by
  refine fn_intro Try.func29 rfl Try.ntmps29 rfl (fun E => ?_)
  (repeat (first | ((first | (apply wo_v; rfl) ); (· first | (apply pv_ev; rfl) | (apply pv_tas; rfl; infer_instance) )) | apply wo_nil | apply wc_seq | apply wc_region | (apply wc_true; rfl) ))
  (refine wo_inv rfl inferInstance (pPli R g f0 to h1 h2) rfl (by (repeat (first | apply sub_nil )); done) (by first | exact fun _ h => h | (intro r hr; cases hr; done) | (simp; done) | exact fun _ h => List.mem_append_left _ h | (intro r hr; simp [hr]; done)) rfl ?_; rintro v L' R' ⟨p5, ao5, c5, rfl, rfl, rfl, hw5⟩ H' hH RR hR; simp only [List.cons_append, List.nil_append] at hH hR; subst hH; have hR := hR.symm; subst hR)
  (repeat (first | apply wo_nil ))
  exact ret0 rfl ⟨p5, ao5, c5, rfl, rfl, rfl, hw5⟩ (by (repeat (first | apply sub_nil )); done) (by first | exact fun _ h => h | (intro r hr; cases hr; done) | (simp; done) | exact fun _ h => List.mem_append_left _ h | (intro r hr; simp [hr]; done))
theorem tNack (R : List Ro) (f0 to : Int) (l : List (Int × Int)) (A : Option Addr) (n c : Nat) (hS : SQ R 2 A n c (pairV l)) (hl : l.length ≤ 10000) (h1 : in32 f0) (h2 : in32 to) (hb : ∀ x ∈ l, in16 x.1 ∧ in16 x.2) :
    PtC R (.iface 39 (.agg #[.int .u32 f0, .int .u32 to, .slice A n c])) (numsS 4 [f0, to] ++ prsT l) := fun g => by
  refine fn_intro Try.func29 rfl Try.ntmps29 rfl (fun E => ?_)
  (repeat (first | ((first | (apply wo_v; rfl) ); (· first | (apply pv_ev; rfl) | (apply pv_tas; rfl; infer_instance) )) | apply wo_nil | apply wc_seq | apply wc_region | (apply wc_true; rfl) ))
  (refine wo_inv rfl inferInstance (pNack R g f0 to l A n c hS hl h1 h2 hb) rfl (by (repeat (first | apply sub_nil )); done) (by first | exact fun _ h => h | (intro r hr; cases hr; done) | (simp; done) | exact fun _ h => List.mem_append_left _ h | (intro r hr; simp [hr]; done)) rfl ?_; rintro v L' R' ⟨p5, ao5, c5, rfl, rfl, rfl, hw5⟩ H' hH RR hR; simp only [List.cons_append, List.nil_append] at hH hR; subst hH; have hR := hR.symm; subst hR)
  (repeat (first | apply wo_nil ))
  exact ret0 rfl ⟨p5, ao5, c5, rfl, rfl, rfl, hw5⟩ (by (repeat (first | apply sub_nil )); done) (by first | exact fun _ h => h | (intro r hr; cases hr; done) | (simp; done) | exact fun _ h => List.mem_append_left _ h | (intro r hr; simp [hr]; done))
theorem dPli (f0 to : Int) : HdC (.iface 88 (.agg #[.int .u32 f0, .int .u32 to])) 206 1 := ⟨_, _, _, rfl, inferInstance, inferInstance, hPli f0 to⟩
theorem dNack (f0 to : Int) (A : Option Addr) (n c : Nat) : HdC (.iface 39 (.agg #[.int .u32 f0, .int .u32 to, .slice A n c])) 205 1 := ⟨_, _, _, rfl, inferInstance, inferInstance, hNack f0 to _ rfl⟩
end Go.Proofs.Yteaccbbmphcmnaa

/-
  Layer 5, plain: what is written is read back.
-/
namespace Go.Proofs.Yteaccbbmphcmnaa
set_option linter.unusedSimpArgs false
set_option linter.unusedVariables false
open Go.RowKit
attribute [local irreducible] ByteArray.extract

theorem valK_all : ∀ (k : Nat) (x : Int), 0 ≤ x → x < 256 ^ k → valK (numS k x) k = x
  | 0, x, h0, h1 => by
    have : x < 1 := h1
    show (0 : Int) = x
    omega
  | k + 1, x, h0, h1 => by
    rw [valK_num, valK_all k (x / 256) (by omega) ?_]
    · omega
    · rw [Int.pow_succ] at h1
      exact Int.ediv_lt_of_lt_mul (by omega) h1
theorem uK_front (k : Nat) {x : Int} (h0 : 0 ≤ x) (h1 : x < 256 ^ k) (z : ByteArray) : uK (k : Int) (numS k x ++ z, 0) = (x, z, 0) := by
  unfold uK
  rw [rdB_front (numS k x) z (k : Int) (by rw [numS_size])]
  show (valK (numS k x) (numS k x).size, z, 0) = _
  rw [numS_size, valK_all k x h0 h1]
theorem uK1_f {x : Int} (h : in8 x) (z : ByteArray) : uK 1 (b1 x ++ z, 0) = (x, z, 0) := by
  have := uK_front 1 (x := x) h.1 (by have := h.2; omega) z
  rwa [show numS 1 x = b1 x from by
    have : x % 256 = x := Int.emod_eq_of_lt h.1 (by have := h.2; omega)
    show E0 ++ b1 (x % 256) = b1 x
    rw [E0_append, this]] at this
theorem uK2_f {x : Int} (h : in16 x) (z : ByteArray) : uK 2 (numS 2 x ++ z, 0) = (x, z, 0) := uK_front 2 h.1 (by have := h.2; omega) z
theorem uK3_f {x : Int} (h : 0 ≤ x ∧ x ≤ 16777215) (z : ByteArray) : uK 3 (numS 3 x ++ z, 0) = (x, z, 0) := uK_front 3 h.1 (by have := h.2; omega) z
theorem uK4_f {x : Int} (h : in32 x) (z : ByteArray) : uK 4 (numS 4 x ++ z, 0) = (x, z, 0) := uK_front 4 h.1 (by have := h.2; omega) z
theorem uK8_f {x : Int} (h : in64 x) (z : ByteArray) : uK 8 (numS 8 x ++ z, 0) = (x, z, 0) := uK_front 8 h.1 (by have := h.2; omega) z
/-- texts of a list -/
def catT {α : Type} (T : α → ByteArray) : List α → ByteArray
  | [] => E0
  | x :: l => T x ++ catT T l
theorem catT_app {α : Type} (T : α → ByteArray) : ∀ a b : List α, catT T (a ++ b) = catT T a ++ catT T b
  | [], b => (E0_append _).symm
  | x :: a, b => by
    show T x ++ catT T (a ++ b) = (T x ++ catT T a) ++ catT T b
    rw [catT_app T a b, ByteArray.append_assoc]
theorem catT_take {α : Type} (T : α → ByteArray) {l : List α} {j : Nat} {x : α} (h : l[j]? = some x) : catT T (l.take (j + 1)) = catT T (l.take j) ++ T x := by
  rw [List.take_add_one, h, catT_app]
  show catT T (l.take j) ++ (T x ++ E0) = _
  rw [append_E0]
theorem catT_size {α : Type} (T : α → ByteArray) {m : Nat} : ∀ {l : List α}, (∀ x ∈ l, (T x).size = m) → (catT T l).size = m * l.length
  | [], _ => rfl
  | x :: l, h => by
    show (T x ++ catT T l).size = _
    rw [ByteArray.size_append, h x (.head _), catT_size T (fun y hy => h y (.tail _ hy)), List.length_cons, Nat.mul_add]; omega
theorem repM_front {α : Type} {f : Rs → α × Rs} {T : α → ByteArray} : ∀ {l : List α}, (∀ x ∈ l, ∀ z, f (T x ++ z, 0) = (x, z, 0)) → ∀ z, repM f l.length (catT T l ++ z, 0) = (l, z, 0)
  | [], _, z => by
    show ([], E0 ++ z, (0 : Int)) = _
    rw [E0_append]
  | x :: l, h, z => by
    show repM f (l.length + 1) ((T x ++ catT T l) ++ z, 0) = _
    rw [ByteArray.append_assoc, repM, h x (.head _), repM_front (fun y hy => h y (.tail _ hy))]
theorem tilM_front {α : Type} {f : Rs → α × Rs} {T : α → ByteArray} (hT : ∀ x, 0 < (T x).size) : ∀ {l : List α}, (∀ x ∈ l, ∀ z, f (T x ++ z, 0) = (x, z, 0)) → ∀ n, (catT T l).size ≤ n → tilM f n (catT T l, 0) = (l, E0, 0)
  | [], _, n, _ => tilM_end rfl
  | x :: l, h, 0, hn => by
    have h1 : (T x ++ catT T l).size ≤ 0 := hn
    rw [ByteArray.size_append] at h1
    have := hT x
    omega
  | x :: l, h, n + 1, hn => by
    have h1 : (T x ++ catT T l).size ≤ n + 1 := hn
    rw [ByteArray.size_append] at h1
    have h2 := hT x
    show tilM f (n + 1) (T x ++ catT T l, 0) = _
    rw [tilM, if_neg (by dsimp only; rw [ByteArray.size_append]; omega), h x (.head _), tilM_front hT (fun y hy => h y (.tail _ hy)) n (by omega)]
def prT (x : Int × Int) : ByteArray := numS 2 x.1 ++ numS 2 x.2
theorem prT_eq (x : Int × Int) : numsS 2 [x.1, x.2] = prT x := by
  show numS 2 x.1 ++ (numS 2 x.2 ++ E0) = _
  rw [append_E0]; rfl
theorem prsT_cat : ∀ l, prsT l = catT prT l
  | [] => rfl
  | x :: l => by
    show numsS 2 [x.1, x.2] ++ prsT l = prT x ++ catT prT l
    rw [prT_eq, prsT_cat l]
theorem tPr_f {x : Int × Int} (h : in16 x.1 ∧ in16 x.2) (z : ByteArray) : tPr (prT x ++ z, 0) = (x, z, 0) := by
  unfold tPr prT
  rw [ByteArray.append_assoc, uK2_f h.1, uK2_f h.2]
theorem two4 (a b : Int) (z : ByteArray) : numsS 4 [a, b] ++ z = numS 4 a ++ (numS 4 b ++ z) := by
  show (numS 4 a ++ (numS 4 b ++ E0)) ++ z = _
  rw [append_E0, ByteArray.append_assoc]
theorem tNk_f {a b : Int} {l : List (Int × Int)} (ha : in32 a) (hb : in32 b) (hl : ∀ x ∈ l, in16 x.1 ∧ in16 x.2) : tNk (numsS 4 [a, b] ++ prsT l, 0) = (.nack a b l, E0, 0) := by
  unfold tNk
  rw [two4, uK4_f ha]
  dsimp only
  rw [uK4_f hb]
  dsimp only
  rw [prsT_cat, tilM_front (fun x => by unfold prT; rw [ByteArray.size_append, numS_size]; omega) (fun x hx z => tPr_f (hl x hx) z) _ (Nat.le_refl _)]
theorem tPl_f {a b : Int} (ha : in32 a) (hb : in32 b) (z : ByteArray) : uK 4 (numsS 4 [a, b] ++ z, 0) = (a, numS 4 b ++ z, 0) ∧ uK 4 (numS 4 b ++ z, 0) = (b, z, 0) := by
  rw [two4, uK4_f ha, uK4_f hb]; exact ⟨rfl, rfl⟩
/-- a packet in front -/
theorem stM_front {kd ct : Int} {tx z : ByteArray} {p : Pkt} (hk : 192 ≤ kd ∧ kd ≤ 223) (hc : 0 ≤ ct ∧ ct ≤ 255) (hz : (pad4 tx).size / 4 ≤ 65535) (h : tkM (pad4 tx, 0) kd (ct % 32) = (p, E0, 0)) : stM (one4 (kd, ct, tx) ++ z, 0) = (p, z, 0) := by
  have e1 : one4 (kd, ct, tx) ++ z = b1 (128 + ct % 32) ++ (b1 kd ++ (numS 2 ((pad4 tx).size / 4 : Nat) ++ (pad4 tx ++ z))) := by
    unfold one4 hd4
    simp only [ByteArray.append_assoc]
  unfold stM
  rw [e1, uK1_f ⟨by omega, by omega⟩]
  dsimp only
  rw [uK1_f ⟨by omega, by omega⟩]
  dsimp only
  have e2 : hdM (128 + ct % 32) kd (numS 2 ((pad4 tx).size / 4 : Nat) ++ (pad4 tx ++ z), 0) = (numS 2 ((pad4 tx).size / 4 : Nat) ++ (pad4 tx ++ z), 0) := by
    unfold hdM
    rw [if_neg (by dsimp only; omega)]
  rw [e2]
  have e3 : bdM (numS 2 ((pad4 tx).size / 4 : Nat) ++ (pad4 tx ++ z), 0) (decide ((128 + ct % 32) / 32 % 2 = 1)) = (pad4 tx, z, 0) := by
    unfold bdM
    rw [uK2_f ⟨by omega, by omega⟩]
    dsimp only
    rw [rdB_front (pad4 tx) z _ (by have := pad4_mod tx; omega)]
    unfold bdE
    rw [if_pos (.inl (by simp; omega))]
  rw [e3]
  unfold stB
  dsimp only
  rw [if_neg (by simp), show (128 + ct % 32) % 32 = ct % 32 by omega, h]
  rfl
theorem one4_pos (x : Int × Int × ByteArray) : 0 < (one4 x).size := by rw [one4_size]; omega
theorem paM_nil {n : Nat} (z : ByteArray) (hz : z.size = 0) : paM n false (z, 0) = ([], 0) := by
  cases n with
  | zero => rfl
  | succ n => rw [paM, if_pos ⟨hz, by simp⟩]
theorem paM_cons {n : Nat} {f : Bool} {x : Int × Int × ByteArray} {z : ByteArray} {p : Pkt} (h : stM (one4 x ++ z, 0) = (p, z, 0)) : paM (n + 1) f (one4 x ++ z, 0) = (p :: (paM n false (z, 0)).1, (paM n false (z, 0)).2) := by
  have := one4_pos x
  rw [paM, if_neg (by dsimp only; rw [ByteArray.size_append]; omega), h, if_neg (by simp)]
/-- packets, written, are read -/
theorem paM_all : ∀ (l : List (Int × Int × ByteArray)) (ps : List Pkt) (f : Bool) (n : Nat), ps.length = l.length → (∀ (i : Nat) x p, l[i]? = some x → ps[i]? = some p → ∀ z, stM (one4 x ++ z, 0) = (p, z, 0)) → (all4 l).size ≤ n → (f = true → l ≠ []) → paM n f (all4 l, 0) = (ps, 0)
  | [], ps, f, n, hl, _, _, hf => by
    cases f with
    | true => exact absurd rfl (hf rfl)
    | false =>
      have : ps = [] := List.length_eq_zero_iff.1 hl
      subst this
      exact paM_nil _ rfl
  | x :: l, ps, f, n, hl, h, hn, hf => by
    cases ps with
    | nil => simp at hl
    | cons p ps =>
      have hn2 : (one4 x ++ all4 l).size ≤ n := hn
      rw [ByteArray.size_append] at hn2
      have := one4_pos x
      obtain ⟨m, rfl⟩ : ∃ m, n = m + 1 := ⟨n - 1, by omega⟩
      show paM (m + 1) f (one4 x ++ all4 l, 0) = _
      rw [paM_cons (h 0 x p rfl rfl _), paM_all l ps false m (by simpa using hl) (fun i y q h1 h2 => h (i + 1) y q h1 h2) (by omega) (by simp)]
theorem pkM_all (l : List (Int × Int × ByteArray)) (ps : List Pkt) (hl : ps.length = l.length) (h : ∀ (i : Nat) x p, l[i]? = some x → ps[i]? = some p → ∀ z, stM (one4 x ++ z, 0) = (p, z, 0)) (hs : (all4 l).size ≤ 1500) (h0 : l ≠ []) : pkM (all4 l) = (ps, 0) := by
  unfold pkM
  rw [if_neg (by omega), paM_all l ps true ((all4 l).size + 1) hl h (by omega) (fun _ => h0), if_neg (by simp)]
end Go.Proofs.Yteaccbbmphcmnaa

/-
  Package rtcp: what packets write.
-/
namespace Go.Proofs.Yteaccbbmphcmnaa
set_option linter.unusedSimpArgs false
set_option linter.unusedVariables false
open Go.RowKit
attribute [local irreducible] Pv WO WC Fn
set_option maxRecDepth 100000
attribute [local irreducible] ByteArray.extract

set_option maxHeartbeats 4000000 in
theorem wR32 (g c : Nat) (p ao : Option Addr) (s : ByteArray) (xs : List Int) (A : Option Addr) (n c2 : Nat) (R : List Ro) (hS : SQ R 1 A n c2 (c32 xs)) (hx : ∀ x ∈ xs, in32 x) (hl : xs.length ≤ 1000000) (hw : WOk g p ao c s) (hz : s.size ≤ 1098000000000) :
    Fn Try.prog 102 #[.pointer (some ⟨g, 0, none⟩), .slice A n c2] (wrH g p ao c s) R
    (fun v L' R' => ∃ p' ao' c', v = .pointer (some ⟨g, 0, none⟩) ∧ L' = wrH g p' ao' c' (s ++ numsS 4 xs) ∧ R' = [] ∧ WOk g p' ao' c' (s ++ numsS 4 xs)) := by
  have hn : n = xs.length := by rw [← hS.len, c32_len]
  subst hn
  refine fn_intro Try.func102 rfl Try.ntmps102 rfl (fun E => ?_)
  (repeat (first | ((first | (apply wo_v; rfl) ); (· first | (apply pv_ev; rfl) | (apply g_bi; first | (apply pv_len_sl; rfl) ) )) | apply wo_nil | apply wc_seq | apply wc_region | apply wc_block ))
  refine wc_loop' (fun m st => ∃ (j : Nat) (p' ao' : Option Addr) (c' : Nat), m = xs.length - j ∧ st = ⟨[(0, .pointer (some ⟨g, 0, none⟩)), (7, .slice A xs.length c2), (8, .int .i64 xs.length), (9, .int .i64 j)], wrH g p' ao' c' (s ++ numsS 4 (xs.take j)), R⟩ ∧ j ≤ xs.length ∧ WOk g p' ao' c' (s ++ numsS 4 (xs.take j)))
    ⟨0, p, ao, c, rfl, by rw [List.take_zero, show numsS 4 [] = E0 from rfl, append_E0], Nat.zero_le _, by rw [List.take_zero, show numsS 4 [] = E0 from rfl, append_E0]; exact hw⟩ (wk_mk (by (repeat (first | apply wkf_nil | (apply wkf_cons; rfl))); done) (by (repeat (first | apply sub_nil )); done) (by first | exact fun _ h => h | (intro r hr; cases hr; done) | (simp; done) | exact fun _ h => List.mem_append_left _ h | (intro r hr; simp [hr]; done))) ?_
  clear hw p ao c
  rintro m st ⟨j, p, ao, c, rfl, rfl, hj, hw⟩
  by_cases hlt : j < xs.length
  · obtain ⟨x, he⟩ : ∃ x, xs[j]? = some x := ⟨_, List.getElem?_eq_getElem hlt⟩
    have hr := c32_at he
    have hxb : 0 ≤ x ∧ x ≤ 4294967295 := hx x (List.mem_of_getElem? he)
    have hS' : (s ++ numsS 4 (xs.take j)).size ≤ 1099000000000 := by
      rw [ByteArray.size_append, numsS_size, List.length_take]; omega
    have hnext := numsS_take (k := 4) he
    obtain ⟨S0, hS0⟩ : ∃ S0, s ++ numsS 4 (xs.take j) = S0 := ⟨_, rfl⟩
    have hnx : s ++ numsS 4 (xs.take (j + 1)) = S0 ++ numsS 4 [x] := by rw [hnext, ← ByteArray.append_assoc, hS0]; show S0 ++ numS 4 x = S0 ++ (numS 4 x ++ E0); rw [append_E0]
    rw [hS0] at hw hS' ⊢
    clear hnext hS0
    have hN := fun bl c2 => wNum g c bl c2 p ao S0 4 4 [x] rfl (by intro y hy; rcases List.mem_singleton.1 hy with rfl; omega) (by simp) hw hS'
    rw [← hnx] at hN
    obtain ⟨b1, o1, rfl, hmem⟩ := hS.pos (by omega)
    (repeat (first | ((first | (apply wo_v; rfl) ); (· first | (apply pv_ev; rfl) | (apply g_load; first | (apply pv_ld; rfl; (· (repeat (first | apply sel_there))); rfl) | (apply pv_ld_ownf; rfl; (· (repeat (first | fail ))); (· assumption); rfl) | (apply pv_ld_own1; rfl; (· (repeat (first | apply sel_there))); (· assumption)) | (apply pv_ld_rof; rfl; (· (first | assumption )); (· assumption); rfl) | (apply pv_ld_ro1; rfl; (· (first | assumption )); (· assumption)) ) | (apply g_conv; first | (apply a_conv; rfl; infer_instance; infer_instance; infer_instance; omega) ) | (apply g_idx; first | (apply pv_idx; rfl; rfl; omega) ) )) | apply wo_nil | apply wc_seq | apply wc_region | apply wc_block | apply wc_skip | (apply wc_true; rfl) | (apply wc_false; rfl) | (apply a_dec_t; rfl; (· first | assumption | omega)) | (apply wo_bsl; (· (repeat (first | apply Rws'.nil | (apply Rws'.one; rfl; rfl; rfl) ))); rfl; rfl; rfl; rfl; intro bx) ))
    (refine wo_call (hN _ _) rfl (by (repeat (first | apply sub_nil | (apply sub_cons; (· (repeat (first | apply sel_here | apply sel_there)))))); done) (by first | exact fun _ h => h | (intro r hr; cases hr; done) | (simp; done) | exact fun _ h => List.mem_append_left _ h | (intro r hr; simp [hr]; done)) rfl ?_; rintro v L' R' ⟨p', ao', c', rfl, rfl, rfl, hw'⟩ H' hH RR hR; simp only [List.cons_append, List.nil_append] at hH hR; subst hH; have hR := hR.symm; subst hR)
    (repeat (first | ((first | (apply wo_v; rfl) ); (· first | (apply pv_ev; rfl) | (apply g_bin; first | (apply a_add; rfl; rfl; infer_instance; omega) ) )) | apply wo_nil | apply wc_region ))
    exact loop_end ⟨j + 1, p', ao', c', rfl, rfl, by omega, hw'⟩ (by omega) (wk_mk (by (repeat (first | apply wkf_nil | (apply wkf_cons; rfl))); done) (by (repeat (first | apply sub_nil )); done) (by first | exact fun _ h => h | (intro r hr; cases hr; done) | (simp; done) | exact fun _ h => List.mem_append_left _ h | (intro r hr; simp [hr]; done)))
  · obtain rfl : j = xs.length := by omega
    rw [List.take_length] at hw ⊢
    (repeat (first | ((first | (apply wo_v; rfl) ); (· first | (apply pv_ev; rfl) )) | apply wo_nil | apply wc_seq | apply wc_region | (apply wc_exit; rfl) | apply wc_ret | (apply wc_true; rfl) | (apply wc_false; rfl) | (apply a_dec_t; rfl; (· first | assumption | omega)) | (apply a_dec_f; rfl; (· first | assumption | omega)) ))
    exact retv rfl (by (repeat (first | apply RV.nil | (apply RV.tmp; rfl) )); done) ⟨p, ao, c, rfl, rfl, rfl, hw⟩ (by (repeat (first | apply sub_nil )); done) (by first | exact fun _ h => h | (intro r hr; cases hr; done) | (simp; done) | exact fun _ h => List.mem_append_left _ h | (intro r hr; simp [hr]; done))
theorem brows_nums : ∀ {xs : List Int}, (∀ x ∈ xs, in8 x) → brows (numsS 1 xs) = xs.map fun x => [.int .u8 x]
  | [], _ => rfl
  | x :: xs, h => by
    have h1 := h x (.head _)
    show brows (numS 1 x ++ numsS 1 xs) = _
    rw [brows_append, brows_nums (fun y hy => h y (.tail _ hy))]
    have : numS 1 x = b1 x := by
      show E0 ++ b1 (x % 256) = b1 x
      rw [E0_append, Int.emod_eq_of_lt h1.1 (by have := h1.2; omega)]
    rw [this, b1_rows h1]; rfl
theorem wU8L (g c bl : Nat) (p ao : Option Addr) (s : ByteArray) (xs : List Int) (hx : ∀ x ∈ xs, in8 x) (h0 : 0 < xs.length) (hl : xs.length ≤ 1000) (hw : WOk g p ao c s) (hz : s.size ≤ 1098000000000) :
    Fn Try.prog 31 #[.pointer (some ⟨g, 0, none⟩), .slice (some ⟨bl, 0, none⟩) xs.length xs.length] (wrH g p ao c s ++ [.own 5 1 (some ⟨bl, 0, none⟩) xs.length xs.length (xs.map fun x => [.int .u8 x])]) []
    (fun v L' R' => ∃ p' ao' c', v = .pointer (some ⟨g, 0, none⟩) ∧ L' = wrH g p' ao' c' (s ++ numsS 1 xs) ∧ R' = [] ∧ WOk g p' ao' c' (s ++ numsS 1 xs)) := by
  have hs : (numsS 1 xs).size = xs.length := by rw [numsS_size]; omega
  have := wU8 g c bl xs.length p ao s (numsS 1 xs) hw (by omega) (by omega)
  rw [show byO bl xs.length (numsS 1 xs) = It.own 5 1 (some ⟨bl, 0, none⟩) (numsS 1 xs).size xs.length (brows (numsS 1 xs)) from rfl, hs, brows_nums hx] at this
  exact this
abbrev wrP1 (g : Nat) (t : ByteArray) (v : Value) (Ms : List (List It)) : Prop := ∃ (p ao : Option Addr) (c : Nat), v = .pointer (some ⟨g, 0, none⟩) ∧ Ms = [wrH g p ao c t] ∧ WOk g p ao c t
abbrev wrP0 (g : Nat) (t : ByteArray) (v : Value) (Ms : List (List It)) : Prop := ∃ (p ao : Option Addr) (c : Nat), v = .pointer (some ⟨g, 0, none⟩) ∧ Ms = [wrH g p ao c t, []] ∧ WOk g p ao c t
abbrev newP (T : TypeId) (xs : List (List Value)) (v : Value) (Ms : List (List It)) : Prop := ∃ b, v = .slice (some ⟨b, 0, none⟩) xs.length xs.length ∧ Ms = [[.own T 1 (some ⟨b, 0, none⟩) xs.length xs.length xs]]
theorem all1 {P : Int → Prop} {x : Int} (h : P x) : ∀ y ∈ [x], P y := fun y hy => by rcases List.mem_singleton.1 hy with rfl; exact h
theorem all1B {P : ByteArray → Prop} {x : ByteArray} (h : P x) : ∀ y ∈ [x], P y := fun y hy => by rcases List.mem_singleton.1 hy with rfl; exact h
theorem all2 {P : Int → Prop} {x y : Int} (h : P x) (h2 : P y) : ∀ z ∈ [x, y], P z := fun z hz => by
  simp only [List.mem_cons, List.not_mem_nil, or_false] at hz; rcases hz with rfl | rfl; exact h; exact h2
theorem all3 {P : Int → Prop} {x y u : Int} (h : P x) (h2 : P y) (h3 : P u) : ∀ z ∈ [x, y, u], P z := fun z hz => by
  simp only [List.mem_cons, List.not_mem_nil, or_false] at hz; rcases hz with rfl | rfl | rfl; exact h; exact h2; exact h3
theorem all4' {P : Int → Prop} {x y u t : Int} (h : P x) (h2 : P y) (h3 : P u) (h4 : P t) : ∀ z ∈ [x, y, u, t], P z := fun z hz => by
  simp only [List.mem_cons, List.not_mem_nil, or_false] at hz; rcases hz with rfl | rfl | rfl | rfl; exact h; exact h2; exact h3; exact h4
theorem in8_0 : in8 0 := by unfold in8; omega
theorem in32_0 : in32 0 := by unfold in32; omega
theorem in64_32 {x : Int} (h : in32 x) : 0 ≤ x ∧ x ≤ 18446744073709551615 := ⟨h.1, by have := h.2; omega⟩

/-! ## Other -/
theorem pOther (R : List Ro) (g : Nat) (kd ct : Int) (bd : ByteArray) (hb : bd.size ≤ 100000) : PtF 111 R g (.agg #[.int .u8 kd, .int .u8 ct, .string bd]) bd := by
  have hW := fun bl => wPut g 0 bl 1 none none E0 [bd] (all1B (by omega)) (by simp) (w0 g) (by decide)
  rw [E0_append, show catS [bd] = bd from append_E0 bd] at hW
  refine fn_intro Try.func111 rfl Try.ntmps111 rfl (fun E => ?_)
  (repeat (first | ((first | (apply wo_v; rfl) ); (· first | (apply pv_ev; rfl) | (apply pv_fld; rfl) | (apply g_load; first | (apply pv_ld; rfl; (· (repeat (first | apply sel_here ))); rfl) ) )) | apply wo_nil | apply wc_seq | apply wc_region | (apply wo_box1; rfl; rfl; rfl; intro bx) | (apply wo_boxa; rfl; rfl; intro bx) | (apply wo_bsl; (· (repeat (first | apply Rws'.nil | (apply Rws'.one; rfl; rfl; rfl) ))); rfl; rfl; rfl; rfl; intro bx) ))
  (refine wo_call (hW _) rfl (by (repeat (first | apply sub_nil | (apply sub_cons; (· (repeat (first | apply sel_here | apply sel_there)))))); done) (by first | exact fun _ h => h | (intro r hr; cases hr; done) | (simp; done) | exact fun _ h => List.mem_append_left _ h | (intro r hr; simp [hr]; done)) rfl ?_; rintro v L' R' ⟨p5, ao5, c5, rfl, rfl, rfl, hw5⟩ H' hH RR hR; simp only [List.cons_append, List.nil_append] at hH hR; subst hH; have hR := hR.symm; subst hR)
  (repeat (first | apply wo_nil ))
  exact ret0 rfl ⟨p5, ao5, c5, rfl, rfl, rfl, hw5⟩ (by (repeat (first | apply sub_nil )); done) (by first | exact fun _ h => h | (intro r hr; cases hr; done) | (simp; done) | exact fun _ h => List.mem_append_left _ h | (intro r hr; simp [hr]; done))

/-! ## Fir -/
def orT (x : Int × Int) : ByteArray := numsS 4 [x.1] ++ numsS 1 [x.2, 0, 0, 0]
def orsT : List (Int × Int) → ByteArray
  | [] => E0
  | x :: l => orT x ++ orsT l
theorem orsT_app : ∀ a b, orsT (a ++ b) = orsT a ++ orsT b
  | [], b => (E0_append _).symm
  | x :: a, b => by
    show orT x ++ orsT (a ++ b) = (orT x ++ orsT a) ++ orsT b
    rw [orsT_app a b, ByteArray.append_assoc]
theorem orsT_take {l : List (Int × Int)} {j : Nat} {x : Int × Int} (h : l[j]? = some x) : orsT (l.take (j + 1)) = orsT (l.take j) ++ orT x := by
  rw [List.take_add_one, h, orsT_app]
  show orsT (l.take j) ++ (orT x ++ E0) = _
  rw [append_E0]
theorem orT_size (x : Int × Int) : (orT x).size = 8 := by unfold orT; rw [ByteArray.size_append, numsS_size, numsS_size]; rfl
theorem orsT_size : ∀ l : List (Int × Int), (orsT l).size = 8 * l.length
  | [] => rfl
  | x :: l => by
    show (orT x ++ orsT l).size = _
    rw [ByteArray.size_append, orT_size, orsT_size l, List.length_cons]; omega
abbrev firB (b : Nat) (fm : Int) (v : Value) : It := .ob b (.cells #[.int .u32 fm, v] 106 (0, 0))
abbrev ordB (b : Nat) (x y : Int) : It := .ob b (.cells #[.int .u32 x, .int .u8 y] 108 (0, 0))
def tblFi (g : Nat) (x y : Int) (T1 T2 : ByteArray) : Nat → List (List It) → Value → List (List It) → Prop := fun k Ls v Ms => match k with
  | 3 => newP 37 [[.int .u32 x]] v Ms
  | 4 => wrP0 g T1 v Ms
  | 7 => newP 5 [[.int .u8 y], [.int .u8 0], [.int .u8 0], [.int .u8 0]] v Ms
  | _ => wrP0 g T2 v Ms
set_option maxHeartbeats 8000000 in
theorem pFir (R : List Ro) (g : Nat) (f0 : Int) (l : List (Int × Int)) (A : Option Addr) (n c : Nat) (hS : SQ R 2 A n c (ordV l)) (hl : l.length ≤ 10000) (h1 : in32 f0) (hb : ∀ x ∈ l, in32 x.1 ∧ in8 x.2) :
    PtF 107 R g (.agg #[.int .u32 f0, .slice A n c]) (numsS 4 [f0, 0] ++ orsT l) := by
  have hn : n = l.length := by rw [← hS.len, ordV_len]
  subst hn
  have hW := fun bl => wU32 g 0 bl 2 none none E0 [f0, 0] (all2 (P := in32) h1 in32_0) (by simp) (w0 g) (by decide)
  rw [E0_append] at hW
  have zh : (numsS 4 [f0, 0]).size = 8 := by rw [numsS_size]; rfl
  generalize numsS 4 [f0, 0] = th at hW zh ⊢
  refine fn_intro Try.func107 rfl Try.ntmps107 rfl (fun E => ?_)
  (repeat (first | ((first | (apply wo_v; rfl) ); (· first | (apply pv_ev; rfl) | (apply pv_fld; rfl) | (apply g_load; first | (apply pv_ld; rfl; (· (repeat (first | apply sel_here ))); rfl) ) )) | apply wo_nil | apply wc_seq | apply wc_region | (apply wo_box1; rfl; rfl; rfl; intro bx) | (apply wo_boxa; rfl; rfl; intro bx) | (apply wo_bsl; (· (repeat (first | apply Rws'.nil | (apply Rws'.one; rfl; rfl; rfl) ))); rfl; rfl; rfl; rfl; intro bx) ))
  rename_i bw
  obtain ⟨bp, hbp⟩ : ∃ g, g = bw := ⟨_, rfl⟩
  subst hbp
  (refine wo_call (hW _) rfl (by (repeat (first | apply sub_nil | (apply sub_cons; (· (repeat (first | apply sel_here | apply sel_there)))))); done) (by first | exact fun _ h => h | (intro r hr; cases hr; done) | (simp; done) | exact fun _ h => List.mem_append_left _ h | (intro r hr; simp [hr]; done)) rfl ?_; rintro v L' R' ⟨p5, ao5, c5, rfl, rfl, rfl, hw5⟩ H' hH RR hR; simp only [List.cons_append, List.nil_append] at hH hR; subst hH; have hR := hR.symm; subst hR)
  (repeat (first | ((first | (apply wo_v; rfl) ); (· first | (apply pv_ev; rfl) | (apply pv_fld; rfl) | (apply g_load; first | (apply pv_ld; rfl; (· (repeat (first | apply sel_here | apply sel_there))); rfl) ) | (apply g_bi; first | (apply pv_len_sl; rfl) ) )) | apply wo_nil | apply wc_seq | apply wc_region ))
  refine wc_block ?_
  refine wc_loop' (fun q st => ∃ (i : Nat) (p ao : Option Addr) (c' : Nat) (s : ByteArray), q = l.length - i ∧ i ≤ l.length ∧ s = th ++ orsT (l.take i) ∧ WOk g p ao c' s ∧ st = ⟨[(1, .pointer (some ⟨g, 0, none⟩)), (12, .slice A l.length c), (13, .int .i64 l.length), (14, .int .i64 i)], wrH g p ao c' s ++ [firB bp f0 (.slice A l.length c)], R⟩) ⟨0, p5, ao5, c5, th, rfl, Nat.zero_le _, (append_E0 _).symm, hw5, rfl⟩ (wk_mk (by (repeat (first | apply wkf_nil | (apply wkf_cons; rfl))); done) (by (repeat (first | apply sub_nil )); done) (by first | exact fun _ h => h | (intro r hr; cases hr; done) | (simp; done) | exact fun _ h => List.mem_append_left _ h | (intro r hr; simp [hr]; done))) ?_
  clear hw5 hW p5 ao5 c5
  rintro q st ⟨i, p, ao, c', s, rfl, hi, hs, hw, rfl⟩
  by_cases hlt : i < l.length
  · obtain ⟨x, hx⟩ : ∃ x, l[i]? = some x := ⟨_, List.getElem?_eq_getElem hlt⟩
    have hr := ordV_at hx
    obtain ⟨x1, x2⟩ := hb _ (List.mem_of_getElem? hx)
    have hnx := orsT_take hx
    have hsz := orsT_size (l.take i)
    obtain ⟨x, y⟩ := x
    dsimp only at hr x1 x2
    have hsz2 : s.size ≤ 8 + 8 * i := by rw [hs, ByteArray.size_append, zh, hsz, List.length_take]; omega
    obtain ⟨T1, hT1⟩ : ∃ T1, s ++ numsS 4 [x] = T1 := ⟨_, rfl⟩
    obtain ⟨T2, hT2⟩ : ∃ T2, T1 ++ numsS 1 [y, 0, 0, 0] = T2 := ⟨_, rfl⟩
    have z1 : T1.size = s.size + 4 := by rw [← hT1, ByteArray.size_append, numsS_size]; rfl
    have hnx2 : T2 = th ++ orsT (l.take (i + 1)) := by rw [hnx, ← hT2, ← hT1, hs]; unfold orT; simp only [ByteArray.append_assoc]
    obtain ⟨a0, o0, rfl, hmem⟩ := hS.pos (by omega)
    have hW1 := fun c p ao hw bl => wU32 g c bl 1 p ao s [x] (all1 (P := in32) x1) (by simp) hw (by omega)
    rw [hT1] at hW1
    have hW2 := fun c p ao hw bl => wU8L g c bl p ao T1 [y, 0, 0, 0] (all4' x2 in8_0 in8_0 in8_0) (by simp) (by simp) hw (by omega)
    rw [hT2] at hW2
    (repeat (first | ((first | (apply wo_v; rfl) ); (· first | (apply pv_ev; rfl) )) | apply wo_nil | apply wc_seq | apply wc_region | apply wc_skip | (apply wc_true; rfl) | (apply wc_false; rfl) | (apply a_dec_t; rfl; (· first | assumption | omega)) ))
    refine wc_block ?_
    (repeat (first | ((first | (apply wo_v; rfl) ); (· first | (apply pv_ev; rfl) | (apply g_load; first | (apply pv_lda; rfl; (· (repeat (first | apply sel_there))); (· (repeat (first | fail )))) | (apply pv_ld_owna; rfl; (· (repeat (first | apply sel_there))); (· assumption)) | (apply pv_ld_roa; rfl; (· (first | assumption )); (· assumption))) | (apply g_idx; first | (apply pv_idx; rfl; rfl; omega) ) )) | apply wo_nil | apply wc_seq | apply wc_region | (apply wo_alloc; rfl; intro bx) | (apply wo_sta; rfl; rfl; rfl; rfl; (· (repeat (first | apply sel_here ))); (· (repeat (first | apply LayAt.nil | apply LayAt.here ))); rfl) ))
    obtain ⟨bo, hbo⟩ : ∃ g, g = bx := ⟨_, rfl⟩
    subst hbo
    (refine wc_regM [0, 1, 2] (aslL [(3, [1]), (4, [0, 1]), (7, [2]), (8, [0, 2])]) (tblFi g x y T1 T2) ([ordB bo x y, firB bp f0 (.slice (some ⟨a0, o0, none⟩) l.length c)]) (fm [(0, wrH g p ao c' s), (1, []), (2, [])]) mixed (by kernel_rfl) (by kernel_rfl) (by decide) (aslL_ok (by decide)) (by (repeat (first | (apply prm_cons; (· (repeat (first | apply sel_here | apply sel_there)))) | apply List.Perm.nil )); done) ?_; (repeat (first | (apply HdM.val; rfl; rfl; (· first | apply gok_none ); (· first | (apply pv_ev; rfl) | (apply pv_fld; rfl) | (apply g_load; first | (apply pv_ld; rfl; (· (repeat (first | apply sel_here ))); rfl) ) )) )))
    (refine hm_eff (cs := [1]) rfl (by decide) rfl rfl (by first | exact gok_none | exact gok_run rfl rfl) (fun a ha => outc_mono (outc_bsl (by (repeat (first | apply Rws'.nil | (apply Rws'.one; rfl; rfl; rfl) )); done) rfl rfl rfl a ha) (fun v M h => by obtain ⟨b, h1, h2⟩ := h; exact ⟨[M], ⟨b, h1, congrArg (fun x => [x]) h2⟩, rfl, by simp⟩)) (⟨_, _, Exists.intro 0 (And.intro rfl rfl), rfl⟩) ?_; rintro v Ms ⟨bw1, rfl, rfl⟩ _; simp only [setls, setl, reduceIte, Nat.reduceEqDiff]; (repeat (first | (apply HdM.val; rfl; rfl; (· first | fail ); (· first | fail )) )))
    (refine hm_eff (cs := [0, 1]) rfl (by decide) rfl rfl (by first | exact gok_none | exact gok_run rfl rfl) (fun a ha => outc_mono (outc_call (F1 := _) (T := fun v M => ∃ (p ao : Option Addr) (c : Nat), v = .pointer (some ⟨g, 0, none⟩) ∧ M = wrH g p ao c T1 ∧ WOk g p ao c T1) (hW1 c' p ao hw bw1) rfl (by (repeat (first | apply sub_nil )); done) (by first | exact fun _ h => h | (intro r hr; cases hr; done) | (simp; done) | exact fun _ h => List.mem_append_left _ h | (intro r hr; simp [hr]; done)) (by rintro v L' R' ⟨p', ao', c', rfl, rfl, _, hw'⟩; exact ⟨_, ⟨p', ao', c', rfl, rfl, hw'⟩, (by (repeat (first | (apply prm_cons; (· (repeat (first | apply sel_here )))) | apply List.Perm.nil )); done)⟩) a ha) (fun v M h => Exists.elim h fun p h => Exists.elim h fun ao h => Exists.elim h fun c h => ⟨[M, []], Exists.intro p (Exists.intro ao (Exists.intro c (And.intro h.1 (And.intro (congrArg (fun x => [x, []]) h.2.1) h.2.2)))), rfl, by simp⟩)) ((by obtain ⟨p, ao, c, h⟩ := WOk.ex g T1; exact ⟨_, _, Exists.intro p (Exists.intro ao (Exists.intro c (And.intro rfl (And.intro rfl h)))), rfl⟩)) ?_; rintro v Ms ⟨pc1, aoc1, cc1, rfl, rfl, hwc1⟩ _; simp only [setls, setl, reduceIte, Nat.reduceEqDiff]; (repeat (first | (apply HdM.val; rfl; rfl; (· first | apply gok_none ); (· first | (apply pv_ev; rfl) | (apply pv_fld; rfl) | (apply g_load; first | (apply pv_ld; rfl; (· (repeat (first | apply sel_here ))); rfl) ) )) )))
    (refine hm_eff (cs := [2]) rfl (by decide) rfl rfl (by first | exact gok_none | exact gok_run rfl rfl) (fun a ha => outc_mono (outc_bsl (by (repeat (first | apply Rws'.nil | (apply Rws'.one; rfl; rfl; rfl) )); done) rfl rfl rfl a ha) (fun v M h => by obtain ⟨b, h1, h2⟩ := h; exact ⟨[M], ⟨b, h1, congrArg (fun x => [x]) h2⟩, rfl, by simp⟩)) (⟨_, _, Exists.intro 0 (And.intro rfl rfl), rfl⟩) ?_; rintro v Ms ⟨bw2, rfl, rfl⟩ _; simp only [setls, setl, reduceIte, Nat.reduceEqDiff]; (repeat (first | (apply HdM.val; rfl; rfl; (· first | fail ); (· first | fail )) )))
    (refine hm_eff (cs := [0, 2]) rfl (by decide) rfl rfl (by first | exact gok_none | exact gok_run rfl rfl) (fun a ha => outc_mono (outc_call (F1 := _) (T := fun v M => ∃ (p ao : Option Addr) (c : Nat), v = .pointer (some ⟨g, 0, none⟩) ∧ M = wrH g p ao c T2 ∧ WOk g p ao c T2) (hW2 cc1 pc1 aoc1 hwc1 bw2) rfl (by (repeat (first | apply sub_nil )); done) (by first | exact fun _ h => h | (intro r hr; cases hr; done) | (simp; done) | exact fun _ h => List.mem_append_left _ h | (intro r hr; simp [hr]; done)) (by rintro v L' R' ⟨p', ao', c', rfl, rfl, _, hw'⟩; exact ⟨_, ⟨p', ao', c', rfl, rfl, hw'⟩, (by (repeat (first | (apply prm_cons; (· (repeat (first | apply sel_here )))) | apply List.Perm.nil )); done)⟩) a ha) (fun v M h => Exists.elim h fun p h => Exists.elim h fun ao h => Exists.elim h fun c h => ⟨[M, []], Exists.intro p (Exists.intro ao (Exists.intro c (And.intro h.1 (And.intro (congrArg (fun x => [x, []]) h.2.1) h.2.2)))), rfl, by simp⟩)) ((by obtain ⟨p, ao, c, h⟩ := WOk.ex g T2; exact ⟨_, _, Exists.intro p (Exists.intro ao (Exists.intro c (And.intro rfl (And.intro rfl h)))), rfl⟩)) ?_; rintro v Ms ⟨pc2, aoc2, cc2, rfl, rfl, hwc2⟩ _; simp only [setls, setl, reduceIte, Nat.reduceEqDiff]; (repeat (first | fail )))
    (refine HdM.nil ?_; intro H hH; simp only [Hp, fm, look, setl, List.flatMap_cons, List.flatMap_nil, reduceIte, Nat.reduceEqDiff, Option.getD_some, List.append_nil, List.cons_append, List.nil_append] at hH; subst hH)
    (repeat (first | ((first | (apply wo_v; rfl) ); (· first | (apply pv_ev; rfl) | (apply g_bin; first | (apply a_add; rfl; rfl; infer_instance; omega) ) )) | apply wo_nil | apply wc_region ))
    exact loop_end ⟨i + 1, pc2, aoc2, cc2, T2, rfl, by omega, hnx2, hwc2, rfl⟩ (by omega) (wk_mk (by (repeat (first | apply wkf_nil | (apply wkf_cons; rfl))); done) (by (repeat (first | apply sub_nil | (apply sub_cons; (· (repeat (first | apply sel_here | apply sel_there)))))); done) (by first | exact fun _ h => h | (intro r hr; cases hr; done) | (simp; done) | exact fun _ h => List.mem_append_left _ h | (intro r hr; simp [hr]; done)))
  · have e : i = l.length := by omega
    subst e
    rw [List.take_length] at hs
    subst hs
    (repeat (first | ((first | (apply wo_v; rfl) ); (· first | (apply pv_ev; rfl) )) | apply wo_nil | apply wc_seq | apply wc_region | (apply wc_exit; rfl) | (apply wc_true; rfl) | (apply wc_false; rfl) | (apply a_dec_t; rfl; (· first | assumption | omega)) | (apply a_dec_f; rfl; (· first | assumption | omega)) ))
    exact ret0 rfl ⟨p, ao, c', rfl, rfl, rfl, hw⟩ (by (repeat (first | apply sub_nil )); done) (by first | exact fun _ h => h | (intro r hr; cases hr; done) | (simp; done) | exact fun _ h => List.mem_append_left _ h | (intro r hr; simp [hr]; done))
end Go.Proofs.Yteaccbbmphcmnaa
