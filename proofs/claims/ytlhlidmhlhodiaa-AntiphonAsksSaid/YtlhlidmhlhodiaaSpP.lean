/-
  Sparse frames: maps with whole-number keys, known whole. No program in sight.
-/
import Derived.Test.YtlhlidmhlhodiaaSpU
import Derived.MapKept
import Derived.Carry
namespace Go.Proofs.Ytlhlidmhlhodiaa
set_option linter.unusedSimpArgs false
set_option linter.unusedVariables false
open Go.RowKit

def mEnt (k : IntKind) : Nat → List (Int × Value) → List MapEntry
  | _, [] => []
  | n, (a, v) :: l => ⟨.int k a, v, n⟩ :: mEnt k (n + 1) l
abbrev mob (k : IntKind) (l : List (Int × Value)) : Obj := .map (mEnt k 0 l).toArray l.length
def alook : List (Int × Value) → Int → Option Value
  | [], _ => none
  | (a, v) :: l, x => if x = a then some v else alook l x
def aidx : List (Int × Value) → Int → Nat
  | [], _ => 0
  | (a, _) :: l, x => if x = a then 0 else aidx l x + 1
def aset : List (Int × Value) → Int → Value → List (Int × Value)
  | [], x, v => [(x, v)]
  | (a, u) :: l, x, v => if x = a then (a, v) :: l else (a, u) :: aset l x v
theorem mEnt_len (k : IntKind) : ∀ (l : List (Int × Value)) (n : Nat), (mEnt k n l).length = l.length
  | [], _ => rfl
  | _ :: l, n => by simp [mEnt, mEnt_len k l]
theorem alook_set (l : List (Int × Value)) (x : Int) (v : Value) (y : Int) : alook (aset l x v) y = if y = x then some v else alook l y := by
  induction l with
  | nil => simp [aset, alook]
  | cons p l ih =>
    obtain ⟨a, u⟩ := p
    unfold aset
    by_cases h : x = a
    · subst h; simp only [if_true, alook]
      by_cases h2 : y = x <;> simp [h2]
    · simp only [if_neg h, alook, ih]
      by_cases h2 : y = a
      · subst h2; simp [Ne.symm h]
      · simp [h2]
theorem aidx_lt {l : List (Int × Value)} {x : Int} {v : Value} (h : alook l x = some v) : aidx l x < l.length := by
  induction l with
  | nil => cases h
  | cons p l ih =>
    obtain ⟨a, u⟩ := p
    unfold alook at h
    unfold aidx
    by_cases h2 : x = a
    · simp [h2]
    · rw [if_neg h2] at h ⊢
      have := ih h
      simp; omega
theorem aidx_le (l : List (Int × Value)) (x : Int) : aidx l x ≤ l.length := by
  induction l with
  | nil => simp [aidx]
  | cons p l ih =>
    obtain ⟨a, u⟩ := p
    unfold aidx
    by_cases h2 : x = a
    · simp [h2]
    · rw [if_neg h2]; simp; omega
theorem aidx_none {l : List (Int × Value)} {x : Int} (h : alook l x = none) : aidx l x = l.length := by
  induction l with
  | nil => rfl
  | cons p l ih =>
    obtain ⟨a, u⟩ := p
    unfold alook at h
    unfold aidx
    by_cases h2 : x = a
    · rw [if_pos h2] at h; cases h
    · rw [if_neg h2] at h ⊢
      rw [ih h]; simp
theorem aset_none {l : List (Int × Value)} {x : Int} (v : Value) (h : alook l x = none) : aset l x v = l ++ [(x, v)] := by
  induction l with
  | nil => rfl
  | cons p l ih =>
    obtain ⟨a, u⟩ := p
    unfold alook at h
    unfold aset
    by_cases h2 : x = a
    · rw [if_pos h2] at h; cases h
    · rw [if_neg h2] at h ⊢
      rw [ih h]; rfl
theorem aset_same {l : List (Int × Value)} {x : Int} {v : Value} (h : alook l x = some v) : aset l x v = l := by
  induction l with
  | nil => cases h
  | cons p l ih =>
    obtain ⟨a, u⟩ := p
    unfold alook at h
    unfold aset
    by_cases h2 : x = a
    · rw [if_pos h2] at h ⊢; cases h; rfl
    · rw [if_neg h2] at h ⊢
      rw [ih h]
theorem aset_len_some {l : List (Int × Value)} {x : Int} {u : Value} (v : Value) (h : alook l x = some u) : (aset l x v).length = l.length := by
  induction l with
  | nil => cases h
  | cons p l ih =>
    obtain ⟨a, u⟩ := p
    unfold alook at h
    unfold aset
    by_cases h2 : x = a
    · rw [if_pos h2]; rfl
    · rw [if_neg h2] at h ⊢
      simp [ih h]
theorem aset_len_none {l : List (Int × Value)} {x : Int} (v : Value) (h : alook l x = none) : (aset l x v).length = l.length + 1 := by
  rw [aset_none v h]; simp
theorem aset_len_le (l : List (Int × Value)) (x : Int) (v : Value) : (aset l x v).length ≤ l.length + 1 := by
  cases h : alook l x with
  | none => rw [aset_len_none v h]; omega
  | some u => rw [aset_len_some v h]; omega
theorem aset_aset (l : List (Int × Value)) (x : Int) (u v : Value) : aset (aset l x u) x v = aset l x v := by
  induction l with
  | nil => simp [aset]
  | cons p l ih =>
    obtain ⟨a, z⟩ := p
    by_cases h2 : x = a
    · subst h2; simp [aset]
    · simp [aset, h2, ih]
theorem aidx_set (l : List (Int × Value)) (x : Int) (v : Value) : aidx (aset l x v) x = aidx l x := by
  induction l with
  | nil => simp [aset, aidx]
  | cons p l ih =>
    obtain ⟨a, z⟩ := p
    by_cases h2 : x = a
    · subst h2; simp [aset, aidx]
    · simp [aset, aidx, h2, ih]
theorem findNow_m (k : IntKind) (x : Int) : ∀ (l : List (Int × Value)) (n i : Nat), Instr.findNow (.int k) (.int k x) (mEnt k n l) i = some ((alook l x).map fun v => (i + aidx l x, v))
  | [], _, _ => rfl
  | (a, v) :: l, n, i => by
    have e : Instr.sameNow (.int k) (.int k x) (.int k a) = some (x == a) := by simp [Instr.sameNow]
    unfold mEnt Instr.findNow
    rw [e]
    by_cases h : x = a
    · subst h; simp [alook, aidx]
    · have hb : (x == a) = false := by simpa using h
      rw [hb]
      simp only [findNow_m k x l (n + 1) (i + 1), alook, aidx, if_neg h]
      cases alook l x <;> simp; omega
theorem mEnt_modify (k : IntKind) (x : Int) (v : Value) : ∀ (l : List (Int × Value)) (n : Nat) {u : Value}, alook l x = some u → (mEnt k n l).modify (aidx l x) (fun e => { e with key := .int k x, val := v }) = mEnt k n (aset l x v)
  | [], _, _, h => by cases h
  | (a, z) :: l, n, u, h => by
    unfold alook at h
    by_cases h2 : x = a
    · subst h2; simp [aset, aidx, mEnt]
    · rw [if_neg h2] at h
      simp only [aset, aidx, if_neg h2, mEnt, List.modify_succ_cons, mEnt_modify k x v l (n + 1) h]
theorem mEnt_modify' (k : IntKind) (x : Int) : ∀ (l : List (Int × Value)) (n : Nat) {u : Value}, alook l x = some u → (mEnt k n l).modify (aidx l x) (fun e => { e with key := .int k x }) = mEnt k n l
  | [], _, _, h => by cases h
  | (a, z) :: l, n, u, h => by
    unfold alook at h
    by_cases h2 : x = a
    · subst h2; simp [aidx, mEnt]
    · rw [if_neg h2] at h
      simp only [aidx, if_neg h2, mEnt, List.modify_succ_cons, mEnt_modify' k x l (n + 1) h]
theorem mEnt_modv (k : IntKind) (x : Int) (v : Value) : ∀ (l : List (Int × Value)) (n : Nat) {u : Value}, alook l x = some u → (mEnt k n l).modify (aidx l x) (fun e => { e with val := v }) = mEnt k n (aset l x v)
  | [], _, _, h => by cases h
  | (a, z) :: l, n, u, h => by
    unfold alook at h
    by_cases h2 : x = a
    · subst h2; simp [aset, aidx, mEnt]
    · rw [if_neg h2] at h
      simp only [aset, aidx, if_neg h2, mEnt, List.modify_succ_cons, mEnt_modv k x v l (n + 1) h]
theorem mEnt_at (k : IntKind) (x : Int) : ∀ (l : List (Int × Value)) (n : Nat) {u : Value}, alook l x = some u → (mEnt k n l)[aidx l x]? = some ⟨.int k x, u, n + aidx l x⟩
  | [], _, _, h => by cases h
  | (a, z) :: l, n, u, h => by
    unfold alook at h
    by_cases h2 : x = a
    · subst h2
      rw [if_pos rfl] at h; cases h
      simp [aidx, mEnt]
    · rw [if_neg h2] at h
      simp only [aidx, if_neg h2, mEnt, List.getElem?_cons_succ, mEnt_at k x l (n + 1) h]
      simp; omega
theorem mEnt_push (k : IntKind) (x : Int) (v : Value) : ∀ (l : List (Int × Value)) (n : Nat), mEnt k n l ++ [⟨.int k x, v, n + l.length⟩] = mEnt k n (l ++ [(x, v)])
  | [], _ => rfl
  | (a, z) :: l, n => by
    have := mEnt_push k x v l (n + 1)
    simp only [mEnt, List.cons_append, List.length_cons, List.cons.injEq, true_and]
    rw [← this]
    have e : n + (l.length + 1) = n + 1 + l.length := by omega
    rw [e]
theorem mEnt_find (k : IntKind) : ∀ (l : List (Int × Value)) (n j : Nat), j < l.length → (mEnt k n l).findIdx? (fun e => (e.born : Int) == ((n + j : Nat) : Int)) = some j
  | [], _, _, h => by simp at h
  | (a, z) :: l, n, 0, h => by simp [mEnt, List.findIdx?_cons]
  | (a, z) :: l, n, j + 1, h => by
    have h' := mEnt_find k l (n + 1) j (by simpa using h)
    have e : n + 1 + j = n + (j + 1) := by omega
    rw [e] at h'
    unfold mEnt
    rw [List.findIdx?_cons]
    have hb : (((n : Nat) : Int) == ((n + (j + 1) : Nat) : Int)) = false := by simp; omega
    simp only [hb]
    rw [h']; rfl
/-! contracts of the older kind turned into these -/
section
variable {P : Program} {f : FuncId} {args : Array Value} {g : Nat} {T : TypeId} {cs : Array Value}
theorem sat_none {w w' : World} (h : Below w.heap.size w w') : Sat w (feet []) (blks []) [] [] w' :=
  ⟨⟨h.os, h.tape, h.output, h.size, fun k hk _ => h.block k hk⟩, (by intro x hx; cases hx), (by intro x hx; cases hx), .nil, (by intro r hr; cases hr), (by intro r hr; cases hr), (by intro r hr; cases hr)⟩
theorem fn_pure {v : Value} (h : ∀ w, Calls P f args w fun e w' => e = .returned v ∧ Below w.heap.size w w') : Fn P f args [] [] (fun u L' R' => u = v ∧ L' = [] ∧ R' = []) :=
  fun w _ => (h w).mono fun _ _ ⟨h1, h2⟩ => ⟨v, [], [], h1, ⟨rfl, rfl, rfl⟩, sat_none h2⟩
theorem fn_blk {Q : Value → Array Value → Prop} (h : ∀ w, Blk w g T cs → Calls P f args w fun e w' => ∃ v cs', e = .returned v ∧ Q v cs' ∧ Blk w' g T cs' ∧ w.grownBy w' (some g)) :
    Fn P f args [.ob g (.cells cs T (0, 0))] [] (fun u L' R' => ∃ cs', Q u cs' ∧ L' = [.ob g (.cells cs' T (0, 0))] ∧ R' = []) :=
  fun w hw => (h w (hw.sat _ (.head _))).mono fun _ _ ⟨v, cs', h1, h2, h3, h4⟩ => ⟨v, _, [], h1, ⟨cs', h2, rfl, rfl⟩, Sat.relay (by simpa using Frm.grown h4) h3⟩
theorem fn_read {v : Value} (h : ∀ w, Blk w g T cs → Calls P f args w fun e w' => e = .returned v ∧ w = w') :
    Fn P f args [.ob g (.cells cs T (0, 0))] [] (fun u L' R' => u = v ∧ L' = [.ob g (.cells cs T (0, 0))] ∧ R' = []) :=
  fun w hw => (h w (hw.sat _ (.head _))).mono fun _ _ ⟨h1, h2⟩ => ⟨v, _, [], h1, ⟨rfl, rfl, rfl⟩, by subst h2; exact hw⟩
theorem fn_new {Q : Array Value → Prop} (h : ∀ w, Calls P f args w fun e w' => ∃ g cs, e = .returned (.pointer (some ⟨g, 0, none⟩)) ∧ Q cs ∧ Blk w' g T cs ∧ w.heap.size ≤ g ∧ Below w.heap.size w w') :
    Fn P f args [] [] (fun u L' R' => ∃ g cs, u = .pointer (some ⟨g, 0, none⟩) ∧ Q cs ∧ L' = [.ob g (.cells cs T (0, 0))] ∧ R' = []) :=
  fun w _ => (h w).mono fun _ w' ⟨g, cs, h1, h2, h3, h4, h5⟩ => ⟨_, _, [], h1, ⟨g, cs, rfl, h2, rfl, rfl⟩, Sat.one (L := []) ⟨h5.os, h5.tape, h5.output, h5.size, fun k hk _ => h5.block k hk⟩ h3 (fun b hb => by
    simp only [It.foot, Option.some.injEq] at hb; subst hb; exact .inr h4)⟩
end
section
variable {P : Program} {N : Nat} {E : Env} {fr : List (Nat × Value)} {hp : List It} {ro : List Ro} {Kn Kr : St → Prop} {ops : Array Oper} {rest : List Oper} {dst : Option Tmp} {ty t : TypeId} {pos : String} {af : Array Edge} {F : List It} {x y z : Operand} {k : IntKind} {b : Nat} {l : List (Int × Value)} {a : Int} {v : Value} {kt e : TypeId}
theorem pv_mlook {zv : Value} [ht : TMap P t kt e] [hk : TInt P kt k] [hz : TZV P e zv] (hx : opd fr x = some (.map (some b))) (hy : opd fr y = some (.int k a)) (hs : hp.Perm (.ob b (mob k l) :: F)) :
    Pv P ⟨fr, hp, ro⟩ (.lookup t x y true) (.tuple #[(alook l a).getD zv, .bool (alook l a).isSome]) := fun N E ac w dst ty pos af g ok => by
  have hb : w.heap[b]? = some (mob k l) := ok.s.get hs
  simp only [execOp, ok.h.eval hx, ok.h.eval hy]
  have h1 := findNow_m k a l 0 0
  have hf := MapKept.run_findKey (P := P) (w := w) hk.h h1
  have hc : ∀ em, (Instr.checkKey em 10000 kt (.int k a)).run P w = .ok () w := fun em => MapKept.run_checkKey hk.h (by simp [MapKept.IsKey]) em 9999
  cases h : alook l a with
  | none => rw [h] at hf; simp [Instr.lookup, run_underlying ht.h, MapKept.run_getObj_map hb, hc, hf, Result.andThen, run_zeroV (P := P) (T := e)]
  | some u => rw [h] at hf; simp [Instr.lookup, run_underlying ht.h, MapKept.run_getObj_map hb, hc, hf, Result.andThen]
theorem pv_mlook1 {zv : Value} [ht : TMap P t kt e] [hk : TInt P kt k] [hz : TZV P e zv] (hx : opd fr x = some (.map (some b))) (hy : opd fr y = some (.int k a)) (hs : hp.Perm (.ob b (mob k l) :: F)) :
    Pv P ⟨fr, hp, ro⟩ (.lookup t x y false) ((alook l a).getD zv) := fun N E ac w dst ty pos af g ok => by
  have hb : w.heap[b]? = some (mob k l) := ok.s.get hs
  simp only [execOp, ok.h.eval hx, ok.h.eval hy]
  have h1 := findNow_m k a l 0 0
  have hf := MapKept.run_findKey (P := P) (w := w) hk.h h1
  have hc : ∀ em, (Instr.checkKey em 10000 kt (.int k a)).run P w = .ok () w := fun em => MapKept.run_checkKey hk.h (by simp [MapKept.IsKey]) em 9999
  cases h : alook l a with
  | none => rw [h] at hf; simp [Instr.lookup, run_underlying ht.h, MapKept.run_getObj_map hb, hc, hf, Result.andThen, run_zeroV (P := P) (T := e)]
  | some u => rw [h] at hf; simp [Instr.lookup, run_underlying ht.h, MapKept.run_getObj_map hb, hc, hf, Result.andThen]
theorem pv_min3 {k : IntKind} {a b c : Int} {ats : Array TypeId} (hx : opd fr x = some (.int k a)) (hy : opd fr y = some (.int k b)) (hz : opd fr z = some (.int k c)) : Pv P ⟨fr, hp, ro⟩ (.call ⟨.builtin .min, #[x, y, z], ats⟩) (.int k (min (min a b) c)) := fun N E ac w dst ty pos af g ok => by
  have e : (if b < a then b else a) = min a b := by omega
  have e2 : (if c < min a b then c else min a b) = min (min a b) c := by omega
  simp only [execOp, resolve, List.map_toArray, List.map_cons, List.map_nil, ok.h.eval hx, ok.h.eval hy, ok.h.eval hz]; simp [invoke, builtin, Builtin.min_, Builtin.min2, e, e2, go_sem]
/-! rows of strings that came in -/
def sseg (S : Nat → ByteArray) (n : Nat) : List (List Value) := (List.range n).map fun i => [.string (S i)]
theorem sseg_at {S : Nat → ByteArray} {n i : Nat} (h : i < n) : (sseg S n)[i]? = some [.string (S i)] := by simp [sseg, h]
theorem rws_s {w : World} {A : Option Addr} {n c : Nat} {V : Nat → Nat → Value} (h : Rws [.string] w A n c V) :
    ∃ (S : Nat → ByteArray) (R : List Ro), (∀ r ∈ R, r.sat w) ∧ (∀ i, i < n → (S i).size ≤ maxLen) ∧ (0 < n → ∃ b o, A = some ⟨b, o, none⟩ ∧ ⟨b, o, 1, sseg S n⟩ ∈ R) ∧ n ≤ 9223372036854775807 := by
  obtain ⟨R, hR, h0⟩ := rws_ro h (by simp)
  obtain ⟨h1, h2, _, h4⟩ := h
  refine ⟨fun i => match V i 0 with | .string z => z | _ => ByteArray.empty, R, hR, fun i hi => ?_, fun hn => ?_, by unfold maxLen at h2; omega⟩
  · obtain ⟨z, hz, hw⟩ := h4 i 0 _ hi rfl
    simp only [hz]
    exact hw
  · obtain ⟨b, o, hA, hm⟩ := h0 hn
    refine ⟨b, o, hA, ?_⟩
    have e : rowsOf [.string] V n = sseg (fun i => match V i 0 with | .string z => z | _ => ByteArray.empty) n := by
      unfold rowsOf sseg
      refine List.map_congr_left fun i hi => ?_
      obtain ⟨z, hz, _⟩ := h4 i 0 _ (List.mem_range.1 hi) rfl
      simp [hz]
    rw [← e]; exact hm
theorem g_lk {c : Bool} (h : Pv P ⟨fr, hp, ro⟩ (.lookup t x y c) v) : Pv P ⟨fr, hp, ro⟩ (.lookup t x y c) v := h
theorem pv_mlk_s [ht : TMap P t kt e] [hk : TInt P kt k] {zv : Value} [hz : TZV P e zv] (hx : opd fr x = some (.map (some b))) (hy : opd fr y = some (.int k a)) (hs : hp.Perm (.ob b (mob k l) :: F)) (hl : alook l a = some v) : Pv P ⟨fr, hp, ro⟩ (.lookup t x y false) v := by
  have := pv_mlook1 (P := P) (ro := ro) hx hy hs (t := t); rwa [hl] at this
theorem pv_mlk_n [ht : TMap P t kt e] [hk : TInt P kt k] {zv : Value} [hz : TZV P e zv] (hx : opd fr x = some (.map (some b))) (hy : opd fr y = some (.int k a)) (hs : hp.Perm (.ob b (mob k l) :: F)) (hl : alook l a = none) : Pv P ⟨fr, hp, ro⟩ (.lookup t x y false) zv := by
  have := pv_mlook1 (P := P) (ro := ro) hx hy hs (t := t); rwa [hl] at this
theorem pv_mlko_s [ht : TMap P t kt e] [hk : TInt P kt k] {zv : Value} [hz : TZV P e zv] (hx : opd fr x = some (.map (some b))) (hy : opd fr y = some (.int k a)) (hs : hp.Perm (.ob b (mob k l) :: F)) (hl : alook l a = some v) : Pv P ⟨fr, hp, ro⟩ (.lookup t x y true) (.tuple #[v, .bool true]) := by
  have := pv_mlook (P := P) (ro := ro) hx hy hs (t := t); rwa [hl] at this
theorem pv_mlko_n [ht : TMap P t kt e] [hk : TInt P kt k] {zv : Value} [hz : TZV P e zv] (hx : opd fr x = some (.map (some b))) (hy : opd fr y = some (.int k a)) (hs : hp.Perm (.ob b (mob k l) :: F)) (hl : alook l a = none) : Pv P ⟨fr, hp, ro⟩ (.lookup t x y true) (.tuple #[zv, .bool false]) := by
  have := pv_mlook (P := P) (ro := ro) hx hy hs (t := t); rwa [hl] at this
theorem pv_mlen [ht : TMap P t kt e] (hx : opd fr x = some (.map (some b))) (hs : hp.Perm (.ob b (mob k l) :: F)) : Pv P ⟨fr, hp, ro⟩ (.call ⟨.builtin .len, #[x], #[t]⟩) (.int .i64 l.length) := fun N E ac w dst ty pos af g ok => by
  have hb : w.heap[b]? = some (mob k l) := ok.s.get hs
  simp only [execOp, resolve, List.map_toArray, List.map_cons, List.map_nil, ok.h.eval hx]; simp [invoke, builtin, Builtin.len_, run_underlying ht.h, MapKept.run_getObj_map hb, Result.andThen, goInt, mEnt_len, go_sem]
theorem wo_mmake {d : Nat} (k : IntKind) (hd : Nat.ble (d + 1) N = true)
    (h : ∀ b, WO P N E ops rest ⟨(d, .map (some b)) :: fr, .ob b (mob k []) :: hp, ro⟩ Kn) : WO P N E ops (⟨some d, .makeMap t none, ty, pos, af, none⟩ :: rest) ⟨fr, hp, ro⟩ Kn :=
  wo_eff (L := []) (.refl _) hd fun a w ok => ⟨.map (some w.heap.size), _, w.alloc (.map #[] 0), by simp only [execOp, Option.map_none, Sem.run_bind, run_makeMap, Result.andThen_ok]; rfl, Sat.fresh _, h _⟩
theorem set_frm {w : World} {b : Nat} {o o' : Obj} (hb : w.heap[b]? = some o) : Frm [b] w { w with heap := w.heap.setIfInBounds b o' } ∧ ({ w with heap := w.heap.setIfInBounds b o' } : World).heap[b]? = some o' :=
  ⟨⟨rfl, rfl, rfl, by simp, fun k _ hn => (MapKept.heap_set hb).2 k (by simpa using hn)⟩, (MapKept.heap_set hb).1⟩
theorem run_mput {w : World} [ht : TMap P t kt e] [hk : TInt P kt k] (hb : w.heap[b]? = some (mob k l)) :
    (Instr.mapUpdate t (.map (some b)) (.int k a) v).run P w = .ok () { w with heap := w.heap.setIfInBounds b (mob k (aset l a v)) } := by
  have h1 := findNow_m k a l 0 0
  have hf := MapKept.run_findKey (P := P) (w := w) hk.h h1
  have hc : (Instr.checkKey false 10000 kt (.int k a)).run P w = .ok () w := MapKept.run_checkKey hk.h (by simp [MapKept.IsKey]) false 9999
  cases h : alook l a with
  | none =>
    rw [h] at hf
    have e1 := mEnt_push k a v l 0
    rw [Nat.zero_add] at e1
    simp [Instr.mapUpdate, run_underlying ht.h, MapKept.run_getObj_map hb, hc, hf, MapKept.run_setObj_map _ hb, Result.andThen, mob, aset_none v h, e1]
  | some u =>
    rw [h] at hf
    have e1 := mEnt_modify k a v l 0 h
    have e2 := mEnt_at k a l 0 h
    have hks : (Instr.keyThatStays (.int k a) (.int k a)).run P w = .ok (.int k a) w := MapKept.run_keyThatStays (d := .int k) (by simp [MapKept.IsKey])
    simp [Instr.mapUpdate, run_underlying ht.h, MapKept.run_getObj_map hb, hc, hf, MapKept.run_setObj_map _ hb, Result.andThen, mob, aset_len_some v h, e1, e2, hks]
theorem wo_mput [ht : TMap P t kt e] [hk : TInt P kt k] (hx : opd fr x = some (.map (some b))) (hy : opd fr y = some (.int k a)) (hz : opd fr z = some v) (hs : hp.Perm (.ob b (mob k l) :: F)) (hd : dstOk dst N = true)
    (h : WO P N E ops rest ⟨putF dst undef fr, .ob b (mob k (aset l a v)) :: F, ro⟩ Kn) : WO P N E ops (⟨dst, .mapUpdate t x y z, ty, pos, af, none⟩ :: rest) ⟨fr, hp, ro⟩ Kn :=
  wo_eff_skip (L := [_]) hs hd fun ac w ok => by
    have hb : w.heap[b]? = some (mob k l) := ok.s.get hs
    refine ⟨_, _, ?_, Sat.relay (set_frm hb).1 (set_frm (o' := mob k (aset l a v)) hb).2, by simpa using h⟩
    simp only [execOp, ok.h.eval hx, ok.h.eval hy, ok.h.eval hz, Sem.run_bind, run_mput hb]; rfl
theorem wo_mentry {d : Nat} {zv : Value} [ht : TMap P t kt e] [hk : TInt P kt k] [hzv : TZV P e zv] (hx : opd fr x = some (.map (some b))) (hy : opd fr y = some (.int k a)) (hs : hp.Perm (.ob b (mob k l) :: F)) (hd : Nat.ble (d + 1) N = true)
    (h : WO P N E ops rest ⟨(d, .tuple #[(alook l a).getD zv, .int .i64 (aidx l a)]) :: fr, .ob b (mob k (aset l a ((alook l a).getD zv))) :: F, ro⟩ Kn) : WO P N E ops (⟨some d, .mapEntry t x y, ty, pos, af, none⟩ :: rest) ⟨fr, hp, ro⟩ Kn :=
  wo_eff (L := [_]) hs hd fun ac w ok => by
    have hb : w.heap[b]? = some (mob k l) := ok.s.get hs
    refine ⟨_, _, _, ?_, Sat.relay (set_frm hb).1 (set_frm (o' := mob k (aset l a ((alook l a).getD zv))) hb).2, by simpa [putF] using h⟩
    have h1 := findNow_m k a l 0 0
    have hf := MapKept.run_findKey (P := P) (w := w) hk.h h1
    have hc : (Instr.checkKey false 10000 kt (.int k a)).run P w = .ok () w := MapKept.run_checkKey hk.h (by simp [MapKept.IsKey]) false 9999
    simp only [execOp, ok.h.eval hx, ok.h.eval hy]
    cases h : alook l a with
    | none =>
      rw [h] at hf
      have e1 := mEnt_push k a zv l 0
      rw [Nat.zero_add] at e1
      simp [Instr.mapEntry, run_underlying ht.h, MapKept.run_getObj_map hb, hc, hf, MapKept.run_setObj_map _ hb, Result.andThen, mob, aset_none _ h, e1, run_zeroV (P := P) (T := e), goInt, aidx_none h]
    | some u =>
      rw [h] at hf
      have e1 := mEnt_modify' k a l 0 h
      have e2 := mEnt_at k a l 0 h
      have hks : (Instr.keyThatStays (.int k a) (.int k a)).run P w = .ok (.int k a) w := MapKept.run_keyThatStays (d := .int k) (by simp [MapKept.IsKey])
      simp [Instr.mapEntry, run_underlying ht.h, MapKept.run_getObj_map hb, hc, hf, MapKept.run_setObj_map _ hb, Result.andThen, mob, aset_same h, e1, e2, hks, goInt]
theorem wo_mstore {j : Nat} [ht : TMap P t kt e] (hx : opd fr x = some (.map (some b))) (hy : opd fr y = some (.int .i64 j)) (hz : opd fr z = some v) (hs : hp.Perm (.ob b (mob k l) :: F)) {u : Value} (hl : alook l a = some u) (hj : aidx l a = j) (hd : dstOk dst N = true)
    (h : WO P N E ops rest ⟨putF dst undef fr, .ob b (mob k (aset l a v)) :: F, ro⟩ Kn) : WO P N E ops (⟨dst, .entryStore t x y z, ty, pos, af, none⟩ :: rest) ⟨fr, hp, ro⟩ Kn :=
  wo_eff_skip (L := [_]) hs hd fun ac w ok => by
    have hb : w.heap[b]? = some (mob k l) := ok.s.get hs
    refine ⟨_, _, ?_, Sat.relay (set_frm hb).1 (set_frm (o' := mob k (aset l a v)) hb).2, by simpa using h⟩
    have e1 := mEnt_modv k a v l 0 hl
    have e2 := mEnt_find k l 0 (aidx l a) (aidx_lt hl)
    rw [Nat.zero_add] at e2
    subst hj
    simp only [execOp, ok.h.eval hx, ok.h.eval hy, ok.h.eval hz, Sem.run_bind]
    simp [Instr.entryStore, MapKept.run_getObj_map hb, MapKept.run_setObj_map _ hb, Result.andThen, asInt, asIntOf, e2, mob, e1, aset_len_some v hl, go_sem]
end
end Go.Proofs.Ytlhlidmhlhodiaa
