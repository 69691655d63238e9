/-
  A logic of sparse frames: a state is a list of known slots, a list of items of the heap (whole blocks, owned slices), and a list of segments that are only read. No program in sight.
-/
import Derived.Test.YtlhlidmhlhodiaaMem
import Derived.Deep.Quiet
import Derived.StillTail
import Derived.OwnWalk
import Derived.Deep.LoopGhost
namespace Go.Proofs.Ytlhlidmhlhodiaa
set_option linter.unusedSimpArgs false
set_option linter.unusedVariables false
open Go.RowKit

/-! ## Frames -/
def fget : List (Nat × Value) → Nat → Option Value
  | [], _ => none
  | (s, v) :: l, t => bif Nat.beq s t then some v else fget l t

def opd (fr : List (Nat × Value)) : Operand → Option Value
  | .tmp t => fget fr t
  | .const v => some v
  | .global g => some (.pointer (some ⟨g, 0, none⟩))
  | .func f => some (.func (.func f) #[] #[])

structure Holds (N : Nat) (fr : List (Nat × Value)) (a : Act) : Prop where
  defers : a.defers = []
  size : a.tmps.size = N
  slot : ∀ t v, fget fr t = some v → a.tmps[t]? = some v

section
variable {N : Nat} {fr : List (Nat × Value)} {a : Act} {v : Value}
theorem Holds.tmp (h : Holds N fr a) {t : Nat} (ht : fget fr t = some v) : a.tmps.getD t undef = v := by
  rw [Array.getD_eq_getD_getElem?, h.slot t v ht]; rfl
theorem Holds.eval (h : Holds N fr a) {x : Operand} (hx : opd fr x = some v) : a.eval x = v := by
  cases x with
  | tmp t => exact h.tmp hx
  | const u => simpa [opd, Act.eval] using hx
  | global g => simpa [opd, Act.eval] using hx
  | func f => simpa [opd, Act.eval] using hx
theorem Holds.put (h : Holds N fr a) {d : Nat} (hd : d < N) (v : Value) : Holds N ((d, v) :: fr) (a.put (some d) v) := by
  refine ⟨h.defers, by simp [Act.put, h.size], fun t u hu => ?_⟩
  unfold fget at hu
  cases hb : Nat.beq d t with
  | false =>
    have hne : d ≠ t := fun e => by rw [e, Nat.beq_refl] at hb; cases hb
    rw [hb] at hu
    simp only [cond_false] at hu
    simp [Act.put, Array.getElem?_setIfInBounds_ne hne, h.slot t u hu]
  | true =>
    have he : d = t := Nat.eq_of_beq_eq_true hb
    rw [hb] at hu
    simp only [cond_true, Option.some.injEq] at hu
    subst he; subst hu
    simp [Act.put, h.size, hd]
theorem Holds.none (h : Holds N fr a) (v : Value) : Holds N fr (a.put none v) := h
/-- a slot's value, told otherwise -/
theorem Holds.same (h : Holds N fr a) {s : Nat} {u : Value} (hs : fget fr s = some v) (e : v = u) : Holds N ((s, u) :: fr) a := by
  subst e
  refine ⟨h.defers, h.size, fun t u hu => ?_⟩
  unfold fget at hu
  cases hb : Nat.beq s t with
  | false => rw [hb] at hu; exact h.slot t u hu
  | true =>
    have he : s = t := Nat.eq_of_beq_eq_true hb
    rw [hb] at hu
    simp only [cond_true, Option.some.injEq] at hu
    subst he; subst hu
    exact h.slot s _ hs
theorem Holds.weak (h : Holds N fr a) {fr' : List (Nat × Value)} (hw : ∀ x ∈ fr', fget fr x.1 = some x.2) : Holds N fr' a := by
  refine ⟨h.defers, h.size, fun t u hu => h.slot t u ?_⟩
  clear h
  induction fr' with
  | nil => cases hu
  | cons x l ih =>
    obtain ⟨s, w⟩ := x
    unfold fget at hu
    cases hb : Nat.beq s t with
    | false => rw [hb] at hu; exact ih (fun y hy => hw y (.tail _ hy)) hu
    | true =>
      have he : s = t := Nat.eq_of_beq_eq_true hb
      rw [hb] at hu
      simp only [cond_true, Option.some.injEq] at hu
      subst he; subst hu
      exact hw (s, w) (.head _)
end

/-! ## The heap in items -/
inductive It where
  /-- block b is exactly o -/
  | ob (b : Nat) (o : Obj)
  /-- a slice of n elements (of type t, sz cells each) with the rows xs, which alone knows its block -/
  | own (t : TypeId) (sz : Nat) (ao : Option Addr) (n c : Nat) (xs : List (List Value))

/-- a segment that is only read: the rows xs from offset o of block b on -/
structure Ro where
  b : Nat
  o : Nat
  sz : Nat
  xs : List (List Value)

def SegIn (cur : Array Value) (o : Nat) (xs : List (List Value)) : Prop := ∀ j u, xs.flatten[j]? = some u → cur[o + j]? = some u
def RowsOk (sz : Nat) (xs : List (List Value)) : Prop := ∀ r ∈ xs, r.length = sz ∧ ∀ u ∈ r, u.oneCell' = true

def It.foot : It → Option Nat
  | .ob b _ => some b
  | .own _ _ ao _ _ _ => ao.map (·.block)
structure OwnSat (w : World) (t : TypeId) (sz : Nat) (ao : Option Addr) (n c : Nat) (xs : List (List Value)) : Prop where
  len : xs.length = n
  rows : RowsOk sz xs
  le : n ≤ c
  max : c ≤ maxLen
  nil : ao = none → c = 0
  at_ : ∀ a, ao = some a → a.spot = none ∧ ∃ cur, w.heap[a.block]? = some (.cells cur t (0, 0)) ∧ a.off + c * sz ≤ cur.size ∧ SegIn cur a.off xs
def It.sat (w : World) : It → Prop
  | .ob b o => w.heap[b]? = some o
  | .own t sz ao n c xs => OwnSat w t sz ao n c xs
def Ro.sat (w : World) (r : Ro) : Prop := RowsOk r.sz r.xs ∧ ∃ cur t fz, w.heap[r.b]? = some (.cells cur t fz) ∧ SegIn cur r.o r.xs

def feet (L : List It) : List Nat := L.filterMap It.foot
def blks (R : List Ro) : List Nat := R.map Ro.b

structure Frm (S : List Nat) (w w' : World) : Prop where
  os : w'.os = w.os
  tape : w'.tape = w.tape
  output : w'.output = w.output
  size : w.heap.size ≤ w'.heap.size
  block : ∀ k, k < w.heap.size → k ∉ S → w'.heap[k]? = w.heap[k]?

theorem Frm.refl (S : List Nat) (w : World) : Frm S w w := ⟨rfl, rfl, rfl, Nat.le_refl _, fun _ _ _ => rfl⟩
theorem Frm.below {w w' : World} (h : Frm [] w w') : Below w.heap.size w w' := ⟨h.os, h.tape, h.output, h.size, fun k hk => h.block k hk (by simp)⟩
theorem Frm.grown {w w' : World} {row : Option Nat} (h : w.grownBy w' row) : Frm row.toList w w' :=
  ⟨h.os, h.tape, h.output, h.size, fun k hk hn => h.block k hk (by cases row <;> simp_all)⟩

theorem size_of_some {w : World} {b : Nat} {o : Obj} (h : w.heap[b]? = some o) : b < w.heap.size := by
  rcases Nat.lt_or_ge b w.heap.size with h' | h'
  · exact h'
  · rw [Array.getElem?_eq_none h'] at h; cases h
theorem It.lt {w : World} {x : It} {b : Nat} (h : x.sat w) (hf : x.foot = some b) : b < w.heap.size := by
  cases x with
  | ob b' o => simp only [It.foot, Option.some.injEq] at hf; subst hf; exact size_of_some h
  | own t sz ao n c xs =>
    cases ao with
    | none => cases hf
    | some a =>
      simp only [It.foot, Option.map_some, Option.some.injEq] at hf
      subst hf
      obtain ⟨_, cur, hc, _⟩ := OwnSat.at_ h a rfl
      exact size_of_some hc
theorem It.congr {w w' : World} {x : It} (hf : ∀ b, x.foot = some b → w'.heap[b]? = w.heap[b]?) (h : x.sat w) : x.sat w' := by
  cases x with
  | ob b o => exact (hf b rfl).trans h
  | own t sz ao n c xs =>
    refine ⟨h.len, h.rows, h.le, h.max, h.nil, fun a ha => ?_⟩
    obtain ⟨h1, cur, h2, h3⟩ := h.at_ a ha
    exact ⟨h1, cur, (hf a.block (by simp [It.foot, ha])).trans h2, h3⟩
theorem Ro.lt {w : World} {r : Ro} (h : r.sat w) : r.b < w.heap.size := by
  obtain ⟨_, cur, t, fz, hc, _⟩ := h; exact size_of_some hc
theorem Ro.congr {w w' : World} {r : Ro} (hf : w'.heap[r.b]? = w.heap[r.b]?) (h : r.sat w) : r.sat w' := by
  obtain ⟨h1, cur, t, fz, hc, h2⟩ := h; exact ⟨h1, cur, t, fz, hf.trans hc, h2⟩

def Apart (x y : It) : Prop := ∀ b, x.foot = some b → y.foot = some b → False
theorem Apart.symm {x y : It} (h : Apart x y) : Apart y x := fun b h1 h2 => h b h2 h1

structure Sat (B : World) (S T : List Nat) (hp : List It) (ro : List Ro) (w : World) : Prop where
  frm : Frm S B w
  sat : ∀ x ∈ hp, x.sat w
  own : ∀ x ∈ hp, ∀ b, x.foot = some b → b ∈ S ∨ B.heap.size ≤ b
  dis : hp.Pairwise Apart
  rds : ∀ r ∈ ro, r.sat w
  rod : ∀ r ∈ ro, ∀ x ∈ hp, x.foot ≠ some r.b
  rok : ∀ r ∈ ro, r.b ∈ S ∨ r.b ∈ T ∨ B.heap.size ≤ r.b

theorem mem_feet {L : List It} {b : Nat} : b ∈ feet L ↔ ∃ x ∈ L, x.foot = some b := by simp [feet]
theorem mem_blks {R : List Ro} {b : Nat} : b ∈ blks R ↔ ∃ r ∈ R, r.b = b := by simp [blks]

section
variable {B : World} {S T : List Nat} {hp hp' L F L' : List It} {ro ro' R R' : List Ro} {w w' : World}
theorem Sat.perm (h : Sat B S T hp ro w) (hpm : hp.Perm hp') : Sat B S T hp' ro w :=
  ⟨h.frm, fun x hx => h.sat x (hpm.mem_iff.2 hx), fun x hx => h.own x (hpm.mem_iff.2 hx), (hpm.pairwise_iff Apart.symm).1 h.dis, h.rds,
    fun r hr x hx => h.rod r hr x (hpm.mem_iff.2 hx), h.rok⟩
theorem Sat.left (h : Sat B S T (L ++ F) ro w) : Sat B S T L ro w :=
  ⟨h.frm, fun x hx => h.sat x (List.mem_append_left _ hx), fun x hx => h.own x (List.mem_append_left _ hx), (List.pairwise_append.1 h.dis).1, h.rds,
    fun r hr x hx => h.rod r hr x (List.mem_append_left _ hx), h.rok⟩
theorem Sat.some_ro (h : Sat B S T hp ro w) (hs : ∀ r ∈ ro', r ∈ ro) : Sat B S T hp ro' w :=
  ⟨h.frm, h.sat, h.own, h.dis, fun r hr => h.rds r (hs r hr), fun r hr => h.rod r (hs r hr), fun r hr => h.rok r (hs r hr)⟩
/-- what a callee is handed -/
theorem Sat.start (h : Sat B S T hp ro w) (hs : hp.Perm (L ++ F)) (hr : ∀ r ∈ R, r ∈ ro) : Sat w (feet L) (blks R) L R w :=
  let h1 := ((h.perm hs).left.some_ro hr)
  ⟨Frm.refl _ _, h1.sat, fun x hx b hb => .inl (mem_feet.2 ⟨x, hx, hb⟩), h1.dis, h1.rds, h1.rod, fun r hr => .inr (.inl (mem_blks.2 ⟨r, hr, rfl⟩))⟩
/-- behind a step that may touch the items L alone, and makes L', R' of them -/
theorem Sat.step {T' : List Nat} (h0 : Sat B S T hp ro w) (hs : hp.Perm (L ++ F)) (hT : ∀ b ∈ T', b ∈ blks ro) (h' : Sat w (feet L) T' L' R' w') : Sat B S T (L' ++ F) (R' ++ ro) w' := by
  have h := h0.perm hs
  have hF : ∀ x ∈ F, ∀ b, x.foot = some b → b < w.heap.size ∧ b ∉ feet L := by
    intro x hx b hb
    refine ⟨It.lt (h.sat x (List.mem_append_right _ hx)) hb, fun hm => ?_⟩
    obtain ⟨y, hy, hyb⟩ := mem_feet.1 hm
    exact (List.pairwise_append.1 h.dis).2.2 y hy x hx b hyb hb
  have hFs : ∀ x ∈ F, x.sat w' := fun x hx => It.congr (fun b hb => h'.frm.block b (hF x hx b hb).1 (hF x hx b hb).2) (h.sat x (List.mem_append_right _ hx))
  have hR : ∀ r ∈ ro, r.b < w.heap.size ∧ r.b ∉ feet L := by
    intro r hr
    refine ⟨Ro.lt (h.rds r hr), fun hm => ?_⟩
    obtain ⟨y, hy, hyb⟩ := mem_feet.1 hm
    exact h.rod r hr y (List.mem_append_left _ hy) hyb
  have hLb : ∀ b ∈ feet L, b ∈ S ∨ B.heap.size ≤ b := by
    intro b hb
    obtain ⟨y, hy, hyb⟩ := mem_feet.1 hb
    exact h.own y (List.mem_append_left _ hy) b hyb
  refine ⟨⟨h'.frm.os.trans h.frm.os, h'.frm.tape.trans h.frm.tape, h'.frm.output.trans h.frm.output, Nat.le_trans h.frm.size h'.frm.size, fun k hk hn => ?_⟩, ?_, ?_, ?_, ?_, ?_, ?_⟩
  · refine (h'.frm.block k (Nat.lt_of_lt_of_le hk h.frm.size) fun hm => ?_).trans (h.frm.block k hk hn)
    rcases hLb k hm with h1 | h1
    · exact hn h1
    · omega
  · intro x hx
    rcases List.mem_append.1 hx with hx | hx
    · exact h'.sat x hx
    · exact hFs x hx
  · intro x hx b hb
    rcases List.mem_append.1 hx with hx | hx
    · rcases h'.own x hx b hb with h1 | h1
      · exact hLb b h1
      · exact .inr (Nat.le_trans h.frm.size h1)
    · exact h.own x (List.mem_append_right _ hx) b hb
  · refine List.pairwise_append.2 ⟨h'.dis, (List.pairwise_append.1 h.dis).2.1, fun x hx y hy b hxb hyb => ?_⟩
    have hy2 := hF y hy b hyb
    rcases h'.own x hx b hxb with h1 | h1
    · exact hy2.2 h1
    · omega
  · intro r hr
    rcases List.mem_append.1 hr with hr | hr
    · exact h'.rds r hr
    · exact Ro.congr (h'.frm.block _ (hR r hr).1 (hR r hr).2) (h.rds r hr)
  · intro r hr x hx hxr
    rcases List.mem_append.1 hr with hr | hr
    · rcases List.mem_append.1 hx with hx | hx
      · exact h'.rod r hr x hx hxr
      · have hx2 := hF x hx _ hxr
        rcases h'.rok r hr with h1 | h1 | h1
        · exact hx2.2 h1
        · obtain ⟨r2, hr2, e2⟩ := mem_blks.1 (hT _ h1)
          exact h.rod r2 hr2 x (List.mem_append_right _ hx) (by rw [hxr, e2])
        · omega
    · rcases List.mem_append.1 hx with hx | hx
      · rcases h'.own x hx _ hxr with h1 | h1
        · exact (hR r hr).2 h1
        · have := (hR r hr).1; omega
      · exact h.rod r hr x (List.mem_append_right _ hx) hxr
  · intro r hr
    rcases List.mem_append.1 hr with hr | hr
    · rcases h'.rok r hr with h1 | h1 | h1
      · rcases hLb _ h1 with h2 | h2
        · exact .inl h2
        · exact .inr (.inr h2)
      · obtain ⟨r2, hr2, e2⟩ := mem_blks.1 (hT _ h1)
        have := h.rok r2 hr2
        rwa [e2] at this
      · exact .inr (.inr (Nat.le_trans h.frm.size h1))
    · exact h.rok r hr
end

/-- one item becomes another one (or none is there before): what stores, appends, new blocks do -/
theorem Sat.one {w w' : World} {L : List It} {y : It} (hf : Frm (feet L) w w') (hs : y.sat w') (ho : ∀ b, y.foot = some b → b ∈ feet L ∨ w.heap.size ≤ b) : Sat w (feet L) [] [y] [] w' :=
  ⟨hf, fun x hx => by rcases List.mem_singleton.1 hx with rfl; exact hs, fun x hx b hb => by rcases List.mem_singleton.1 hx with rfl; exact ho b hb,
    List.pairwise_singleton _ _, (by intro r hr; cases hr), (by intro r hr; cases hr), (by intro r hr; cases hr)⟩
theorem Frm.drawn {S : List Nat} {B w : World} (h : Frm S B w) (n : Nat) : Frm S B { w with drawn := n } := ⟨h.os, h.tape, h.output, h.size, h.block⟩
theorem Sat.drawn {B : World} {S T : List Nat} {hp : List It} {ro : List Ro} {w : World} (h : Sat B S T hp ro w) (n : Nat) : Sat B S T hp ro { w with drawn := n } :=
  ⟨h.frm.drawn n, fun x hx => It.congr (w := w) (fun _ _ => rfl) (h.sat x hx), h.own, h.dis, fun r hr => Ro.congr (w := w) rfl (h.rds r hr), h.rod, h.rok⟩

/-! ## Contracts and judgements -/
structure St where
  fr : List (Nat × Value)
  hp : List It
  ro : List Ro
structure Env where
  B : World
  S : List Nat
  T : List Nat

def Fn (P : Program) (f : FuncId) (args : Array Value) (L : List It) (R : List Ro) (Post : Value → List It → List Ro → Prop) : Prop :=
  ∀ w, Sat w (feet L) (blks R) L R w → Calls P f args w fun e w' => ∃ v L' R', e = .returned v ∧ Post v L' R' ∧ Sat w (feet L) (blks R) L' R' w'

structure Ok (N : Nat) (E : Env) (st : St) (a : Act) (w : World) : Prop where
  h : Holds N st.fr a
  s : Sat E.B E.S E.T st.hp st.ro w

def post (N : Nat) (E : Env) (Kn : St → Prop) (Kx : List (Nat × (St → Prop))) (Kr : St → Prop) : Exit → Act → World → Prop
  | .normal, a, w => ∃ st, Kn st ∧ Ok N E st a w
  | .exit id, a, w => ∃ st K, Kx.lookup id = some K ∧ K st ∧ Ok N E st a w
  | .ret, a, w => ∃ st, Kr st ∧ Ok N E st a w
  | _, _, _ => False

def WC (P : Program) (N : Nat) (E : Env) (c : Code) (st : St) (Kn : St → Prop) (Kx : List (Nat × (St → Prop))) (Kr : St → Prop) : Prop :=
  ∀ a w, Ok N E st a w → c.wp P (post N E Kn Kx Kr) a w
def WO (P : Program) (N : Nat) (E : Env) (ops : Array Oper) (rest : List Oper) (st : St) (Kn : St → Prop) : Prop :=
  ∀ Q : Exit → Act → World → Prop, (∀ st' a w, Kn st' → Ok N E st' a w → Q .normal a w) → ∀ a w, Ok N E st a w → wpList P ops Q rest a w
/-- an operation that yields v and leaves the world alone -/
def Pv (P : Program) (st : St) (op : Op) (v : Value) : Prop :=
  ∀ (N : Nat) (E : Env) (a : Act) (w : World) (dst : Option Tmp) (ty : TypeId) (pos : String) (af : Array Edge) (g : Option (Nat × Bool)), Ok N E st a w →
    (execOp a.eval ⟨dst, op, ty, pos, af, g⟩).run P w = .ok (.value v) w

section
variable {P : Program} {N : Nat} {E : Env} {fr : List (Nat × Value)} {hp : List It} {ro : List Ro} {Kn Kr : St → Prop} {Kx : List (Nat × (St → Prop))}
theorem wc_skip (h : Kn ⟨fr, hp, ro⟩) : WC P N E .skip ⟨fr, hp, ro⟩ Kn Kx Kr := fun a w ok => wp_skip ⟨⟨fr, hp, ro⟩, h, ok⟩
theorem wc_ret (h : Kr ⟨fr, hp, ro⟩) : WC P N E .ret ⟨fr, hp, ro⟩ Kn Kx Kr := fun a w ok => wp_ret ⟨⟨fr, hp, ro⟩, h, ok⟩
theorem wc_exit {id : Nat} {K : St → Prop} (hl : Kx.lookup id = some K) (h : K ⟨fr, hp, ro⟩) : WC P N E (.exit id) ⟨fr, hp, ro⟩ Kn Kx Kr := fun a w ok => wp_exit ⟨⟨fr, hp, ro⟩, K, hl, h, ok⟩
theorem wc_seq {x y : Code} (h : WC P N E x ⟨fr, hp, ro⟩ (fun st' => WC P N E y st' Kn Kx Kr) Kx Kr) : WC P N E (.seq x y) ⟨fr, hp, ro⟩ Kn Kx Kr := fun a w ok =>
  wp_seq (Code.wp_mono (fun e a w q => by
    cases e with
    | normal => obtain ⟨st', h1, h2⟩ := q; exact h1 a w h2
    | _ => exact q) (h a w ok))
theorem wc_block {id : Nat} {c : Code} (h : WC P N E c ⟨fr, hp, ro⟩ Kn ((id, Kn) :: Kx) Kr) : WC P N E (.block id c) ⟨fr, hp, ro⟩ Kn Kx Kr := fun a w ok =>
  wp_block (Code.wp_mono (fun e a w q => by
    cases e with
    | exit id' =>
      obtain ⟨st', K, hl, hk, ok'⟩ := q
      simp only [Exit.inBlock]
      by_cases he : id' = id
      · subst he
        simp only [List.lookup, beq_self_eq_true, Option.some.injEq] at hl
        subst hl
        rw [if_pos rfl]; exact ⟨st', hk, ok'⟩
      · rw [if_neg he]
        have hb : (id' == id) = false := by simpa using he
        simp only [List.lookup, hb] at hl
        exact ⟨st', K, hl, hk, ok'⟩
    | _ => exact q) (h a w ok))
theorem wc_cond {c : Operand} {x y : Code} {b : Bool} (hc : opd fr c = some (.bool b)) (ht : b = true → WC P N E x ⟨fr, hp, ro⟩ Kn Kx Kr) (hf : b = false → WC P N E y ⟨fr, hp, ro⟩ Kn Kx Kr) :
    WC P N E (.cond c x y) ⟨fr, hp, ro⟩ Kn Kx Kr := fun a w ok => wp_cond_split (ok.h.eval hc) (fun h => ht h a w ok) (fun h => hf h a w ok)
theorem wc_true {c : Operand} {x y : Code} (hc : opd fr c = some (.bool true)) (h : WC P N E x ⟨fr, hp, ro⟩ Kn Kx Kr) : WC P N E (.cond c x y) ⟨fr, hp, ro⟩ Kn Kx Kr :=
  wc_cond hc (fun _ => h) (fun h => by cases h)
theorem wc_false {c : Operand} {x y : Code} (hc : opd fr c = some (.bool false)) (h : WC P N E y ⟨fr, hp, ro⟩ Kn Kx Kr) : WC P N E (.cond c x y) ⟨fr, hp, ro⟩ Kn Kx Kr :=
  wc_cond hc (fun h => by cases h) (fun _ => h)
theorem wc_dec {c : Operand} {x y : Code} {p : Prop} [Decidable p] (hc : opd fr c = some (.bool (decide p))) (ht : p → WC P N E x ⟨fr, hp, ro⟩ Kn Kx Kr) (hf : ¬p → WC P N E y ⟨fr, hp, ro⟩ Kn Kx Kr) :
    WC P N E (.cond c x y) ⟨fr, hp, ro⟩ Kn Kx Kr := wc_cond hc (fun h => ht (of_decide_eq_true h)) (fun h => hf (of_decide_eq_false h))
theorem wc_dec_t {c : Operand} {x y : Code} {p : Prop} [Decidable p] (hc : opd fr c = some (.bool (decide p))) (hpp : p) (h : WC P N E x ⟨fr, hp, ro⟩ Kn Kx Kr) : WC P N E (.cond c x y) ⟨fr, hp, ro⟩ Kn Kx Kr :=
  wc_dec hc (fun _ => h) (fun hn => absurd hpp hn)
theorem wc_dec_f {c : Operand} {x y : Code} {p : Prop} [Decidable p] (hc : opd fr c = some (.bool (decide p))) (hpp : ¬p) (h : WC P N E y ⟨fr, hp, ro⟩ Kn Kx Kr) : WC P N E (.cond c x y) ⟨fr, hp, ro⟩ Kn Kx Kr :=
  wc_dec hc (fun h => absurd h hpp) (fun _ => h)
theorem wc_region {id : Nat} {l : List Oper} (h : WO P N E l.toArray l ⟨fr, hp, ro⟩ Kn) : WC P N E (.region id l.toArray false) ⟨fr, hp, ro⟩ Kn Kx Kr := fun a w ok =>
  wp_region_lit (h _ (fun st' _ _ hk ok' => ⟨st', hk, ok'⟩) a w ok)

/-! weakening -/
structure Wk (st st' : St) : Prop where
  fr : ∀ x ∈ st'.fr, fget st.fr x.1 = some x.2
  hp : ∃ F, st.hp.Perm (st'.hp ++ F)
  ro : ∀ r ∈ st'.ro, r ∈ st.ro
theorem Ok.weak {st' : St} {a : Act} {w : World} (h : Ok N E ⟨fr, hp, ro⟩ a w) (hw : Wk ⟨fr, hp, ro⟩ st') : Ok N E st' a w :=
  ⟨h.h.weak hw.fr, let ⟨_, hF⟩ := hw.hp; ((h.s.perm hF).left).some_ro hw.ro⟩
theorem wc_weak {c : Code} {st' : St} (hw : Wk ⟨fr, hp, ro⟩ st') (h : WC P N E c st' Kn Kx Kr) : WC P N E c ⟨fr, hp, ro⟩ Kn Kx Kr := fun a w ok => h a w (ok.weak hw)

def WkF (fr fr' : List (Nat × Value)) : Prop := ∀ x ∈ fr', fget fr x.1 = some x.2
theorem wkf_nil {fr : List (Nat × Value)} : WkF fr [] := fun x hx => by cases hx
theorem wkf_cons {fr fr' : List (Nat × Value)} {s : Nat} {v : Value} (h : fget fr s = some v) (hr : WkF fr fr') : WkF fr ((s, v) :: fr') := fun x hx => by
  rcases List.mem_cons.1 hx with rfl | hx
  · exact h
  · exact hr x hx
theorem wk_mk {fr' : List (Nat × Value)} {hp' F : List It} {ro' : List Ro} (hf : WkF fr fr') (hh : hp.Perm (hp' ++ F)) (hr : ∀ r ∈ ro', r ∈ ro) : Wk ⟨fr, hp, ro⟩ ⟨fr', hp', ro'⟩ := ⟨hf, ⟨F, hh⟩, hr⟩
theorem loop_end {I : Nat → St → Prop} {m m' : Nat} {st' st'' : St} (hI : I m' st'') (hlt : m' < m) (hw : Wk st' st'') : ∃ m' st'', m' < m ∧ Wk st' st'' ∧ I m' st'' := ⟨m', st'', hlt, hw, hI⟩
theorem cut_end {J : St → Prop} {st' st'' : St} (hJ : J st'') (hw : Wk st' st'') : ∃ st'', Wk st' st'' ∧ J st'' := ⟨st'', hw, hJ⟩
theorem wc_loop {c : Code} (I : Nat → St → Prop) (m : Nat) (st0 : St) (hw : Wk ⟨fr, hp, ro⟩ st0) (h0 : I m st0)
    (hr : ∀ m st, I m st → WC P N E c st (fun st' => ∃ m' st'', m' < m ∧ Wk st' st'' ∧ I m' st'') Kx Kr) : WC P N E (.loop c) ⟨fr, hp, ro⟩ Kn Kx Kr := by
  intro a w ok
  refine wp_loop_ghost (fun m a w => ∃ st, I m st ∧ Ok N E st a w) m ⟨st0, h0, ok.weak hw⟩ ?_
  rintro n a w ⟨st, hI, ok⟩
  refine wp_mono (hr n st hI a w ok) fun e a w q => ?_
  cases e with
  | normal =>
    obtain ⟨st', ⟨m', st'', h1, h2, h3⟩, ok'⟩ := q
    exact ⟨m', h1, st'', h3, ok'.weak h2⟩
  | _ => exact q
theorem wc_loop' {c : Code} (I : Nat → St → Prop) {m : Nat} {st0 : St} (h0 : I m st0) (hw : Wk ⟨fr, hp, ro⟩ st0)
    (hr : ∀ m st, I m st → WC P N E c st (fun st' => ∃ m' st'', m' < m ∧ Wk st' st'' ∧ I m' st'') Kx Kr) : WC P N E (.loop c) ⟨fr, hp, ro⟩ Kn Kx Kr := by
  intro a w ok
  exact wc_loop I m st0 hw h0 hr a w ok
/-- a sequence, with a relation between: where ways meet again -/
theorem wc_cut {x y : Code} (J : St → Prop) (h : WC P N E x ⟨fr, hp, ro⟩ (fun st' => ∃ st'', Wk st' st'' ∧ J st'') Kx Kr) (hy : ∀ st', J st' → WC P N E y st' Kn Kx Kr) : WC P N E (.seq x y) ⟨fr, hp, ro⟩ Kn Kx Kr := fun a w ok =>
  wp_seq (Code.wp_mono (fun e a w q => by
    cases e with
    | normal => obtain ⟨st', ⟨st'', h1, h2⟩, ok'⟩ := q; exact hy st'' h2 a w (ok'.weak h1)
    | _ => exact q) (h a w ok))

/-! ### operations -/
def gslot (ops : Array Oper) (j : Nat) : Option Nat := (ops[j]?).bind (·.dst)
theorem yielded_of {ops : Array Oper} {a : Act} {fr : List (Nat × Value)} {j s : Nat} {b : Bool} (h : Holds N fr a) (hg : gslot ops j = some s) (hs : fget fr s = some (.bool b)) : yielded ops a.tmps j = some b := by
  unfold gslot at hg
  unfold yielded
  rw [hg]
  simp [h.slot s _ hs]
theorem yielded_undef {ops : Array Oper} {a : Act} {fr : List (Nat × Value)} {j s : Nat} (h : Holds N fr a) (hg : gslot ops j = some s) (hs : fget fr s = some undef) : yielded ops a.tmps j = none := by
  unfold gslot at hg
  unfold yielded
  rw [hg]
  simp [h.slot s _ hs, undef]
variable {ops : Array Oper} {rest : List Oper} {dst : Option Tmp} {op : Op} {ty : TypeId} {pos : String} {af : Array Edge}
theorem wo_nil (h : Kn ⟨fr, hp, ro⟩) : WO P N E ops [] ⟨fr, hp, ro⟩ Kn := fun _ hQ a w ok => hQ ⟨fr, hp, ro⟩ a w h ok
theorem wo_run {j s : Nat} {b : Bool} (hg : gslot ops j = some s) (hs : fget fr s = some (.bool b)) (h : WO P N E ops (⟨dst, op, ty, pos, af, none⟩ :: rest) ⟨fr, hp, ro⟩ Kn) :
    WO P N E ops (⟨dst, op, ty, pos, af, some (j, b)⟩ :: rest) ⟨fr, hp, ro⟩ Kn := by
  intro Q hQ a w ok
  have h1 := h Q hQ a w ok
  unfold wpList at h1 ⊢
  rw [if_pos (by simp [Region.wanted])] at h1
  rw [if_pos (by simp [Region.wanted, yielded_of ok.h hg hs])]
  exact h1
theorem wo_skip {j s d : Nat} {b c : Bool} (hg : gslot ops j = some s) (hs : fget fr s = some (.bool b)) (hb : (b == c) = false) (hd : Nat.ble (d + 1) N = true) (h : WO P N E ops rest ⟨(d, undef) :: fr, hp, ro⟩ Kn) :
    WO P N E ops (⟨some d, op, ty, pos, af, some (j, c)⟩ :: rest) ⟨fr, hp, ro⟩ Kn := by
  intro Q hQ a w ok
  unfold wpList
  rw [if_neg (by simp [Region.wanted, yielded_of ok.h hg hs]; simpa using hb)]
  exact h Q hQ _ w ⟨ok.h.put (Nat.le_of_ble_eq_true hd) _, ok.s⟩
theorem wo_skip_u {j s d : Nat} {c : Bool} (hg : gslot ops j = some s) (hs : fget fr s = some undef) (hd : Nat.ble (d + 1) N = true) (h : WO P N E ops rest ⟨(d, undef) :: fr, hp, ro⟩ Kn) :
    WO P N E ops (⟨some d, op, ty, pos, af, some (j, c)⟩ :: rest) ⟨fr, hp, ro⟩ Kn := by
  intro Q hQ a w ok
  unfold wpList
  rw [if_neg (by simp [Region.wanted, yielded_undef ok.h hg hs])]
  exact h Q hQ _ w ⟨ok.h.put (Nat.le_of_ble_eq_true hd) _, ok.s⟩
theorem wo_dec {s : Nat} {p : Prop} [Decidable p] (hs : fget fr s = some (.bool (decide p))) (ht : p → WO P N E ops rest ⟨(s, .bool true) :: fr, hp, ro⟩ Kn) (hf : ¬p → WO P N E ops rest ⟨(s, .bool false) :: fr, hp, ro⟩ Kn) :
    WO P N E ops rest ⟨fr, hp, ro⟩ Kn := by
  intro Q hQ a w ok
  by_cases hpp : p
  · exact ht hpp Q hQ a w ⟨ok.h.same hs (by simp [hpp]), ok.s⟩
  · exact hf hpp Q hQ a w ⟨ok.h.same hs (by simp [hpp]), ok.s⟩
theorem wo_gt {j s : Nat} {c : Bool} {p : Prop} [Decidable p] (hg : gslot ops j = some s) (hs : fget fr s = some (.bool (decide p))) (hpp : p) (h : WO P N E ops (⟨dst, op, ty, pos, af, some (j, c)⟩ :: rest) ⟨(s, .bool true) :: fr, hp, ro⟩ Kn) :
    WO P N E ops (⟨dst, op, ty, pos, af, some (j, c)⟩ :: rest) ⟨fr, hp, ro⟩ Kn := wo_dec hs (fun _ => h) (fun hn => absurd hpp hn)
theorem wo_gf {j s : Nat} {c : Bool} {p : Prop} [Decidable p] (hg : gslot ops j = some s) (hs : fget fr s = some (.bool (decide p))) (hpp : ¬p) (h : WO P N E ops (⟨dst, op, ty, pos, af, some (j, c)⟩ :: rest) ⟨(s, .bool false) :: fr, hp, ro⟩ Kn) :
    WO P N E ops (⟨dst, op, ty, pos, af, some (j, c)⟩ :: rest) ⟨fr, hp, ro⟩ Kn := wo_dec hs (fun h => absurd h hpp) (fun _ => h)
theorem wo_gs {j s : Nat} {c : Bool} {p : Prop} [Decidable p] (hg : gslot ops j = some s) (hs : fget fr s = some (.bool (decide p))) (ht : p → WO P N E ops (⟨dst, op, ty, pos, af, some (j, c)⟩ :: rest) ⟨(s, .bool true) :: fr, hp, ro⟩ Kn)
    (hf : ¬p → WO P N E ops (⟨dst, op, ty, pos, af, some (j, c)⟩ :: rest) ⟨(s, .bool false) :: fr, hp, ro⟩ Kn) : WO P N E ops (⟨dst, op, ty, pos, af, some (j, c)⟩ :: rest) ⟨fr, hp, ro⟩ Kn := wo_dec hs ht hf
theorem wo_gb {j s : Nat} {b c : Bool} (hg : gslot ops j = some s) (hs : fget fr s = some (.bool b)) (ht : b = true → WO P N E ops (⟨dst, op, ty, pos, af, some (j, c)⟩ :: rest) ⟨(s, .bool true) :: fr, hp, ro⟩ Kn)
    (hf : b = false → WO P N E ops (⟨dst, op, ty, pos, af, some (j, c)⟩ :: rest) ⟨(s, .bool false) :: fr, hp, ro⟩ Kn) : WO P N E ops (⟨dst, op, ty, pos, af, some (j, c)⟩ :: rest) ⟨fr, hp, ro⟩ Kn := by
  cases b
  · exact fun Q hQ a w ok => hf rfl Q hQ a w ⟨ok.h.same hs rfl, ok.s⟩
  · exact fun Q hQ a w ok => ht rfl Q hQ a w ⟨ok.h.same hs rfl, ok.s⟩
theorem wo_val {d : Nat} {v : Value} (hv : Pv P ⟨fr, hp, ro⟩ op v) (hd : Nat.ble (d + 1) N = true) (h : WO P N E ops rest ⟨(d, v) :: fr, hp, ro⟩ Kn) :
    WO P N E ops (⟨some d, op, ty, pos, af, none⟩ :: rest) ⟨fr, hp, ro⟩ Kn := by
  intro Q hQ a w ok
  unfold wpList
  rw [if_pos (by simp [Region.wanted])]
  refine .inl ?_
  unfold Oper.wp
  rw [hv N E a w (some d) ty pos af none ok]
  exact h Q hQ _ w ⟨ok.h.put (Nat.le_of_ble_eq_true hd) _, ok.s⟩
theorem wo_v {d : Nat} {v : Value} (hd : Nat.ble (d + 1) N = true) (hv : Pv P ⟨fr, hp, ro⟩ op v) (h : WO P N E ops rest ⟨(d, v) :: fr, hp, ro⟩ Kn) :
    WO P N E ops (⟨some d, op, ty, pos, af, none⟩ :: rest) ⟨fr, hp, ro⟩ Kn := wo_val hv hd h
def opdL (fr : List (Nat × Value)) : List Operand → Option (List Value)
  | [] => some []
  | x :: l => match opd fr x, opdL fr l with
    | some v, some vs => some (v :: vs)
    | _, _ => none
theorem Holds.evalL {fr : List (Nat × Value)} {a : Act} (h : Holds N fr a) : ∀ {l : List Operand} {vs : List Value}, opdL fr l = some vs → l.map a.eval = vs
  | [], vs, e => by simpa [opdL] using e
  | x :: l, vs, e => by
    unfold opdL at e
    split at e
    · rename_i v vs' h1 h2
      simp only [Option.some.injEq] at e
      subst e
      simp [h.eval h1, h.evalL h2]
    · cases e
def putF (dst : Option Nat) (v : Value) (fr : List (Nat × Value)) : List (Nat × Value) := match dst with | some d => (d, v) :: fr | none => fr
def dstOk (dst : Option Nat) (N : Nat) : Bool := match dst with | some d => Nat.ble (d + 1) N | none => true
theorem Holds.putF {fr : List (Nat × Value)} {a : Act} (h : Holds N fr a) (hd : dstOk dst N = true) (v : Value) : Holds N (putF dst v fr) (a.put dst v) := by
  cases dst with
  | none => exact h
  | some d => exact h.put (Nat.le_of_ble_eq_true hd) v
theorem blks_mem {ro : List Ro} : ∀ b ∈ ([] : List Nat), b ∈ blks ro := by intro b hb; cases hb
/-- an operation that turns the items L into others, and yields a value -/
theorem wo_eff {L F : List It} (hs : hp.Perm (L ++ F)) (hd : dstOk dst N = true)
    (h : ∀ (a : Act) (w : World), Ok N E ⟨fr, hp, ro⟩ a w → ∃ v L' w', (execOp a.eval ⟨dst, op, ty, pos, af, none⟩).run P w = .ok (.value v) w' ∧ Sat w (feet L) [] L' [] w' ∧
      WO P N E ops rest ⟨putF dst v fr, L' ++ F, ro⟩ Kn) : WO P N E ops (⟨dst, op, ty, pos, af, none⟩ :: rest) ⟨fr, hp, ro⟩ Kn := by
  intro Q hQ a w ok
  unfold wpList
  rw [if_pos (by simp [Region.wanted])]
  refine .inl ?_
  obtain ⟨v, L', w', hr, hS, hK⟩ := h a w ok
  unfold Oper.wp
  rw [hr]
  exact hK Q hQ _ w' ⟨ok.h.putF hd v, ok.s.step hs blks_mem hS⟩
theorem wo_eff_skip {L F : List It} (hs : hp.Perm (L ++ F)) (hd : dstOk dst N = true)
    (h : ∀ (a : Act) (w : World), Ok N E ⟨fr, hp, ro⟩ a w → ∃ L' w', (execOp a.eval ⟨dst, op, ty, pos, af, none⟩).run P w = .ok .skip w' ∧ Sat w (feet L) [] L' [] w' ∧
      WO P N E ops rest ⟨putF dst undef fr, L' ++ F, ro⟩ Kn) : WO P N E ops (⟨dst, op, ty, pos, af, none⟩ :: rest) ⟨fr, hp, ro⟩ Kn := by
  intro Q hQ a w ok
  unfold wpList
  rw [if_pos (by simp [Region.wanted])]
  refine .inl ?_
  obtain ⟨L', w', hr, hS, hK⟩ := h a w ok
  unfold Oper.wp
  rw [hr]
  exact hK Q hQ _ w' ⟨ok.h.putF hd _, ok.s.step hs blks_mem hS⟩

theorem enter_of {f : FuncId} {fn : Func} (hf : P.funcs[f]? = some fn) (hb : fn.body.isSome = true) (hn : fn.name ≠ "runtime.NumGoroutine") {a : Act} {l : List Operand} {ats : Array TypeId} {g : Option (Nat × Bool)} (w : World) :
    (execOp a.eval ⟨dst, .call ⟨.value (.func f), l.toArray, ats⟩, ty, pos, af, g⟩).run P w = .ok (.enter f (l.map a.eval).toArray) w := by
  have hb' : fn.body.isNone = false := by cases h : fn.body <;> simp_all
  simp [execOp, resolve, Deferred.ofValue, Act.eval, invoke, callFunc, hf, hn, hb', go_sem]
  intro h0; rw [h0] at hb; cases hb
/-- a function that has a body: what a call of it needs to know -/
class HasBody (P : Program) (f : FuncId) : Prop where
  h : (match P.funcs[f]? with | some fn => fn.body.isSome && !(fn.name == "runtime.NumGoroutine") | none => false) = true
theorem HasBody.enter {f : FuncId} [hf : HasBody P f] {a : Act} {l : List Operand} {ats : Array TypeId} {g : Option (Nat × Bool)} (w : World) :
    (execOp a.eval ⟨dst, .call ⟨.value (.func f), l.toArray, ats⟩, ty, pos, af, g⟩).run P w = .ok (.enter f (l.map a.eval).toArray) w := by
  have h := hf.h
  split at h
  · rename_i fn hfn
    simp only [Bool.and_eq_true, Bool.not_eq_true', beq_eq_false_iff_ne] at h
    exact enter_of hfn h.1 h.2 w
  · cases h
theorem wo_call {f : FuncId} [HasBody P f] {vs : List Value} {L F : List It} {R : List Ro} {Post : Value → List It → List Ro → Prop} {l : List Operand} {ats : Array TypeId}
    (hF : Fn P f vs.toArray L R Post) (ha : opdL fr l = some vs) (hs : hp.Perm (L ++ F)) (hr : ∀ r ∈ R, r ∈ ro) (hd : dstOk dst N = true)
    (h : ∀ v L' R', Post v L' R' → ∀ H, H = L' ++ F → ∀ RR, RR = R' ++ ro → WO P N E ops rest ⟨putF dst v fr, H, RR⟩ Kn) :
    WO P N E ops (⟨dst, .call ⟨.value (.func f), l.toArray, ats⟩, ty, pos, af, none⟩ :: rest) ⟨fr, hp, ro⟩ Kn := by
  intro Q hQ a w ok
  unfold wpList
  rw [if_pos (by simp [Region.wanted])]
  refine .inl ?_
  unfold Oper.wp
  rw [HasBody.enter w, ok.h.evalL ha]
  refine (hF w (ok.s.start hs hr)).mono fun e w' ⟨v, L', R', he, hP, hS⟩ => ?_
  subst he
  exact h v L' R' hP _ rfl _ rfl Q hQ _ w' ⟨ok.h.putF hd v, ok.s.step hs (fun b hb => by
    obtain ⟨r, h1, h2⟩ := mem_blks.1 hb; exact mem_blks.2 ⟨r, hr r h1, h2⟩) hS⟩

/-! ### regions that draw their order -/
end
inductive Hd (P : Program) (N : Nat) (calls : Bool) (ops : Array Oper) (hp : List It) (ro : List Ro) (K : List (Nat × Value) → Prop) : List Oper → List (Nat × Value) → Prop
  | nil {fr : List (Nat × Value)} (h : K fr) : Hd P N calls ops hp ro K [] fr
  | val {fr : List (Nat × Value)} {op ty pos af rest d v} (hv : Pv P ⟨fr, hp, ro⟩ op v) (hd : Nat.ble (d + 1) N = true) (h : Hd P N calls ops hp ro K rest ((d, v) :: fr)) : Hd P N calls ops hp ro K (⟨some d, op, ty, pos, af, none⟩ :: rest) fr
  | call {fr : List (Nat × Value)} {f ty pos af rest d v vs L F R l ats} (hc : calls = true) (hb : HasBody P f) (hF : Fn P f (List.toArray vs) L R (fun v' L' _ => v' = v ∧ L' = L)) (ha : opdL fr l = some vs) (hs : hp.Perm (L ++ F))
      (hr : ∀ r ∈ R, r ∈ ro) (hd : Nat.ble (d + 1) N = true) (h : Hd P N calls ops hp ro K rest ((d, v) :: fr)) : Hd P N calls ops hp ro K (⟨some d, .call ⟨.value (.func f), l.toArray, ats⟩, ty, pos, af, none⟩ :: rest) fr
  | run {fr : List (Nat × Value)} {dst op ty pos af rest j s b} (hg : gslot ops j = some s) (hs : fget fr s = some (.bool b)) (h : Hd P N calls ops hp ro K (⟨dst, op, ty, pos, af, none⟩ :: rest) fr) :
      Hd P N calls ops hp ro K (⟨dst, op, ty, pos, af, some (j, b)⟩ :: rest) fr
  | skip {fr : List (Nat × Value)} {d op ty pos af rest j s b c} (hg : gslot ops j = some s) (hs : fget fr s = some (.bool b)) (hb : (b == c) = false) (hd : Nat.ble (d + 1) N = true) (h : Hd P N calls ops hp ro K rest ((d, undef) :: fr)) :
      Hd P N calls ops hp ro K (⟨some d, op, ty, pos, af, some (j, c)⟩ :: rest) fr
  | skipu {fr : List (Nat × Value)} {d op ty pos af rest j s c} (hg : gslot ops j = some s) (hs : fget fr s = some undef) (hd : Nat.ble (d + 1) N = true) (h : Hd P N calls ops hp ro K rest ((d, undef) :: fr)) :
      Hd P N calls ops hp ro K (⟨some d, op, ty, pos, af, some (j, c)⟩ :: rest) fr
  | dec {fr : List (Nat × Value)} {rest s} {p : Prop} [Decidable p] (hs : fget fr s = some (.bool (decide p))) (ht : p → Hd P N calls ops hp ro K rest ((s, .bool true) :: fr)) (hf : ¬p → Hd P N calls ops hp ro K rest ((s, .bool false) :: fr)) :
      Hd P N calls ops hp ro K rest fr

section
variable {P : Program} {N : Nat} {E : Env} {fr : List (Nat × Value)} {hp : List It} {ro : List Ro} {Kn Kr : St → Prop} {Kx : List (Nat × (St → Prop))} {ops : Array Oper} {rest : List Oper} {dst : Option Tmp} {op : Op} {ty : TypeId} {pos : String} {af : Array Edge}
section
variable {calls : Bool} {hp : List It} {ro : List Ro} {K : List (Nat × Value) → Prop} {fr : List (Nat × Value)} {j s : Nat} {c : Bool} {p : Prop} [Decidable p]
theorem hd_v {d : Nat} {v : Value} (hd : Nat.ble (d + 1) N = true) (hv : Pv P ⟨fr, hp, ro⟩ op v) (h : Hd P N calls ops hp ro K rest ((d, v) :: fr)) : Hd P N calls ops hp ro K (⟨some d, op, ty, pos, af, none⟩ :: rest) fr := .val hv hd h
theorem hd_gt (hg : gslot ops j = some s) (hs : fget fr s = some (.bool (decide p))) (hp' : p) (h : Hd P N calls ops hp ro K (⟨dst, op, ty, pos, af, some (j, c)⟩ :: rest) ((s, .bool true) :: fr)) : Hd P N calls ops hp ro K (⟨dst, op, ty, pos, af, some (j, c)⟩ :: rest) fr :=
  .dec hs (fun _ => h) (fun hn => absurd hp' hn)
theorem hd_gf (hg : gslot ops j = some s) (hs : fget fr s = some (.bool (decide p))) (hp' : ¬p) (h : Hd P N calls ops hp ro K (⟨dst, op, ty, pos, af, some (j, c)⟩ :: rest) ((s, .bool false) :: fr)) : Hd P N calls ops hp ro K (⟨dst, op, ty, pos, af, some (j, c)⟩ :: rest) fr :=
  .dec hs (fun h => absurd h hp') (fun _ => h)
theorem hd_gs (hg : gslot ops j = some s) (hs : fget fr s = some (.bool (decide p))) (ht : p → Hd P N calls ops hp ro K (⟨dst, op, ty, pos, af, some (j, c)⟩ :: rest) ((s, .bool true) :: fr))
    (hf : ¬p → Hd P N calls ops hp ro K (⟨dst, op, ty, pos, af, some (j, c)⟩ :: rest) ((s, .bool false) :: fr)) : Hd P N calls ops hp ro K (⟨dst, op, ty, pos, af, some (j, c)⟩ :: rest) fr := .dec hs ht hf
theorem hd_gb {b : Bool} (hg : gslot ops j = some s) (hs : fget fr s = some (.bool b)) (ht : b = true → Hd P N calls ops hp ro K (⟨dst, op, ty, pos, af, some (j, c)⟩ :: rest) ((s, .bool true) :: fr))
    (hf : b = false → Hd P N calls ops hp ro K (⟨dst, op, ty, pos, af, some (j, c)⟩ :: rest) ((s, .bool false) :: fr)) : Hd P N calls ops hp ro K (⟨dst, op, ty, pos, af, some (j, c)⟩ :: rest) fr :=
  .dec (p := b = true) (by rw [hs]; cases b <;> rfl) ht (fun h => hf (by simpa using h))
end
theorem Sat.same {B : World} {S T : List Nat} {hp L F : List It} {ro R : List Ro} {w w' : World} {R' : List Ro} (h : Sat B S T hp ro w) (hs : hp.Perm (L ++ F)) (hr : ∀ r ∈ R, r ∈ ro) (h' : Sat w (feet L) (blks R) L R' w') : Sat B S T hp ro w' :=
  ((h.step hs (fun b hb => by obtain ⟨r, h1, h2⟩ := mem_blks.1 hb; exact mem_blks.2 ⟨r, hr r h1, h2⟩) h').some_ro (fun r hr => List.mem_append_right _ hr)).perm hs.symm
theorem Hd.quiet {calls : Bool} {hp : List It} {ro : List Ro} {K : List (Nat × Value) → Prop} {l : List Oper} {fr : List (Nat × Value)} (h : Hd P N calls ops hp ro K l fr) (E : Env) {D : Act → Prop}
    (hD : ∀ fr a, K fr → Holds N fr a → D a) : ∀ a, Holds N fr a → wpQuiet P ops (Sat E.B E.S E.T hp ro) D l a := by
  induction h with
  | nil h => exact fun a ha => hD _ a h ha
  | val hv hd _ ih =>
    intro a ha
    unfold wpQuiet
    rw [if_pos (by simp [Region.wanted])]
    refine ⟨_, fun w hw => ?_, ih _ (ha.put (Nat.le_of_ble_eq_true hd) _)⟩
    unfold Oper.quietAt
    rw [hv N E a w _ _ _ _ _ ⟨ha, hw⟩]
    exact ⟨rfl, rfl⟩
  | call hc hb hF ha' hs hr hd _ ih =>
    intro a ha
    unfold wpQuiet
    rw [if_pos (by simp [Region.wanted])]
    refine ⟨_, fun w hw => ?_, ih _ (ha.put (Nat.le_of_ble_eq_true hd) _)⟩
    unfold Oper.quietAt
    rw [hb.enter w, ha.evalL ha']
    refine ⟨rfl, (hF w (hw.start hs hr)).mono fun e w' ⟨v, L', R', he, hP, hS⟩ => ?_⟩
    obtain ⟨rfl, rfl⟩ := hP
    exact ⟨he, hw.same hs hr hS⟩
  | run hg hs _ ih =>
    intro a ha
    have h1 := ih a ha
    unfold wpQuiet at h1 ⊢
    rw [if_pos (by simp [Region.wanted])] at h1
    rw [if_pos (by simp [Region.wanted, yielded_of ha hg hs])]
    exact h1
  | skip hg hs hb hd _ ih =>
    intro a ha
    unfold wpQuiet
    rw [if_neg (by simp [Region.wanted, yielded_of ha hg hs]; simpa using hb)]
    exact ih _ (ha.put (Nat.le_of_ble_eq_true hd) _)
  | skipu hg hs hd _ ih =>
    intro a ha
    unfold wpQuiet
    rw [if_neg (by simp [Region.wanted, yielded_undef ha hg hs])]
    exact ih _ (ha.put (Nat.le_of_ble_eq_true hd) _)
  | @dec fr rest s p _ hs _ _ iht ihf =>
    intro a ha
    by_cases hp : p
    · exact iht hp a (ha.same hs (by simp [hp]))
    · exact ihf hp a (ha.same hs (by simp [hp]))
theorem Hd.still {hp : List It} {ro : List Ro} {K : List (Nat × Value) → Prop} {l : List Oper} {fr : List (Nat × Value)} (h : Hd P N false ops hp ro K l fr) (E : Env) {D : Act → Prop}
    (hD : ∀ fr a, K fr → Holds N fr a → D a) (w : World) (hw : Sat E.B E.S E.T hp ro w) : ∀ a, Holds N fr a → wpStill P ops w D l a := by
  induction h with
  | nil h => exact fun a ha => hD _ a h ha
  | val hv hd _ ih =>
    intro a ha
    unfold wpStill
    rw [if_pos (by simp [Region.wanted])]
    unfold Oper.still
    rw [hv N E a w _ _ _ _ _ ⟨ha, hw⟩]
    exact ⟨rfl, ih _ (ha.put (Nat.le_of_ble_eq_true hd) _)⟩
  | call hc => cases hc
  | run hg hs _ ih =>
    intro a ha
    have h1 := ih a ha
    unfold wpStill at h1 ⊢
    rw [if_pos (by simp [Region.wanted])] at h1
    rw [if_pos (by simp [Region.wanted, yielded_of ha hg hs])]
    exact h1
  | skip hg hs hb hd _ ih =>
    intro a ha
    unfold wpStill
    rw [if_neg (by simp [Region.wanted, yielded_of ha hg hs]; simpa using hb)]
    exact ih _ (ha.put (Nat.le_of_ble_eq_true hd) _)
  | skipu hg hs hd _ ih =>
    intro a ha
    unfold wpStill
    rw [if_neg (by simp [Region.wanted, yielded_undef ha hg hs])]
    exact ih _ (ha.put (Nat.le_of_ble_eq_true hd) _)
  | @dec fr rest s p _ hs _ _ iht ihf =>
    intro a ha
    by_cases hp : p
    · exact iht hp a (ha.same hs (by simp [hp]))
    · exact ihf hp a (ha.same hs (by simp [hp]))
theorem wc_quiet {id : Nat} {l : List Oper} (hm : P.follows .mixedOrders = true) (hB : Region.lexB .any l.toArray = true) (h : Hd P N true l.toArray hp ro (fun fr => Kn ⟨fr, hp, ro⟩) l fr) :
    WC P N E (.region id l.toArray true) ⟨fr, hp, ro⟩ Kn Kx Kr := fun a w ok =>
  wp_region_quiet (C := Sat E.B E.S E.T hp ro) hm hB (ok.s.drawn _) (by
    simpa using h.quiet E (D := fun a' => ∀ w', Sat E.B E.S E.T hp ro w' → post N E Kn Kx Kr .normal a' w') (fun fr a hk ha w' hw' => ⟨_, hk, ha, hw'⟩) a ok.h)
theorem wc_tail {id : Nat} {l : List Oper} (n : Nat) (hm : P.follows .mixedOrders = true) (hB : Region.lexTailB .any l.toArray n = true)
    (h : Hd P N false l.toArray hp ro (fun fr => WO P N E l.toArray (l.drop n) ⟨fr, hp, ro⟩ Kn) (l.take n) fr) :
    WC P N E (.region id l.toArray true) ⟨fr, hp, ro⟩ Kn Kx Kr := fun a w ok =>
  wp_region_still_tail n hm hB (h.still E (fun fr a hk ha => hk _ (fun st' _ _ hk ok' => ⟨st', hk, ok'⟩) a _ ⟨ha, ok.s.drawn _⟩) _ (ok.s.drawn _) a ok.h)

/-! ### functions -/
def argf : Nat → List Value → List (Nat × Value)
  | _, [] => []
  | k, v :: l => (k, v) :: argf (k + 1) l
theorem fget_argf : ∀ (l : List Value) (k t : Nat) (v : Value), fget (argf k l) t = some v → k ≤ t ∧ l[t - k]? = some v
  | [], _, _, _, h => by cases h
  | u :: l, k, t, v, h => by
    unfold argf fget at h
    cases hb : Nat.beq k t with
    | true =>
      have he : k = t := Nat.eq_of_beq_eq_true hb
      rw [hb] at h
      simp only [cond_true, Option.some.injEq] at h
      subst he; subst h
      simp
    | false =>
      rw [hb] at h
      obtain ⟨h1, h2⟩ := fget_argf l (k + 1) t v h
      refine ⟨by omega, ?_⟩
      rw [show t - k = (t - (k + 1)) + 1 by omega]
      simpa using h2
def Res (P : Program) (fn : Func) (st : St) (v : Value) : Prop := ∀ (N : Nat) (E : Env) (a : Act) (w : World), Ok N E st a w → (results fn a.tmps).run P w = .ok v w
def Ret (P : Program) (fn : Func) (Post : Value → List It → List Ro → Prop) (st : St) : Prop :=
  ∃ v hp' ro', Res P fn st v ∧ (∃ F, st.hp.Perm (hp' ++ F)) ∧ (∀ r ∈ ro', r ∈ st.ro) ∧ Post v hp' ro'
theorem fn_intro {f : FuncId} {fn : Func} {c : Code} {vs : List Value} {L : List It} {R : List Ro} {Post : Value → List It → List Ro → Prop} (hf : P.funcs[f]? = some fn) (hb : fn.body = some c) (hN : fn.ntmps = N)
    (ha : Nat.ble vs.length N = true) (h : ∀ E : Env, WC P N E c ⟨argf 0 vs, L, R⟩ (Ret P fn Post) [] (Ret P fn Post)) : Fn P f vs.toArray L R Post := by
  intro w hw
  have hle := Nat.le_of_ble_eq_true ha
  refine calls_of_wp hf hb (Code.wp_mono (fun e a w' q => ?_) (h ⟨w, feet L, blks R⟩ _ w ⟨⟨rfl, ?_, ?_⟩, hw⟩))
  · have key : ∀ st, Ret P fn Post st → Ok N ⟨w, feet L, blks R⟩ st a w' → a.defers = [] ∧ ∃ v, (results fn a.tmps).run P w' = .ok v w' ∧ ∃ v' L' R', Ending.returned v = .returned v' ∧ Post v' L' R' ∧ Sat w (feet L) (blks R) L' R' w' := by
      rintro st ⟨v, hp', ro', h1, ⟨F, h2⟩, h3, h4⟩ ok
      exact ⟨ok.h.defers, v, h1 N _ a w' ok, v, hp', ro', rfl, h4, ((ok.s.perm h2).left).some_ro h3⟩
    cases e with
    | normal => obtain ⟨st, h1, ok⟩ := q; exact key st h1 ok
    | ret => obtain ⟨st, h1, ok⟩ := q; exact key st h1 ok
    | exit id => obtain ⟨st, K, hl, _⟩ := q; cases hl
    | _ => exact False.elim q
  · simp [hN]; omega
  · intro t v ht
    obtain ⟨_, h2⟩ := fget_argf vs 0 t v ht
    have hlt : t < vs.length := (List.getElem?_eq_some_iff.1 h2).1
    rw [Array.getElem?_append_left (by simpa using hlt)]
    simpa using h2
theorem Fn.mono {f : FuncId} {args : Array Value} {L : List It} {R : List Ro} {Post Post' : Value → List It → List Ro → Prop} (h : Fn P f args L R Post) (hp : ∀ v L' R', Post v L' R' → Post' v L' R') : Fn P f args L R Post' :=
  fun w hw => (h w hw).mono fun _ _ ⟨v, L', R', h1, h2, h3⟩ => ⟨v, L', R', h1, hp _ _ _ h2, h3⟩

theorem sub_nil {hp : List It} : hp.Perm ([] ++ hp) := .refl _
theorem sub_cons {hp hp1 L F : List It} {x : It} (hs : hp.Perm (x :: hp1)) (h : hp1.Perm (L ++ F)) : hp.Perm ((x :: L) ++ F) := hs.trans (h.cons x)
theorem sel_here {x : It} {l : List It} : (x :: l).Perm (x :: l) := .refl _
theorem sel_there {x y : It} {l l' : List It} (h : l.Perm (x :: l')) : (y :: l).Perm (x :: y :: l') := (h.cons y).trans (.swap x y l')

section
variable {fn : Func} {Post : Value → List It → List Ro → Prop} {hp' F : List It} {ro' : List Ro}
theorem ret0 (hr : fn.results = #[]) (hP : Post (.tuple #[]) hp' ro') (hpm : hp.Perm (hp' ++ F)) (ho : ∀ r ∈ ro', r ∈ ro) : Ret P fn Post ⟨fr, hp, ro⟩ :=
  ⟨_, hp', ro', fun _ _ _ w _ => results_none hr _ _ w, ⟨F, hpm⟩, ho, hP⟩
theorem ret1 {r : Nat} {v : Value} (hr : fn.results = #[.tmp r]) (hv : fget fr r = some v) (hP : Post v hp' ro') (hpm : hp.Perm (hp' ++ F)) (ho : ∀ r ∈ ro', r ∈ ro) : Ret P fn Post ⟨fr, hp, ro⟩ :=
  ⟨_, hp', ro', fun _ _ _ w ok => by rw [results_tmp hr, ok.h.tmp hv], ⟨F, hpm⟩, ho, hP⟩
theorem ret2 {r s : Nat} {v u : Value} (hr : fn.results = #[.tmp r, .tmp s]) (hv : fget fr r = some v) (hu : fget fr s = some u) (hP : Post (.tuple #[v, u]) hp' ro') (hpm : hp.Perm (hp' ++ F)) (ho : ∀ r ∈ ro', r ∈ ro) : Ret P fn Post ⟨fr, hp, ro⟩ :=
  ⟨_, hp', ro', fun _ _ _ w ok => by rw [results_tmp2 hr, ok.h.tmp hv, ok.h.tmp hu], ⟨F, hpm⟩, ho, hP⟩
theorem ret3 {r s t : Nat} {v u x : Value} (hr : fn.results = #[.tmp r, .tmp s, .tmp t]) (hv : fget fr r = some v) (hu : fget fr s = some u) (hx : fget fr t = some x) (hP : Post (.tuple #[v, u, x]) hp' ro') (hpm : hp.Perm (hp' ++ F)) (ho : ∀ r ∈ ro', r ∈ ro) : Ret P fn Post ⟨fr, hp, ro⟩ :=
  ⟨_, hp', ro', fun _ _ _ w ok => by simp [results, hr, -Array.getD_eq_getD_getElem?, ok.h.tmp hv, ok.h.tmp hu, ok.h.tmp hx], ⟨F, hpm⟩, ho, hP⟩
end
end
end Go.Proofs.Ytlhlidmhlhodiaa
