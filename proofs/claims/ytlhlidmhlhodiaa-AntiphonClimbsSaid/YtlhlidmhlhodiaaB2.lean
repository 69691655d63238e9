/-
  Texts of this proof, laid together (part 2 of 5).
-/
import Derived.Test.YtlhlidmhlhodiaaB1
import Derived.ProofKit
import Derived.OpenShut
import Derived.Deep.Slices
import Derived.Deep.Fields
import Derived.ChangeSame
import Derived.Lib.ConvBytes
import Derived.Lib.AppendStr
import Derived.Lib.UnsafeStr
import Derived.Lib.Builder
import Derived.Laws.BytesString
import Derived.Laws.Externs
import Derived.Test.YtlhlidmhlhodiaaProg
import Derived.KernelRfl
/-
  What the arguments of a law read as: integers with their bounds; slices as rows of cells. No program in sight.
-/
namespace Go.Proofs.Ytlhlidmhlhodiaa
set_option linter.unusedSimpArgs false
set_option linter.unusedVariables false
open Go.ChangeShapes Go.WideShapes Go.ChangeAt Go.RowKit Go.Deep

theorem bd_u8 {a : Int} (h : (Lit.int .u8 a).wf = true) : 0 ≤ a ∧ a ≤ 255 := by simpa [Lit.wf, IntKind.min, IntKind.max, IntKind.signed, IntKind.bits] using h
theorem bd_u16 {a : Int} (h : (Lit.int .u16 a).wf = true) : 0 ≤ a ∧ a ≤ 65535 := by simpa [Lit.wf, IntKind.min, IntKind.max, IntKind.signed, IntKind.bits] using h
theorem bd_u32 {a : Int} (h : (Lit.int .u32 a).wf = true) : 0 ≤ a ∧ a ≤ 4294967295 := by simpa [Lit.wf, IntKind.min, IntKind.max, IntKind.signed, IntKind.bits] using h
theorem bd_u64 {a : Int} (h : (Lit.int .u64 a).wf = true) : 0 ≤ a ∧ a ≤ 18446744073709551615 := by simpa [Lit.wf, IntKind.min, IntKind.max, IntKind.signed, IntKind.bits] using h
theorem bd_i16 {a : Int} (h : (Lit.int .i16 a).wf = true) : -32768 ≤ a ∧ a ≤ 32767 := by simpa [Lit.wf, IntKind.min, IntKind.max, IntKind.signed, IntKind.bits] using h
theorem bd_i32 {a : Int} (h : (Lit.int .i32 a).wf = true) : -2147483648 ≤ a ∧ a ≤ 2147483647 := by simpa [Lit.wf, IntKind.min, IntKind.max, IntKind.signed, IntKind.bits] using h
theorem bd_i64 {a : Int} (h : (Lit.int .i64 a).wf = true) : -9223372036854775808 ≤ a ∧ a ≤ 9223372036854775807 := by simpa [Lit.wf, IntKind.min, IntKind.max, IntKind.signed, IntKind.bits] using h

/-- a value of a kind with one cell -/
def FKok : TypeDesc → Value → Prop
  | .int k, v => ∃ n, v = .int k n ∧ (Lit.int k n).wf = true
  | .bool, v => ∃ b, v = .bool b
  | .string, v => ∃ s : ByteArray, v = .string s ∧ s.size ≤ maxLen
  | _, _ => False

/-- a slice that came in: n elements, each as many cells as 'ks' has kinds; cell j of element i holds 'V i j' -/
def Rws (ks : List TypeDesc) (w : World) (A : Option Addr) (n c : Nat) (V : Nat → Nat → Value) : Prop :=
  n ≤ c ∧ c ≤ maxLen ∧ (0 < n → ∃ b o, A = some ⟨b, o, none⟩ ∧ b < w.heap.size ∧ ∀ i j, i < n → j < ks.length → w.cell? ⟨b, o + (i * ks.length + j), none⟩ = some (V i j)) ∧
    ∀ i j k, i < n → ks[j]? = some k → FKok k (V i j)

theorem Rws.below {ks : List TypeDesc} {w w' : World} {A : Option Addr} {n c : Nat} {V : Nat → Nat → Value} (h : Rws ks w A n c V) (hb : Below w.heap.size w w') : Rws ks w' A n c V := by
  obtain ⟨h1, h2, h3, h4⟩ := h
  refine ⟨h1, h2, fun hn => ?_, h4⟩
  obtain ⟨b, o, rfl, hlt, hc⟩ := h3 hn
  exact ⟨b, o, rfl, Nat.lt_of_lt_of_le hlt hb.size, fun i j hi hj => (World.cell?_of_block (hb.block b hlt)).trans (hc i j hi hj)⟩

section
variable {H : Type} {enc : TypeId × Value → H} {P : Program} {W : World} {t e : TypeId} {a : Option Addr} {len cap : Nat} {d : DataW H} {p : List MemPlace}

theorem fk_of {k : TypeDesc} {f : TypeId} {n : Nat} {v : Value} {y : DataW H × List MemPlace} {base : Nat} {spare : Nat → Bool} {held : Bool} (hk : P.underlying f = some k) (hks : k = .bool ∨ k = .string ∨ ∃ q, k = .int q)
    (h : DataW.trod enc P W base spare held n f [v] = some y) : FKok k v := by
  rcases hks with rfl | rfl | ⟨q, rfl⟩
  · obtain ⟨b, hb, _⟩ := DataW.trod_bool hk h
    exact ⟨b, by simpa using hb⟩
  · obtain ⟨s, hs, _, hl⟩ := DataW.trod_string hk h
    exact ⟨s, by simpa using hs, hl⟩
  · obtain ⟨z, hz, _, hl⟩ := DataW.trod_int hk h
    exact ⟨z, by simpa using hz, hl⟩

def plainKinds (ks : List TypeDesc) : Bool := ks.all fun | .bool => true | .string => true | .int _ => true | _ => false
theorem plain_of {ks : List TypeDesc} (h : plainKinds ks = true) {j : Nat} {k : TypeDesc} (hj : ks[j]? = some k) : k = .bool ∨ k = .string ∨ ∃ q, k = .int q := by
  have := List.all_eq_true.1 h k (List.mem_of_getElem? hj)
  cases k <;> simp_all

theorem rws_of {ks : List TypeDesc} {x : Addr} (h0 : 0 < ks.length) (hl : len ≤ cap) (hc : cap ≤ maxLen)
    (h : ∀ i j k, i < len → ks[j]? = some k → ∃ v, W.cell? (x.add (i * ks.length + j)) = some v ∧ FKok k v) : ∃ V, Rws ks W (some x) len cap V := by
  have hat : ∀ i j, i < len → j < ks.length → W.cell? (x.add (i * ks.length + j)) = some ((W.cell? (x.add (i * ks.length + j))).getD .nilFunc) := by
    intro i j hi hj
    obtain ⟨v, hv, _⟩ := h i j ks[j] hi (List.getElem?_eq_getElem hj)
    rw [hv]; rfl
  refine ⟨fun i j => (W.cell? (x.add (i * ks.length + j))).getD .nilFunc, hl, hc, fun hn => ?_, fun i j k hi hj => ?_⟩
  · have h00 := hat 0 0 hn h0
    have hs : x.spot = none := World.cell?_spot (by simpa [Addr.add] using h00)
    obtain ⟨b, o, s⟩ := x
    simp only at hs
    subst hs
    have hblk : b < W.heap.size := by
      rcases Nat.lt_or_ge b W.heap.size with hb | hb
      · exact hb
      · have : W.cell? ((⟨b, o, none⟩ : Addr).add (0 * ks.length + 0)) = none := by
          simp [Addr.add, World.cell?, Array.getElem?_eq_none hb]
        rw [this] at h00; simp at h00
    refine ⟨b, o, rfl, hblk, fun i j hi hj => ?_⟩
    have := hat i j hi hj
    have e : (⟨b, o, none⟩ : Addr).add (i * ks.length + j) = ⟨b, o + (i * ks.length + j), none⟩ := by
      unfold Addr.add; split
      · rename_i h; simp [h]
      · rfl
    show _ = some ((W.cell? ((⟨b, o, none⟩ : Addr).add (i * ks.length + j))).getD .nilFunc)
    rw [← e]; exact this
  · obtain ⟨v, hv, hf⟩ := h i j k hi hj
    simp only [hv, Option.getD_some]
    exact hf

theorem open_rws_struct {fs : Array Field} {ks : List TypeDesc} (ht : P.underlying t = some (.slice e)) (he : P.underlying e = some (.struct fs)) (hone : oneCellFields P fs = true) (hC : P.cellsOf e = fs.size)
    (hk : (fs.toList.map fun f => P.underlying f.type) = ks.map some ∧ plainKinds ks = true ∧ 0 < ks.length)
    (h : DataW.Trod enc P W 0 (fun _ => true) true t (.slice a len cap) d p) : ∃ V, Rws ks W a len cap V := by
  obtain ⟨hks, hpl, h0⟩ := hk
  have hsz : fs.size = ks.length := by simpa using congrArg List.length hks
  obtain ⟨fuel, hf⟩ := h
  rcases open_slice ht hf with ⟨hcs, _⟩ | ⟨x, l, c, m, n, D, Pl, hcs, _, hl, hm, hmm, _, hi⟩
  · simp [Value.cells] at hcs
    obtain ⟨rfl, rfl, rfl⟩ := hcs
    exact ⟨fun _ _ => .nilFunc, Nat.le_refl _, by simp [maxLen], fun h => absurd h (by omega), fun i _ _ h => absurd h (by omega)⟩
  · simp [Value.cells] at hcs
    obtain ⟨rfl, rfl, rfl⟩ := hcs
    refine rws_of h0 hl hm fun i j k hil hj => ?_
    obtain ⟨cs', hc, ht'⟩ := hi i (by simp at hmm; omega)
    obtain ⟨ys, n', _, _, hlen, hyl, hff⟩ := DataW.trod_struct he ht'
    obtain ⟨_, hcl, hat⟩ := World.cells?_some hc
    rw [hC, hsz] at hcl hat
    have hjl : j < ks.length := (List.getElem?_eq_some_iff.1 hj).1
    obtain ⟨f, hfj⟩ : ∃ f, fs[j]? = some f := ⟨fs[j], Array.getElem?_eq_getElem (by omega)⟩
    obtain ⟨ho, hkc⟩ := hone_of hone j f hfj
    have hcell := hat j hjl
    have hv : cs'[j]? = some (cs'[j]'(by omega)) := List.getElem?_eq_getElem (by omega)
    have h1 := hff j f hfj
    rw [ho, hkc] at h1
    have hd1 : (cs'.drop j).take 1 = [cs'[j]'(by omega)] := by
      rw [List.drop_eq_getElem_cons (by omega)]; rfl
    rw [hd1] at h1
    have hys : ys[j]? = some (ys[j]'(by omega)) := List.getElem?_eq_getElem (by omega)
    have hu : P.underlying f.type = some k := by
      have e1 := congrArg (fun l => l[j]?) hks
      simp only [List.getElem?_map, Array.getElem?_toList, hfj, hj, Option.map_some] at e1
      injection e1
    refine ⟨cs'[j]'(by omega), ?_, fk_of hu (plain_of hpl hj) (h1.trans hys)⟩
    have hadd : x.add (i * ks.length + j) = (x.add (i * ks.length)).add j := by rw [Go.Deep.add_add]
    rw [hadd, hcell, hv]

theorem open_rws_one {k : TypeDesc} (ht : P.underlying t = some (.slice e)) (hk : P.underlying e = some k ∧ plainKinds [k] = true) (hC : P.cellsOf e = 1)
    (h : DataW.Trod enc P W 0 (fun _ => true) true t (.slice a len cap) d p) : ∃ V, Rws [k] W a len cap V := by
  obtain ⟨hu, hpl⟩ := hk
  obtain ⟨fuel, hf⟩ := h
  rcases open_slice1 ht hC hf with ⟨hcs, _⟩ | ⟨x, l, c, m, n, V, D, Pl, hcs, _, hl, hm, hmm, _, hi⟩
  · simp [Value.cells] at hcs
    obtain ⟨rfl, rfl, rfl⟩ := hcs
    exact ⟨fun _ _ => .nilFunc, Nat.le_refl _, by simp [maxLen], fun h => absurd h (by omega), fun i _ _ h => absurd h (by omega)⟩
  · simp [Value.cells] at hcs
    obtain ⟨rfl, rfl, rfl⟩ := hcs
    refine rws_of (by simp) hl hm fun i j k' hil hj => ?_
    have hj0 : j = 0 := by
      have := (List.getElem?_eq_some_iff.1 hj).1
      simp at this; omega
    subst hj0
    simp at hj
    subst hj
    obtain ⟨h1, h2⟩ := hi i (by simp at hmm; omega)
    exact ⟨V i, by simpa using h1, fk_of hu (plain_of hpl (j := 0) rfl) h2⟩
end

/-- an element's cells at hand -/
theorem Rws.at1 {k : TypeDesc} {w : World} {A : Option Addr} {n c : Nat} {V : Nat → Nat → Value} (h : Rws [k] w A n c V) {i : Nat} (hi : i < n) :
    ∃ b o, A = some ⟨b, o, none⟩ ∧ b < w.heap.size ∧ FKok k (V i 0) ∧ w.cell? ⟨b, o + i, none⟩ = some (V i 0) := by
  obtain ⟨_, _, h3, h4⟩ := h
  obtain ⟨b, o, rfl, hlt, hc⟩ := h3 (by omega)
  exact ⟨b, o, rfl, hlt, h4 i 0 k hi rfl, by simpa using hc i 0 hi (by simp)⟩
theorem Rws.at2 {k0 k1 : TypeDesc} {w : World} {A : Option Addr} {n c : Nat} {V : Nat → Nat → Value} (h : Rws [k0, k1] w A n c V) {i : Nat} (hi : i < n) :
    ∃ b o, A = some ⟨b, o, none⟩ ∧ b < w.heap.size ∧ FKok k0 (V i 0) ∧ FKok k1 (V i 1) ∧ w.cell? ⟨b, o + i * 2, none⟩ = some (V i 0) ∧ w.cell? ⟨b, o + i * 2 + 1, none⟩ = some (V i 1) := by
  obtain ⟨_, _, h3, h4⟩ := h
  obtain ⟨b, o, rfl, hlt, hc⟩ := h3 (by omega)
  exact ⟨b, o, rfl, hlt, h4 i 0 _ hi rfl, h4 i 1 _ hi rfl, hc i 0 hi (by simp), hc i 1 hi (by simp)⟩
theorem Rws.at3 {k0 k1 k2 : TypeDesc} {w : World} {A : Option Addr} {n c : Nat} {V : Nat → Nat → Value} (h : Rws [k0, k1, k2] w A n c V) {i : Nat} (hi : i < n) :
    ∃ b o, A = some ⟨b, o, none⟩ ∧ b < w.heap.size ∧ FKok k0 (V i 0) ∧ FKok k1 (V i 1) ∧ FKok k2 (V i 2) ∧ w.cell? ⟨b, o + i * 3, none⟩ = some (V i 0) ∧ w.cell? ⟨b, o + i * 3 + 1, none⟩ = some (V i 1) ∧
      w.cell? ⟨b, o + i * 3 + 2, none⟩ = some (V i 2) := by
  obtain ⟨_, _, h3, h4⟩ := h
  obtain ⟨b, o, rfl, hlt, hc⟩ := h3 (by omega)
  exact ⟨b, o, rfl, hlt, h4 i 0 _ hi rfl, h4 i 1 _ hi rfl, h4 i 2 _ hi rfl, hc i 0 hi (by simp), hc i 1 hi (by simp), hc i 2 hi (by simp)⟩
theorem Rws.at4 {k0 k1 k2 k3 : TypeDesc} {w : World} {A : Option Addr} {n c : Nat} {V : Nat → Nat → Value} (h : Rws [k0, k1, k2, k3] w A n c V) {i : Nat} (hi : i < n) :
    ∃ b o, A = some ⟨b, o, none⟩ ∧ b < w.heap.size ∧ FKok k0 (V i 0) ∧ FKok k1 (V i 1) ∧ FKok k2 (V i 2) ∧ FKok k3 (V i 3) ∧ w.cell? ⟨b, o + i * 4, none⟩ = some (V i 0) ∧ w.cell? ⟨b, o + i * 4 + 1, none⟩ = some (V i 1) ∧
      w.cell? ⟨b, o + i * 4 + 2, none⟩ = some (V i 2) ∧ w.cell? ⟨b, o + i * 4 + 3, none⟩ = some (V i 3) := by
  obtain ⟨_, _, h3, h4⟩ := h
  obtain ⟨b, o, rfl, hlt, hc⟩ := h3 (by omega)
  exact ⟨b, o, rfl, hlt, h4 i 0 _ hi rfl, h4 i 1 _ hi rfl, h4 i 2 _ hi rfl, h4 i 3 _ hi rfl, hc i 0 hi (by simp), hc i 1 hi (by simp), hc i 2 hi (by simp), hc i 3 hi (by simp)⟩
theorem Rws.at5 {k0 k1 k2 k3 k4 : TypeDesc} {w : World} {A : Option Addr} {n c : Nat} {V : Nat → Nat → Value} (h : Rws [k0, k1, k2, k3, k4] w A n c V) {i : Nat} (hi : i < n) :
    ∃ b o, A = some ⟨b, o, none⟩ ∧ b < w.heap.size ∧ FKok k0 (V i 0) ∧ FKok k1 (V i 1) ∧ FKok k2 (V i 2) ∧ FKok k3 (V i 3) ∧ FKok k4 (V i 4) ∧ w.cell? ⟨b, o + i * 5, none⟩ = some (V i 0) ∧ w.cell? ⟨b, o + i * 5 + 1, none⟩ = some (V i 1) ∧
      w.cell? ⟨b, o + i * 5 + 2, none⟩ = some (V i 2) ∧ w.cell? ⟨b, o + i * 5 + 3, none⟩ = some (V i 3) ∧ w.cell? ⟨b, o + i * 5 + 4, none⟩ = some (V i 4) := by
  obtain ⟨_, _, h3, h4⟩ := h
  obtain ⟨b, o, rfl, hlt, hc⟩ := h3 (by omega)
  exact ⟨b, o, rfl, hlt, h4 i 0 _ hi rfl, h4 i 1 _ hi rfl, h4 i 2 _ hi rfl, h4 i 3 _ hi rfl, h4 i 4 _ hi rfl, hc i 0 hi (by simp), hc i 1 hi (by simp), hc i 2 hi (by simp), hc i 3 hi (by simp), hc i 4 hi (by simp)⟩
end Go.Proofs.Ytlhlidmhlhodiaa

/-
  Sparse frames: from a contract to a law's walk; what came in, as segments.
-/
namespace Go.Proofs.Ytlhlidmhlhodiaa
set_option linter.unusedSimpArgs false
set_option linter.unusedVariables false
open Go.RowKit

theorem sat_start {w : World} {R : List Ro} (h : ∀ r ∈ R, r.sat w) : Sat w (feet []) (blks R) [] R w :=
  ⟨Frm.refl _ _, (by intro x hx; cases hx), (by intro x hx; cases hx), .nil, h, (by intro r _ x hx; cases hx), fun r hr => .inr (.inl (mem_blks.2 ⟨r, hr, rfl⟩))⟩
theorem walk_of {P : Program} {f : FuncId} {args : Array Value} {R : List Ro} {w : World} (hF : Fn P f args [] R (fun v _ _ => v = .bool true)) (hR : ∀ r ∈ R, r.sat w) :
    Calls P f args w fun e w' => e = .returned (.bool true) ∧ Below w.heap.size w w' :=
  (hF w (sat_start hR)).mono fun _ _ ⟨_, _, _, he, hv, hS⟩ => ⟨by rw [he, hv], hS.frm.below⟩

def rowsOf (ks : List TypeDesc) (V : Nat → Nat → Value) (n : Nat) : List (List Value) := (List.range n).map fun i => (List.range ks.length).map fun j => V i j
theorem rowsOf_at {ks : List TypeDesc} {V : Nat → Nat → Value} {n i : Nat} (hi : i < n) : (rowsOf ks V n)[i]? = some ((List.range ks.length).map fun j => V i j) := by
  simp [rowsOf, hi]
theorem rowsOf_len {ks : List TypeDesc} {V : Nat → Nat → Value} {n : Nat} : (rowsOf ks V n).length = n := by simp [rowsOf]
theorem fk_one {k : TypeDesc} {v : Value} (h : FKok k v) : v.oneCell' = true := by
  cases k <;> simp only [FKok] at h <;> first | exact h.elim | skip
  · obtain ⟨b, rfl⟩ := h; rfl
  · obtain ⟨n, rfl, _⟩ := h; rfl
  · obtain ⟨s, rfl, _⟩ := h; rfl
theorem block_of_cell {w : World} {b o : Nat} {v : Value} (h : w.cell? ⟨b, o, none⟩ = some v) : ∃ cur t fz, w.heap[b]? = some (.cells cur t fz) ∧ cur[o]? = some v := by
  unfold World.cell? at h
  split at h
  · rename_i c e fz hc
    exact ⟨c, e, fz, hc, by simpa using h⟩
  · cases h
theorem rws_ro {ks : List TypeDesc} {w : World} {A : Option Addr} {n c : Nat} {V : Nat → Nat → Value} (h : Rws ks w A n c V) (hk : 0 < ks.length) :
    ∃ R : List Ro, (∀ r ∈ R, r.sat w) ∧ (0 < n → ∃ b o, A = some ⟨b, o, none⟩ ∧ ⟨b, o, ks.length, rowsOf ks V n⟩ ∈ R) := by
  obtain ⟨h1, h2, h3, h4⟩ := h
  rcases Nat.eq_zero_or_pos n with h0 | h0
  · exact ⟨[], (by intro r hr; cases hr), fun h => by omega⟩
  · obtain ⟨b, o, rfl, hlt, hc⟩ := h3 h0
    refine ⟨[⟨b, o, ks.length, rowsOf ks V n⟩], fun r hr => ?_, fun _ => ⟨b, o, rfl, .head _⟩⟩
    rcases List.mem_singleton.1 hr with rfl
    obtain ⟨cur, t, fz, hb, _⟩ := block_of_cell (hc 0 0 h0 hk)
    have hrows : RowsOk ks.length (rowsOf ks V n) := by
      intro row hrow
      obtain ⟨i, hi, rfl⟩ := List.mem_map.1 hrow
      refine ⟨by simp, fun u hu => ?_⟩
      obtain ⟨j, hj, rfl⟩ := List.mem_map.1 hu
      have hj' := List.mem_range.1 hj
      exact fk_one (h4 i j ks[j] (List.mem_range.1 hi) (List.getElem?_eq_getElem hj'))
    refine ⟨hrows, cur, t, fz, hb, (seg_iff hrows.lens).2 ?_⟩
    intro i row hi j u hj
    have hil : i < n := by have := (List.getElem?_eq_some_iff.1 hi).1; rw [rowsOf_len] at this; exact this
    rw [rowsOf_at hil] at hi
    simp only [Option.some.injEq] at hi
    subst hi
    have hjl : j < ks.length := by have := (List.getElem?_eq_some_iff.1 hj).1; simpa using this
    simp [hjl] at hj
    subst hj
    have := hc i j hil hjl
    unfold World.cell? at this
    rw [hb] at this
    simpa using this
end Go.Proofs.Ytlhlidmhlhodiaa

/-
  Sparse frames: results that lie in cells; structs handed by value.
-/
namespace Go.Proofs.Ytlhlidmhlhodiaa
set_option linter.unusedSimpArgs false
set_option linter.unusedVariables false
open Go.RowKit
inductive RV (P : Program) (fr : List (Nat × Value)) (hp : List It) : List ResultVar → List Value → Prop
  | nil : RV P fr hp [] []
  | tmp {r v rs vs} (h : fget fr r = some v) (ht : RV P fr hp rs vs) : RV P fr hp (.tmp r :: rs) (v :: vs)
  | agg {a t rs vs b o n r} {l : List Value} {t' : TypeId} {fz : Nat × Nat} {F : List It} (h : fget fr a = some (.pointer (some ⟨b, o, none⟩))) (hs : hp.Perm (.ob b (.cells l.toArray t' fz) :: F)) (hT : TAgg P t n) (hl : Cut l o n r) (ht : RV P fr hp rs vs) : RV P fr hp (.cell a t :: rs) (.agg r.toArray :: vs)
  | one {a t rs vs b o v} {l : List Value} {t' : TypeId} {fz : Nat × Nat} {F : List It} (h : fget fr a = some (.pointer (some ⟨b, o, none⟩))) (hs : hp.Perm (.ob b (.cells l.toArray t' fz) :: F)) (hT : TOne P t) (hl : l[o]? = some v) (ht : RV P fr hp rs vs) : RV P fr hp (.cell a t :: rs) (v :: vs)
def outV : List Value → Value
  | [v] => v
  | vs => .tuple vs.toArray
def resOne (tmps : Array Value) : ResultVar → Sem Value
  | .tmp t => pure (tmps.getD t undef)
  | .cell a t => do loadVar t (← asAddr (tmps.getD a undef))
theorem run_loadVar_one {P : Program} {T : TypeId} {v : Value} [TOne P T] {w : World} {ad : Addr} (h : w.cell? ad = some v) : (loadVar T ad).run P w = .ok v w := by
  simp only [loadVar, Sem.run_bind, Sem.run_pure, Result.andThen_ok, run_isAgg_one, Bool.false_eq_true, if_false]
  simp [h, go_sem]
theorem run_loadVar_agg {P : Program} {T : TypeId} {n : Nat} [TAgg P T n] {w : World} {b o : Nat} {r : List Value} (hn : r.length = n) (h : ∀ j u, r[j]? = some u → w.cell? ⟨b, o + j, none⟩ = some u) : (loadVar T ⟨b, o, none⟩).run P w = .ok (.agg r.toArray) w := by
  have := run_loadCells_list (P := P) w ⟨b, o, none⟩ r (fun j u hj => by rw [Addr.add_lit]; exact h j u hj)
  subst hn
  simp only [loadVar, Sem.run_bind, Sem.run_pure, Result.andThen_ok, run_isAgg_agg, if_true, run_sizeOf_agg, this]
theorem RV.run {P : Program} {N : Nat} {E : Env} {fr : List (Nat × Value)} {hp : List It} {ro : List Ro} {rs : List ResultVar} {vs : List Value} (h : RV P fr hp rs vs) {a : Act} {w : World} (ok : Ok N E ⟨fr, hp, ro⟩ a w) :
    (rs.mapM (resOne a.tmps)).run P w = .ok vs w := by
  induction h with
  | nil => rfl
  | tmp h _ ih => simp only [List.mapM_cons, Sem.run_bind, resOne, Sem.run_pure, Result.andThen_ok, ih, ok.h.tmp h]
  | @agg _ t _ _ _ _ _ _ _ _ _ _ h hs hT hl _ ih =>
    have h1 := run_loadVar_agg (P := P) (T := t) hl.spec.1 (fun j u hj => cell_ob (ok.s.get hs) (hl.spec.2 j u hj))
    simp only [List.mapM_cons, Sem.run_bind, resOne, ok.h.tmp h, asAddr, Sem.run_pure, Result.andThen_ok, h1, ih]
  | @one _ t _ _ _ _ _ _ _ _ _ h hs hT hl _ ih =>
    have h1 := run_loadVar_one (P := P) (T := t) (cell_ob (ok.s.get hs) hl)
    simp only [List.mapM_cons, Sem.run_bind, resOne, ok.h.tmp h, asAddr, Sem.run_pure, Result.andThen_ok, h1, ih]
theorem outV_eq (vs : List Value) : (if h : vs.toArray.size = 1 then vs.toArray[0] else .tuple vs.toArray) = outV vs := by
  match vs with
  | [] => rfl
  | [v] => rfl
  | _ :: _ :: _ => simp [outV]
theorem retv {P : Program} {fn : Func} {fr : List (Nat × Value)} {hp hp' F : List It} {ro ro' : List Ro} {rs : List ResultVar} {vs : List Value} {Post : Value → List It → List Ro → Prop} (hr : fn.results = rs.toArray) (hv : RV P fr hp rs vs) (hP : Post (outV vs) hp' ro') (hpm : hp.Perm (hp' ++ F)) (ho : ∀ r ∈ ro', r ∈ ro) :
    Ret P fn Post ⟨fr, hp, ro⟩ :=
  ⟨_, hp', ro', fun _ _ a w ok => by
    have h1 := hv.run ok
    have e : results fn a.tmps = (do let vs ← fn.results.mapM (resOne a.tmps); pure (if h : vs.size = 1 then vs[0] else .tuple vs)) := by
      unfold results resOne
      rfl
    rw [e, hr, List.mapM_toArray]
    simp only [Sem.run_bind, map_eq_pure_bind, h1, Result.andThen_ok, Sem.run_pure, outV_eq], ⟨F, hpm⟩, ho, hP⟩
/-! shifts by so many bits; or of what doesn't overlap -/
def p2o (b : Int) : Option Int := ([1, 2, 4, 8, 16, 32, 64, 128, 256, 512, 1024, 2048, 4096, 8192, 16384, 32768, 65536, 131072, 262144, 524288, 1048576, 2097152, 4194304, 8388608, 16777216, 33554432, 67108864, 134217728, 268435456, 536870912, 1073741824, 2147483648, 4294967296, 8589934592, 17179869184, 34359738368, 68719476736, 137438953472, 274877906944, 549755813888, 1099511627776, 2199023255552, 4398046511104, 8796093022208, 17592186044416, 35184372088832, 70368744177664, 140737488355328, 281474976710656, 562949953421312, 1125899906842624, 2251799813685248, 4503599627370496, 9007199254740992, 18014398509481984, 36028797018963968, 72057594037927936, 144115188075855872, 288230376151711744, 576460752303423488, 1152921504606846976, 2305843009213693952, 4611686018427387904, 9223372036854775808] : List Int)[b.toNat]?
theorem p2o_eq {b m : Int} (h : p2o b = some m) : m = 2 ^ b.toNat ∧ b.toNat < 64 := by
  have hl : b.toNat < 64 := by
    have := (List.getElem?_eq_some_iff.1 h).1
    simpa using this
  refine ⟨?_, hl⟩
  have key : ∀ i : Nat, i < 64 → ([1, 2, 4, 8, 16, 32, 64, 128, 256, 512, 1024, 2048, 4096, 8192, 16384, 32768, 65536, 131072, 262144, 524288, 1048576, 2097152, 4194304, 8388608, 16777216, 33554432, 67108864, 134217728, 268435456, 536870912, 1073741824, 2147483648, 4294967296, 8589934592, 17179869184, 34359738368, 68719476736, 137438953472, 274877906944, 549755813888, 1099511627776, 2199023255552, 4398046511104, 8796093022208, 17592186044416, 35184372088832, 70368744177664, 140737488355328, 281474976710656, 562949953421312, 1125899906842624, 2251799813685248, 4503599627370496, 9007199254740992, 18014398509481984, 36028797018963968, 72057594037927936, 144115188075855872, 288230376151711744, 576460752303423488, 1152921504606846976, 2305843009213693952, 4611686018427387904, 9223372036854775808] : List Int)[i]? = some (2 ^ i) := by decide
  unfold p2o at h
  rw [key _ hl] at h
  exact (Option.some.inj h).symm
section
variable {P : Program} {fr : List (Nat × Value)} {hp : List It} {ro : List Ro} {x y : Operand} {k k' : IntKind} {a b lo hi m : Int} {t t' : TypeId}
theorem a_shr (hx : opd fr x = some (.int k a)) (hy : opd fr y = some (.int k' b)) (hm : p2o b = some m) (h0 : 0 ≤ b) (hb : Nat.ble b.toNat k.bits = true) : Pv P ⟨fr, hp, ro⟩ (.binOp .shr t x y t') (.int k (a / m)) := by
  obtain ⟨h1, h2⟩ := p2o_eq hm
  have := pv_shr (P := P) (hp := hp) (ro := ro) (t := t) (t' := t') hx hy h0
  rw [Nat.min_eq_left (Nat.le_of_ble_eq_true hb), ← h1, Int.fdiv_eq_ediv_of_nonneg _ (by rw [h1]; exact Int.le_of_lt (Int.pow_pos (by omega)))] at this
  exact this
theorem a_shl (hx : opd fr x = some (.int k a)) (hy : opd fr y = some (.int k' b)) (hm : p2o b = some m) (h0 : 0 ≤ b) (hb : Nat.ble b.toNat k.bits = true) (hk : KB k lo hi) (h : lo ≤ a * m ∧ a * m ≤ hi) : Pv P ⟨fr, hp, ro⟩ (.binOp .shl t x y t') (.int k (a * m)) := by
  obtain ⟨h1, h2⟩ := p2o_eq hm
  have := pv_shl (P := P) (hp := hp) (ro := ro) (t := t) (t' := t') hx hy h0
  rw [Nat.min_eq_left (Nat.le_of_ble_eq_true hb), ← h1, hk.h _ h.1 h.2] at this
  exact this
theorem a_shl_u (hx : opd fr x = some (.int k a)) (hy : opd fr y = some (.int k' b)) (hm : p2o b = some m) (h0 : 0 ≤ b) (hb : Nat.ble b.toNat k.bits = true) {mm : Int} (hk : KU k mm) : Pv P ⟨fr, hp, ro⟩ (.binOp .shl t x y t') (.int k (a * m % mm)) := by
  obtain ⟨h1, h2⟩ := p2o_eq hm
  have := pv_shl (P := P) (hp := hp) (ro := ro) (t := t) (t' := t') hx hy h0
  rw [Nat.min_eq_left (Nat.le_of_ble_eq_true hb), ← h1, hk.h] at this
  exact this
theorem wrap_lt (k : IntKind) (n : Int) : k.wrap n < ((2 ^ k.bits : Nat) : Int) := by
  cases k <;> simp only [IntKind.wrap, IntKind.bits, IntKind.signed] <;> simp <;> omega
theorem a_or (j : Int) (hx : opd fr x = some (.int k a)) (hy : opd fr y = some (.int k b)) (hk : KB k lo hi) (hm : p2o j = some m) (h : lo ≤ 0 ∧ 0 ≤ a ∧ a % m = 0 ∧ 0 ≤ b ∧ b < m ∧ a + b ≤ hi) : Pv P ⟨fr, hp, ro⟩ (.binOp .or t x y t') (.int k (a + b)) := by
  obtain ⟨h1, h2⟩ := p2o_eq hm
  obtain ⟨g1, g2, g3, g4, g5, g6⟩ := h
  have this := pv_or (P := P) (hp := hp) (ro := ro) (t := t) (t' := t') hx hy
  obtain ⟨u, rfl⟩ := Int.eq_ofNat_of_zero_le g2
  obtain ⟨v, rfl⟩ := Int.eq_ofNat_of_zero_le g4
  have hw := hk.h ((u : Int) + (v : Int)) (by omega) g6
  have hlt : u + v < 2 ^ k.bits := by have := wrap_lt k ((u : Int) + (v : Int))
                                      rw [hw] at this
                                      exact_mod_cast this
  have e : bits .or k (u : Int) (v : Int) = (u : Int) + (v : Int) := by
    show k.wrap ((BitVec.ofInt k.bits (u : Int) ||| BitVec.ofInt k.bits (v : Int)).toNat : Int) = _
    have hz : ∀ c : Nat, c < 2 ^ k.bits → (BitVec.ofInt k.bits (c : Int)).toNat = c := fun c hc => by
      rw [BitVec.ofInt_natCast, BitVec.toNat_ofNat]; exact Nat.mod_eq_of_lt hc
    rw [BitVec.toNat_or, hz u (by omega), hz v (by omega)]
    have hd : 2 ^ j.toNat ∣ u := by
      have : ((u % 2 ^ j.toNat : Nat) : Int) = 0 := by push_cast; rw [← h1]; exact g3
      exact Nat.dvd_of_mod_eq_zero (by exact_mod_cast this)
    obtain ⟨z, rfl⟩ := hd
    have hv : v < 2 ^ j.toNat := by have : (v : Int) < ((2 ^ j.toNat : Nat) : Int) := by push_cast; omega
                                    exact_mod_cast this
    rw [← Nat.two_pow_add_eq_or_of_lt hv z]
    push_cast at hw ⊢
    exact hw
  rw [e] at this
  exact this
end
/-! what one operation of a drawn region does -/
section
variable {P : Program} {N : Nat} {E : Env} {fr : List (Nat × Value)} {B0 : List It} {ro : List Ro} {T : TypeId} {x y : Operand} {v : Value} {dst : Option Tmp} {ty : TypeId} {pos : String} {af : Array Edge} {g : Option (Nat × Bool)} {b o : Nat} {l l' : List Value} {t : TypeId}
theorem outc_alloc {z : List Value} [TZ P T z] : ∀ a, Holds N fr a → Outc P E B0 ro ⟨dst, .alloc T, ty, pos, af, g⟩ a [] (fun v M => ∃ b, v = .pointer (some ⟨b, 0, none⟩) ∧ M = [.ob b (.cells z.toArray T (0, 0))]) := fun a hh F w hw => by
  obtain ⟨v, hv, hc⟩ := run_zeroValue (P := P) (T := T) (w := w)
  have e : (execOp a.eval ⟨dst, .alloc T, ty, pos, af, g⟩).run P w = .ok (.value (.pointer (some ⟨w.heap.size, 0, none⟩))) (w.alloc (.cells z.toArray T)) := by
    simp only [execOp, Instr.alloc, Sem.run_bind, hv, Result.andThen_ok, newVar, newRow, newObj, hc]; rfl
  rw [e]
  exact ⟨_, ⟨_, rfl, rfl⟩, (hw.step (L := []) (T' := []) (.refl _) (by simp) (Sat.fresh _)).some_ro (fun r hr => by simpa using hr)⟩
theorem outc_sta {n : Nat} {r : List Value} [TAgg P T n] (hx : opd fr x = some (.pointer (some ⟨b, o, none⟩))) (hy : opd fr y = some (.agg r.toArray)) (hn : Nat.beq r.length n = true) (h1 : allOne r = true) (hl : LayAt l o r l') :
    ∀ a, Holds N fr a → Outc P E B0 ro ⟨dst, .store T x y, ty, pos, af, g⟩ a [.ob b (.cells l.toArray t (0, 0))] (fun u M => u = undef ∧ M = [.ob b (.cells l'.toArray t (0, 0))]) := fun a hh F w hw => by
  obtain ⟨hf, rfl⟩ := hl.spec
  have hn := Nat.eq_of_beq_eq_true hn
  subst hn
  obtain ⟨w', h2, h3, h4⟩ := run_storeAt_lay (P := P) (T := T) (v := .agg r.toArray) rfl run_sizeOf_agg (show w.heap[b]? = _ from hw.get (.refl _)) (by simpa using hf) (allOne_mem h1)
  have e : (execOp a.eval ⟨dst, .store T x y, ty, pos, af, g⟩).run P w = .ok .skip w' := by
    simp only [execOp, hh.eval hx, hh.eval hy, Sem.run_bind, h2]; rfl
  rw [e]
  exact ⟨_, ⟨rfl, rfl⟩, (hw.step (L := [_]) (T' := []) (.refl _) (by simp) (Sat.relay h4 h3)).some_ro (fun r hr => by simpa using hr)⟩
theorem outc_st [TOne P T] (hx : opd fr x = some (.pointer (some ⟨b, o, none⟩))) (hy : opd fr y = some v) (h1 : v.oneCell' = true) (hl : SetAt l o v l') :
    ∀ a, Holds N fr a → Outc P E B0 ro ⟨dst, .store T x y, ty, pos, af, g⟩ a [.ob b (.cells l.toArray t (0, 0))] (fun u M => u = undef ∧ M = [.ob b (.cells l'.toArray t (0, 0))]) := fun a hh F w hw => by
  obtain ⟨hf, rfl⟩ := hl.lay.spec
  obtain ⟨w', h2, h3, h4⟩ := run_storeAt_lay (P := P) (T := T) (r := [v]) (cells_one h1) run_sizeOf_one (show w.heap[b]? = _ from hw.get (.refl _)) (by simpa using hf) (by simpa using h1)
  have e : (execOp a.eval ⟨dst, .store T x y, ty, pos, af, g⟩).run P w = .ok .skip w' := by
    simp only [execOp, hh.eval hx, hh.eval hy, Sem.run_bind, h2]; rfl
  rw [e]
  exact ⟨_, ⟨rfl, rfl⟩, (hw.step (L := [_]) (T' := []) (.refl _) (by simp) (Sat.relay h4 h3)).some_ro (fun r hr => by simpa using hr)⟩
theorem outc_mono {L : List It} {o : Oper} {a : Act} {T T' : Value → List It → Prop} (h : Outc P E B0 ro o a L T) (hT : ∀ v M, T v M → T' v M) : Outc P E B0 ro o a L T' := fun F w hw => by
  have := h F w hw
  revert this
  cases hr : (execOp a.eval o).run P w with
  | ok n w' =>
    cases n with
    | value v => exact fun ⟨M, h1, h2⟩ => ⟨M, hT _ _ h1, h2⟩
    | skip => exact fun ⟨M, h1, h2⟩ => ⟨M, hT _ _ h1, h2⟩
    | enter f args => exact fun ⟨h0, h⟩ => ⟨h0, h.mono fun _ _ ⟨v, M, h1, h2, h3⟩ => ⟨v, M, h1, hT _ _ h2, h3⟩⟩
    | _ => exact fun h => h
  | _ => exact fun h => h
end
abbrev cM (L : List It) : Nat → List It := fun _ => L
/-- one store, into a block of its own class -/
abbrev stT (new : List Value) (T : TypeId) : Nat → List It → Value → List It → Prop := fun _ L v M => match L with
  | [.ob b _] => v = undef ∧ M = [.ob b (.cells new.toArray T (0, 0))]
  | _ => False
/-! a slice of numbers that came in -/
def kseg (k : IntKind) (z : Nat → Int) (n : Nat) : List (List Value) := (List.range n).map fun i => [.int k (z i)]
theorem kseg_at {k : IntKind} {z : Nat → Int} {n i : Nat} (h : i < n) : (kseg k z n)[i]? = some [.int k (z i)] := by simp [kseg, h]
theorem rws_k {k : IntKind} {w : World} {A : Option Addr} {n c : Nat} {V : Nat → Nat → Value} (h : Rws [.int k] w A n c V) :
    ∃ (z : Nat → Int) (R : List Ro), (∀ r ∈ R, r.sat w) ∧ (∀ i, i < n → k.min ≤ z i ∧ z i ≤ k.max) ∧ (0 < n → ∃ b o, A = some ⟨b, o, none⟩ ∧ ⟨b, o, 1, kseg k z n⟩ ∈ R) ∧ n ≤ 9223372036854775807 := by
  obtain ⟨R, hR, h0⟩ := rws_ro h (by simp)
  obtain ⟨h1, h2, _, h4⟩ := h
  refine ⟨fun i => match V i 0 with | .int _ z => z | _ => 0, R, hR, fun i hi => ?_, fun hn => ?_, by unfold maxLen at h2; omega⟩
  · obtain ⟨z, hz, hw⟩ := h4 i 0 _ hi rfl
    simp only [hz]
    simpa [Lit.wf] using hw
  · obtain ⟨b, o, hA, hm⟩ := h0 hn
    refine ⟨b, o, hA, ?_⟩
    have e : rowsOf [.int k] V n = kseg k (fun i => match V i 0 with | .int _ z => z | _ => 0) n := by
      unfold rowsOf kseg
      refine List.map_congr_left fun i hi => ?_
      obtain ⟨z, hz, _⟩ := h4 i 0 _ (List.mem_range.1 hi) rfl
      simp [hz]
    rw [← e]; exact hm
/-! classes as a list -/
def look : List (Nat × List It) → Nat → Option (List It)
  | [], _ => none
  | (i, M) :: l, k => if i = k then some M else look l k
def setl : List (Nat × List It) → Nat → List It → List (Nat × List It)
  | [], c, M => [(c, M)]
  | (i, M') :: l, c, M => if i = c then (i, M) :: l else (i, M') :: setl l c M
def fm (l : List (Nat × List It)) : Nat → List It := fun k => (look l k).getD []
theorem look_set (c : Nat) (M : List It) (k : Nat) : ∀ l, look (setl l c M) k = if c = k then some M else look l k
  | [] => by simp only [setl, look]
  | (i, M') :: l => by
    unfold setl
    by_cases h : i = c
    · subst h
      rw [if_pos rfl]
      simp only [look]
      split <;> rfl
    · rw [if_neg h]
      simp only [look, look_set c M k l]
      by_cases h2 : i = k
      · subst h2; rw [if_pos rfl, if_neg (Ne.symm h), if_pos rfl]
      · rw [if_neg h2, if_neg h2]
theorem fm_set (l : List (Nat × List It)) (c : Nat) (M : List It) : fm (setl l c M) = upd (fm l) c M := by
  funext k
  unfold fm upd
  rw [look_set]
  by_cases h : c = k
  · subst h; simp
  · rw [if_neg h]
    have : Nat.beq c k = false := by cases hb : Nat.beq c k with
      | false => rfl
      | true => exact absurd (Nat.eq_of_beq_eq_true hb) h
    rw [this]; rfl
theorem he_eff {P : Program} {N : Nat} {E : Env} {B0 : List It} {ro : List Ro} {ops : Array Oper} {cls : Nat → Option Nat} {tbl : Nat → List It → Value → List It → Prop} {K : List (Nat × Value) → (Nat → List It) → Prop} {k : Nat} {fr : List (Nat × Value)} {l : List (Nat × List It)} {dst : Option Tmp} {op : Op} {ty : TypeId} {pos : String} {af : Array Edge} {rest : List Oper} {c : Nat} {L : List It} {g : Option (Nat × Bool)}
    (hc : cls k = some c) (hm : look l c = some L) (hd : dstOk dst N = true) (hg : GOk ops fr g) (ho : ∀ a, Holds N fr a → Outc P E B0 ro ⟨dst, op, ty, pos, af, g⟩ a L (tbl k L)) (hin : ∃ v M, tbl k L v M)
    (h : ∀ v M, tbl k L v M → HdE P N E B0 ro ops cls tbl K (k + 1) rest (putF dst v fr) (fm (setl l c M))) : HdE P N E B0 ro ops cls tbl K k (⟨dst, op, ty, pos, af, g⟩ :: rest) fr (fm l) :=
  .eff hc (by unfold fm; rw [hm]; rfl) hd hg ho hin (fun v M hv => by rw [← fm_set]; exact h v M hv)
end Go.Proofs.Ytlhlidmhlhodiaa

/-
  Sparse frames: texts and bytes.
-/
namespace Go.Proofs.Ytlhlidmhlhodiaa
set_option linter.unusedSimpArgs false
set_option linter.unusedVariables false
open Go.RowKit
def sb (s : ByteArray) (i : Nat) : Int := ((s.data.toList.getD i 0).toNat : Int)
theorem sb_b (s : ByteArray) (i : Nat) : 0 ≤ sb s i ∧ sb s i ≤ 255 := by
  unfold sb
  have := (s.data.toList.getD i 0).toNat_lt
  omega
def brows (s : ByteArray) : List (List Value) := s.data.toList.map fun b => [.int .u8 (b.toNat : Int)]
theorem brows_len (s : ByteArray) : (brows s).length = s.size := by simp [brows]
theorem brows_at {s : ByteArray} {i : Nat} (h : i < s.size) : (brows s)[i]? = some [.int .u8 (sb s i)] := by
  have h' : i < s.data.size := h
  simp [brows, sb, List.getD, Array.getElem?_eq_getElem h']
theorem brows_append (a b : ByteArray) : brows (a ++ b) = brows a ++ brows b := by simp [brows]
theorem brows_ok (s : ByteArray) : RowsOk 1 (brows s) := by
  intro r hr
  obtain ⟨b, _, rfl⟩ := List.mem_map.1 hr
  exact ⟨rfl, by simp; rfl⟩
theorem flat_one {α β : Type} (f : α → β) : ∀ l : List α, (l.map fun b => [f b]).flatten = l.map f
  | [] => rfl
  | x :: l => by simp [flat_one f l]
theorem brows_flat (s : ByteArray) : (brows s).flatten = Lib.strCells s := by
  unfold brows Lib.strCells
  exact flat_one _ _
section
variable {P : Program} {N : Nat} {E : Env} {fr : List (Nat × Value)} {hp : List It} {ro : List Ro} {Kn Kr : St → Prop} {Kx : List (Nat × (St → Prop))} {ops : Array Oper} {rest : List Oper} {dst : Option Tmp} {ty : TypeId} {pos : String} {af : Array Edge} {T : TypeId} {x y : Operand} {v : Value} {F : List It} {t t' : TypeId} {k : IntKind}
theorem pv_index_s {s : ByteArray} {z : Int} [hT : TStr P t] (hx : opd fr x = some (.string s)) (hy : opd fr y = some (.int k z)) (hz : 0 ≤ z ∧ z < s.size) : Pv P ⟨fr, hp, ro⟩ (.index t x y) (.int .u8 (sb s z.toNat)) := fun N E ac w dst ty pos af g ok => by
  have hi : z.toNat < s.size := by omega
  have hi' : z.toNat < s.data.size := hi
  have e : s[z.toNat]? = some s.data[z.toNat] := by
    rw [getElem?_pos s z.toNat hi]; rfl
  simp only [execOp, ok.h.eval hx, ok.h.eval hy]
  simp [Instr.index, asIntOf, run_underlying hT.h, hz.1, e, sb, List.getD, Array.getElem?_eq_getElem hi', go_sem]
theorem pv_index_sn {s : ByteArray} {i : Nat} [hT : TStr P t] (hx : opd fr x = some (.string s)) (hy : opd fr y = some (.int k (i : Int))) (hz : i < s.size) : Pv P ⟨fr, hp, ro⟩ (.index t x y) (.int .u8 (sb s i)) := by
  have := pv_index_s (P := P) (hp := hp) (ro := ro) (t := t) hx hy (by omega)
  rwa [Int.toNat_natCast] at this
/-- a string's bytes, laid into a row that is only read -/
theorem wo_conv_sb {d e by_ : Nat} {s : ByteArray} [hS : TStr P t] [hT : TSl P t' e 1 by_] [he : TInt P e .u8] (hx : opd fr x = some (.string s)) (hd : Nat.ble (d + 1) N = true)
    (h : ∀ b c, s.size ≤ c → WO P N E ops rest ⟨(d, .slice (some ⟨b, 0, none⟩) s.size c) :: fr, hp, ⟨b, 0, 1, brows s⟩ :: ro⟩ Kn) : WO P N E ops (⟨some d, .convert t t' x, ty, pos, af, none⟩ :: rest) ⟨fr, hp, ro⟩ Kn := by
  intro Q hQ a w ok
  unfold wpList
  rw [if_pos (by simp [Region.wanted])]
  refine .inl ?_
  obtain ⟨_, _, h1, _⟩ := sl_und hT.h
  have hr := Lib.run_convert_string_bytes (P := P) w t t' e s hS.h h1 he.h
  unfold Oper.wp
  have e1 : (execOp a.eval ⟨some d, .convert t t' x, ty, pos, af, none⟩).run P w = .ok (.value (.slice (some ⟨w.heap.size, 0, none⟩) s.size (grownCap w s.size 0 e))) (Lib.bytesWorld w e s) := by
    simp only [execOp, ok.h.eval hx, Sem.run_bind, hr, Result.andThen_ok]; rfl
  rw [e1]
  have hS' : Sat w (feet []) [] [] [⟨w.heap.size, 0, 1, brows s⟩] (Lib.bytesWorld w e s) :=
    ⟨⟨rfl, rfl, rfl, by rw [Lib.bytesWorld_size]; omega, fun k hk _ => Lib.bytesWorld_at_old w e s k hk⟩, (by intro x hx; cases hx), (by intro x hx; cases hx), .nil, fun r hr => by
      rcases List.mem_singleton.1 hr with rfl
      refine ⟨brows_ok s, _, _, _, Lib.bytesWorld_at_new w e s, fun j u hj => ?_⟩
      rw [brows_flat] at hj
      simp only [Nat.zero_add]
      unfold Lib.bytesCells
      have hj' : j < s.size := by have := (List.getElem?_eq_some_iff.1 hj).1; rw [Lib.strCells_length] at this; exact this
      rw [Array.getElem?_append_left (by simpa using hj')]
      unfold Lib.strCells at hj
      simpa using hj, (by intro r _ x hx; cases hx), fun r hr => by
      rcases List.mem_singleton.1 hr with rfl
      exact .inr (.inr (Nat.le_refl _))⟩
  exact h _ _ (grownCap_ge w s.size 0 e) Q hQ _ _ ⟨ok.h.put (Nat.le_of_ble_eq_true hd) _, ok.s.step (L := []) (.refl _) blks_mem hS'⟩
/-- bytes as numbers, and their string -/
def bytesOf (ns : List Int) : ByteArray := ns.foldl (fun r n => r.push (UInt8.ofNat n.toNat)) ByteArray.empty
theorem pv_conv_bs {e by_ b o n c : Nat} {ns : List Int} {xs : List (List Value)} {ty' : TypeId} [hT : TSl P t e 1 by_] [he : TInt P e .u8] [hS : TStr P t'] (hx : opd fr x = some (.slice (some ⟨b, o, none⟩) n c)) (hs : hp.Perm (.own ty' 1 (some ⟨b, o, none⟩) n c xs :: F)) (hn : xs = ns.map fun z => [.int .u8 z]) :
    Pv P ⟨fr, hp, ro⟩ (.convert t t' x) (.string (bytesOf ns)) := fun N E ac w dst ty pos af g ok => by
  subst hn
  have hO : OwnSat w ty' 1 (some ⟨b, o, none⟩) n c _ := ok.s.get hs
  obtain ⟨_, _, h1, _⟩ := sl_und hT.h
  have hl : n = ns.length := by have := hO.len; simpa using this.symm
  subst hl
  have hc := run_loadCells_list (P := P) w ⟨b, o, none⟩ (ns.map (Value.int .u8)) (fun j u hj => by
    rw [Addr.add_lit]
    obtain ⟨_, cur, hcur, _, hseg⟩ := hO.at_ _ rfl
    simp only at hcur hseg
    simp only [World.cell?, hcur]
    exact hseg j u (by rw [flat_one]; exact hj))
  rw [List.length_map] at hc
  have hr := run_bytesToString (P := P) w ⟨b, o, none⟩ ns.length c ns hc
  simp only [execOp, ok.h.eval hx]
  simp [convert, run_underlying h1, run_underlying hS.h, run_underlying he.h, hr, bytesOf, go_sem]
theorem run_append_str {w : World} {t u ty e : TypeId} [hT : TSl P t e 1 1] [hu : TStr P u] {ao : Option Addr} {n c : Nat} {xs : List (List Value)} (hS : OwnSat w e 1 ao n c xs) (h0 : ao = none ∨ ∃ b, ao = some ⟨b, 0, none⟩) (s : ByteArray) (hb : n + s.size ≤ 1099511627776) :
    ∃ ao' c' w', (Builtin.append_ #[t, u] ty #[.slice ao n c, .string s]).run P w = .ok (.slice ao' (n + s.size) c') w' ∧ OwnSat w' e 1 ao' (n + s.size) c' (xs ++ brows s) ∧ Frm (feet [It.own e 1 ao n c xs]) w w' ∧
      (∀ b, (It.own e 1 ao' (n + s.size) c' (xs ++ brows s)).foot = some b → b ∈ feet [It.own e 1 ao n c xs] ∨ w.heap.size ≤ b) ∧ ((ao' = none ∧ n + s.size = 0) ∨ ∃ b, ao' = some ⟨b, 0, none⟩) ∧ (ao = none → s.size = 0 → ao' = none) := by
  obtain ⟨i, z, h1, h2, h3, h4, h5, h6, h7⟩ := sl_und hT.h
  have hrows : RowsOk 1 (xs ++ brows s) := fun r hr => by
    rcases List.mem_append.1 hr with hr | hr
    · exact hS.rows r hr
    · exact brows_ok s r hr
  have hlen : (xs ++ brows s).length = n + s.size := by simp [hS.len, brows_len]
  have hfl : (xs ++ brows s).flatten = xs.flatten ++ Lib.strCells s := by rw [List.flatten_append, brows_flat]
  have hxl : xs.flatten.length = n := by rw [flat_len hS.rows.lens, hS.len, Nat.mul_one]
  rcases h0 with rfl | ⟨b, rfl⟩
  · have hc0 := hS.nil rfl
    have hle := hS.le
    subst hc0
    obtain rfl : n = 0 := by omega
    have hx0 : xs = [] := List.eq_nil_of_length_eq_zero hS.len
    subst hx0
    have hz : i.zero = some (.int .u8 0) ∨ True := .inr trivial
    by_cases hm : s.size = 0
    · refine ⟨none, 0, w, ?_, ?_, Frm.refl _ _, (by intro b hb; cases hb), .inl ⟨rfl, by omega⟩, fun _ _ => rfl⟩
      · have hn : Lib.strCells s = [] := List.eq_nil_of_length_eq_zero (by rw [Lib.strCells_length]; exact hm)
        have hf := Lib.run_firstCells_string (P := P) w 1 s
        rw [hm] at hf
        simp [Builtin.append_, run_underlying h1, run_underlying hu.h, sizeOf, typeInfo, h2, h5, Builtin.lenOf, hm, hf]
      · have : brows s = [] := List.eq_nil_of_length_eq_zero (by rw [brows_len]; exact hm)
        rw [this, hm]; exact hS
    · have hn : ¬ (0 + s.size ≤ 0) := by omega
      have h63' : ¬ (9223372036854775807 < (((0 : Nat) : Int) + (s.size : Int))) := by omega
      have hfit : Builtin.nextslicecap (0 + s.size) 0 * i.bytes ≤ 281474976710656 := by rw [h6]; exact growslice_fits (by omega) (by omega)
      have h48' : ¬ (281474976710656 < Builtin.nextslicecap (0 + s.size) 0 * i.bytes) := by omega
      have hf := Lib.run_firstCells_string (P := P) w.drew i.size s
      have hr : (Builtin.append_ #[t, u] ty #[.slice none 0 0, .string s]).run P w = .ok (.slice (some ⟨w.heap.size, 0, none⟩) (0 + s.size) (grownCap w (0 + s.size) 0 e))
          (w.drew.alloc (.cells ((Lib.strCells s).toArray ++ Builtin.zeroCells z.cells (grownCap w (0 + s.size) 0 e - (0 + s.size))) e)) := by
        simp only [Nat.zero_add] at hn h48' ⊢
        simp only [Int.natCast_zero, Int.zero_add] at h63'
        have hfx : (s.data.map fun b => Value.int .u8 (b.toNat : Int)).extract 0 s.size = (Lib.strCells s).toArray := by
          apply Array.ext'
          simp [Lib.strCells]
          exact List.take_of_length_le (Nat.le_of_eq (by first | (simp; done) | (simp; rfl)))
        simp [Builtin.append_, run_underlying h1, run_underlying hu.h, sizeOf, typeInfo, zeroValue, h2, h3, h5, Builtin.lenOf, hm, h63', h48', Question.forced, hf, newRow, grownCap, Builtin.firstCells, hfx]
      refine ⟨_, _, _, hr, ⟨hlen, hrows, grownCap_ge w _ 0 e, grownCap_le_maxLen w _ 0 e (by unfold maxLen; omega), (fun h => by cases h), fun a ha => ?_⟩, ⟨rfl, rfl, rfl, by simp, fun k hk _ => heap_alloc_old w.drew _ hk⟩, fun k hk => .inr (by simp only [It.foot, Option.map_some, Option.some.injEq] at hk; omega), .inr ⟨_, rfl⟩, fun _ h => absurd h hm⟩
      simp only [Option.some.injEq] at ha
      subst ha
      have hge := grownCap_ge w (0 + s.size) 0 e
      refine ⟨rfl, _, heap_alloc_new w.drew _, ?_, fun j v hj => ?_⟩
      · simp only [Array.size_append, List.size_toArray, size_zeroCells, h4, Lib.strCells_length]; omega
      · simp only [List.nil_append, Nat.zero_add] at hj ⊢
        rw [brows_flat] at hj
        rw [Array.getElem?_append_left (by simpa using (List.getElem?_eq_some_iff.1 hj).1)]
        simpa using hj
  · obtain ⟨_, cur, hcur, hfit, hseg⟩ := hS.at_ _ rfl
    simp only [Nat.zero_add, Nat.mul_one] at hcur hfit hseg
    have hle := hS.le
    by_cases hroom : n + s.size ≤ c
    · have hr := Lib.run_append_room_string (P := P) w t u ty e i h1 hu.h h2 h5 b n c cur hcur s hroom (by omega)
      have hset := setRow_heap w b cur (cur.toList.take n ++ Lib.strCells s ++ cur.toList.drop (n + s.size)).toArray e (0, 0) hcur
      refine ⟨_, _, _, hr, ⟨hlen, hrows, hroom, hS.max, (fun h => by cases h), fun a ha => ?_⟩, ⟨rfl, rfl, rfl, by simp, fun k _ hk => setRow_other w b k _ (fun e => hk (by simp [feet, It.foot, e]))⟩, fun k hk => .inl (by simp only [It.foot, Option.map_some, Option.some.injEq] at hk; simp [feet, It.foot, hk]), .inr ⟨_, rfl⟩, fun h => by cases h⟩
      simp only [Option.some.injEq] at ha
      subst ha
      refine ⟨rfl, _, hset, ?_, fun j v hj => ?_⟩
      · simp only [List.size_toArray, List.length_append, List.length_take, List.length_drop, Array.length_toList, Lib.strCells_length]; omega
      · rw [hfl] at hj
        simp only [Nat.zero_add]
        rw [List.getElem?_toArray]
        have hl := Lib.strCells_length s
        have := lay_get (l := cur.toList) (r := Lib.strCells s) (o := n) (j := j) (by rw [hl]; simp; omega)
        rw [hl] at this
        rw [this]
        by_cases c1 : j < n
        · rw [if_pos c1]
          rw [List.getElem?_append_left (by omega)] at hj
          have := hseg j v hj
          simpa using this
        · rw [List.getElem?_append_right (by omega), hxl] at hj
          have hjl := (List.getElem?_eq_some_iff.1 hj).1
          rw [if_neg c1, if_pos (by omega)]
          exact hj
    · have hr := Lib.run_append_grow_string (P := P) w t u ty e i z h1 hu.h h2 h3 ⟨b, 0, none⟩ n c xs.flatten (by rw [h5]; omega) (fun j v hj => by
        rw [Addr.add_lit]; simp only [World.cell?, hcur, Nat.zero_add]; have := hseg j v hj; simpa using this) s (by omega) (by omega) (by rw [h6]; exact growslice_fits (by omega) (by omega))
      have hge := grownCap_ge w (n + s.size) c e
      refine ⟨_, _, _, hr, ⟨hlen, hrows, hge, grownCap_le_maxLen w _ c e (by unfold maxLen; omega), (fun h => by cases h), fun a ha => ?_⟩, ⟨rfl, rfl, rfl, by simp, fun k hk _ => heap_alloc_old w.drew _ hk⟩, fun k hk => .inr (by simp only [It.foot, Option.map_some, Option.some.injEq] at hk; omega), .inr ⟨_, rfl⟩, fun h => by cases h⟩
      simp only [Option.some.injEq] at ha
      subst ha
      refine ⟨rfl, _, heap_alloc_new w.drew _, ?_, fun j v hj => ?_⟩
      · simp only [Array.size_append, List.size_toArray, size_zeroCells, h4, Lib.strCells_length, hxl]; omega
      · rw [hfl] at hj
        simp only [Nat.zero_add]
        have hjl := (List.getElem?_eq_some_iff.1 hj).1
        rw [Array.getElem?_append_left (by simpa using hjl)]
        simpa using hj
theorem wo_app_str {d e n c : Nat} {ao : Option Addr} {xs : List (List Value)} {s : ByteArray} [hT : TSl P t e 1 1] [hu : TStr P t'] (hx : opd fr x = some (.slice ao n c)) (hy : opd fr y = some (.string s))
    (hs : hp.Perm (.own e 1 ao n c xs :: F)) (h0 : ao = none ∨ ∃ b, ao = some ⟨b, 0, none⟩) (hb : n + s.size ≤ 1099511627776) (hd : Nat.ble (d + 1) N = true)
    (h : ∀ ao' c', ((ao' = none ∧ n + s.size = 0) ∨ ∃ b, ao' = some ⟨b, 0, none⟩) → (ao = none → s.size = 0 → ao' = none) → (ao' = none → c' = 0) → WO P N E ops rest ⟨(d, .slice ao' (n + s.size) c') :: fr, .own e 1 ao' (n + s.size) c' (xs ++ brows s) :: F, ro⟩ Kn) : WO P N E ops (⟨some d, .call ⟨.builtin .append, #[x, y], #[t, t']⟩, ty, pos, af, none⟩ :: rest) ⟨fr, hp, ro⟩ Kn :=
  wo_eff (L := [_]) hs hd fun a w ok => by
    have hS : OwnSat w e 1 ao n c xs := ok.s.get hs
    obtain ⟨ao', c', w', h1, h2, h3, h4, h5, h6⟩ := run_append_str (P := P) (t := t) (u := t') (ty := ty) hS h0 s hb
    refine ⟨_, [.own e 1 ao' (n + s.size) c' (xs ++ brows s)], w', ?_, Sat.regrow h3 h2 h4, by simpa [putF] using h ao' c' h5 h6 h2.nil⟩
    simp only [execOp, resolve, List.map_toArray, List.map_cons, List.map_nil, ok.h.eval hx, ok.h.eval hy]
    simp only [Sem.run_bind, Sem.run_pure, Result.andThen_ok, invoke, builtin, h1]
theorem pv_neq_pp {e : TypeId} [h : TPtr P t e] [h2 : TAgg P e 2] {b o : Nat} (hx : opd fr x = some (.pointer (some ⟨b, o, none⟩))) (hy : opd fr y = some (.pointer (some ⟨b, o, none⟩))) : Pv P ⟨fr, hp, ro⟩ (.binOp .neq t x y t') (.bool false) := fun N E ac w dst ty pos af g ok => by
  have h1 : (Op.equal t (.pointer (some ⟨b, o, none⟩)) (.pointer (some ⟨b, o, none⟩))).run P w = .ok true w := by
    show Sem.run P (Op.equalIn (9999 + 1) t _ _) w = _
    rw [Op.equalIn]
    simp only [Sem.run_bind, run_underlying h.h, Result.andThen_ok]
    simp [run_sizeOf_agg (P := P) (T := e) (n := 2), sameAddr, go_sem]
  simp only [execOp, ok.h.eval hx, ok.h.eval hy]
  simp [eqGuard, binOp, h1, go_sem]
class TUns (P : Program) (T : TypeId) : Prop where h : P.underlying T = some .unsafePointer
theorem pv_tou {e b o : Nat} {l : List Value} {tt : TypeId} {fz : Nat × Nat} [h1 : TPtr P t e] [h2 : TUns P t'] [h3 : TAgg P e 2] (hx : opd fr x = some (.pointer (some ⟨b, o, none⟩))) (hs : hp.Perm (.ob b (.cells l.toArray tt fz) :: F)) (ho : Nat.ble (o + 1) l.length = true) :
    Pv P ⟨fr, hp, ro⟩ (.convert t t' x) (.pointer (some ⟨b, o, none⟩)) := fun N E ac w dst ty pos af g ok => by
  obtain ⟨d, i, h4, h5, h6, _⟩ := agg_und h3.h
  have hc : w.heap[b]? = some (.cells l.toArray tt fz) := ok.s.get hs
  have := Lib.run_to_unsafe (P := P) (w := w) (e := tt) (cells := l.length) ⟨b, o, none⟩ h1.h h2.h h5 (by omega) (by simp [World.shape?, hc]) (Nat.le_of_ble_eq_true ho)
  simp only [execOp, ok.h.eval hx, Sem.run_bind, this, Result.andThen_ok]; rfl
theorem pv_fromu {e b o : Nat} {l : List Value} {tt : TypeId} {fz : Nat × Nat} [h1 : TUns P t] [h2 : TPtr P t' e] [h3 : TAgg P e 2] (hx : opd fr x = some (.pointer (some ⟨b, o, none⟩))) (hs : hp.Perm (.ob b (.cells l.toArray tt fz) :: F)) (ho : liesAt P P.depth tt (l.length / P.cellsOf tt) o e 1 = true) :
    Pv P ⟨fr, hp, ro⟩ (.convert t t' x) (.pointer (some ⟨b, o, none⟩)) := fun N E ac w dst ty pos af g ok => by
  obtain ⟨d, i, h4, h5, h6, _⟩ := agg_und h3.h
  have hc : w.heap[b]? = some (.cells l.toArray tt fz) := ok.s.get hs
  have := Lib.run_from_unsafe (P := P) (w := w) (e := tt) (cells := l.length) ⟨b, o, none⟩ h1.h h2.h h5 (by simp [World.shape?, hc]) ho
  simp only [execOp, ok.h.eval hx, Sem.run_bind, this, Result.andThen_ok]; rfl
theorem pv_ext {f : FuncId} {fn : Func} {e : Array Value → Sem Value} {ats : Array TypeId} (hf : P.funcs[f]? = some fn) (hname : (fn.name == "runtime.NumGoroutine") = false) (hb : fn.body.isNone = true) (hn : Extern.findNext fn = none) (he : Extern.find fn = some e)
    (hx : opd fr x = some v) (hv : ∀ w, (e #[v]).run P w = .ok v w) : Pv P ⟨fr, hp, ro⟩ (.call ⟨.value (.func f), #[x], ats⟩) v := fun N E ac w dst ty pos af g ok => by
  have h1 := run_callFunc_extern (P := P) hf hname hb hn he #[v] w
  rw [hv w] at h1
  simp only [execOp, resolve, List.map_toArray, List.map_cons, List.map_nil, ok.h.eval hx]
  simp [Deferred.ofValue, Act.eval, invoke, h1, go_sem]
theorem pv_sld {b o n c : Nat} {ats : Array TypeId} (hx : opd fr x = some (.slice (some ⟨b, o, none⟩) n c)) (hc : 0 < c) : Pv P ⟨fr, hp, ro⟩ (.call ⟨.builtin .unsafeSliceData, #[x], ats⟩) (.pointer (some ⟨b, o, none⟩)) := fun N E ac w dst ty pos af g ok => by
  have := Lib.run_unsafeSliceData_row (P := P) w ats ty ⟨b, o, none⟩ n c (by omega)
  simp only [execOp, resolve, List.map_toArray, List.map_cons, List.map_nil, ok.h.eval hx]
  simp [invoke, builtin, this, go_sem]
theorem pv_sld0 {ats : Array TypeId} (hx : opd fr x = some (.slice none 0 0)) : Pv P ⟨fr, hp, ro⟩ (.call ⟨.builtin .unsafeSliceData, #[x], ats⟩) (.pointer none) := fun N E ac w dst ty pos af g ok => by
  have := Lib.run_unsafeSliceData_nil (P := P) w ats ty 0 0
  simp only [execOp, resolve, List.map_toArray, List.map_cons, List.map_nil, ok.h.eval hx]
  simp [invoke, builtin, this, go_sem]
theorem pv_ustr0 {t1 t2 : TypeId} (hx : opd fr x = some (.pointer none)) (hy : opd fr y = some (.int .i64 0)) : Pv P ⟨fr, hp, ro⟩ (.call ⟨.builtin .unsafeString, #[x, y], #[t1, t2]⟩) (.string .empty) := fun N E ac w dst ty pos af g ok => by
  have := Lib.run_unsafeString_none (P := P) w t1 t2 ty none
  simp only [execOp, resolve, List.map_toArray, List.map_cons, List.map_nil, ok.h.eval hx, ok.h.eval hy]
  simp [invoke, builtin, this, go_sem]
/-- the bytes of a buffer, as a string; the buffer is nobody's any more -/
theorem wo_ustr {d e b c : Nat} {s : ByteArray} {t1 t2 : TypeId} [h1 : TPtr P t1 e] [h2 : TInt P e .u8] (hc : P.cellsOf e = 1) (hx : opd fr x = some (.pointer (some ⟨b, 0, none⟩))) (hy : opd fr y = some (.int .i64 s.size)) (hs : hp.Perm (.own e 1 (some ⟨b, 0, none⟩) s.size c (brows s) :: F)) (h0 : 0 < s.size) (hd : Nat.ble (d + 1) N = true)
    (h : WO P N E ops rest ⟨(d, .string s) :: fr, F, ro⟩ Kn) : WO P N E ops (⟨some d, .call ⟨.builtin .unsafeString, #[x, y], #[t1, t2]⟩, ty, pos, af, none⟩ :: rest) ⟨fr, hp, ro⟩ Kn :=
  wo_eff (L := [_]) hs hd fun a w ok => by
    have hO : OwnSat w e 1 (some ⟨b, 0, none⟩) s.size c (brows s) := ok.s.get hs
    obtain ⟨_, cur, hcur, hfit, hseg⟩ := hO.at_ _ rfl
    simp only at hcur hfit hseg
    have hle := hO.le
    have hm := hO.max
    have hl : s.data.toList.length = s.size := by first | (simp; done) | (simp; rfl)
    have hr := Lib.run_unsafeString_row (P := P) w t1 t2 ty e h1.h hc b cur.size (by simp [World.shape?, hcur]) s.data.toList (by intro e0; rw [e0] at hl; simp at hl; omega) (by rw [hl]; omega) (by rw [hl]; unfold maxLen at hm; omega)
      (fun j v hj => by
        rw [Addr.add_lit]
        simp only [World.cell?, hcur]
        refine hseg j _ ?_
        rw [brows_flat]
        simp [Lib.strCells] at hj ⊢
        exact ⟨v, hj, rfl⟩)
    rw [hl] at hr
    refine ⟨.string s, [], w.freeze ⟨b, 0, none⟩ s.size, ?_, ?_, by simpa [putF] using h⟩
    · simp only [execOp, resolve, List.map_toArray, List.map_cons, List.map_nil, ok.h.eval hx, ok.h.eval hy]
      simp [invoke, builtin, hr, go_sem]
    · have hfz := Lib.below_freeze (B := 0) (Below.refl 0 w) (p := ⟨b, 0, none⟩) (Nat.zero_le _) s.size
      refine ⟨⟨?_, ?_, ?_, ?_, fun k hk hn => ?_⟩, (by intro x hx; cases hx), (by intro x hx; cases hx), .nil, (by intro r hr; cases hr), (by intro r hr; cases hr), (by intro r hr; cases hr)⟩
      · unfold World.freeze; split <;> rfl
      · unfold World.freeze; split <;> rfl
      · unfold World.freeze; split <;> rfl
      · unfold World.freeze; split <;> simp
      · have hne : b ≠ k := fun e0 => hn (by simp [feet, It.foot, e0])
        unfold World.freeze
        split
        · rfl
        · simp [Array.getElem?_modify, hne]
theorem pv_cs_lo {s : ByteArray} {z : Int} {lo : Operand} [hT : TStr P T] (hx : opd fr x = some (.string s)) (hl : opd fr lo = some (.int k z)) (h : 0 ≤ z ∧ z ≤ s.size) : Pv P ⟨fr, hp, ro⟩ (.slice T x (some lo) none none) (.string (s.extract z.toNat s.size)) :=
  pv_cut_s hx (.lo hl (by omega) (by omega))
theorem pv_cs_hi {s : ByteArray} {z : Int} {hi : Operand} [hT : TStr P T] (hx : opd fr x = some (.string s)) (hl : opd fr hi = some (.int k z)) (h : 0 ≤ z ∧ z ≤ s.size) : Pv P ⟨fr, hp, ro⟩ (.slice T x none (some hi) none) (.string (s.extract 0 z.toNat)) :=
  pv_cut_s hx (.hi hl (by omega) (by omega))
end
end Go.Proofs.Ytlhlidmhlhodiaa

/-
  What the types and functions of this seat's program are, as instances. (Written by wip/tools/types.py.)
-/
namespace Go.Proofs.Ytlhlidmhlhodiaa
set_option linter.unusedVariables false

instance : TOne Try.prog 2 := ⟨by kernel_rfl⟩
instance : TInt Try.prog 2 .i64 := ⟨by kernel_rfl⟩
instance : TZV Try.prog 2 (.int .i64 0) := ⟨by kernel_rfl⟩
instance : TZ Try.prog 2 [.int .i64 0] := ⟨by kernel_rfl⟩
instance : TOne Try.prog 3 := ⟨by kernel_rfl⟩
instance : TInt Try.prog 3 .i64 := ⟨by kernel_rfl⟩
instance : TZV Try.prog 3 (.int .i64 0) := ⟨by kernel_rfl⟩
instance : TZ Try.prog 3 [.int .i64 0] := ⟨by kernel_rfl⟩
instance : TOne Try.prog 4 := ⟨by kernel_rfl⟩
instance : TBool Try.prog 4 := ⟨by kernel_rfl⟩
instance : TZV Try.prog 4 (.bool false) := ⟨by kernel_rfl⟩
instance : TZ Try.prog 4 [.bool false] := ⟨by kernel_rfl⟩
instance : TOne Try.prog 5 := ⟨by kernel_rfl⟩
instance : TInt Try.prog 5 .u8 := ⟨by kernel_rfl⟩
instance : TZV Try.prog 5 (.int .u8 0) := ⟨by kernel_rfl⟩
instance : TZ Try.prog 5 [.int .u8 0] := ⟨by kernel_rfl⟩
instance : TOne Try.prog 9 := ⟨by kernel_rfl⟩
instance : TStr Try.prog 9 := ⟨by kernel_rfl⟩
instance : TZV Try.prog 9 (.string ByteArray.empty) := ⟨by kernel_rfl⟩
instance : TZ Try.prog 9 [.string ByteArray.empty] := ⟨by kernel_rfl⟩
instance : TOne Try.prog 12 := ⟨by kernel_rfl⟩
instance : TInt Try.prog 12 .u64 := ⟨by kernel_rfl⟩
instance : TZV Try.prog 12 (.int .u64 0) := ⟨by kernel_rfl⟩
instance : TZ Try.prog 12 [.int .u64 0] := ⟨by kernel_rfl⟩
instance : TAgg Try.prog 13 2 := ⟨by kernel_rfl⟩
instance : TSt Try.prog 13 := ⟨by kernel_rfl⟩
instance : FS Try.prog 13 0 0 1 := ⟨by kernel_rfl⟩
instance : FS Try.prog 13 1 1 1 := ⟨by kernel_rfl⟩
instance : TZ Try.prog 13 [.string ByteArray.empty, .int .u64 0] := ⟨by kernel_rfl⟩
instance : TOne Try.prog 20 := ⟨by kernel_rfl⟩
instance : TZ Try.prog 20 [.nilIface] := ⟨by kernel_rfl⟩
instance : TOne Try.prog 21 := ⟨by kernel_rfl⟩
instance : TInt Try.prog 21 .i32 := ⟨by kernel_rfl⟩
instance : TZV Try.prog 21 (.int .i32 0) := ⟨by kernel_rfl⟩
instance : TZ Try.prog 21 [.int .i32 0] := ⟨by kernel_rfl⟩
instance : TAgg Try.prog 22 9 := ⟨by kernel_rfl⟩
instance : TSt Try.prog 22 := ⟨by kernel_rfl⟩
instance : FS Try.prog 22 0 0 1 := ⟨by kernel_rfl⟩
instance : FS Try.prog 22 1 1 1 := ⟨by kernel_rfl⟩
instance : FS Try.prog 22 2 2 1 := ⟨by kernel_rfl⟩
instance : FS Try.prog 22 3 3 1 := ⟨by kernel_rfl⟩
instance : FS Try.prog 22 4 4 1 := ⟨by kernel_rfl⟩
instance : FS Try.prog 22 5 5 1 := ⟨by kernel_rfl⟩
instance : FS Try.prog 22 6 6 1 := ⟨by kernel_rfl⟩
instance : FS Try.prog 22 7 7 1 := ⟨by kernel_rfl⟩
instance : FS Try.prog 22 8 8 1 := ⟨by kernel_rfl⟩
instance : TZ Try.prog 22 [.bool false, .bool false, .int .i64 0, .int .i64 0, .bool false, .int .i64 0, .int .i64 0, .bool false, .int .i64 0] := ⟨by kernel_rfl⟩
instance : TAgg Try.prog 23 9 := ⟨by kernel_rfl⟩
instance : TSt Try.prog 23 := ⟨by kernel_rfl⟩
instance : FS Try.prog 23 0 0 1 := ⟨by kernel_rfl⟩
instance : FS Try.prog 23 1 1 1 := ⟨by kernel_rfl⟩
instance : FS Try.prog 23 2 2 1 := ⟨by kernel_rfl⟩
instance : FS Try.prog 23 3 3 1 := ⟨by kernel_rfl⟩
instance : FS Try.prog 23 4 4 1 := ⟨by kernel_rfl⟩
instance : FS Try.prog 23 5 5 1 := ⟨by kernel_rfl⟩
instance : FS Try.prog 23 6 6 1 := ⟨by kernel_rfl⟩
instance : FS Try.prog 23 7 7 1 := ⟨by kernel_rfl⟩
instance : FS Try.prog 23 8 8 1 := ⟨by kernel_rfl⟩
instance : TZ Try.prog 23 [.bool false, .bool false, .int .i64 0, .int .i64 0, .bool false, .int .i64 0, .int .i64 0, .bool false, .int .i64 0] := ⟨by kernel_rfl⟩
instance : TOne Try.prog 24 := ⟨by kernel_rfl⟩
instance : TInt Try.prog 24 .u16 := ⟨by kernel_rfl⟩
instance : TZV Try.prog 24 (.int .u16 0) := ⟨by kernel_rfl⟩
instance : TZ Try.prog 24 [.int .u16 0] := ⟨by kernel_rfl⟩
instance : TOne Try.prog 27 := ⟨by kernel_rfl⟩
instance : TInt Try.prog 27 .i64 := ⟨by kernel_rfl⟩
instance : TZV Try.prog 27 (.int .i64 0) := ⟨by kernel_rfl⟩
instance : TZ Try.prog 27 [.int .i64 0] := ⟨by kernel_rfl⟩
instance : TOne Try.prog 30 := ⟨by kernel_rfl⟩
instance : TInt Try.prog 30 .u32 := ⟨by kernel_rfl⟩
instance : TZV Try.prog 30 (.int .u32 0) := ⟨by kernel_rfl⟩
instance : TZ Try.prog 30 [.int .u32 0] := ⟨by kernel_rfl⟩
instance : TOne Try.prog 31 := ⟨by kernel_rfl⟩
instance : TSl Try.prog 31 30 1 4 := ⟨by kernel_rfl⟩
instance : TZ Try.prog 31 [.slice none 0 0] := ⟨by kernel_rfl⟩
instance : TAgg Try.prog 32 11 := ⟨by kernel_rfl⟩
instance : TSt Try.prog 32 := ⟨by kernel_rfl⟩
instance : FS Try.prog 32 0 0 1 := ⟨by kernel_rfl⟩
instance : FS Try.prog 32 1 1 1 := ⟨by kernel_rfl⟩
instance : FS Try.prog 32 2 2 1 := ⟨by kernel_rfl⟩
instance : FS Try.prog 32 3 3 1 := ⟨by kernel_rfl⟩
instance : FS Try.prog 32 4 4 1 := ⟨by kernel_rfl⟩
instance : FS Try.prog 32 5 5 1 := ⟨by kernel_rfl⟩
instance : FS Try.prog 32 6 6 1 := ⟨by kernel_rfl⟩
instance : FS Try.prog 32 7 7 1 := ⟨by kernel_rfl⟩
instance : FS Try.prog 32 8 8 1 := ⟨by kernel_rfl⟩
instance : FS Try.prog 32 9 9 1 := ⟨by kernel_rfl⟩
instance : FS Try.prog 32 10 10 1 := ⟨by kernel_rfl⟩
instance : TZ Try.prog 32 [.bool false, .int .u8 0, .int .u16 0, .int .u32 0, .int .u32 0, .slice none 0 0, .bool false, .int .u16 0, .string ByteArray.empty, .string ByteArray.empty, .int .i64 0] := ⟨by kernel_rfl⟩
instance : TAgg Try.prog 33 11 := ⟨by kernel_rfl⟩
instance : TSt Try.prog 33 := ⟨by kernel_rfl⟩
instance : FS Try.prog 33 0 0 1 := ⟨by kernel_rfl⟩
instance : FS Try.prog 33 1 1 1 := ⟨by kernel_rfl⟩
instance : FS Try.prog 33 2 2 1 := ⟨by kernel_rfl⟩
instance : FS Try.prog 33 3 3 1 := ⟨by kernel_rfl⟩
instance : FS Try.prog 33 4 4 1 := ⟨by kernel_rfl⟩
instance : FS Try.prog 33 5 5 1 := ⟨by kernel_rfl⟩
instance : FS Try.prog 33 6 6 1 := ⟨by kernel_rfl⟩
instance : FS Try.prog 33 7 7 1 := ⟨by kernel_rfl⟩
instance : FS Try.prog 33 8 8 1 := ⟨by kernel_rfl⟩
instance : FS Try.prog 33 9 9 1 := ⟨by kernel_rfl⟩
instance : FS Try.prog 33 10 10 1 := ⟨by kernel_rfl⟩
instance : TZ Try.prog 33 [.bool false, .int .u8 0, .int .u16 0, .int .u32 0, .int .u32 0, .slice none 0 0, .bool false, .int .u16 0, .string ByteArray.empty, .string ByteArray.empty, .int .i64 0] := ⟨by kernel_rfl⟩
instance : TOne Try.prog 40 := ⟨by kernel_rfl⟩
instance : TSl Try.prog 40 4 1 1 := ⟨by kernel_rfl⟩
instance : TZ Try.prog 40 [.slice none 0 0] := ⟨by kernel_rfl⟩
instance : TOne Try.prog 41 := ⟨by kernel_rfl⟩
instance : TPtr Try.prog 41 164 := ⟨by kernel_rfl⟩
instance : TZ Try.prog 41 [.pointer none] := ⟨by kernel_rfl⟩
instance : TOne Try.prog 43 := ⟨by kernel_rfl⟩
instance : TPtr Try.prog 43 166 := ⟨by kernel_rfl⟩
instance : TZ Try.prog 43 [.pointer none] := ⟨by kernel_rfl⟩
instance : TAgg Try.prog 46 2 := ⟨by kernel_rfl⟩
instance : TSt Try.prog 46 := ⟨by kernel_rfl⟩
instance : FS Try.prog 46 0 0 1 := ⟨by kernel_rfl⟩
instance : FS Try.prog 46 1 1 1 := ⟨by kernel_rfl⟩
instance : TZ Try.prog 46 [.int .i64 0, .int .i64 0] := ⟨by kernel_rfl⟩
instance : TAgg Try.prog 47 2 := ⟨by kernel_rfl⟩
instance : TSt Try.prog 47 := ⟨by kernel_rfl⟩
instance : FS Try.prog 47 0 0 1 := ⟨by kernel_rfl⟩
instance : FS Try.prog 47 1 1 1 := ⟨by kernel_rfl⟩
instance : TZ Try.prog 47 [.int .i64 0, .int .i64 0] := ⟨by kernel_rfl⟩
instance : TOne Try.prog 54 := ⟨by kernel_rfl⟩
instance : TPtr Try.prog 54 169 := ⟨by kernel_rfl⟩
instance : TZ Try.prog 54 [.pointer none] := ⟨by kernel_rfl⟩
instance : TOne Try.prog 57 := ⟨by kernel_rfl⟩
instance : TPtr Try.prog 57 173 := ⟨by kernel_rfl⟩
instance : TZ Try.prog 57 [.pointer none] := ⟨by kernel_rfl⟩
instance : TAgg Try.prog 60 3 := ⟨by kernel_rfl⟩
instance : TSt Try.prog 60 := ⟨by kernel_rfl⟩
instance : FS Try.prog 60 0 0 1 := ⟨by kernel_rfl⟩
instance : FS Try.prog 60 1 1 1 := ⟨by kernel_rfl⟩
instance : FS Try.prog 60 2 2 1 := ⟨by kernel_rfl⟩
instance : TZ Try.prog 60 [.int .i64 0, .int .i64 0, .int .i64 0] := ⟨by kernel_rfl⟩
instance : TAgg Try.prog 61 3 := ⟨by kernel_rfl⟩
instance : TSt Try.prog 61 := ⟨by kernel_rfl⟩
instance : FS Try.prog 61 0 0 1 := ⟨by kernel_rfl⟩
instance : FS Try.prog 61 1 1 1 := ⟨by kernel_rfl⟩
instance : FS Try.prog 61 2 2 1 := ⟨by kernel_rfl⟩
instance : TZ Try.prog 61 [.int .i64 0, .int .i64 0, .int .i64 0] := ⟨by kernel_rfl⟩
instance : TOne Try.prog 66 := ⟨by kernel_rfl⟩
instance : TSl Try.prog 66 179 1 16 := ⟨by kernel_rfl⟩
instance : TZ Try.prog 66 [.slice none 0 0] := ⟨by kernel_rfl⟩
instance : TOne Try.prog 70 := ⟨by kernel_rfl⟩
instance : TSl Try.prog 70 24 1 2 := ⟨by kernel_rfl⟩
instance : TZ Try.prog 70 [.slice none 0 0] := ⟨by kernel_rfl⟩
instance : TOne Try.prog 72 := ⟨by kernel_rfl⟩
instance : TSl Try.prog 72 186 2 4 := ⟨by kernel_rfl⟩
instance : TZ Try.prog 72 [.slice none 0 0] := ⟨by kernel_rfl⟩
instance : TAgg Try.prog 74 3 := ⟨by kernel_rfl⟩
instance : TSt Try.prog 74 := ⟨by kernel_rfl⟩
instance : FS Try.prog 74 0 0 1 := ⟨by kernel_rfl⟩
instance : FS Try.prog 74 1 1 1 := ⟨by kernel_rfl⟩
instance : FS Try.prog 74 2 2 1 := ⟨by kernel_rfl⟩
instance : TZ Try.prog 74 [.int .u32 0, .int .u32 0, .slice none 0 0] := ⟨by kernel_rfl⟩
instance : TAgg Try.prog 75 3 := ⟨by kernel_rfl⟩
instance : TSt Try.prog 75 := ⟨by kernel_rfl⟩
instance : FS Try.prog 75 0 0 1 := ⟨by kernel_rfl⟩
instance : FS Try.prog 75 1 1 1 := ⟨by kernel_rfl⟩
instance : FS Try.prog 75 2 2 1 := ⟨by kernel_rfl⟩
instance : TZ Try.prog 75 [.int .u32 0, .int .u32 0, .slice none 0 0] := ⟨by kernel_rfl⟩
instance : TAgg Try.prog 76 2 := ⟨by kernel_rfl⟩
instance : TSt Try.prog 76 := ⟨by kernel_rfl⟩
instance : FS Try.prog 76 0 0 1 := ⟨by kernel_rfl⟩
instance : FS Try.prog 76 1 1 1 := ⟨by kernel_rfl⟩
instance : TZ Try.prog 76 [.int .u32 0, .int .u32 0] := ⟨by kernel_rfl⟩
instance : TAgg Try.prog 77 2 := ⟨by kernel_rfl⟩
instance : TSt Try.prog 77 := ⟨by kernel_rfl⟩
instance : FS Try.prog 77 0 0 1 := ⟨by kernel_rfl⟩
instance : FS Try.prog 77 1 1 1 := ⟨by kernel_rfl⟩
instance : TZ Try.prog 77 [.int .u32 0, .int .u32 0] := ⟨by kernel_rfl⟩
instance : TOne Try.prog 78 := ⟨by kernel_rfl⟩
instance : TInt Try.prog 78 .u64 := ⟨by kernel_rfl⟩
instance : TZV Try.prog 78 (.int .u64 0) := ⟨by kernel_rfl⟩
instance : TZ Try.prog 78 [.int .u64 0] := ⟨by kernel_rfl⟩
instance : TAgg Try.prog 79 4 := ⟨by kernel_rfl⟩
instance : TSt Try.prog 79 := ⟨by kernel_rfl⟩
instance : FS Try.prog 79 0 0 1 := ⟨by kernel_rfl⟩
instance : FS Try.prog 79 1 1 1 := ⟨by kernel_rfl⟩
instance : FS Try.prog 79 2 2 1 := ⟨by kernel_rfl⟩
instance : FS Try.prog 79 3 3 1 := ⟨by kernel_rfl⟩
instance : TZ Try.prog 79 [.slice none 0 0, .bool false, .int .u64 0, .bool false] := ⟨by kernel_rfl⟩
instance : TAgg Try.prog 80 4 := ⟨by kernel_rfl⟩
instance : TSt Try.prog 80 := ⟨by kernel_rfl⟩
instance : FS Try.prog 80 0 0 1 := ⟨by kernel_rfl⟩
instance : FS Try.prog 80 1 1 1 := ⟨by kernel_rfl⟩
instance : FS Try.prog 80 2 2 1 := ⟨by kernel_rfl⟩
instance : FS Try.prog 80 3 3 1 := ⟨by kernel_rfl⟩
instance : TZ Try.prog 80 [.slice none 0 0, .bool false, .int .u64 0, .bool false] := ⟨by kernel_rfl⟩
instance : TOne Try.prog 82 := ⟨by kernel_rfl⟩
instance : TMap Try.prog 82 24 3 := ⟨by kernel_rfl⟩
instance : TZ Try.prog 82 [.map none] := ⟨by kernel_rfl⟩
instance : TOne Try.prog 85 := ⟨by kernel_rfl⟩
instance : TSl Try.prog 85 3 1 8 := ⟨by kernel_rfl⟩
instance : TZ Try.prog 85 [.slice none 0 0] := ⟨by kernel_rfl⟩
instance : TOne Try.prog 86 := ⟨by kernel_rfl⟩
instance : TPtr Try.prog 86 210 := ⟨by kernel_rfl⟩
instance : TZ Try.prog 86 [.pointer none] := ⟨by kernel_rfl⟩
instance : TAgg Try.prog 89 2 := ⟨by kernel_rfl⟩
instance : TSt Try.prog 89 := ⟨by kernel_rfl⟩
instance : FS Try.prog 89 0 0 1 := ⟨by kernel_rfl⟩
instance : FS Try.prog 89 1 1 1 := ⟨by kernel_rfl⟩
instance : TZ Try.prog 89 [.int .i64 0, .int .i64 0] := ⟨by kernel_rfl⟩
instance : TAgg Try.prog 90 2 := ⟨by kernel_rfl⟩
instance : TSt Try.prog 90 := ⟨by kernel_rfl⟩
instance : FS Try.prog 90 0 0 1 := ⟨by kernel_rfl⟩
instance : FS Try.prog 90 1 1 1 := ⟨by kernel_rfl⟩
instance : TZ Try.prog 90 [.int .i64 0, .int .i64 0] := ⟨by kernel_rfl⟩
instance : TAgg Try.prog 91 4 := ⟨by kernel_rfl⟩
instance : TSt Try.prog 91 := ⟨by kernel_rfl⟩
instance : FS Try.prog 91 0 0 1 := ⟨by kernel_rfl⟩
instance : FS Try.prog 91 1 1 1 := ⟨by kernel_rfl⟩
instance : FS Try.prog 91 2 2 1 := ⟨by kernel_rfl⟩
instance : FS Try.prog 91 3 3 1 := ⟨by kernel_rfl⟩
instance : TZ Try.prog 91 [.bool false, .int .i64 0, .int .i64 0, .int .i64 0] := ⟨by kernel_rfl⟩
instance : TAgg Try.prog 92 4 := ⟨by kernel_rfl⟩
instance : TSt Try.prog 92 := ⟨by kernel_rfl⟩
instance : FS Try.prog 92 0 0 1 := ⟨by kernel_rfl⟩
instance : FS Try.prog 92 1 1 1 := ⟨by kernel_rfl⟩
instance : FS Try.prog 92 2 2 1 := ⟨by kernel_rfl⟩
instance : FS Try.prog 92 3 3 1 := ⟨by kernel_rfl⟩
instance : TZ Try.prog 92 [.bool false, .int .i64 0, .int .i64 0, .int .i64 0] := ⟨by kernel_rfl⟩
instance : TAgg Try.prog 93 6 := ⟨by kernel_rfl⟩
instance : TSt Try.prog 93 := ⟨by kernel_rfl⟩
instance : FS Try.prog 93 0 0 2 := ⟨by kernel_rfl⟩
instance : FS Try.prog 93 1 2 4 := ⟨by kernel_rfl⟩
instance : TZ Try.prog 93 [.int .i64 0, .int .i64 0, .bool false, .int .i64 0, .int .i64 0, .int .i64 0] := ⟨by kernel_rfl⟩
instance : TAgg Try.prog 94 6 := ⟨by kernel_rfl⟩
instance : TSt Try.prog 94 := ⟨by kernel_rfl⟩
instance : FS Try.prog 94 0 0 2 := ⟨by kernel_rfl⟩
instance : FS Try.prog 94 1 2 4 := ⟨by kernel_rfl⟩
instance : TZ Try.prog 94 [.int .i64 0, .int .i64 0, .bool false, .int .i64 0, .int .i64 0, .int .i64 0] := ⟨by kernel_rfl⟩
instance : TOne Try.prog 95 := ⟨by kernel_rfl⟩
instance : TSl Try.prog 95 33 11 88 := ⟨by kernel_rfl⟩
instance : TZ Try.prog 95 [.slice none 0 0] := ⟨by kernel_rfl⟩
instance : TOne Try.prog 97 := ⟨by kernel_rfl⟩
instance : TMap Try.prog 97 3 3 := ⟨by kernel_rfl⟩
instance : TZ Try.prog 97 [.map none] := ⟨by kernel_rfl⟩
instance : TOne Try.prog 98 := ⟨by kernel_rfl⟩
instance : TSl Try.prog 98 104 1 24 := ⟨by kernel_rfl⟩
instance : TZ Try.prog 98 [.slice none 0 0] := ⟨by kernel_rfl⟩
instance : TOne Try.prog 102 := ⟨by kernel_rfl⟩
instance : TSl Try.prog 102 106 7 48 := ⟨by kernel_rfl⟩
instance : TZ Try.prog 102 [.slice none 0 0] := ⟨by kernel_rfl⟩
instance : TAgg Try.prog 103 1 := ⟨by kernel_rfl⟩
instance : TSt Try.prog 103 := ⟨by kernel_rfl⟩
instance : FS Try.prog 103 0 0 1 := ⟨by kernel_rfl⟩
instance : TZ Try.prog 103 [.slice none 0 0] := ⟨by kernel_rfl⟩
instance : TAgg Try.prog 104 1 := ⟨by kernel_rfl⟩
instance : TSt Try.prog 104 := ⟨by kernel_rfl⟩
instance : FS Try.prog 104 0 0 1 := ⟨by kernel_rfl⟩
instance : TZ Try.prog 104 [.slice none 0 0] := ⟨by kernel_rfl⟩
instance : TAgg Try.prog 105 7 := ⟨by kernel_rfl⟩
instance : TSt Try.prog 105 := ⟨by kernel_rfl⟩
instance : FS Try.prog 105 0 0 1 := ⟨by kernel_rfl⟩
instance : FS Try.prog 105 1 1 1 := ⟨by kernel_rfl⟩
instance : FS Try.prog 105 2 2 1 := ⟨by kernel_rfl⟩
instance : FS Try.prog 105 3 3 1 := ⟨by kernel_rfl⟩
instance : FS Try.prog 105 4 4 1 := ⟨by kernel_rfl⟩
instance : FS Try.prog 105 5 5 1 := ⟨by kernel_rfl⟩
instance : FS Try.prog 105 6 6 1 := ⟨by kernel_rfl⟩
instance : TZ Try.prog 105 [.int .i64 0, .int .i64 0, .bool false, .bool false, .bool false, .string ByteArray.empty, .int .i64 0] := ⟨by kernel_rfl⟩
instance : TAgg Try.prog 106 7 := ⟨by kernel_rfl⟩
instance : TSt Try.prog 106 := ⟨by kernel_rfl⟩
instance : FS Try.prog 106 0 0 1 := ⟨by kernel_rfl⟩
instance : FS Try.prog 106 1 1 1 := ⟨by kernel_rfl⟩
instance : FS Try.prog 106 2 2 1 := ⟨by kernel_rfl⟩
instance : FS Try.prog 106 3 3 1 := ⟨by kernel_rfl⟩
instance : FS Try.prog 106 4 4 1 := ⟨by kernel_rfl⟩
instance : FS Try.prog 106 5 5 1 := ⟨by kernel_rfl⟩
instance : FS Try.prog 106 6 6 1 := ⟨by kernel_rfl⟩
instance : TZ Try.prog 106 [.int .i64 0, .int .i64 0, .bool false, .bool false, .bool false, .string ByteArray.empty, .int .i64 0] := ⟨by kernel_rfl⟩
instance : TOne Try.prog 108 := ⟨by kernel_rfl⟩
instance : TPtr Try.prog 108 223 := ⟨by kernel_rfl⟩
instance : TZ Try.prog 108 [.pointer none] := ⟨by kernel_rfl⟩
instance : TOne Try.prog 111 := ⟨by kernel_rfl⟩
instance : TPtr Try.prog 111 225 := ⟨by kernel_rfl⟩
instance : TZ Try.prog 111 [.pointer none] := ⟨by kernel_rfl⟩
instance : TOne Try.prog 113 := ⟨by kernel_rfl⟩
instance : TMap Try.prog 113 24 9 := ⟨by kernel_rfl⟩
instance : TZ Try.prog 113 [.map none] := ⟨by kernel_rfl⟩
instance : TOne Try.prog 116 := ⟨by kernel_rfl⟩
instance : TSl Try.prog 116 9 1 16 := ⟨by kernel_rfl⟩
instance : TZ Try.prog 116 [.slice none 0 0] := ⟨by kernel_rfl⟩
instance : TOne Try.prog 120 := ⟨by kernel_rfl⟩
instance : TPtr Try.prog 120 240 := ⟨by kernel_rfl⟩
instance : TZ Try.prog 120 [.pointer none] := ⟨by kernel_rfl⟩
instance : TAgg Try.prog 123 5 := ⟨by kernel_rfl⟩
instance : TSt Try.prog 123 := ⟨by kernel_rfl⟩
instance : FS Try.prog 123 0 0 1 := ⟨by kernel_rfl⟩
instance : FS Try.prog 123 1 1 1 := ⟨by kernel_rfl⟩
instance : FS Try.prog 123 2 2 1 := ⟨by kernel_rfl⟩
instance : FS Try.prog 123 3 3 1 := ⟨by kernel_rfl⟩
instance : FS Try.prog 123 4 4 1 := ⟨by kernel_rfl⟩
instance : TZ Try.prog 123 [.int .i64 0, .int .i64 0, .int .i64 0, .int .i64 0, .int .i64 0] := ⟨by kernel_rfl⟩
instance : TAgg Try.prog 124 5 := ⟨by kernel_rfl⟩
instance : TSt Try.prog 124 := ⟨by kernel_rfl⟩
instance : FS Try.prog 124 0 0 1 := ⟨by kernel_rfl⟩
instance : FS Try.prog 124 1 1 1 := ⟨by kernel_rfl⟩
instance : FS Try.prog 124 2 2 1 := ⟨by kernel_rfl⟩
instance : FS Try.prog 124 3 3 1 := ⟨by kernel_rfl⟩
instance : FS Try.prog 124 4 4 1 := ⟨by kernel_rfl⟩
instance : TZ Try.prog 124 [.int .i64 0, .int .i64 0, .int .i64 0, .int .i64 0, .int .i64 0] := ⟨by kernel_rfl⟩
instance : TAr Try.prog 126 3 3 1 := ⟨by kernel_rfl⟩
instance : TAgg Try.prog 126 3 := ⟨by kernel_rfl⟩
instance : TZ Try.prog 126 [.int .i64 0, .int .i64 0, .int .i64 0] := ⟨by kernel_rfl⟩
instance : TOne Try.prog 129 := ⟨by kernel_rfl⟩
instance : TSl Try.prog 129 137 5 40 := ⟨by kernel_rfl⟩
instance : TZ Try.prog 129 [.slice none 0 0] := ⟨by kernel_rfl⟩
instance : TAgg Try.prog 132 4 := ⟨by kernel_rfl⟩
instance : TSt Try.prog 132 := ⟨by kernel_rfl⟩
instance : FS Try.prog 132 0 0 1 := ⟨by kernel_rfl⟩
instance : FS Try.prog 132 1 1 1 := ⟨by kernel_rfl⟩
instance : FS Try.prog 132 2 2 1 := ⟨by kernel_rfl⟩
instance : FS Try.prog 132 3 3 1 := ⟨by kernel_rfl⟩
instance : TZ Try.prog 132 [.int .i64 0, .int .i64 0, .int .i64 0, .bool false] := ⟨by kernel_rfl⟩
instance : TAgg Try.prog 133 4 := ⟨by kernel_rfl⟩
instance : TSt Try.prog 133 := ⟨by kernel_rfl⟩
instance : FS Try.prog 133 0 0 1 := ⟨by kernel_rfl⟩
instance : FS Try.prog 133 1 1 1 := ⟨by kernel_rfl⟩
instance : FS Try.prog 133 2 2 1 := ⟨by kernel_rfl⟩
instance : FS Try.prog 133 3 3 1 := ⟨by kernel_rfl⟩
instance : TZ Try.prog 133 [.int .i64 0, .int .i64 0, .int .i64 0, .bool false] := ⟨by kernel_rfl⟩
instance : TAgg Try.prog 136 5 := ⟨by kernel_rfl⟩
instance : TSt Try.prog 136 := ⟨by kernel_rfl⟩
instance : FS Try.prog 136 0 0 1 := ⟨by kernel_rfl⟩
instance : FS Try.prog 136 1 1 4 := ⟨by kernel_rfl⟩
instance : TZ Try.prog 136 [.int .i64 0, .int .i64 0, .int .i64 0, .int .i64 0, .bool false] := ⟨by kernel_rfl⟩
instance : TAgg Try.prog 137 5 := ⟨by kernel_rfl⟩
instance : TSt Try.prog 137 := ⟨by kernel_rfl⟩
instance : FS Try.prog 137 0 0 1 := ⟨by kernel_rfl⟩
instance : FS Try.prog 137 1 1 4 := ⟨by kernel_rfl⟩
instance : TZ Try.prog 137 [.int .i64 0, .int .i64 0, .int .i64 0, .int .i64 0, .bool false] := ⟨by kernel_rfl⟩
instance : TOne Try.prog 140 := ⟨by kernel_rfl⟩
instance : TPtr Try.prog 140 143 := ⟨by kernel_rfl⟩
instance : TZ Try.prog 140 [.pointer none] := ⟨by kernel_rfl⟩
instance : TOne Try.prog 141 := ⟨by kernel_rfl⟩
instance : TSl Try.prog 141 5 1 1 := ⟨by kernel_rfl⟩
instance : TZ Try.prog 141 [.slice none 0 0] := ⟨by kernel_rfl⟩
instance : TAgg Try.prog 142 2 := ⟨by kernel_rfl⟩
instance : TSt Try.prog 142 := ⟨by kernel_rfl⟩
instance : FS Try.prog 142 0 0 1 := ⟨by kernel_rfl⟩
instance : FS Try.prog 142 1 1 1 := ⟨by kernel_rfl⟩
instance : TZ Try.prog 142 [.pointer none, .slice none 0 0] := ⟨by kernel_rfl⟩
instance : TAgg Try.prog 143 2 := ⟨by kernel_rfl⟩
instance : TSt Try.prog 143 := ⟨by kernel_rfl⟩
instance : FS Try.prog 143 0 0 1 := ⟨by kernel_rfl⟩
instance : FS Try.prog 143 1 1 1 := ⟨by kernel_rfl⟩
instance : TZ Try.prog 143 [.pointer none, .slice none 0 0] := ⟨by kernel_rfl⟩
instance : TAgg Try.prog 144 2 := ⟨by kernel_rfl⟩
instance : TSt Try.prog 144 := ⟨by kernel_rfl⟩
instance : FS Try.prog 144 0 0 2 := ⟨by kernel_rfl⟩
instance : TZ Try.prog 144 [.pointer none, .slice none 0 0] := ⟨by kernel_rfl⟩
instance : TAgg Try.prog 145 2 := ⟨by kernel_rfl⟩
instance : TSt Try.prog 145 := ⟨by kernel_rfl⟩
instance : FS Try.prog 145 0 0 2 := ⟨by kernel_rfl⟩
instance : TZ Try.prog 145 [.pointer none, .slice none 0 0] := ⟨by kernel_rfl⟩
instance : TOne Try.prog 146 := ⟨by kernel_rfl⟩
instance : TPtr Try.prog 146 145 := ⟨by kernel_rfl⟩
instance : TZ Try.prog 146 [.pointer none] := ⟨by kernel_rfl⟩
instance : TOne Try.prog 150 := ⟨by kernel_rfl⟩
instance : TInt Try.prog 150 .u64 := ⟨by kernel_rfl⟩
instance : TZV Try.prog 150 (.int .u64 0) := ⟨by kernel_rfl⟩
instance : TZ Try.prog 150 [.int .u64 0] := ⟨by kernel_rfl⟩
instance : TOne Try.prog 151 := ⟨by kernel_rfl⟩
instance : TPtr Try.prog 151 260 := ⟨by kernel_rfl⟩
instance : TZ Try.prog 151 [.pointer none] := ⟨by kernel_rfl⟩
instance : TAgg Try.prog 163 7 := ⟨by kernel_rfl⟩
instance : TSt Try.prog 163 := ⟨by kernel_rfl⟩
instance : FS Try.prog 163 0 0 1 := ⟨by kernel_rfl⟩
instance : FS Try.prog 163 1 1 1 := ⟨by kernel_rfl⟩
instance : FS Try.prog 163 2 2 1 := ⟨by kernel_rfl⟩
instance : FS Try.prog 163 3 3 1 := ⟨by kernel_rfl⟩
instance : FS Try.prog 163 4 4 1 := ⟨by kernel_rfl⟩
instance : FS Try.prog 163 5 5 1 := ⟨by kernel_rfl⟩
instance : FS Try.prog 163 6 6 1 := ⟨by kernel_rfl⟩
instance : TZ Try.prog 163 [.bool false, .bool false, .int .i64 0, .int .i64 0, .bool false, .int .i64 0, .int .i64 0] := ⟨by kernel_rfl⟩
instance : TAgg Try.prog 164 7 := ⟨by kernel_rfl⟩
instance : TSt Try.prog 164 := ⟨by kernel_rfl⟩
instance : FS Try.prog 164 0 0 1 := ⟨by kernel_rfl⟩
instance : FS Try.prog 164 1 1 1 := ⟨by kernel_rfl⟩
instance : FS Try.prog 164 2 2 1 := ⟨by kernel_rfl⟩
instance : FS Try.prog 164 3 3 1 := ⟨by kernel_rfl⟩
instance : FS Try.prog 164 4 4 1 := ⟨by kernel_rfl⟩
instance : FS Try.prog 164 5 5 1 := ⟨by kernel_rfl⟩
instance : FS Try.prog 164 6 6 1 := ⟨by kernel_rfl⟩
instance : TZ Try.prog 164 [.bool false, .bool false, .int .i64 0, .int .i64 0, .bool false, .int .i64 0, .int .i64 0] := ⟨by kernel_rfl⟩
instance : TAgg Try.prog 165 6 := ⟨by kernel_rfl⟩
instance : TSt Try.prog 165 := ⟨by kernel_rfl⟩
instance : FS Try.prog 165 0 0 2 := ⟨by kernel_rfl⟩
instance : FS Try.prog 165 1 2 1 := ⟨by kernel_rfl⟩
instance : FS Try.prog 165 2 3 1 := ⟨by kernel_rfl⟩
instance : FS Try.prog 165 3 4 1 := ⟨by kernel_rfl⟩
instance : FS Try.prog 165 4 5 1 := ⟨by kernel_rfl⟩
instance : TZ Try.prog 165 [.int .i64 0, .int .i64 0, .bool false, .int .i64 0, .int .i64 0, .int .i64 0] := ⟨by kernel_rfl⟩
instance : TAgg Try.prog 166 6 := ⟨by kernel_rfl⟩
instance : TSt Try.prog 166 := ⟨by kernel_rfl⟩
instance : FS Try.prog 166 0 0 2 := ⟨by kernel_rfl⟩
instance : FS Try.prog 166 1 2 1 := ⟨by kernel_rfl⟩
instance : FS Try.prog 166 2 3 1 := ⟨by kernel_rfl⟩
instance : FS Try.prog 166 3 4 1 := ⟨by kernel_rfl⟩
instance : FS Try.prog 166 4 5 1 := ⟨by kernel_rfl⟩
instance : TZ Try.prog 166 [.int .i64 0, .int .i64 0, .bool false, .int .i64 0, .int .i64 0, .int .i64 0] := ⟨by kernel_rfl⟩
instance : TOne Try.prog 167 := ⟨by kernel_rfl⟩
instance : TSl Try.prog 167 175 2 16 := ⟨by kernel_rfl⟩
instance : TZ Try.prog 167 [.slice none 0 0] := ⟨by kernel_rfl⟩
instance : TAgg Try.prog 168 5 := ⟨by kernel_rfl⟩
instance : TSt Try.prog 168 := ⟨by kernel_rfl⟩
instance : FS Try.prog 168 0 0 1 := ⟨by kernel_rfl⟩
instance : FS Try.prog 168 1 1 1 := ⟨by kernel_rfl⟩
instance : FS Try.prog 168 2 2 1 := ⟨by kernel_rfl⟩
instance : FS Try.prog 168 3 3 1 := ⟨by kernel_rfl⟩
instance : FS Try.prog 168 4 4 1 := ⟨by kernel_rfl⟩
instance : TZ Try.prog 168 [.int .i64 0, .slice none 0 0, .int .i64 0, .int .i64 0, .int .i64 0] := ⟨by kernel_rfl⟩
instance : TAgg Try.prog 169 5 := ⟨by kernel_rfl⟩
instance : TSt Try.prog 169 := ⟨by kernel_rfl⟩
instance : FS Try.prog 169 0 0 1 := ⟨by kernel_rfl⟩
instance : FS Try.prog 169 1 1 1 := ⟨by kernel_rfl⟩
instance : FS Try.prog 169 2 2 1 := ⟨by kernel_rfl⟩
instance : FS Try.prog 169 3 3 1 := ⟨by kernel_rfl⟩
instance : FS Try.prog 169 4 4 1 := ⟨by kernel_rfl⟩
instance : TZ Try.prog 169 [.int .i64 0, .slice none 0 0, .int .i64 0, .int .i64 0, .int .i64 0] := ⟨by kernel_rfl⟩
instance : TAgg Try.prog 172 9 := ⟨by kernel_rfl⟩
instance : TSt Try.prog 172 := ⟨by kernel_rfl⟩
instance : FS Try.prog 172 0 0 3 := ⟨by kernel_rfl⟩
instance : FS Try.prog 172 1 3 1 := ⟨by kernel_rfl⟩
instance : FS Try.prog 172 2 4 1 := ⟨by kernel_rfl⟩
instance : FS Try.prog 172 3 5 1 := ⟨by kernel_rfl⟩
instance : FS Try.prog 172 4 6 1 := ⟨by kernel_rfl⟩
instance : FS Try.prog 172 5 7 1 := ⟨by kernel_rfl⟩
instance : FS Try.prog 172 6 8 1 := ⟨by kernel_rfl⟩
instance : TZ Try.prog 172 [.int .i64 0, .int .i64 0, .int .i64 0, .slice none 0 0, .int .i64 0, .int .i64 0, .int .i64 0, .int .i64 0, .int .i64 0] := ⟨by kernel_rfl⟩
instance : TAgg Try.prog 173 9 := ⟨by kernel_rfl⟩
instance : TSt Try.prog 173 := ⟨by kernel_rfl⟩
instance : FS Try.prog 173 0 0 3 := ⟨by kernel_rfl⟩
instance : FS Try.prog 173 1 3 1 := ⟨by kernel_rfl⟩
instance : FS Try.prog 173 2 4 1 := ⟨by kernel_rfl⟩
instance : FS Try.prog 173 3 5 1 := ⟨by kernel_rfl⟩
instance : FS Try.prog 173 4 6 1 := ⟨by kernel_rfl⟩
instance : FS Try.prog 173 5 7 1 := ⟨by kernel_rfl⟩
instance : FS Try.prog 173 6 8 1 := ⟨by kernel_rfl⟩
instance : TZ Try.prog 173 [.int .i64 0, .int .i64 0, .int .i64 0, .slice none 0 0, .int .i64 0, .int .i64 0, .int .i64 0, .int .i64 0, .int .i64 0] := ⟨by kernel_rfl⟩
instance : TAgg Try.prog 174 2 := ⟨by kernel_rfl⟩
instance : TSt Try.prog 174 := ⟨by kernel_rfl⟩
instance : FS Try.prog 174 0 0 1 := ⟨by kernel_rfl⟩
instance : FS Try.prog 174 1 1 1 := ⟨by kernel_rfl⟩
instance : TZ Try.prog 174 [.int .i64 0, .int .i64 0] := ⟨by kernel_rfl⟩
instance : TAgg Try.prog 175 2 := ⟨by kernel_rfl⟩
instance : TSt Try.prog 175 := ⟨by kernel_rfl⟩
instance : FS Try.prog 175 0 0 1 := ⟨by kernel_rfl⟩
instance : FS Try.prog 175 1 1 1 := ⟨by kernel_rfl⟩
instance : TZ Try.prog 175 [.int .i64 0, .int .i64 0] := ⟨by kernel_rfl⟩
instance : TOne Try.prog 178 := ⟨by kernel_rfl⟩
instance : TZ Try.prog 178 [.nilIface] := ⟨by kernel_rfl⟩
instance : TOne Try.prog 179 := ⟨by kernel_rfl⟩
instance : TZ Try.prog 179 [.nilIface] := ⟨by kernel_rfl⟩
instance : TAgg Try.prog 185 2 := ⟨by kernel_rfl⟩
instance : TSt Try.prog 185 := ⟨by kernel_rfl⟩
instance : FS Try.prog 185 0 0 1 := ⟨by kernel_rfl⟩
instance : FS Try.prog 185 1 1 1 := ⟨by kernel_rfl⟩
instance : TZ Try.prog 185 [.int .u16 0, .int .u16 0] := ⟨by kernel_rfl⟩
instance : TAgg Try.prog 186 2 := ⟨by kernel_rfl⟩
instance : TSt Try.prog 186 := ⟨by kernel_rfl⟩
instance : FS Try.prog 186 0 0 1 := ⟨by kernel_rfl⟩
instance : FS Try.prog 186 1 1 1 := ⟨by kernel_rfl⟩
instance : TZ Try.prog 186 [.int .u16 0, .int .u16 0] := ⟨by kernel_rfl⟩
instance : TOne Try.prog 188 := ⟨by kernel_rfl⟩
instance : TSl Try.prog 188 192 2 8 := ⟨by kernel_rfl⟩
instance : TZ Try.prog 188 [.slice none 0 0] := ⟨by kernel_rfl⟩
instance : TAgg Try.prog 189 2 := ⟨by kernel_rfl⟩
instance : TSt Try.prog 189 := ⟨by kernel_rfl⟩
instance : FS Try.prog 189 0 0 1 := ⟨by kernel_rfl⟩
instance : FS Try.prog 189 1 1 1 := ⟨by kernel_rfl⟩
instance : TZ Try.prog 189 [.int .u32 0, .slice none 0 0] := ⟨by kernel_rfl⟩
instance : TAgg Try.prog 190 2 := ⟨by kernel_rfl⟩
instance : TSt Try.prog 190 := ⟨by kernel_rfl⟩
instance : FS Try.prog 190 0 0 1 := ⟨by kernel_rfl⟩
instance : FS Try.prog 190 1 1 1 := ⟨by kernel_rfl⟩
instance : TZ Try.prog 190 [.int .u32 0, .slice none 0 0] := ⟨by kernel_rfl⟩
instance : TAgg Try.prog 191 2 := ⟨by kernel_rfl⟩
instance : TSt Try.prog 191 := ⟨by kernel_rfl⟩
instance : FS Try.prog 191 0 0 1 := ⟨by kernel_rfl⟩
instance : FS Try.prog 191 1 1 1 := ⟨by kernel_rfl⟩
instance : TZ Try.prog 191 [.int .u32 0, .int .u8 0] := ⟨by kernel_rfl⟩
instance : TAgg Try.prog 192 2 := ⟨by kernel_rfl⟩
instance : TSt Try.prog 192 := ⟨by kernel_rfl⟩
instance : FS Try.prog 192 0 0 1 := ⟨by kernel_rfl⟩
instance : FS Try.prog 192 1 1 1 := ⟨by kernel_rfl⟩
instance : TZ Try.prog 192 [.int .u32 0, .int .u8 0] := ⟨by kernel_rfl⟩
instance : TAgg Try.prog 193 3 := ⟨by kernel_rfl⟩
instance : TSt Try.prog 193 := ⟨by kernel_rfl⟩
instance : FS Try.prog 193 0 0 1 := ⟨by kernel_rfl⟩
instance : FS Try.prog 193 1 1 1 := ⟨by kernel_rfl⟩
instance : FS Try.prog 193 2 2 1 := ⟨by kernel_rfl⟩
instance : TZ Try.prog 193 [.int .u32 0, .int .u64 0, .slice none 0 0] := ⟨by kernel_rfl⟩
instance : TAgg Try.prog 194 3 := ⟨by kernel_rfl⟩
instance : TSt Try.prog 194 := ⟨by kernel_rfl⟩
instance : FS Try.prog 194 0 0 1 := ⟨by kernel_rfl⟩
instance : FS Try.prog 194 1 1 1 := ⟨by kernel_rfl⟩
instance : FS Try.prog 194 2 2 1 := ⟨by kernel_rfl⟩
instance : TZ Try.prog 194 [.int .u32 0, .int .u64 0, .slice none 0 0] := ⟨by kernel_rfl⟩
instance : TAgg Try.prog 196 2 := ⟨by kernel_rfl⟩
instance : TSt Try.prog 196 := ⟨by kernel_rfl⟩
instance : FS Try.prog 196 0 0 1 := ⟨by kernel_rfl⟩
instance : FS Try.prog 196 1 1 1 := ⟨by kernel_rfl⟩
instance : TZ Try.prog 196 [.slice none 0 0, .string ByteArray.empty] := ⟨by kernel_rfl⟩
instance : TAgg Try.prog 197 2 := ⟨by kernel_rfl⟩
instance : TSt Try.prog 197 := ⟨by kernel_rfl⟩
instance : FS Try.prog 197 0 0 1 := ⟨by kernel_rfl⟩
instance : FS Try.prog 197 1 1 1 := ⟨by kernel_rfl⟩
instance : TZ Try.prog 197 [.slice none 0 0, .string ByteArray.empty] := ⟨by kernel_rfl⟩
instance : TOne Try.prog 198 := ⟨by kernel_rfl⟩
instance : TPtr Try.prog 198 281 := ⟨by kernel_rfl⟩
instance : TZ Try.prog 198 [.pointer none] := ⟨by kernel_rfl⟩
instance : TOne Try.prog 201 := ⟨by kernel_rfl⟩
instance : TPtr Try.prog 201 283 := ⟨by kernel_rfl⟩
instance : TZ Try.prog 201 [.pointer none] := ⟨by kernel_rfl⟩
instance : TOne Try.prog 204 := ⟨by kernel_rfl⟩
instance : TMap Try.prog 204 2 33 := ⟨by kernel_rfl⟩
instance : TZ Try.prog 204 [.map none] := ⟨by kernel_rfl⟩
instance : TAgg Try.prog 205 5 := ⟨by kernel_rfl⟩
instance : TSt Try.prog 205 := ⟨by kernel_rfl⟩
instance : FS Try.prog 205 0 0 1 := ⟨by kernel_rfl⟩
instance : FS Try.prog 205 1 1 1 := ⟨by kernel_rfl⟩
instance : FS Try.prog 205 2 2 1 := ⟨by kernel_rfl⟩
instance : FS Try.prog 205 3 3 1 := ⟨by kernel_rfl⟩
instance : FS Try.prog 205 4 4 1 := ⟨by kernel_rfl⟩
instance : TZ Try.prog 205 [.bool false, .int .i64 0, .int .u16 0, .int .i64 0, .int .i64 0] := ⟨by kernel_rfl⟩
instance : TAgg Try.prog 206 5 := ⟨by kernel_rfl⟩
instance : TSt Try.prog 206 := ⟨by kernel_rfl⟩
instance : FS Try.prog 206 0 0 1 := ⟨by kernel_rfl⟩
instance : FS Try.prog 206 1 1 1 := ⟨by kernel_rfl⟩
instance : FS Try.prog 206 2 2 1 := ⟨by kernel_rfl⟩
instance : FS Try.prog 206 3 3 1 := ⟨by kernel_rfl⟩
instance : FS Try.prog 206 4 4 1 := ⟨by kernel_rfl⟩
instance : TZ Try.prog 206 [.bool false, .int .i64 0, .int .u16 0, .int .i64 0, .int .i64 0] := ⟨by kernel_rfl⟩
instance : TAgg Try.prog 207 2 := ⟨by kernel_rfl⟩
instance : TSt Try.prog 207 := ⟨by kernel_rfl⟩
instance : FS Try.prog 207 0 0 1 := ⟨by kernel_rfl⟩
instance : FS Try.prog 207 1 1 1 := ⟨by kernel_rfl⟩
instance : TZ Try.prog 207 [.bool false, .int .i64 0] := ⟨by kernel_rfl⟩
instance : TAgg Try.prog 208 2 := ⟨by kernel_rfl⟩
instance : TSt Try.prog 208 := ⟨by kernel_rfl⟩
instance : FS Try.prog 208 0 0 1 := ⟨by kernel_rfl⟩
instance : FS Try.prog 208 1 1 1 := ⟨by kernel_rfl⟩
instance : TZ Try.prog 208 [.bool false, .int .i64 0] := ⟨by kernel_rfl⟩
instance : TAgg Try.prog 209 12 := ⟨by kernel_rfl⟩
instance : TSt Try.prog 209 := ⟨by kernel_rfl⟩
instance : FS Try.prog 209 0 0 1 := ⟨by kernel_rfl⟩
instance : FS Try.prog 209 1 1 1 := ⟨by kernel_rfl⟩
instance : FS Try.prog 209 2 2 5 := ⟨by kernel_rfl⟩
instance : FS Try.prog 209 3 7 2 := ⟨by kernel_rfl⟩
instance : FS Try.prog 209 4 9 1 := ⟨by kernel_rfl⟩
instance : FS Try.prog 209 5 10 1 := ⟨by kernel_rfl⟩
instance : FS Try.prog 209 6 11 1 := ⟨by kernel_rfl⟩
instance : TZ Try.prog 209 [.pointer none, .pointer none, .bool false, .int .i64 0, .int .u16 0, .int .i64 0, .int .i64 0, .bool false, .int .i64 0, .map none, .int .i64 0, .int .i64 0] := ⟨by kernel_rfl⟩
instance : TAgg Try.prog 210 12 := ⟨by kernel_rfl⟩
instance : TSt Try.prog 210 := ⟨by kernel_rfl⟩
instance : FS Try.prog 210 0 0 1 := ⟨by kernel_rfl⟩
instance : FS Try.prog 210 1 1 1 := ⟨by kernel_rfl⟩
instance : FS Try.prog 210 2 2 5 := ⟨by kernel_rfl⟩
instance : FS Try.prog 210 3 7 2 := ⟨by kernel_rfl⟩
instance : FS Try.prog 210 4 9 1 := ⟨by kernel_rfl⟩
instance : FS Try.prog 210 5 10 1 := ⟨by kernel_rfl⟩
instance : FS Try.prog 210 6 11 1 := ⟨by kernel_rfl⟩
instance : TZ Try.prog 210 [.pointer none, .pointer none, .bool false, .int .i64 0, .int .u16 0, .int .i64 0, .int .i64 0, .bool false, .int .i64 0, .map none, .int .i64 0, .int .i64 0] := ⟨by kernel_rfl⟩
instance : TOne Try.prog 214 := ⟨by kernel_rfl⟩
instance : TSl Try.prog 214 218 3 32 := ⟨by kernel_rfl⟩
instance : TZ Try.prog 214 [.slice none 0 0] := ⟨by kernel_rfl⟩
instance : TAgg Try.prog 217 3 := ⟨by kernel_rfl⟩
instance : TSt Try.prog 217 := ⟨by kernel_rfl⟩
instance : FS Try.prog 217 0 0 1 := ⟨by kernel_rfl⟩
instance : FS Try.prog 217 1 1 1 := ⟨by kernel_rfl⟩
instance : FS Try.prog 217 2 2 1 := ⟨by kernel_rfl⟩
instance : TZ Try.prog 217 [.int .i64 0, .string ByteArray.empty, .int .i64 0] := ⟨by kernel_rfl⟩
instance : TAgg Try.prog 218 3 := ⟨by kernel_rfl⟩
instance : TSt Try.prog 218 := ⟨by kernel_rfl⟩
instance : FS Try.prog 218 0 0 1 := ⟨by kernel_rfl⟩
instance : FS Try.prog 218 1 1 1 := ⟨by kernel_rfl⟩
instance : FS Try.prog 218 2 2 1 := ⟨by kernel_rfl⟩
instance : TZ Try.prog 218 [.int .i64 0, .string ByteArray.empty, .int .i64 0] := ⟨by kernel_rfl⟩
instance : TOne Try.prog 221 := ⟨by kernel_rfl⟩
instance : TSl Try.prog 221 231 5 40 := ⟨by kernel_rfl⟩
instance : TZ Try.prog 221 [.slice none 0 0] := ⟨by kernel_rfl⟩
instance : TAgg Try.prog 222 5 := ⟨by kernel_rfl⟩
instance : TSt Try.prog 222 := ⟨by kernel_rfl⟩
instance : FS Try.prog 222 0 0 1 := ⟨by kernel_rfl⟩
instance : FS Try.prog 222 1 1 1 := ⟨by kernel_rfl⟩
instance : FS Try.prog 222 2 2 1 := ⟨by kernel_rfl⟩
instance : FS Try.prog 222 3 3 1 := ⟨by kernel_rfl⟩
instance : FS Try.prog 222 4 4 1 := ⟨by kernel_rfl⟩
instance : TZ Try.prog 222 [.slice none 0 0, .int .i64 0, .int .i64 0, .int .i64 0, .int .i64 0] := ⟨by kernel_rfl⟩
instance : TAgg Try.prog 223 5 := ⟨by kernel_rfl⟩
instance : TSt Try.prog 223 := ⟨by kernel_rfl⟩
instance : FS Try.prog 223 0 0 1 := ⟨by kernel_rfl⟩
instance : FS Try.prog 223 1 1 1 := ⟨by kernel_rfl⟩
instance : FS Try.prog 223 2 2 1 := ⟨by kernel_rfl⟩
instance : FS Try.prog 223 3 3 1 := ⟨by kernel_rfl⟩
instance : FS Try.prog 223 4 4 1 := ⟨by kernel_rfl⟩
instance : TZ Try.prog 223 [.slice none 0 0, .int .i64 0, .int .i64 0, .int .i64 0, .int .i64 0] := ⟨by kernel_rfl⟩
instance : TAgg Try.prog 224 13 := ⟨by kernel_rfl⟩
instance : TSt Try.prog 224 := ⟨by kernel_rfl⟩
instance : FS Try.prog 224 0 0 1 := ⟨by kernel_rfl⟩
instance : FS Try.prog 224 1 1 1 := ⟨by kernel_rfl⟩
instance : FS Try.prog 224 2 2 1 := ⟨by kernel_rfl⟩
instance : FS Try.prog 224 3 3 1 := ⟨by kernel_rfl⟩
instance : FS Try.prog 224 4 4 1 := ⟨by kernel_rfl⟩
instance : FS Try.prog 224 5 5 1 := ⟨by kernel_rfl⟩
instance : FS Try.prog 224 6 6 1 := ⟨by kernel_rfl⟩
instance : FS Try.prog 224 7 7 1 := ⟨by kernel_rfl⟩
instance : FS Try.prog 224 8 8 1 := ⟨by kernel_rfl⟩
instance : FS Try.prog 224 9 9 1 := ⟨by kernel_rfl⟩
instance : FS Try.prog 224 10 10 1 := ⟨by kernel_rfl⟩
instance : FS Try.prog 224 11 11 1 := ⟨by kernel_rfl⟩
instance : FS Try.prog 224 12 12 1 := ⟨by kernel_rfl⟩
instance : TZ Try.prog 224 [.bool false, .int .u32 0, .int .u8 0, .int .u16 0, .int .i64 0, .int .i64 0, .int .i64 0, .int .i64 0, .int .i64 0, .bool false, .int .i64 0, .int .i64 0, .int .i64 0] := ⟨by kernel_rfl⟩
instance : TAgg Try.prog 225 13 := ⟨by kernel_rfl⟩
instance : TSt Try.prog 225 := ⟨by kernel_rfl⟩
instance : FS Try.prog 225 0 0 1 := ⟨by kernel_rfl⟩
instance : FS Try.prog 225 1 1 1 := ⟨by kernel_rfl⟩
instance : FS Try.prog 225 2 2 1 := ⟨by kernel_rfl⟩
instance : FS Try.prog 225 3 3 1 := ⟨by kernel_rfl⟩
instance : FS Try.prog 225 4 4 1 := ⟨by kernel_rfl⟩
instance : FS Try.prog 225 5 5 1 := ⟨by kernel_rfl⟩
instance : FS Try.prog 225 6 6 1 := ⟨by kernel_rfl⟩
instance : FS Try.prog 225 7 7 1 := ⟨by kernel_rfl⟩
instance : FS Try.prog 225 8 8 1 := ⟨by kernel_rfl⟩
instance : FS Try.prog 225 9 9 1 := ⟨by kernel_rfl⟩
instance : FS Try.prog 225 10 10 1 := ⟨by kernel_rfl⟩
instance : FS Try.prog 225 11 11 1 := ⟨by kernel_rfl⟩
instance : FS Try.prog 225 12 12 1 := ⟨by kernel_rfl⟩
instance : TZ Try.prog 225 [.bool false, .int .u32 0, .int .u8 0, .int .u16 0, .int .i64 0, .int .i64 0, .int .i64 0, .int .i64 0, .int .i64 0, .bool false, .int .i64 0, .int .i64 0, .int .i64 0] := ⟨by kernel_rfl⟩
instance : TAgg Try.prog 230 5 := ⟨by kernel_rfl⟩
instance : TSt Try.prog 230 := ⟨by kernel_rfl⟩
instance : FS Try.prog 230 0 0 1 := ⟨by kernel_rfl⟩
instance : FS Try.prog 230 1 1 1 := ⟨by kernel_rfl⟩
instance : FS Try.prog 230 2 2 1 := ⟨by kernel_rfl⟩
instance : FS Try.prog 230 3 3 1 := ⟨by kernel_rfl⟩
instance : FS Try.prog 230 4 4 1 := ⟨by kernel_rfl⟩
instance : TZ Try.prog 230 [.bool false, .int .u16 0, .string ByteArray.empty, .int .i64 0, .int .i64 0] := ⟨by kernel_rfl⟩
instance : TAgg Try.prog 231 5 := ⟨by kernel_rfl⟩
instance : TSt Try.prog 231 := ⟨by kernel_rfl⟩
instance : FS Try.prog 231 0 0 1 := ⟨by kernel_rfl⟩
instance : FS Try.prog 231 1 1 1 := ⟨by kernel_rfl⟩
instance : FS Try.prog 231 2 2 1 := ⟨by kernel_rfl⟩
instance : FS Try.prog 231 3 3 1 := ⟨by kernel_rfl⟩
instance : FS Try.prog 231 4 4 1 := ⟨by kernel_rfl⟩
instance : TZ Try.prog 231 [.bool false, .int .u16 0, .string ByteArray.empty, .int .i64 0, .int .i64 0] := ⟨by kernel_rfl⟩
instance : TOne Try.prog 235 := ⟨by kernel_rfl⟩
instance : TPtr Try.prog 235 295 := ⟨by kernel_rfl⟩
instance : TZ Try.prog 235 [.pointer none] := ⟨by kernel_rfl⟩
instance : TOne Try.prog 238 := ⟨by kernel_rfl⟩
instance : TMap Try.prog 238 3 243 := ⟨by kernel_rfl⟩
instance : TZ Try.prog 238 [.map none] := ⟨by kernel_rfl⟩
instance : TAgg Try.prog 239 9 := ⟨by kernel_rfl⟩
instance : TSt Try.prog 239 := ⟨by kernel_rfl⟩
instance : FS Try.prog 239 0 0 5 := ⟨by kernel_rfl⟩
instance : FS Try.prog 239 1 5 1 := ⟨by kernel_rfl⟩
instance : FS Try.prog 239 2 6 1 := ⟨by kernel_rfl⟩
instance : FS Try.prog 239 3 7 1 := ⟨by kernel_rfl⟩
instance : FS Try.prog 239 4 8 1 := ⟨by kernel_rfl⟩
instance : TZ Try.prog 239 [.int .i64 0, .int .i64 0, .int .i64 0, .int .i64 0, .int .i64 0, .map none, .pointer none, .int .i64 0, .int .i64 0] := ⟨by kernel_rfl⟩
instance : TAgg Try.prog 240 9 := ⟨by kernel_rfl⟩
instance : TSt Try.prog 240 := ⟨by kernel_rfl⟩
instance : FS Try.prog 240 0 0 5 := ⟨by kernel_rfl⟩
instance : FS Try.prog 240 1 5 1 := ⟨by kernel_rfl⟩
instance : FS Try.prog 240 2 6 1 := ⟨by kernel_rfl⟩
instance : FS Try.prog 240 3 7 1 := ⟨by kernel_rfl⟩
instance : FS Try.prog 240 4 8 1 := ⟨by kernel_rfl⟩
instance : TZ Try.prog 240 [.int .i64 0, .int .i64 0, .int .i64 0, .int .i64 0, .int .i64 0, .map none, .pointer none, .int .i64 0, .int .i64 0] := ⟨by kernel_rfl⟩
instance : TOne Try.prog 241 := ⟨by kernel_rfl⟩
instance : TPtr Try.prog 241 297 := ⟨by kernel_rfl⟩
instance : TZ Try.prog 241 [.pointer none] := ⟨by kernel_rfl⟩
instance : TAgg Try.prog 242 2 := ⟨by kernel_rfl⟩
instance : TSt Try.prog 242 := ⟨by kernel_rfl⟩
instance : FS Try.prog 242 0 0 1 := ⟨by kernel_rfl⟩
instance : FS Try.prog 242 1 1 1 := ⟨by kernel_rfl⟩
instance : TZ Try.prog 242 [.pointer none, .bool false] := ⟨by kernel_rfl⟩
instance : TAgg Try.prog 243 2 := ⟨by kernel_rfl⟩
instance : TSt Try.prog 243 := ⟨by kernel_rfl⟩
instance : FS Try.prog 243 0 0 1 := ⟨by kernel_rfl⟩
instance : FS Try.prog 243 1 1 1 := ⟨by kernel_rfl⟩
instance : TZ Try.prog 243 [.pointer none, .bool false] := ⟨by kernel_rfl⟩
instance : TOne Try.prog 248 := ⟨by kernel_rfl⟩
instance : TSl Try.prog 248 133 4 32 := ⟨by kernel_rfl⟩
instance : TZ Try.prog 248 [.slice none 0 0] := ⟨by kernel_rfl⟩
instance : TOne Try.prog 254 := ⟨by kernel_rfl⟩
instance : TZ Try.prog 254 [.nilIface] := ⟨by kernel_rfl⟩
instance : TOne Try.prog 255 := ⟨by kernel_rfl⟩
instance : TZ Try.prog 255 [.nilIface] := ⟨by kernel_rfl⟩
instance : TAgg Try.prog 259 2 := ⟨by kernel_rfl⟩
instance : TSt Try.prog 259 := ⟨by kernel_rfl⟩
instance : FS Try.prog 259 0 0 1 := ⟨by kernel_rfl⟩
instance : FS Try.prog 259 1 1 1 := ⟨by kernel_rfl⟩
instance : TZ Try.prog 259 [.string ByteArray.empty, .int .i64 0] := ⟨by kernel_rfl⟩
instance : TAgg Try.prog 260 2 := ⟨by kernel_rfl⟩
instance : TSt Try.prog 260 := ⟨by kernel_rfl⟩
instance : FS Try.prog 260 0 0 1 := ⟨by kernel_rfl⟩
instance : FS Try.prog 260 1 1 1 := ⟨by kernel_rfl⟩
instance : TZ Try.prog 260 [.string ByteArray.empty, .int .i64 0] := ⟨by kernel_rfl⟩
instance : TOne Try.prog 263 := ⟨by kernel_rfl⟩
instance : TPtr Try.prog 263 23 := ⟨by kernel_rfl⟩
instance : TZ Try.prog 263 [.pointer none] := ⟨by kernel_rfl⟩
instance : TOne Try.prog 264 := ⟨by kernel_rfl⟩
instance : TSl Try.prog 264 309 7 28 := ⟨by kernel_rfl⟩
instance : TZ Try.prog 264 [.slice none 0 0] := ⟨by kernel_rfl⟩
instance : TAgg Try.prog 266 6 := ⟨by kernel_rfl⟩
instance : TSt Try.prog 266 := ⟨by kernel_rfl⟩
instance : FS Try.prog 266 0 0 1 := ⟨by kernel_rfl⟩
instance : FS Try.prog 266 1 1 1 := ⟨by kernel_rfl⟩
instance : FS Try.prog 266 2 2 1 := ⟨by kernel_rfl⟩
instance : FS Try.prog 266 3 3 1 := ⟨by kernel_rfl⟩
instance : FS Try.prog 266 4 4 1 := ⟨by kernel_rfl⟩
instance : FS Try.prog 266 5 5 1 := ⟨by kernel_rfl⟩
instance : TZ Try.prog 266 [.int .u32 0, .int .u64 0, .int .u32 0, .int .u32 0, .int .u32 0, .slice none 0 0] := ⟨by kernel_rfl⟩
instance : TAgg Try.prog 267 6 := ⟨by kernel_rfl⟩
instance : TSt Try.prog 267 := ⟨by kernel_rfl⟩
instance : FS Try.prog 267 0 0 1 := ⟨by kernel_rfl⟩
instance : FS Try.prog 267 1 1 1 := ⟨by kernel_rfl⟩
instance : FS Try.prog 267 2 2 1 := ⟨by kernel_rfl⟩
instance : FS Try.prog 267 3 3 1 := ⟨by kernel_rfl⟩
instance : FS Try.prog 267 4 4 1 := ⟨by kernel_rfl⟩
instance : FS Try.prog 267 5 5 1 := ⟨by kernel_rfl⟩
instance : TZ Try.prog 267 [.int .u32 0, .int .u64 0, .int .u32 0, .int .u32 0, .int .u32 0, .slice none 0 0] := ⟨by kernel_rfl⟩
instance : TAgg Try.prog 268 2 := ⟨by kernel_rfl⟩
instance : TSt Try.prog 268 := ⟨by kernel_rfl⟩
instance : FS Try.prog 268 0 0 1 := ⟨by kernel_rfl⟩
instance : FS Try.prog 268 1 1 1 := ⟨by kernel_rfl⟩
instance : TZ Try.prog 268 [.int .u32 0, .slice none 0 0] := ⟨by kernel_rfl⟩
instance : TAgg Try.prog 269 2 := ⟨by kernel_rfl⟩
instance : TSt Try.prog 269 := ⟨by kernel_rfl⟩
instance : FS Try.prog 269 0 0 1 := ⟨by kernel_rfl⟩
instance : FS Try.prog 269 1 1 1 := ⟨by kernel_rfl⟩
instance : TZ Try.prog 269 [.int .u32 0, .slice none 0 0] := ⟨by kernel_rfl⟩
instance : TAgg Try.prog 272 3 := ⟨by kernel_rfl⟩
instance : TSt Try.prog 272 := ⟨by kernel_rfl⟩
instance : FS Try.prog 272 0 0 1 := ⟨by kernel_rfl⟩
instance : FS Try.prog 272 1 1 1 := ⟨by kernel_rfl⟩
instance : FS Try.prog 272 2 2 1 := ⟨by kernel_rfl⟩
instance : TZ Try.prog 272 [.int .u8 0, .int .u8 0, .string ByteArray.empty] := ⟨by kernel_rfl⟩
instance : TAgg Try.prog 273 3 := ⟨by kernel_rfl⟩
instance : TSt Try.prog 273 := ⟨by kernel_rfl⟩
instance : FS Try.prog 273 0 0 1 := ⟨by kernel_rfl⟩
instance : FS Try.prog 273 1 1 1 := ⟨by kernel_rfl⟩
instance : FS Try.prog 273 2 2 1 := ⟨by kernel_rfl⟩
instance : TZ Try.prog 273 [.int .u8 0, .int .u8 0, .string ByteArray.empty] := ⟨by kernel_rfl⟩
instance : TOne Try.prog 274 := ⟨by kernel_rfl⟩
instance : TZ Try.prog 274 [.nilIface] := ⟨by kernel_rfl⟩
instance : TOne Try.prog 278 := ⟨by kernel_rfl⟩
instance : TPtr Try.prog 278 80 := ⟨by kernel_rfl⟩
instance : TZ Try.prog 278 [.pointer none] := ⟨by kernel_rfl⟩
instance : TOne Try.prog 279 := ⟨by kernel_rfl⟩
instance : TMap Try.prog 279 2 218 := ⟨by kernel_rfl⟩
instance : TZ Try.prog 279 [.map none] := ⟨by kernel_rfl⟩
instance : TAgg Try.prog 280 6 := ⟨by kernel_rfl⟩
instance : TSt Try.prog 280 := ⟨by kernel_rfl⟩
instance : FS Try.prog 280 0 0 2 := ⟨by kernel_rfl⟩
instance : FS Try.prog 280 1 2 1 := ⟨by kernel_rfl⟩
instance : FS Try.prog 280 2 3 1 := ⟨by kernel_rfl⟩
instance : FS Try.prog 280 3 4 1 := ⟨by kernel_rfl⟩
instance : FS Try.prog 280 4 5 1 := ⟨by kernel_rfl⟩
instance : TZ Try.prog 280 [.int .i64 0, .int .i64 0, .bool false, .int .i64 0, .map none, .int .i64 0] := ⟨by kernel_rfl⟩
instance : TAgg Try.prog 281 6 := ⟨by kernel_rfl⟩
instance : TSt Try.prog 281 := ⟨by kernel_rfl⟩
instance : FS Try.prog 281 0 0 2 := ⟨by kernel_rfl⟩
instance : FS Try.prog 281 1 2 1 := ⟨by kernel_rfl⟩
instance : FS Try.prog 281 2 3 1 := ⟨by kernel_rfl⟩
instance : FS Try.prog 281 3 4 1 := ⟨by kernel_rfl⟩
instance : FS Try.prog 281 4 5 1 := ⟨by kernel_rfl⟩
instance : TZ Try.prog 281 [.int .i64 0, .int .i64 0, .bool false, .int .i64 0, .map none, .int .i64 0] := ⟨by kernel_rfl⟩
instance : TAgg Try.prog 282 7 := ⟨by kernel_rfl⟩
instance : TSt Try.prog 282 := ⟨by kernel_rfl⟩
instance : FS Try.prog 282 0 0 4 := ⟨by kernel_rfl⟩
instance : FS Try.prog 282 1 4 1 := ⟨by kernel_rfl⟩
instance : FS Try.prog 282 2 5 1 := ⟨by kernel_rfl⟩
instance : FS Try.prog 282 3 6 1 := ⟨by kernel_rfl⟩
instance : TZ Try.prog 282 [.bool false, .int .i64 0, .int .i64 0, .int .i64 0, .slice none 0 0, .int .i64 0, .int .i64 0] := ⟨by kernel_rfl⟩
instance : TAgg Try.prog 283 7 := ⟨by kernel_rfl⟩
instance : TSt Try.prog 283 := ⟨by kernel_rfl⟩
instance : FS Try.prog 283 0 0 4 := ⟨by kernel_rfl⟩
instance : FS Try.prog 283 1 4 1 := ⟨by kernel_rfl⟩
instance : FS Try.prog 283 2 5 1 := ⟨by kernel_rfl⟩
instance : FS Try.prog 283 3 6 1 := ⟨by kernel_rfl⟩
instance : TZ Try.prog 283 [.bool false, .int .i64 0, .int .i64 0, .int .i64 0, .slice none 0 0, .int .i64 0, .int .i64 0] := ⟨by kernel_rfl⟩
instance : TOne Try.prog 284 := ⟨by kernel_rfl⟩
instance : TPtr Try.prog 284 206 := ⟨by kernel_rfl⟩
instance : TZ Try.prog 284 [.pointer none] := ⟨by kernel_rfl⟩
instance : TOne Try.prog 292 := ⟨by kernel_rfl⟩
instance : TPtr Try.prog 292 231 := ⟨by kernel_rfl⟩
instance : TZ Try.prog 292 [.pointer none] := ⟨by kernel_rfl⟩
instance : TAgg Try.prog 294 5 := ⟨by kernel_rfl⟩
instance : TSt Try.prog 294 := ⟨by kernel_rfl⟩
instance : FS Try.prog 294 0 0 1 := ⟨by kernel_rfl⟩
instance : FS Try.prog 294 1 1 1 := ⟨by kernel_rfl⟩
instance : FS Try.prog 294 2 2 1 := ⟨by kernel_rfl⟩
instance : FS Try.prog 294 3 3 1 := ⟨by kernel_rfl⟩
instance : FS Try.prog 294 4 4 1 := ⟨by kernel_rfl⟩
instance : TZ Try.prog 294 [.int .i64 0, .map none, .map none, .int .i64 0, .bool false] := ⟨by kernel_rfl⟩
instance : TAgg Try.prog 295 5 := ⟨by kernel_rfl⟩
instance : TSt Try.prog 295 := ⟨by kernel_rfl⟩
instance : FS Try.prog 295 0 0 1 := ⟨by kernel_rfl⟩
instance : FS Try.prog 295 1 1 1 := ⟨by kernel_rfl⟩
instance : FS Try.prog 295 2 2 1 := ⟨by kernel_rfl⟩
instance : FS Try.prog 295 3 3 1 := ⟨by kernel_rfl⟩
instance : FS Try.prog 295 4 4 1 := ⟨by kernel_rfl⟩
instance : TZ Try.prog 295 [.int .i64 0, .map none, .map none, .int .i64 0, .bool false] := ⟨by kernel_rfl⟩
instance : TAgg Try.prog 296 5 := ⟨by kernel_rfl⟩
instance : TSt Try.prog 296 := ⟨by kernel_rfl⟩
instance : FS Try.prog 296 0 0 1 := ⟨by kernel_rfl⟩
instance : FS Try.prog 296 1 1 1 := ⟨by kernel_rfl⟩
instance : FS Try.prog 296 2 2 1 := ⟨by kernel_rfl⟩
instance : FS Try.prog 296 3 3 1 := ⟨by kernel_rfl⟩
instance : FS Try.prog 296 4 4 1 := ⟨by kernel_rfl⟩
instance : TZ Try.prog 296 [.int .i64 0, .int .i64 0, .slice none 0 0, .int .i64 0, .bool false] := ⟨by kernel_rfl⟩
instance : TAgg Try.prog 297 5 := ⟨by kernel_rfl⟩
instance : TSt Try.prog 297 := ⟨by kernel_rfl⟩
instance : FS Try.prog 297 0 0 1 := ⟨by kernel_rfl⟩
instance : FS Try.prog 297 1 1 1 := ⟨by kernel_rfl⟩
instance : FS Try.prog 297 2 2 1 := ⟨by kernel_rfl⟩
instance : FS Try.prog 297 3 3 1 := ⟨by kernel_rfl⟩
instance : FS Try.prog 297 4 4 1 := ⟨by kernel_rfl⟩
instance : TZ Try.prog 297 [.int .i64 0, .int .i64 0, .slice none 0 0, .int .i64 0, .bool false] := ⟨by kernel_rfl⟩
instance : TOne Try.prog 301 := ⟨by kernel_rfl⟩
instance : TSl Try.prog 301 303 2 16 := ⟨by kernel_rfl⟩
instance : TZ Try.prog 301 [.slice none 0 0] := ⟨by kernel_rfl⟩
instance : TAgg Try.prog 302 2 := ⟨by kernel_rfl⟩
instance : TSt Try.prog 302 := ⟨by kernel_rfl⟩
instance : FS Try.prog 302 0 0 1 := ⟨by kernel_rfl⟩
instance : FS Try.prog 302 1 1 1 := ⟨by kernel_rfl⟩
instance : TZ Try.prog 302 [.int .i64 0, .int .i64 0] := ⟨by kernel_rfl⟩
instance : TAgg Try.prog 303 2 := ⟨by kernel_rfl⟩
instance : TSt Try.prog 303 := ⟨by kernel_rfl⟩
instance : FS Try.prog 303 0 0 1 := ⟨by kernel_rfl⟩
instance : FS Try.prog 303 1 1 1 := ⟨by kernel_rfl⟩
instance : TZ Try.prog 303 [.int .i64 0, .int .i64 0] := ⟨by kernel_rfl⟩
instance : TOne Try.prog 306 := ⟨by kernel_rfl⟩
instance : TPtr Try.prog 306 5 := ⟨by kernel_rfl⟩
instance : TZ Try.prog 306 [.pointer none] := ⟨by kernel_rfl⟩
instance : TOne Try.prog 307 := ⟨by kernel_rfl⟩
instance : TSl Try.prog 307 78 1 8 := ⟨by kernel_rfl⟩
instance : TZ Try.prog 307 [.slice none 0 0] := ⟨by kernel_rfl⟩
instance : TAgg Try.prog 308 7 := ⟨by kernel_rfl⟩
instance : TSt Try.prog 308 := ⟨by kernel_rfl⟩
instance : FS Try.prog 308 0 0 1 := ⟨by kernel_rfl⟩
instance : FS Try.prog 308 1 1 1 := ⟨by kernel_rfl⟩
instance : FS Try.prog 308 2 2 1 := ⟨by kernel_rfl⟩
instance : FS Try.prog 308 3 3 1 := ⟨by kernel_rfl⟩
instance : FS Try.prog 308 4 4 1 := ⟨by kernel_rfl⟩
instance : FS Try.prog 308 5 5 1 := ⟨by kernel_rfl⟩
instance : FS Try.prog 308 6 6 1 := ⟨by kernel_rfl⟩
instance : TZ Try.prog 308 [.int .u32 0, .int .u8 0, .int .u32 0, .int .u32 0, .int .u32 0, .int .u32 0, .int .u32 0] := ⟨by kernel_rfl⟩
instance : TAgg Try.prog 309 7 := ⟨by kernel_rfl⟩
instance : TSt Try.prog 309 := ⟨by kernel_rfl⟩
instance : FS Try.prog 309 0 0 1 := ⟨by kernel_rfl⟩
instance : FS Try.prog 309 1 1 1 := ⟨by kernel_rfl⟩
instance : FS Try.prog 309 2 2 1 := ⟨by kernel_rfl⟩
instance : FS Try.prog 309 3 3 1 := ⟨by kernel_rfl⟩
instance : FS Try.prog 309 4 4 1 := ⟨by kernel_rfl⟩
instance : FS Try.prog 309 5 5 1 := ⟨by kernel_rfl⟩
instance : FS Try.prog 309 6 6 1 := ⟨by kernel_rfl⟩
instance : TZ Try.prog 309 [.int .u32 0, .int .u8 0, .int .u32 0, .int .u32 0, .int .u32 0, .int .u32 0, .int .u32 0] := ⟨by kernel_rfl⟩
instance : TOne Try.prog 310 := ⟨by kernel_rfl⟩
instance : TSl Try.prog 310 315 2 32 := ⟨by kernel_rfl⟩
instance : TZ Try.prog 310 [.slice none 0 0] := ⟨by kernel_rfl⟩
instance : TAgg Try.prog 311 1 := ⟨by kernel_rfl⟩
instance : TSt Try.prog 311 := ⟨by kernel_rfl⟩
instance : FS Try.prog 311 0 0 1 := ⟨by kernel_rfl⟩
instance : TZ Try.prog 311 [.slice none 0 0] := ⟨by kernel_rfl⟩
instance : TAgg Try.prog 312 1 := ⟨by kernel_rfl⟩
instance : TSt Try.prog 312 := ⟨by kernel_rfl⟩
instance : FS Try.prog 312 0 0 1 := ⟨by kernel_rfl⟩
instance : TZ Try.prog 312 [.slice none 0 0] := ⟨by kernel_rfl⟩
instance : TOne Try.prog 313 := ⟨by kernel_rfl⟩
instance : TSl Try.prog 313 341 2 24 := ⟨by kernel_rfl⟩
instance : TZ Try.prog 313 [.slice none 0 0] := ⟨by kernel_rfl⟩
instance : TAgg Try.prog 314 2 := ⟨by kernel_rfl⟩
instance : TSt Try.prog 314 := ⟨by kernel_rfl⟩
instance : FS Try.prog 314 0 0 1 := ⟨by kernel_rfl⟩
instance : FS Try.prog 314 1 1 1 := ⟨by kernel_rfl⟩
instance : TZ Try.prog 314 [.int .u32 0, .slice none 0 0] := ⟨by kernel_rfl⟩
instance : TAgg Try.prog 315 2 := ⟨by kernel_rfl⟩
instance : TSt Try.prog 315 := ⟨by kernel_rfl⟩
instance : FS Try.prog 315 0 0 1 := ⟨by kernel_rfl⟩
instance : FS Try.prog 315 1 1 1 := ⟨by kernel_rfl⟩
instance : TZ Try.prog 315 [.int .u32 0, .slice none 0 0] := ⟨by kernel_rfl⟩
instance : TOne Try.prog 324 := ⟨by kernel_rfl⟩
instance : TSl Try.prog 324 2 1 8 := ⟨by kernel_rfl⟩
instance : TZ Try.prog 324 [.slice none 0 0] := ⟨by kernel_rfl⟩
instance : TAgg Try.prog 340 2 := ⟨by kernel_rfl⟩
instance : TSt Try.prog 340 := ⟨by kernel_rfl⟩
instance : FS Try.prog 340 0 0 1 := ⟨by kernel_rfl⟩
instance : FS Try.prog 340 1 1 1 := ⟨by kernel_rfl⟩
instance : TZ Try.prog 340 [.int .u8 0, .string ByteArray.empty] := ⟨by kernel_rfl⟩
instance : TAgg Try.prog 341 2 := ⟨by kernel_rfl⟩
instance : TSt Try.prog 341 := ⟨by kernel_rfl⟩
instance : FS Try.prog 341 0 0 1 := ⟨by kernel_rfl⟩
instance : FS Try.prog 341 1 1 1 := ⟨by kernel_rfl⟩
instance : TZ Try.prog 341 [.int .u8 0, .string ByteArray.empty] := ⟨by kernel_rfl⟩
instance : TOne Try.prog 342 := ⟨by kernel_rfl⟩
instance : TPtr Try.prog 342 208 := ⟨by kernel_rfl⟩
instance : TZ Try.prog 342 [.pointer none] := ⟨by kernel_rfl⟩
instance : TOne Try.prog 353 := ⟨by kernel_rfl⟩
instance : TInt Try.prog 353 .i64 := ⟨by kernel_rfl⟩
instance : TZV Try.prog 353 (.int .i64 0) := ⟨by kernel_rfl⟩
instance : TZ Try.prog 353 [.int .i64 0] := ⟨by kernel_rfl⟩
instance : TOne Try.prog 361 := ⟨by kernel_rfl⟩
instance : TInt Try.prog 361 .u64 := ⟨by kernel_rfl⟩
instance : TZV Try.prog 361 (.int .u64 0) := ⟨by kernel_rfl⟩
instance : TZ Try.prog 361 [.int .u64 0] := ⟨by kernel_rfl⟩
instance : TOne Try.prog 365 := ⟨by kernel_rfl⟩
instance : TPtr Try.prog 365 3 := ⟨by kernel_rfl⟩
instance : TZ Try.prog 365 [.pointer none] := ⟨by kernel_rfl⟩
instance : TOne Try.prog 367 := ⟨by kernel_rfl⟩
instance : TPtr Try.prog 367 361 := ⟨by kernel_rfl⟩
instance : TZ Try.prog 367 [.pointer none] := ⟨by kernel_rfl⟩
instance : HasBody Try.prog 3 := ⟨by kernel_rfl⟩
instance : HasBody Try.prog 4 := ⟨by kernel_rfl⟩
instance : HasBody Try.prog 5 := ⟨by kernel_rfl⟩
instance : HasBody Try.prog 6 := ⟨by kernel_rfl⟩
instance : HasBody Try.prog 7 := ⟨by kernel_rfl⟩
instance : HasBody Try.prog 8 := ⟨by kernel_rfl⟩
instance : HasBody Try.prog 9 := ⟨by kernel_rfl⟩
instance : HasBody Try.prog 10 := ⟨by kernel_rfl⟩
instance : HasBody Try.prog 11 := ⟨by kernel_rfl⟩
instance : HasBody Try.prog 12 := ⟨by kernel_rfl⟩
instance : HasBody Try.prog 13 := ⟨by kernel_rfl⟩
instance : HasBody Try.prog 14 := ⟨by kernel_rfl⟩
instance : HasBody Try.prog 15 := ⟨by kernel_rfl⟩
instance : HasBody Try.prog 16 := ⟨by kernel_rfl⟩
instance : HasBody Try.prog 17 := ⟨by kernel_rfl⟩
instance : HasBody Try.prog 18 := ⟨by kernel_rfl⟩
instance : HasBody Try.prog 19 := ⟨by kernel_rfl⟩
instance : HasBody Try.prog 20 := ⟨by kernel_rfl⟩
instance : HasBody Try.prog 21 := ⟨by kernel_rfl⟩
instance : HasBody Try.prog 22 := ⟨by kernel_rfl⟩
instance : HasBody Try.prog 23 := ⟨by kernel_rfl⟩
instance : HasBody Try.prog 24 := ⟨by kernel_rfl⟩
instance : HasBody Try.prog 25 := ⟨by kernel_rfl⟩
instance : HasBody Try.prog 26 := ⟨by kernel_rfl⟩
instance : HasBody Try.prog 27 := ⟨by kernel_rfl⟩
instance : HasBody Try.prog 28 := ⟨by kernel_rfl⟩
instance : HasBody Try.prog 29 := ⟨by kernel_rfl⟩
instance : HasBody Try.prog 30 := ⟨by kernel_rfl⟩
instance : HasBody Try.prog 31 := ⟨by kernel_rfl⟩
instance : HasBody Try.prog 32 := ⟨by kernel_rfl⟩
instance : HasBody Try.prog 33 := ⟨by kernel_rfl⟩
instance : HasBody Try.prog 34 := ⟨by kernel_rfl⟩
instance : HasBody Try.prog 35 := ⟨by kernel_rfl⟩
instance : HasBody Try.prog 36 := ⟨by kernel_rfl⟩
instance : HasBody Try.prog 37 := ⟨by kernel_rfl⟩
instance : HasBody Try.prog 38 := ⟨by kernel_rfl⟩
instance : HasBody Try.prog 39 := ⟨by kernel_rfl⟩
instance : HasBody Try.prog 40 := ⟨by kernel_rfl⟩
instance : HasBody Try.prog 41 := ⟨by kernel_rfl⟩
instance : HasBody Try.prog 42 := ⟨by kernel_rfl⟩
instance : HasBody Try.prog 43 := ⟨by kernel_rfl⟩
instance : HasBody Try.prog 44 := ⟨by kernel_rfl⟩
instance : HasBody Try.prog 45 := ⟨by kernel_rfl⟩
instance : HasBody Try.prog 46 := ⟨by kernel_rfl⟩
instance : HasBody Try.prog 47 := ⟨by kernel_rfl⟩
instance : HasBody Try.prog 48 := ⟨by kernel_rfl⟩
instance : HasBody Try.prog 49 := ⟨by kernel_rfl⟩
instance : HasBody Try.prog 50 := ⟨by kernel_rfl⟩
instance : HasBody Try.prog 51 := ⟨by kernel_rfl⟩
instance : HasBody Try.prog 52 := ⟨by kernel_rfl⟩
instance : HasBody Try.prog 53 := ⟨by kernel_rfl⟩
instance : HasBody Try.prog 54 := ⟨by kernel_rfl⟩
instance : HasBody Try.prog 55 := ⟨by kernel_rfl⟩
instance : HasBody Try.prog 56 := ⟨by kernel_rfl⟩
instance : HasBody Try.prog 57 := ⟨by kernel_rfl⟩
instance : HasBody Try.prog 58 := ⟨by kernel_rfl⟩
instance : HasBody Try.prog 59 := ⟨by kernel_rfl⟩
instance : HasBody Try.prog 60 := ⟨by kernel_rfl⟩
instance : HasBody Try.prog 61 := ⟨by kernel_rfl⟩
instance : HasBody Try.prog 62 := ⟨by kernel_rfl⟩
instance : HasBody Try.prog 63 := ⟨by kernel_rfl⟩
instance : HasBody Try.prog 64 := ⟨by kernel_rfl⟩
instance : HasBody Try.prog 65 := ⟨by kernel_rfl⟩
instance : HasBody Try.prog 66 := ⟨by kernel_rfl⟩
instance : HasBody Try.prog 67 := ⟨by kernel_rfl⟩
instance : HasBody Try.prog 68 := ⟨by kernel_rfl⟩
instance : HasBody Try.prog 69 := ⟨by kernel_rfl⟩
instance : HasBody Try.prog 70 := ⟨by kernel_rfl⟩
instance : HasBody Try.prog 71 := ⟨by kernel_rfl⟩
instance : HasBody Try.prog 72 := ⟨by kernel_rfl⟩
instance : HasBody Try.prog 73 := ⟨by kernel_rfl⟩
instance : HasBody Try.prog 74 := ⟨by kernel_rfl⟩
instance : HasBody Try.prog 75 := ⟨by kernel_rfl⟩
instance : HasBody Try.prog 76 := ⟨by kernel_rfl⟩
instance : HasBody Try.prog 77 := ⟨by kernel_rfl⟩
instance : HasBody Try.prog 80 := ⟨by kernel_rfl⟩
instance : HasBody Try.prog 81 := ⟨by kernel_rfl⟩
instance : HasBody Try.prog 82 := ⟨by kernel_rfl⟩
instance : HasBody Try.prog 83 := ⟨by kernel_rfl⟩
instance : HasBody Try.prog 84 := ⟨by kernel_rfl⟩
instance : HasBody Try.prog 85 := ⟨by kernel_rfl⟩
instance : HasBody Try.prog 86 := ⟨by kernel_rfl⟩
instance : HasBody Try.prog 87 := ⟨by kernel_rfl⟩
instance : HasBody Try.prog 88 := ⟨by kernel_rfl⟩
instance : HasBody Try.prog 89 := ⟨by kernel_rfl⟩
instance : HasBody Try.prog 90 := ⟨by kernel_rfl⟩
instance : HasBody Try.prog 91 := ⟨by kernel_rfl⟩
instance : HasBody Try.prog 92 := ⟨by kernel_rfl⟩
instance : HasBody Try.prog 93 := ⟨by kernel_rfl⟩
instance : HasBody Try.prog 94 := ⟨by kernel_rfl⟩
instance : HasBody Try.prog 95 := ⟨by kernel_rfl⟩
instance : HasBody Try.prog 96 := ⟨by kernel_rfl⟩
instance : HasBody Try.prog 97 := ⟨by kernel_rfl⟩
instance : HasBody Try.prog 98 := ⟨by kernel_rfl⟩
instance : HasBody Try.prog 99 := ⟨by kernel_rfl⟩
instance : HasBody Try.prog 100 := ⟨by kernel_rfl⟩
instance : HasBody Try.prog 101 := ⟨by kernel_rfl⟩
instance : HasBody Try.prog 102 := ⟨by kernel_rfl⟩
instance : HasBody Try.prog 103 := ⟨by kernel_rfl⟩
instance : HasBody Try.prog 104 := ⟨by kernel_rfl⟩
instance : HasBody Try.prog 105 := ⟨by kernel_rfl⟩
instance : HasBody Try.prog 106 := ⟨by kernel_rfl⟩
instance : HasBody Try.prog 107 := ⟨by kernel_rfl⟩
instance : HasBody Try.prog 108 := ⟨by kernel_rfl⟩
instance : HasBody Try.prog 109 := ⟨by kernel_rfl⟩
instance : HasBody Try.prog 110 := ⟨by kernel_rfl⟩
instance : HasBody Try.prog 111 := ⟨by kernel_rfl⟩
instance : HasBody Try.prog 112 := ⟨by kernel_rfl⟩
instance : HasBody Try.prog 113 := ⟨by kernel_rfl⟩
instance : HasBody Try.prog 114 := ⟨by kernel_rfl⟩
instance : HasBody Try.prog 115 := ⟨by kernel_rfl⟩
instance : HasBody Try.prog 116 := ⟨by kernel_rfl⟩
instance : HasBody Try.prog 117 := ⟨by kernel_rfl⟩
instance : HasBody Try.prog 118 := ⟨by kernel_rfl⟩
instance : HasBody Try.prog 119 := ⟨by kernel_rfl⟩
instance : HasBody Try.prog 120 := ⟨by kernel_rfl⟩
instance : HasBody Try.prog 121 := ⟨by kernel_rfl⟩
instance : HasBody Try.prog 122 := ⟨by kernel_rfl⟩
instance : HasBody Try.prog 124 := ⟨by kernel_rfl⟩
instance : HasBody Try.prog 125 := ⟨by kernel_rfl⟩
instance : HasBody Try.prog 126 := ⟨by kernel_rfl⟩
instance : HasBody Try.prog 127 := ⟨by kernel_rfl⟩
instance : HasBody Try.prog 128 := ⟨by kernel_rfl⟩
instance : HasBody Try.prog 129 := ⟨by kernel_rfl⟩
instance : HasBody Try.prog 130 := ⟨by kernel_rfl⟩
instance : HasBody Try.prog 131 := ⟨by kernel_rfl⟩
instance : HasBody Try.prog 132 := ⟨by kernel_rfl⟩
instance : HasBody Try.prog 133 := ⟨by kernel_rfl⟩
instance : HasBody Try.prog 134 := ⟨by kernel_rfl⟩
instance : HasBody Try.prog 135 := ⟨by kernel_rfl⟩
instance : HasBody Try.prog 136 := ⟨by kernel_rfl⟩
instance : HasBody Try.prog 137 := ⟨by kernel_rfl⟩
instance : HasBody Try.prog 138 := ⟨by kernel_rfl⟩
instance : HasBody Try.prog 139 := ⟨by kernel_rfl⟩
instance : HasBody Try.prog 140 := ⟨by kernel_rfl⟩
instance : HasBody Try.prog 141 := ⟨by kernel_rfl⟩
instance : HasBody Try.prog 142 := ⟨by kernel_rfl⟩
instance : HasBody Try.prog 143 := ⟨by kernel_rfl⟩
instance : HasBody Try.prog 144 := ⟨by kernel_rfl⟩
instance : HasBody Try.prog 145 := ⟨by kernel_rfl⟩
instance : HasBody Try.prog 146 := ⟨by kernel_rfl⟩
instance : HasBody Try.prog 147 := ⟨by kernel_rfl⟩
instance : HasBody Try.prog 148 := ⟨by kernel_rfl⟩
instance : HasBody Try.prog 149 := ⟨by kernel_rfl⟩
instance : HasBody Try.prog 151 := ⟨by kernel_rfl⟩
instance : HasBody Try.prog 152 := ⟨by kernel_rfl⟩
instance : HasBody Try.prog 153 := ⟨by kernel_rfl⟩
instance : HasBody Try.prog 154 := ⟨by kernel_rfl⟩
instance : HasBody Try.prog 155 := ⟨by kernel_rfl⟩
instance : HasBody Try.prog 156 := ⟨by kernel_rfl⟩
instance : HasBody Try.prog 157 := ⟨by kernel_rfl⟩
instance : HasBody Try.prog 158 := ⟨by kernel_rfl⟩
instance : HasBody Try.prog 161 := ⟨by kernel_rfl⟩
instance : HasBody Try.prog 162 := ⟨by kernel_rfl⟩
instance : HasBody Try.prog 164 := ⟨by kernel_rfl⟩
instance : HasBody Try.prog 166 := ⟨by kernel_rfl⟩
instance : HasBody Try.prog 167 := ⟨by kernel_rfl⟩
instance : HasBody Try.prog 169 := ⟨by kernel_rfl⟩
instance : HasBody Try.prog 171 := ⟨by kernel_rfl⟩
instance : HasBody Try.prog 172 := ⟨by kernel_rfl⟩
instance : HasBody Try.prog 174 := ⟨by kernel_rfl⟩
instance : HasBody Try.prog 177 := ⟨by kernel_rfl⟩
instance : HasBody Try.prog 180 := ⟨by kernel_rfl⟩
instance : HasBody Try.prog 185 := ⟨by kernel_rfl⟩
instance : HasBody Try.prog 219 := ⟨by kernel_rfl⟩
instance : HasBody Try.prog 220 := ⟨by kernel_rfl⟩
instance : HasBody Try.prog 221 := ⟨by kernel_rfl⟩
instance : HasBody Try.prog 222 := ⟨by kernel_rfl⟩
instance : HasBody Try.prog 228 := ⟨by kernel_rfl⟩
instance : HasBody Try.prog 229 := ⟨by kernel_rfl⟩
instance : HasBody Try.prog 230 := ⟨by kernel_rfl⟩
instance : HasBody Try.prog 231 := ⟨by kernel_rfl⟩
instance : HasBody Try.prog 232 := ⟨by kernel_rfl⟩
instance : HasBody Try.prog 233 := ⟨by kernel_rfl⟩
instance : HasBody Try.prog 234 := ⟨by kernel_rfl⟩
instance : HasBody Try.prog 237 := ⟨by kernel_rfl⟩
instance : HasBody Try.prog 238 := ⟨by kernel_rfl⟩
instance : HasBody Try.prog 239 := ⟨by kernel_rfl⟩
instance : HasBody Try.prog 240 := ⟨by kernel_rfl⟩
instance : HasBody Try.prog 241 := ⟨by kernel_rfl⟩
instance : HasBody Try.prog 242 := ⟨by kernel_rfl⟩
instance : HasBody Try.prog 243 := ⟨by kernel_rfl⟩
instance : HasBody Try.prog 246 := ⟨by kernel_rfl⟩
instance : HasBody Try.prog 247 := ⟨by kernel_rfl⟩
theorem mixed : Try.prog.follows .mixedOrders = true := by kernel_rfl
end Go.Proofs.Ytlhlidmhlhodiaa

/-
  Package octet, the reader, and its reference.
-/
namespace Go.Proofs.Ytlhlidmhlhodiaa
set_option linter.unusedSimpArgs false
set_option linter.unusedVariables false
set_option linter.unusedSimpArgs false
set_option linter.unusedVariables false
open Go.RowKit
set_option maxRecDepth 100000
attribute [local irreducible] Pv WO WC Fn
attribute [local irreducible] ByteArray.extract

abbrev E0 : ByteArray := ⟨#[]⟩
abbrev rdO (g : Nat) (s : ByteArray) (e : Int) : It := .ob g (.cells #[.string s, .int .i64 e] 260 (0, 0))
abbrev rrL (s : ByteArray) (e : Int) : List Value := [.string s, .int .i64 e]
def rdB (s : ByteArray) (e n : Int) : ByteArray × ByteArray × Int :=
  if e ≠ 0 then (E0, s, e) else if n < 0 then (E0, E0, 5) else if (s.size : Int) < n then (E0, E0, 1) else (s.extract 0 n.toNat, s.extract n.toNat s.size, 0)
def rdF (s : ByteArray) (e x : Int) : ByteArray × Int := if e = 0 ∧ x ≠ 0 then (E0, x) else (s, e)
theorem octRead (s : ByteArray) : Fn Try.prog 62 #[.string s] [] [] (fun v L' R' => ∃ g, v = .pointer (some ⟨g, 0, none⟩) ∧ L' = [rdO g s 0] ∧ R' = []) := by
  refine fn_intro Try.func62 rfl Try.ntmps62 rfl (fun E => ?_)
  (repeat (first | ((first | (apply wo_v; rfl) ); (· first | (apply pv_ev; rfl) | (apply g_build; apply pv_build; (· (repeat (first | apply Bld.nil | (apply Bld.one; rfl; rfl; (· (repeat (first | apply SetAt.here )))) )))) )) | apply wo_nil | apply wc_seq | apply wc_region | apply wc_ret | (apply wo_box1; rfl; rfl; rfl; intro bx) | (apply wo_boxa; rfl; rfl; intro bx) ))
  exact retv rfl (by (repeat (first | apply RV.nil | (apply RV.tmp; rfl) )); done) ⟨_, rfl, rfl, rfl⟩ (by (repeat (first | apply sub_nil )); done) (by first | exact fun _ h => h | (intro r hr; cases hr; done) | (simp; done) | exact fun _ h => List.mem_append_left _ h | (intro r hr; simp [hr]; done))
theorem octLen (g : Nat) (s : ByteArray) (e : Int) : Fn Try.prog 84 #[.pointer (some ⟨g, 0, none⟩)] [rdO g s e] [] (fun v L' R' => v = .int .i64 s.size ∧ L' = [rdO g s e] ∧ R' = []) := by
  refine fn_intro Try.func84 rfl Try.ntmps84 rfl (fun E => ?_)
  (repeat (first | ((first | (apply wo_v; rfl) ); (· first | (apply pv_ev; rfl) | (apply pv_fld; rfl) | (apply g_load; first | (apply pv_ld; rfl; (· (repeat (first | apply sel_here ))); rfl) ) | (apply g_bi; first | (apply pv_len_str; rfl) ) )) | apply wo_nil | apply wc_seq | apply wc_region | apply wc_ret ))
  exact retv rfl (by (repeat (first | apply RV.nil | (apply RV.tmp; rfl) )); done) (⟨rfl, rfl, rfl⟩) (by (repeat (first | apply sub_nil )); done) (by first | exact fun _ h => h | (intro r hr; cases hr; done) | (simp; done) | exact fun _ h => List.mem_append_left _ h | (intro r hr; simp [hr]; done))
theorem octErr (g : Nat) (s : ByteArray) (e : Int) : Fn Try.prog 64 #[.pointer (some ⟨g, 0, none⟩)] [rdO g s e] [] (fun v L' R' => v = .int .i64 e ∧ L' = [rdO g s e] ∧ R' = []) := by
  refine fn_intro Try.func64 rfl Try.ntmps64 rfl (fun E => ?_)
  (repeat (first | ((first | (apply wo_v; rfl) ); (· first | (apply pv_ev; rfl) | (apply pv_fld; rfl) | (apply g_load; first | (apply pv_ld; rfl; (· (repeat (first | apply sel_here ))); rfl) ) )) | apply wo_nil | apply wc_seq | apply wc_region | apply wc_ret ))
  exact retv rfl (by (repeat (first | apply RV.nil | (apply RV.tmp; rfl) )); done) (⟨rfl, rfl, rfl⟩) (by (repeat (first | apply sub_nil )); done) (by first | exact fun _ h => h | (intro r hr; cases hr; done) | (simp; done) | exact fun _ h => List.mem_append_left _ h | (intro r hr; simp [hr]; done))
theorem octFail (g : Nat) (s : ByteArray) (e x : Int) : Fn Try.prog 70 #[.pointer (some ⟨g, 0, none⟩), .int .i64 x] [rdO g s e] [] (fun v L' R' => v = .tuple #[] ∧ L' = [rdO g (rdF s e x).1 (rdF s e x).2] ∧ R' = []) := by
  have h : (e = 0 ∧ x ≠ 0) ∨ (e = 0 ∧ ¬ x ≠ 0) ∨ ¬ e = 0 := by omega
  rcases h with ⟨h1, h2⟩ | ⟨h1, h2⟩ | h1
  · have hf : rdF s e x = (E0, x) := if_pos ⟨h1, h2⟩
    rw [hf]
    refine fn_intro Try.func70 rfl Try.ntmps70 rfl (fun E => ?_)
    (repeat (first | ((first | (apply wo_v; rfl) ); (· first | (apply pv_ev; rfl) | (apply pv_fld; rfl) | (apply g_load; first | (apply pv_ld; rfl; (· (repeat (first | apply sel_here ))); rfl) ) | (apply g_pick; first | (apply pv_pick_t; rfl; rfl) ) )) | apply wo_nil | apply wc_seq | apply wc_region | (apply wc_true; rfl) | (apply wc_false; rfl) | (apply a_dec_t; rfl; (· first | assumption | omega)) | (apply wo_run; rfl; rfl) | (apply wo_skip; rfl; rfl; rfl; rfl) | (apply wo_skip_u; rfl; rfl; rfl) | (apply a_gt; rfl; rfl; (· first | assumption | omega)) | (apply wo_st; rfl; rfl; rfl; (· (repeat (first | apply sel_here ))); (· (repeat (first | apply SetAt.here | apply SetAt.there))); rfl) ))
    exact ret0 rfl ⟨rfl, rfl, rfl⟩ (by (repeat (first | apply sub_nil )); done) (by first | exact fun _ h => h | (intro r hr; cases hr; done) | (simp; done) | exact fun _ h => List.mem_append_left _ h | (intro r hr; simp [hr]; done))
  · have hf : rdF s e x = (s, e) := if_neg (fun h => h2 h.2)
    rw [hf]
    refine fn_intro Try.func70 rfl Try.ntmps70 rfl (fun E => ?_)
    (repeat (first | ((first | (apply wo_v; rfl) ); (· first | (apply pv_ev; rfl) | (apply pv_fld; rfl) | (apply g_load; first | (apply pv_ld; rfl; (· (repeat (first | apply sel_here ))); rfl) ) | (apply g_pick; first | (apply pv_pick_t; rfl; rfl) ) )) | apply wo_nil | apply wc_seq | apply wc_region | apply wc_skip | (apply wc_true; rfl) | (apply wc_false; rfl) | (apply a_dec_t; rfl; (· first | assumption | omega)) | (apply a_dec_f; rfl; (· first | assumption | omega)) | (apply wo_run; rfl; rfl) | (apply wo_skip; rfl; rfl; rfl; rfl) | (apply wo_skip_u; rfl; rfl; rfl) | (apply a_gt; rfl; rfl; (· first | assumption | omega)) ))
    exact ret0 rfl ⟨rfl, rfl, rfl⟩ (by (repeat (first | apply sub_nil )); done) (by first | exact fun _ h => h | (intro r hr; cases hr; done) | (simp; done) | exact fun _ h => List.mem_append_left _ h | (intro r hr; simp [hr]; done))
  · have hf : rdF s e x = (s, e) := if_neg (fun h => h1 h.1)
    rw [hf]
    refine fn_intro Try.func70 rfl Try.ntmps70 rfl (fun E => ?_)
    (repeat (first | ((first | (apply wo_v; rfl) ); (· first | (apply pv_ev; rfl) | (apply pv_fld; rfl) | (apply g_load; first | (apply pv_ld; rfl; (· (repeat (first | apply sel_here ))); rfl) ) | (apply g_pick; first | (apply pv_pick_t; rfl; rfl) | (apply pv_pick_f; rfl; rfl)) )) | apply wo_nil | apply wc_seq | apply wc_region | apply wc_skip | (apply wc_true; rfl) | (apply wc_false; rfl) | (apply wo_run; rfl; rfl) | (apply wo_skip; rfl; rfl; rfl; rfl) | (apply wo_skip_u; rfl; rfl; rfl) | (apply a_gt; rfl; rfl; (· first | assumption | omega)) | (apply a_gf; rfl; rfl; (· first | assumption | omega)) ))
    exact ret0 rfl ⟨rfl, rfl, rfl⟩ (by (repeat (first | apply sub_nil )); done) (by first | exact fun _ h => h | (intro r hr; cases hr; done) | (simp; done) | exact fun _ h => List.mem_append_left _ h | (intro r hr; simp [hr]; done))
set_option maxHeartbeats 2000000 in
theorem octBytes (g : Nat) (s : ByteArray) (e n : Int) (hs : s.size ≤ 1099511627776) : Fn Try.prog 67 #[.pointer (some ⟨g, 0, none⟩), .int .i64 n] [rdO g s e] []
    (fun v L' R' => v = .string (rdB s e n).1 ∧ L' = [rdO g (rdB s e n).2.1 (rdB s e n).2.2] ∧ R' = []) := by
  have h : ¬ e = 0 ∨ (e = 0 ∧ n < 0) ∨ (e = 0 ∧ ¬ n < 0 ∧ (s.size : Int) < n) ∨ (e = 0 ∧ ¬ n < 0 ∧ ¬ (s.size : Int) < n) := by omega
  rcases h with h1 | ⟨rfl, h2⟩ | ⟨rfl, h2, h3⟩ | ⟨rfl, h2, h3⟩
  · have hf : rdB s e n = (E0, s, e) := if_pos h1
    rw [hf]
    refine fn_intro Try.func67 rfl Try.ntmps67 rfl (fun E => ?_)
    (repeat (first | ((first | (apply wo_v; rfl) ); (· first | (apply pv_ev; rfl) | (apply pv_fld; rfl) | (apply g_load; first | (apply pv_ld; rfl; (· (repeat (first | apply sel_here ))); rfl) ) )) | apply wo_nil | apply wc_seq | apply wc_region | apply wc_block | apply wc_ret | (apply wc_true; rfl) | (apply wc_false; rfl) | (apply a_dec_t; rfl; (· first | assumption | omega)) ))
    exact retv rfl (by (repeat (first | apply RV.nil | (apply RV.tmp; rfl) )); done) (⟨rfl, rfl, rfl⟩) (by (repeat (first | apply sub_nil )); done) (by first | exact fun _ h => h | (intro r hr; cases hr; done) | (simp; done) | exact fun _ h => List.mem_append_left _ h | (intro r hr; simp [hr]; done))
  · have hf : rdB s 0 n = (E0, E0, 5) := by unfold rdB; rw [if_neg (by omega), if_pos h2]
    rw [hf]
    refine fn_intro Try.func67 rfl Try.ntmps67 rfl (fun E => ?_)
    (repeat (first | ((first | (apply wo_v; rfl) ); (· first | (apply pv_ev; rfl) | (apply pv_fld; rfl) | (apply g_load; first | (apply pv_ld; rfl; (· (repeat (first | apply sel_here ))); rfl) ) )) | apply wo_nil | apply wc_seq | apply wc_region | apply wc_block | (apply wc_true; rfl) | (apply wc_false; rfl) | (apply a_dec_t; rfl; (· first | assumption | omega)) ))
    (refine wo_call (octFail g s 0 5) rfl (by (repeat (first | apply sub_nil )); done) (by first | exact fun _ h => h | (intro r hr; cases hr; done) | (simp; done) | exact fun _ h => List.mem_append_left _ h | (intro r hr; simp [hr]; done)) rfl ?_; rintro v L' R' ⟨rfl, rfl, rfl⟩ H' hH RR hR; simp only [List.cons_append, List.nil_append] at hH hR; subst hH; have hR := hR.symm; subst hR)
    (repeat (first | ((first | (apply wo_v; rfl) ); (· first | (apply pv_ev; rfl) )) | apply wo_nil | apply wc_seq | apply wc_region | apply wc_ret ))
    exact retv rfl (by (repeat (first | apply RV.nil | (apply RV.tmp; rfl) )); done) (⟨rfl, rfl, rfl⟩) (by (repeat (first | apply sub_nil )); done) (by first | exact fun _ h => h | (intro r hr; cases hr; done) | (simp; done) | exact fun _ h => List.mem_append_left _ h | (intro r hr; simp [hr]; done))
  · have hf : rdB s 0 n = (E0, E0, 1) := by unfold rdB; rw [if_neg (by omega), if_neg h2, if_pos h3]
    rw [hf]
    refine fn_intro Try.func67 rfl Try.ntmps67 rfl (fun E => ?_)
    (repeat (first | ((first | (apply wo_v; rfl) ); (· first | (apply pv_ev; rfl) | (apply pv_fld; rfl) | (apply g_load; first | (apply pv_ld; rfl; (· (repeat (first | apply sel_here ))); rfl) ) | (apply g_bi; first | (apply pv_len_str; rfl) ) )) | apply wo_nil | apply wc_seq | apply wc_region | apply wc_block | (apply wc_true; rfl) | (apply wc_false; rfl) | (apply a_dec_t; rfl; (· first | assumption | omega)) | (apply a_dec_f; rfl; (· first | assumption | omega)) ))
    (refine wo_call (octFail g s 0 1) rfl (by (repeat (first | apply sub_nil )); done) (by first | exact fun _ h => h | (intro r hr; cases hr; done) | (simp; done) | exact fun _ h => List.mem_append_left _ h | (intro r hr; simp [hr]; done)) rfl ?_; rintro v L' R' ⟨rfl, rfl, rfl⟩ H' hH RR hR; simp only [List.cons_append, List.nil_append] at hH hR; subst hH; have hR := hR.symm; subst hR)
    (repeat (first | ((first | (apply wo_v; rfl) ); (· first | (apply pv_ev; rfl) )) | apply wo_nil | apply wc_seq | apply wc_region | apply wc_ret ))
    exact retv rfl (by (repeat (first | apply RV.nil | (apply RV.tmp; rfl) )); done) (⟨rfl, rfl, rfl⟩) (by (repeat (first | apply sub_nil )); done) (by first | exact fun _ h => h | (intro r hr; cases hr; done) | (simp; done) | exact fun _ h => List.mem_append_left _ h | (intro r hr; simp [hr]; done))
  · have hf : rdB s 0 n = (s.extract 0 n.toNat, s.extract n.toNat s.size, 0) := by unfold rdB; rw [if_neg (by omega), if_neg h2, if_neg h3]
    rw [hf]
    refine fn_intro Try.func67 rfl Try.ntmps67 rfl (fun E => ?_)
    (repeat (first | ((first | (apply wo_v; rfl) ); (· first | (apply pv_ev; rfl) | (apply pv_fld; rfl) | (apply g_load; first | (apply pv_ld; rfl; (· (repeat (first | apply sel_here ))); rfl) ) | (apply g_bi; first | (apply pv_len_str; rfl) ) | (apply pv_cs_lo; rfl; rfl; omega) | (apply pv_cs_hi; rfl; rfl; omega) )) | apply wo_nil | apply wc_seq | apply wc_region | apply wc_block | apply wc_skip | apply wc_ret | (apply wc_true; rfl) | (apply wc_false; rfl) | (apply a_dec_t; rfl; (· first | assumption | omega)) | (apply a_dec_f; rfl; (· first | assumption | omega)) | (apply wo_st; rfl; rfl; rfl; (· (repeat (first | apply sel_here ))); (· (repeat (first | apply SetAt.here ))); rfl) ))
    exact retv rfl (by (repeat (first | apply RV.nil | (apply RV.tmp; rfl) )); done) (⟨rfl, rfl, rfl⟩) (by (repeat (first | apply sub_nil )); done) (by first | exact fun _ h => h | (intro r hr; cases hr; done) | (simp; done) | exact fun _ h => List.mem_append_left _ h | (intro r hr; simp [hr]; done))
/-! the reference -/
end Go.Proofs.Ytlhlidmhlhodiaa

/-
  Package octet: the reader's numbers, and the reference's.
-/
namespace Go.Proofs.Ytlhlidmhlhodiaa
set_option linter.unusedSimpArgs false
set_option linter.unusedVariables false
set_option linter.unusedSimpArgs false
set_option linter.unusedVariables false
open Go.RowKit
set_option maxRecDepth 100000
attribute [local irreducible] Pv WO WC Fn
attribute [local irreducible] ByteArray.extract

def valK (s : ByteArray) : Nat → Int
  | 0 => 0
  | k + 1 => valK s k * 256 + sb s k
theorem valK_b (s : ByteArray) : (∀ k, 0 ≤ valK s k) ∧ valK s 1 ≤ 255 ∧ valK s 2 ≤ 65535 ∧ valK s 3 ≤ 16777215 ∧ valK s 4 ≤ 4294967295 ∧ valK s 5 ≤ 1099511627775 ∧ valK s 6 ≤ 281474976710655 ∧ valK s 7 ≤ 72057594037927935 ∧ valK s 8 ≤ 18446744073709551615 := by
  have h := sb_b s
  refine ⟨fun k => ?_, ?_⟩
  · induction k with
    | zero => exact Int.le_refl _
    | succ k ih => have := h k; simp only [valK]; omega
  · have h0 := h 0; have h1 := h 1; have h2 := h 2; have h3 := h 3; have h4 := h 4; have h5 := h 5; have h6 := h 6; have h7 := h 7
    simp only [valK]
    omega
theorem valK_le7 (s : ByteArray) {k : Nat} (hk : k ≤ 7) : 0 ≤ valK s k ∧ valK s k ≤ 72057594037927935 := by
  obtain ⟨h0, h1, h2, h3, h4, h5, h6, h7, h8⟩ := valK_b s
  have := h0 k
  obtain rfl | rfl | rfl | rfl | rfl | rfl | rfl | rfl : k = 0 ∨ k = 1 ∨ k = 2 ∨ k = 3 ∨ k = 4 ∨ k = 5 ∨ k = 6 ∨ k = 7 := by omega
  · simp [valK]
  all_goals omega
theorem valK_le8 (s : ByteArray) {k : Nat} (hk : k ≤ 8) : 0 ≤ valK s k ∧ valK s k ≤ 18446744073709551615 := by
  by_cases h : k ≤ 7
  · have := valK_le7 s h; omega
  · obtain rfl : k = 8 := by omega
    have := valK_b s; exact ⟨this.1 8, this.2.2.2.2.2.2.2.2⟩
theorem rdB_size (s : ByteArray) (e n : Int) (hn : 0 ≤ n) : (((rdB s e n).1).size : Int) ≤ n := by
  have hE : E0.size = 0 := rfl
  unfold rdB
  split
  · simpa [hE] using hn
  · split
    · simpa [hE] using hn
    · split
      · simpa [hE] using hn
      · simp only [ByteArray.size_extract]; omega
theorem rdB_size2 (s : ByteArray) (e n : Int) : ((rdB s e n).2.1).size ≤ s.size := by
  have hE : E0.size = 0 := rfl
  unfold rdB
  split
  · exact Nat.le_refl _
  · split
    · simp [hE]
    · split
      · simp [hE]
      · simp only [ByteArray.size_extract]; omega
set_option maxHeartbeats 1000000 in
theorem octNum (g : Nat) (s b s2 : ByteArray) (e n e2 : Int) (hs : s.size ≤ 1099511627776) (hq : rdB s e (min (max n 1) 8) = (b, s2, e2)) : Fn Try.prog 121 #[.pointer (some ⟨g, 0, none⟩), .int .i64 n] [rdO g s e] []
    (fun v L' R' => v = .int .u64 (valK b b.size) ∧ L' = [rdO g s2 e2] ∧ R' = []) := by
  have hB := octBytes g s e (min (max n 1) 8) hs
  have hz := rdB_size s e (min (max n 1) 8) (by omega)
  rw [hq] at hB hz
  simp only at hB hz
  have hz8 : b.size ≤ 8 := by omega
  clear hz hq
  refine fn_intro Try.func121 rfl Try.ntmps121 rfl (fun E => ?_)
  (repeat (first | ((first | (apply wo_v; rfl) ); (· first | (apply pv_ev; rfl) | (apply g_bi; first | (apply pv_min; rfl; rfl) | (apply pv_max; rfl; rfl)) )) | apply wo_nil | apply wc_seq | apply wc_region ))
  (refine wo_call (hB) rfl (by (repeat (first | apply sub_nil )); done) (by first | exact fun _ h => h | (intro r hr; cases hr; done) | (simp; done) | exact fun _ h => List.mem_append_left _ h | (intro r hr; simp [hr]; done)) rfl ?_; rintro v L' R' ⟨rfl, rfl, rfl⟩ H' hH RR hR; simp only [List.cons_append, List.nil_append] at hH hR; subst hH; have hR := hR.symm; subst hR)
  (repeat (first | ((first | (apply wo_v; rfl) ); (· first | (apply pv_ev; rfl) | (apply g_bi; first | (apply pv_len_sl; rfl) ) | (apply g_conv; first | (apply a_conv; rfl; infer_instance; infer_instance; infer_instance; omega) | (apply a_conv_u; rfl; infer_instance; infer_instance; infer_instance) | (apply a_conv_w; rfl; infer_instance; infer_instance) ) )) | apply wo_nil | apply wc_block | (apply wo_conv_sb; rfl; rfl; intro bc cc hcc) ))
  refine wc_loop' (fun m st => ∃ (k : Nat), m = b.size - k ∧ st = ⟨[(5, .int .u64 (valK b k)), (13, .slice (some ⟨bc, 0, none⟩) b.size cc), (14, .int .i64 b.size), (15, .int .i64 k)], [rdO g s2 e2], [⟨bc, 0, 1, brows b⟩]⟩ ∧ k ≤ b.size)
    ⟨0, rfl, rfl, Nat.zero_le _⟩ (wk_mk (by (repeat (first | apply wkf_nil | (apply wkf_cons; rfl))); done) (by (repeat (first | apply sub_nil )); done) (by first | exact fun _ h => h | (intro r hr; cases hr; done) | (simp; done) | exact fun _ h => List.mem_append_left _ h | (intro r hr; simp [hr]; done))) ?_
  rintro m st ⟨k, rfl, rfl, hk⟩
  by_cases hlt : k < b.size
  · have hr := brows_at hlt
    have hv := valK_le7 b (show k ≤ 7 by omega)
    have hb := sb_b b k
    (repeat (first | ((first | (apply wo_v; rfl) ); (· first | (apply pv_ev; rfl) | (apply g_load; first | (apply pv_ld; rfl; (· (repeat (first | apply sel_there))); rfl) | (apply pv_ld_ownf; rfl; (· (repeat (first | fail ))); (· assumption); rfl) | (apply pv_ld_own1; rfl; (· (repeat (first | apply sel_there))); (· assumption)) | (apply pv_ld_rof; rfl; (· (first | assumption )); (· assumption); rfl) | (apply pv_ld_ro1; rfl; (· (first | assumption | ((repeat (first | apply List.Mem.head )); done))); (· assumption)) ) | (apply g_bin; first | (apply a_add; rfl; rfl; infer_instance; omega) | (apply (a_or 8); rfl; rfl; infer_instance; rfl; omega) | (apply a_shl; rfl; rfl; rfl; omega; rfl; infer_instance; omega) ) | (apply g_conv; first | (apply a_conv; rfl; infer_instance; infer_instance; infer_instance; omega) ) | (apply g_idx; first | (apply pv_idx; rfl; rfl; omega) ) )) | apply wo_nil | apply wc_seq | apply wc_region | apply wc_block | apply wc_skip | (apply wc_true; rfl) | (apply wc_false; rfl) | (apply a_dec_t; rfl; (· first | assumption | omega)) ))
    exact loop_end ⟨k + 1, rfl, rfl, by omega⟩ (by omega) (wk_mk (by (repeat (first | apply wkf_nil | (apply wkf_cons; rfl))); done) (by (repeat (first | apply sub_nil )); done) (by first | exact fun _ h => h | (intro r hr; cases hr; done) | (simp; done) | exact fun _ h => List.mem_append_left _ h | (intro r hr; simp [hr]; done)))
  · obtain rfl : k = b.size := by omega
    (repeat (first | ((first | (apply wo_v; rfl) ); (· first | (apply pv_ev; rfl) )) | apply wo_nil | apply wc_seq | apply wc_region | (apply wc_exit; rfl) | apply wc_ret | (apply wc_true; rfl) | (apply wc_false; rfl) | (apply a_dec_t; rfl; (· first | assumption | omega)) | (apply a_dec_f; rfl; (· first | assumption | omega)) ))
    exact retv rfl (by (repeat (first | apply RV.nil | (apply RV.tmp; rfl) )); done) (⟨rfl, rfl, rfl⟩) (by (repeat (first | apply sub_nil )); done) (by first | exact fun _ h => h | (intro r hr; cases hr; done) | (simp; done) | exact fun _ h => List.mem_append_left _ h | (intro r hr; simp [hr]; done))
theorem octU8 (g : Nat) (s b s2 : ByteArray) (e e2 : Int) (hs : s.size ≤ 1099511627776) (hq : rdB s e 1 = (b, s2, e2)) : Fn Try.prog 63 #[.pointer (some ⟨g, 0, none⟩)] [rdO g s e] []
    (fun v L' R' => v = .int .u8 (valK b b.size) ∧ L' = [rdO g s2 e2] ∧ R' = []) := by
  have hN := octNum g s b s2 e 1 e2 hs (by rw [show min (max (1 : Int) 1) 8 = 1 from rfl]; exact hq)
  have hz := rdB_size s e 1 (by omega)
  rw [hq] at hz
  have hv : 0 ≤ valK b b.size ∧ valK b b.size ≤ 255 := by
    obtain ⟨h0, h1, _⟩ := valK_b b
    have h2 := h0 b.size
    obtain h | h : b.size = 0 ∨ b.size = 1 := by simp only at hz; omega
    · rw [h]; simp [valK]
    · rw [h] at h2 ⊢; omega
  refine fn_intro Try.func63 rfl Try.ntmps63 rfl (fun E => ?_)
  (repeat (first | ((first | (apply wo_v; rfl) ); (· first | (apply pv_ev; rfl) )) | apply wo_nil | apply wc_seq | apply wc_region ))
  (refine wo_call (hN) rfl (by (repeat (first | apply sub_nil )); done) (by first | exact fun _ h => h | (intro r hr; cases hr; done) | (simp; done) | exact fun _ h => List.mem_append_left _ h | (intro r hr; simp [hr]; done)) rfl ?_; rintro v L' R' ⟨rfl, rfl, rfl⟩ H' hH RR hR; simp only [List.cons_append, List.nil_append] at hH hR; subst hH; have hR := hR.symm; subst hR)
  (repeat (first | ((first | (apply wo_v; rfl) ); (· first | (apply pv_ev; rfl) | (apply g_conv; first | (apply a_conv; rfl; infer_instance; infer_instance; infer_instance; omega) ) )) | apply wo_nil | apply wc_ret ))
  exact retv rfl (by (repeat (first | apply RV.nil | (apply RV.tmp; rfl) )); done) (⟨rfl, rfl, rfl⟩) (by (repeat (first | apply sub_nil )); done) (by first | exact fun _ h => h | (intro r hr; cases hr; done) | (simp; done) | exact fun _ h => List.mem_append_left _ h | (intro r hr; simp [hr]; done))
theorem octU16 (g : Nat) (s b s2 : ByteArray) (e e2 : Int) (hs : s.size ≤ 1099511627776) (hq : rdB s e 2 = (b, s2, e2)) : Fn Try.prog 65 #[.pointer (some ⟨g, 0, none⟩)] [rdO g s e] []
    (fun v L' R' => v = .int .u16 (valK b b.size) ∧ L' = [rdO g s2 e2] ∧ R' = []) := by
  have hN := octNum g s b s2 e 2 e2 hs (by rw [show min (max (2 : Int) 1) 8 = 2 from rfl]; exact hq)
  have hz := rdB_size s e 2 (by omega)
  rw [hq] at hz
  have hv : 0 ≤ valK b b.size ∧ valK b b.size ≤ 65535 := by
    obtain ⟨h0, h1, h1', _⟩ := valK_b b
    have h2 := h0 b.size
    obtain h | h | h : b.size = 0 ∨ b.size = 1 ∨ b.size = 2 := by simp only at hz; omega
    · rw [h]; simp [valK]
    · rw [h] at h2 ⊢; omega
    · rw [h] at h2 ⊢; omega
  refine fn_intro Try.func65 rfl Try.ntmps65 rfl (fun E => ?_)
  (repeat (first | ((first | (apply wo_v; rfl) ); (· first | (apply pv_ev; rfl) )) | apply wo_nil | apply wc_seq | apply wc_region ))
  (refine wo_call (hN) rfl (by (repeat (first | apply sub_nil )); done) (by first | exact fun _ h => h | (intro r hr; cases hr; done) | (simp; done) | exact fun _ h => List.mem_append_left _ h | (intro r hr; simp [hr]; done)) rfl ?_; rintro v L' R' ⟨rfl, rfl, rfl⟩ H' hH RR hR; simp only [List.cons_append, List.nil_append] at hH hR; subst hH; have hR := hR.symm; subst hR)
  (repeat (first | ((first | (apply wo_v; rfl) ); (· first | (apply pv_ev; rfl) | (apply g_conv; first | (apply a_conv; rfl; infer_instance; infer_instance; infer_instance; omega) ) )) | apply wo_nil | apply wc_ret ))
  exact retv rfl (by (repeat (first | apply RV.nil | (apply RV.tmp; rfl) )); done) (⟨rfl, rfl, rfl⟩) (by (repeat (first | apply sub_nil )); done) (by first | exact fun _ h => h | (intro r hr; cases hr; done) | (simp; done) | exact fun _ h => List.mem_append_left _ h | (intro r hr; simp [hr]; done))
theorem octU32 (g : Nat) (s b s2 : ByteArray) (e e2 : Int) (hs : s.size ≤ 1099511627776) (hq : rdB s e 4 = (b, s2, e2)) : Fn Try.prog 66 #[.pointer (some ⟨g, 0, none⟩)] [rdO g s e] []
    (fun v L' R' => v = .int .u32 (valK b b.size) ∧ L' = [rdO g s2 e2] ∧ R' = []) := by
  have hN := octNum g s b s2 e 4 e2 hs (by rw [show min (max (4 : Int) 1) 8 = 4 from rfl]; exact hq)
  have hz := rdB_size s e 4 (by omega)
  rw [hq] at hz
  have hv : 0 ≤ valK b b.size ∧ valK b b.size ≤ 4294967295 := by
    obtain ⟨h0, h1, h1', h1'', h1''', _⟩ := valK_b b
    have h2 := h0 b.size
    obtain h | h | h | h | h : b.size = 0 ∨ b.size = 1 ∨ b.size = 2 ∨ b.size = 3 ∨ b.size = 4 := by simp only at hz; omega
    · rw [h]; simp [valK]
    all_goals (rw [h] at h2 ⊢; omega)
  refine fn_intro Try.func66 rfl Try.ntmps66 rfl (fun E => ?_)
  (repeat (first | ((first | (apply wo_v; rfl) ); (· first | (apply pv_ev; rfl) )) | apply wo_nil | apply wc_seq | apply wc_region ))
  (refine wo_call (hN) rfl (by (repeat (first | apply sub_nil )); done) (by first | exact fun _ h => h | (intro r hr; cases hr; done) | (simp; done) | exact fun _ h => List.mem_append_left _ h | (intro r hr; simp [hr]; done)) rfl ?_; rintro v L' R' ⟨rfl, rfl, rfl⟩ H' hH RR hR; simp only [List.cons_append, List.nil_append] at hH hR; subst hH; have hR := hR.symm; subst hR)
  (repeat (first | ((first | (apply wo_v; rfl) ); (· first | (apply pv_ev; rfl) | (apply g_conv; first | (apply a_conv; rfl; infer_instance; infer_instance; infer_instance; omega) ) )) | apply wo_nil | apply wc_ret ))
  exact retv rfl (by (repeat (first | apply RV.nil | (apply RV.tmp; rfl) )); done) (⟨rfl, rfl, rfl⟩) (by (repeat (first | apply sub_nil )); done) (by first | exact fun _ h => h | (intro r hr; cases hr; done) | (simp; done) | exact fun _ h => List.mem_append_left _ h | (intro r hr; simp [hr]; done))
theorem octRest (g : Nat) (s : ByteArray) (e : Int) (hs : s.size ≤ 1099511627776) : Fn Try.prog 68 #[.pointer (some ⟨g, 0, none⟩)] [rdO g s e] []
    (fun v L' R' => v = .string (rdB s e s.size).1 ∧ L' = [rdO g (rdB s e s.size).2.1 (rdB s e s.size).2.2] ∧ R' = []) := by
  have hB := octBytes g s e s.size hs
  refine fn_intro Try.func68 rfl Try.ntmps68 rfl (fun E => ?_)
  (repeat (first | ((first | (apply wo_v; rfl) ); (· first | (apply pv_ev; rfl) )) | apply wo_nil | apply wc_seq | apply wc_region ))
  (refine wo_call (octLen g s e) rfl (by (repeat (first | apply sub_nil )); done) (by first | exact fun _ h => h | (intro r hr; cases hr; done) | (simp; done) | exact fun _ h => List.mem_append_left _ h | (intro r hr; simp [hr]; done)) rfl ?_; rintro v L' R' ⟨rfl, rfl, rfl⟩ H' hH RR hR; simp only [List.cons_append, List.nil_append] at hH hR; subst hH; have hR := hR.symm; subst hR)
  (repeat (first | ((first | (apply wo_v; rfl) ); (· first | (apply pv_ev; rfl) )) ))
  (refine wo_call (hB) rfl (by (repeat (first | apply sub_nil )); done) (by first | exact fun _ h => h | (intro r hr; cases hr; done) | (simp; done) | exact fun _ h => List.mem_append_left _ h | (intro r hr; simp [hr]; done)) rfl ?_; rintro v L' R' ⟨rfl, rfl, rfl⟩ H' hH RR hR; simp only [List.cons_append, List.nil_append] at hH hR; subst hH; have hR := hR.symm; subst hR)
  (repeat (first | ((first | (apply wo_v; rfl) ); (· first | (apply pv_ev; rfl) )) | apply wo_nil | apply wc_ret ))
  exact retv rfl (by (repeat (first | apply RV.nil | (apply RV.tmp; rfl) )); done) (⟨rfl, rfl, rfl⟩) (by (repeat (first | apply sub_nil )); done) (by first | exact fun _ h => h | (intro r hr; cases hr; done) | (simp; done) | exact fun _ h => List.mem_append_left _ h | (intro r hr; simp [hr]; done))
def rdE (s : ByteArray) (e : Int) : Int := if e = 0 ∧ s ≠ E0 then 2 else e
theorem octEnd (g : Nat) (s : ByteArray) (e : Int) (he : e ≠ 0 → s = E0) : Fn Try.prog 87 #[.pointer (some ⟨g, 0, none⟩)] [rdO g s e] []
    (fun v L' R' => v = .int .i64 (rdE s e) ∧ L' = [rdO g E0 (rdE s e)] ∧ R' = []) := by
  by_cases h1 : s = E0
  · have hf : rdE s e = e := if_neg (fun h => h.2 h1)
    rw [hf]
    subst h1
    refine fn_intro Try.func87 rfl Try.ntmps87 rfl (fun E => ?_)
    (repeat (first | ((first | (apply wo_v; rfl) ); (· first | (apply pv_ev; rfl) | (apply pv_fld; rfl) | (apply g_load; first | (apply pv_ld; rfl; (· (repeat (first | apply sel_here ))); rfl) ) | (apply g_bin; first | (apply pv_neq_s; rfl; rfl) ) )) | apply wo_nil | apply wc_seq | apply wc_region | apply wc_skip | apply wc_ret | (apply wc_true; rfl) | (apply wc_false; rfl) ))
    exact retv rfl (by (repeat (first | apply RV.nil | (apply RV.tmp; rfl) )); done) (⟨rfl, rfl, rfl⟩) (by (repeat (first | apply sub_nil )); done) (by first | exact fun _ h => h | (intro r hr; cases hr; done) | (simp; done) | exact fun _ h => List.mem_append_left _ h | (intro r hr; simp [hr]; done))
  · have h2 : e = 0 := by
      by_cases h2 : e = 0
      · exact h2
      · exact absurd (he h2) h1
    subst h2
    have hf : rdE s 0 = 2 := if_pos ⟨rfl, h1⟩
    rw [hf]
    have hF := octFail g s 0 2
    rw [show rdF s 0 2 = (E0, 2) from if_pos ⟨rfl, by omega⟩] at hF
    refine fn_intro Try.func87 rfl Try.ntmps87 rfl (fun E => ?_)
    (repeat (first | ((first | (apply wo_v; rfl) ); (· first | (apply pv_ev; rfl) | (apply pv_fld; rfl) | (apply g_load; first | (apply pv_ld; rfl; (· (repeat (first | apply sel_here ))); rfl) ) | (apply g_bin; first | (apply pv_neq_s; rfl; rfl) ) )) | apply wo_nil | apply wc_seq | apply wc_region | (apply wc_true; rfl) | (apply wc_false; rfl) | (apply a_dec_t; rfl; (· first | assumption | omega)) ))
    (refine wo_call (hF) rfl (by (repeat (first | apply sub_nil )); done) (by first | exact fun _ h => h | (intro r hr; cases hr; done) | (simp; done) | exact fun _ h => List.mem_append_left _ h | (intro r hr; simp [hr]; done)) rfl ?_; rintro v L' R' ⟨rfl, rfl, rfl⟩ H' hH RR hR; simp only [List.cons_append, List.nil_append] at hH hR; subst hH; have hR := hR.symm; subst hR)
    (repeat (first | ((first | (apply wo_v; rfl) ); (· first | (apply pv_ev; rfl) | (apply pv_fld; rfl) | (apply g_load; first | (apply pv_ld; rfl; (· (repeat (first | apply sel_here ))); rfl) ) )) | apply wo_nil | apply wc_seq | apply wc_region | apply wc_ret ))
    exact retv rfl (by (repeat (first | apply RV.nil | (apply RV.tmp; rfl) )); done) (⟨rfl, rfl, rfl⟩) (by (repeat (first | apply sub_nil )); done) (by first | exact fun _ h => h | (intro r hr; cases hr; done) | (simp; done) | exact fun _ h => List.mem_append_left _ h | (intro r hr; simp [hr]; done))
/-! the reference -/
def cutS (s : ByteArray) (n : Nat) : ByteArray := if n < s.size then s.extract 0 n else s
theorem cutS_size (s : ByteArray) (n : Nat) : (cutS s n).size ≤ n := by
  unfold cutS
  split
  · simp only [ByteArray.size_extract]; omega
  · omega
theorem octCut (s : ByteArray) (n : Nat) : Fn Try.prog 11 #[.string s, .int .i64 n] [] [] (fun v L' R' => v = .string (cutS s n) ∧ L' = [] ∧ R' = []) := by
  by_cases h : n < s.size
  · rw [show cutS s n = s.extract 0 n from if_pos h]
    refine fn_intro Try.func11 rfl Try.ntmps11 rfl (fun E => ?_)
    (repeat (first | ((first | (apply wo_v; rfl) ); (· first | (apply pv_ev; rfl) | (apply g_bi; first | (apply pv_len_str; rfl) ) | (apply pv_cs_hi; rfl; rfl; omega) )) | apply wo_nil | apply wc_seq | apply wc_region | apply wc_ret | (apply wc_true; rfl) | (apply wc_false; rfl) | (apply a_dec_t; rfl; (· first | assumption | omega)) ))
    exact retv rfl (by (repeat (first | apply RV.nil | (apply RV.tmp; rfl) )); done) (⟨by simp [outV], rfl, rfl⟩) (by (repeat (first | apply sub_nil )); done) (by first | exact fun _ h => h | (intro r hr; cases hr; done) | (simp; done) | exact fun _ h => List.mem_append_left _ h | (intro r hr; simp [hr]; done))
  · rw [show cutS s n = s from if_neg h]
    refine fn_intro Try.func11 rfl Try.ntmps11 rfl (fun E => ?_)
    (repeat (first | ((first | (apply wo_v; rfl) ); (· first | (apply pv_ev; rfl) | (apply g_bi; first | (apply pv_len_str; rfl) ) )) | apply wo_nil | apply wc_seq | apply wc_region | apply wc_skip | apply wc_ret | (apply wc_true; rfl) | (apply wc_false; rfl) | (apply a_dec_t; rfl; (· first | assumption | omega)) | (apply a_dec_f; rfl; (· first | assumption | omega)) ))
    exact retv rfl (by (repeat (first | apply RV.nil | (apply RV.tmp; rfl) )); done) (⟨rfl, rfl, rfl⟩) (by (repeat (first | apply sub_nil )); done) (by first | exact fun _ h => h | (intro r hr; cases hr; done) | (simp; done) | exact fun _ h => List.mem_append_left _ h | (intro r hr; simp [hr]; done))
end Go.Proofs.Ytlhlidmhlhodiaa

/-
  Package octet, the writer (over strings.Builder).
-/
namespace Go.Proofs.Ytlhlidmhlhodiaa
set_option linter.unusedSimpArgs false
set_option linter.unusedVariables false
set_option linter.unusedSimpArgs false
set_option linter.unusedVariables false
open Go.RowKit
attribute [local irreducible] Pv WO WC Fn
attribute [local irreducible] ByteArray.extract

instance : TUns Try.prog 338 := ⟨by kernel_rfl⟩
abbrev wrT : TypeId := 145
abbrev wrO (g : Nat) (p ao : Option Addr) (n c : Nat) : It := .ob g (.cells #[.pointer p, .slice ao n c] wrT (0, 0))
abbrev wrH (g : Nat) (p ao : Option Addr) (c : Nat) (s : ByteArray) : List It := [wrO g p ao s.size c, .own 5 1 ao s.size c (brows s)]
structure WOk (g : Nat) (p ao : Option Addr) (c : Nat) (s : ByteArray) : Prop where
  p : p = none ∨ p = some ⟨g, 0, none⟩
  b : (ao = none ∧ c = 0 ∧ s = E0) ∨ (∃ b, ao = some ⟨b, 0, none⟩ ∧ 0 < s.size)
theorem WOk.h0 {g : Nat} {p ao : Option Addr} {c : Nat} {s : ByteArray} (h : WOk g p ao c s) : ao = none ∨ ∃ b, ao = some ⟨b, 0, none⟩ := by
  rcases h.b with ⟨h, _⟩ | ⟨b, h, _⟩
  · exact .inl h
  · exact .inr ⟨b, h⟩
theorem E0_append (s : ByteArray) : E0 ++ s = s := by
  apply ByteArray.ext; simp
theorem append_E0 (s : ByteArray) : s ++ E0 = s := by
  apply ByteArray.ext; simp
theorem size_zero {s : ByteArray} (h : s.size = 0) : s = E0 := by
  apply ByteArray.ext
  exact Array.eq_empty_of_size_eq_zero h
set_option maxRecDepth 100000 in
theorem noEsc {fr : List (Nat × Value)} {hp : List It} {ro : List Ro} {x : Operand} {v : Value} {ats : Array TypeId} (hx : opd fr x = some v) : Pv Try.prog ⟨fr, hp, ro⟩ (.call ⟨.value (.func 170), #[x], ats⟩) v :=
  pv_ext Try.func170 (by kernel_rfl) (by kernel_rfl) (by kernel_rfl) (e := Extern.AbiNoEscape.same) (by kernel_rfl) hx (fun w => rfl)
theorem wrLies : liesAt Try.prog Try.prog.depth wrT (2 / Try.prog.cellsOf wrT) 0 143 1 = true := by kernel_rfl
set_option maxRecDepth 100000 in
theorem bCheck (g n c : Nat) (p ao : Option Addr) (hp : p = none ∨ p = some ⟨g, 0, none⟩) : Fn Try.prog 149 #[.pointer (some ⟨g, 0, none⟩)] [wrO g p ao n c] [] (fun v L' R' => v = .tuple #[] ∧ L' = [wrO g (some ⟨g, 0, none⟩) ao n c] ∧ R' = []) := by
  rcases hp with rfl | rfl
  · refine fn_intro Try.func149 rfl Try.ntmps149 rfl (fun E => ?_)
    (repeat (first | ((first | (apply wo_v; rfl) ); (· first | (apply pv_ev; rfl) | (apply pv_fld; rfl) | (apply g_load; first | (apply pv_ld; rfl; (· (repeat (first | apply sel_here ))); rfl) ) | (apply g_bin; first | (apply pv_eql_p; rfl; rfl) ) | (apply g_conv; first | (apply a_conv; rfl; infer_instance; infer_instance; infer_instance; omega) | (apply a_conv_u; rfl; infer_instance; infer_instance; infer_instance) | (apply a_conv_w; rfl; infer_instance; infer_instance) ) )) | apply wo_nil | apply wc_seq | apply wc_region | (apply wc_true; rfl) ))
    refine wo_v rfl (pv_tou rfl (by (repeat (first | apply sel_here )); done) rfl) ?_
    refine wo_v rfl (noEsc rfl) ?_
    refine wo_v rfl (pv_fromu rfl (by (repeat (first | apply sel_here )); done) wrLies) ?_
    (repeat (first | ((first | (apply wo_v; rfl) ); (· first | (apply pv_ev; rfl) | (apply pv_fld; rfl) )) | apply wo_nil | (apply wo_st; rfl; rfl; rfl; (· (repeat (first | apply sel_here ))); (· (repeat (first | apply SetAt.here ))); rfl) ))
    exact ret0 rfl ⟨rfl, rfl, rfl⟩ (by (repeat (first | apply sub_nil )); done) (by first | exact fun _ h => h | (intro r hr; cases hr; done) | (simp; done) | exact fun _ h => List.mem_append_left _ h | (intro r hr; simp [hr]; done))
  · refine fn_intro Try.func149 rfl Try.ntmps149 rfl (fun E => ?_)
    (repeat (first | ((first | (apply wo_v; rfl) ); (· first | (apply pv_ev; rfl) | (apply pv_fld; rfl) | (apply g_load; first | (apply pv_ld; rfl; (· (repeat (first | apply sel_here ))); rfl) ) | (apply g_bin; first | (apply pv_eql_p; rfl; rfl) | (apply pv_neq_p; rfl; rfl) | (apply pv_neq_pp; rfl; rfl) ) )) | apply wo_nil | apply wc_seq | apply wc_region | apply wc_skip | (apply wc_true; rfl) | (apply wc_false; rfl) ))
    exact ret0 rfl ⟨rfl, rfl, rfl⟩ (by (repeat (first | apply sub_nil )); done) (by first | exact fun _ h => h | (intro r hr; cases hr; done) | (simp; done) | exact fun _ h => List.mem_append_left _ h | (intro r hr; simp [hr]; done))
theorem bWriteString (g c : Nat) (p ao : Option Addr) (s z : ByteArray) (hw : WOk g p ao c s) (hz : s.size + z.size ≤ 1099511627776) : Fn Try.prog 122 #[.pointer (some ⟨g, 0, none⟩), .string z] (wrH g p ao c s) []
    (fun v L' R' => ∃ p' ao' c', v = .tuple #[.int .i64 z.size, .nilIface] ∧ L' = wrH g p' ao' c' (s ++ z) ∧ R' = [] ∧ WOk g p' ao' c' (s ++ z)) := by
  have e1 : brows s ++ brows z = brows (s ++ z) := (brows_append s z).symm
  have e2 : s.size + z.size = (s ++ z).size := by simp
  refine fn_intro Try.func122 rfl Try.ntmps122 rfl (fun E => ?_)
  (repeat (first | ((first | (apply wo_v; rfl) ); (· first | (apply pv_ev; rfl) )) | apply wo_nil | apply wc_seq | apply wc_region ))
  (refine wo_call (bCheck g s.size c p ao hw.p) rfl (by (repeat (first | apply sub_nil )); done) (by first | exact fun _ h => h | (intro r hr; cases hr; done) | (simp; done) | exact fun _ h => List.mem_append_left _ h | (intro r hr; simp [hr]; done)) rfl ?_; rintro v L' R' ⟨rfl, rfl, rfl⟩ H' hH RR hR; simp only [List.cons_append, List.nil_append] at hH hR; subst hH; have hR := hR.symm; subst hR)
  (repeat (first | ((first | (apply wo_v; rfl) ); (· first | (apply pv_ev; rfl) | (apply pv_fld; rfl) | (apply g_load; first | (apply pv_ld; rfl; (· (repeat (first | apply sel_here ))); rfl) ) | (apply g_bi; first | fail ) )) | apply wo_nil | apply wc_seq | apply wc_region ))
  refine wo_app_str rfl rfl (by (repeat (first | apply sel_here | apply sel_there)); done) hw.h0 hz rfl (fun ao' c' h1 h2 h3 => ?_)
  rw [e1, e2]
  rw [e2] at h1
  (repeat (first | ((first | (apply wo_v; rfl) ); (· first | (apply pv_ev; rfl) | (apply pv_fld; rfl) | (apply g_bi; first | (apply pv_len_str; rfl) ) )) | apply wo_nil | apply wc_seq | apply wc_region | apply wc_ret | (apply wo_st; rfl; rfl; rfl; (· (repeat (first | apply sel_here | apply sel_there))); (· (repeat (first | apply SetAt.here | apply SetAt.there))); rfl) ))
  refine retv rfl (by (repeat (first | apply RV.nil | (apply RV.tmp; rfl) )); done) ⟨some ⟨g, 0, none⟩, ao', c', rfl, rfl, rfl, ⟨.inr rfl, ?_⟩⟩ (by (repeat (first | apply sub_nil )); done) (by first | exact fun _ h => h | (intro r hr; cases hr; done) | (simp; done) | exact fun _ h => List.mem_append_left _ h | (intro r hr; simp [hr]; done))
  rcases h1 with ⟨h1, h4⟩ | ⟨b, h1⟩
  · exact .inl ⟨h1, h3 h1, size_zero h4⟩
  · refine .inr ⟨b, h1, ?_⟩
    rcases hw.b with ⟨h5, _, h6⟩ | ⟨_, _, h6⟩
    · have h7 : z.size ≠ 0 := fun h => by rw [h2 h5 h] at h1; cases h1
      omega
    · omega
theorem bLen (g n c : Nat) (p ao : Option Addr) : Fn Try.prog 131 #[.pointer (some ⟨g, 0, none⟩)] [wrO g p ao n c] [] (fun v L' R' => v = .int .i64 n ∧ L' = [wrO g p ao n c] ∧ R' = []) := by
  refine fn_intro Try.func131 rfl Try.ntmps131 rfl (fun E => ?_)
  (repeat (first | ((first | (apply wo_v; rfl) ); (· first | (apply pv_ev; rfl) | (apply pv_fld; rfl) | (apply g_load; first | (apply pv_ld; rfl; (· (repeat (first | apply sel_here ))); rfl) ) | (apply g_bi; first | (apply pv_len_sl; rfl) ) )) | apply wo_nil | apply wc_seq | apply wc_region | apply wc_ret ))
  exact retv rfl (by (repeat (first | apply RV.nil | (apply RV.tmp; rfl) )); done) (⟨rfl, rfl, rfl⟩) (by (repeat (first | apply sub_nil )); done) (by first | exact fun _ h => h | (intro r hr; cases hr; done) | (simp; done) | exact fun _ h => List.mem_append_left _ h | (intro r hr; simp [hr]; done))
theorem bString (g c : Nat) (p ao : Option Addr) (s : ByteArray) (hw : WOk g p ao c s) : Fn Try.prog 119 #[.pointer (some ⟨g, 0, none⟩)] (wrH g p ao c s) []
    (fun v L' R' => v = .string s ∧ L' = [wrO g p ao s.size c] ∧ R' = []) := by
  rcases hw.b with ⟨rfl, rfl, rfl⟩ | ⟨b, rfl, h0⟩
  · refine fn_intro Try.func119 rfl Try.ntmps119 rfl (fun E => ?_)
    (repeat (first | ((first | (apply wo_v; rfl) ); (· first | (apply pv_ev; rfl) )) | apply wo_nil | apply wc_seq | apply wc_region ))
    (refine wc_quiet mixed (by kernel_rfl) ?_; (repeat (first | ((first | (apply hd_v; rfl) ); (· first | (apply pv_ev; rfl) | (apply pv_fld; rfl) | (apply g_load; first | (apply pv_ld; rfl; (· (repeat (first | apply sel_here ))); rfl) ) | (apply g_bi; first | (apply pv_sld; rfl; omega) | (apply pv_sld0; rfl) | (apply pv_ustr0; rfl; rfl) | (apply pv_len_sl; rfl) ) )) | apply Hd.nil | apply wc_ret )))
    exact retv rfl (by (repeat (first | apply RV.nil | (apply RV.tmp; rfl) )); done) (⟨rfl, rfl, rfl⟩) (by (repeat (first | apply sub_nil )); done) (by first | exact fun _ h => h | (intro r hr; cases hr; done) | (simp; done) | exact fun _ h => List.mem_append_left _ h | (intro r hr; simp [hr]; done))
  · refine fn_intro Try.func119 rfl Try.ntmps119 rfl (fun E => ?_)
    (repeat (first | ((first | (apply wo_v; rfl) ); (· first | (apply pv_ev; rfl) )) | apply wo_nil | apply wc_seq | apply wc_region ))
    refine wc_own (t := 5) (sz := 1) (ao := some ⟨b, 0, none⟩) (n := s.size) (k := c) (xs := brows s) (by (repeat (first | apply sel_here | apply sel_there)); done) (fun hl1 hl2 hl3 => ?_)
    (refine wc_tail 10 mixed (by kernel_rfl) ?_; (repeat (first | ((first | (apply wo_v; rfl) | (apply hd_v; rfl) ); (· first | (apply pv_ev; rfl) | (apply pv_fld; rfl) | (apply g_load; first | (apply pv_ld; rfl; (· (repeat (first | apply sel_here ))); rfl) ) | (apply g_bi; first | (apply pv_sld; rfl; omega) | (apply pv_ustr0; rfl; rfl) | (apply pv_len_sl; rfl) ) )) | apply Hd.nil )))
    refine wo_ustr (e := 5) (by kernel_rfl) rfl rfl (by (repeat (first | apply sel_here | apply sel_there)); done) h0 rfl ?_
    (repeat (first | ((first | (apply wo_v; rfl) ); (· first | (apply pv_ev; rfl) )) | apply wo_nil | apply wc_ret ))
    exact retv rfl (by (repeat (first | apply RV.nil | (apply RV.tmp; rfl) )); done) (⟨rfl, rfl, rfl⟩) (by (repeat (first | apply sub_nil )); done) (by first | exact fun _ h => h | (intro r hr; cases hr; done) | (simp; done) | exact fun _ h => List.mem_append_left _ h | (intro r hr; simp [hr]; done))
end Go.Proofs.Ytlhlidmhlhodiaa

/-
  Package octet: the writer's methods.
-/
namespace Go.Proofs.Ytlhlidmhlhodiaa
set_option linter.unusedSimpArgs false
set_option linter.unusedVariables false
set_option linter.unusedSimpArgs false
set_option linter.unusedVariables false
open Go.RowKit
set_option maxRecDepth 100000
attribute [local irreducible] Pv WO WC Fn
attribute [local irreducible] ByteArray.extract

/-- one byte -/
def b1 (x : Int) : ByteArray := ⟨#[UInt8.ofNat x.toNat]⟩
theorem b1_size (x : Int) : (b1 x).size = 1 := rfl
theorem b1_rows {x : Int} (h : 0 ≤ x ∧ x ≤ 255) : brows (b1 x) = [[.int .u8 x]] := by
  have e : (((UInt8.ofNat x.toNat).toNat : Nat) : Int) = x := by
    simp only [UInt8.toNat_ofNat']; omega
  show [[Value.int .u8 (((UInt8.ofNat x.toNat).toNat : Nat) : Int)]] = _
  rw [e]
set_option maxHeartbeats 1000000 in
theorem bWriteByte (g c : Nat) (p ao : Option Addr) (s : ByteArray) (x : Int) (hx : 0 ≤ x ∧ x ≤ 255) (hw : WOk g p ao c s) (hz : s.size + 1 ≤ 1099511627776) : Fn Try.prog 130 #[.pointer (some ⟨g, 0, none⟩), .int .u8 x] (wrH g p ao c s) []
    (fun v L' R' => ∃ p' ao' c', v = .nilIface ∧ L' = wrH g p' ao' c' (s ++ b1 x) ∧ R' = [] ∧ WOk g p' ao' c' (s ++ b1 x)) := by
  have e1 : brows s ++ [[.int .u8 x]] = brows (s ++ b1 x) := by rw [brows_append, b1_rows hx]
  have e2 : s.size + 1 = (s ++ b1 x).size := by simp [b1_size]
  refine fn_intro Try.func130 rfl Try.ntmps130 rfl (fun E => ?_)
  (repeat (first | ((first | (apply wo_v; rfl) ); (· first | (apply pv_ev; rfl) )) | apply wo_nil | apply wc_seq | apply wc_region ))
  (refine wo_call (bCheck g s.size c p ao hw.p) rfl (by (repeat (first | apply sub_nil )); done) (by first | exact fun _ h => h | (intro r hr; cases hr; done) | (simp; done) | exact fun _ h => List.mem_append_left _ h | (intro r hr; simp [hr]; done)) rfl ?_; rintro v L' R' ⟨rfl, rfl, rfl⟩ H' hH RR hR; simp only [List.cons_append, List.nil_append] at hH hR; subst hH; have hR := hR.symm; subst hR)
  (repeat (first | ((first | (apply wo_v; rfl) ); (· first | (apply pv_ev; rfl) | (apply pv_fld; rfl) | (apply g_load; first | (apply pv_ld; rfl; (· (repeat (first | apply sel_here ))); rfl) ) | (apply g_bi; first | fail ) )) | apply wo_nil | apply wc_seq | apply wc_region | (apply wo_bsl; (· (repeat (first | apply Rws'.nil | (apply Rws'.one; rfl; rfl; rfl) ))); rfl; rfl; rfl; rfl; intro bx) ))
  refine wo_app0 rfl rfl (by (repeat (first | apply sel_here | apply sel_there)); done) (by (repeat (first | apply sel_here )); done) (by unfold maxLen; omega) (by omega) rfl (fun ao' c' h1 h2 h3 => ?_)
  rw [e1, e2]
  (repeat (first | ((first | (apply wo_v; rfl) ); (· first | (apply pv_ev; rfl) | (apply pv_fld; rfl) )) | apply wo_nil | apply wc_seq | apply wc_region | apply wc_ret | (apply wo_st; rfl; rfl; rfl; (· (repeat (first | apply sel_here | apply sel_there))); (· (repeat (first | apply SetAt.here | apply SetAt.there))); rfl) ))
  refine retv rfl (by (repeat (first | apply RV.nil | (apply RV.tmp; rfl) )); done) ⟨some ⟨g, 0, none⟩, ao', c', rfl, rfl, rfl, ⟨.inr rfl, .inr ?_⟩⟩ (by (repeat (first | apply sub_nil )); done) (by first | exact fun _ h => h | (intro r hr; cases hr; done) | (simp; done) | exact fun _ h => List.mem_append_left _ h | (intro r hr; simp [hr]; done))
  cases ao' with
  | none => have := h2 rfl; omega
  | some a =>
    rcases h1 a rfl with ⟨b, h⟩ | h
    · exact ⟨b, h, by omega⟩
    · rcases hw.b with ⟨h5, _, _⟩ | ⟨b, h5, _⟩
      · rw [h5] at h; cases h
      · exact ⟨b, h.trans h5, by omega⟩
abbrev byO (bl c : Nat) (z : ByteArray) : It := .own 5 1 (some ⟨bl, 0, none⟩) z.size c (brows z)
set_option maxHeartbeats 1000000 in
theorem bWrite (g c bl c2 : Nat) (p ao : Option Addr) (s z : ByteArray) (hw : WOk g p ao c s) (hz0 : 0 < z.size) (hz : s.size + z.size ≤ 1099511627776) : Fn Try.prog 118 #[.pointer (some ⟨g, 0, none⟩), .slice (some ⟨bl, 0, none⟩) z.size c2] (wrH g p ao c s ++ [byO bl c2 z]) []
    (fun v L' R' => ∃ p' ao' c', v = .tuple #[.int .i64 z.size, .nilIface] ∧ L' = wrH g p' ao' c' (s ++ z) ∧ R' = [] ∧ WOk g p' ao' c' (s ++ z)) := by
  have e1 : brows s ++ brows z = brows (s ++ z) := (brows_append s z).symm
  have e2 : s.size + z.size = (s ++ z).size := by simp
  refine fn_intro Try.func118 rfl Try.ntmps118 rfl (fun E => ?_)
  (repeat (first | ((first | (apply wo_v; rfl) ); (· first | (apply pv_ev; rfl) )) | apply wo_nil | apply wc_seq | apply wc_region ))
  (refine wo_call (bCheck g s.size c p ao hw.p) rfl (by (repeat (first | apply sub_nil )); done) (by first | exact fun _ h => h | (intro r hr; cases hr; done) | (simp; done) | exact fun _ h => List.mem_append_left _ h | (intro r hr; simp [hr]; done)) rfl ?_; rintro v L' R' ⟨rfl, rfl, rfl⟩ H' hH RR hR; simp only [List.cons_append, List.nil_append] at hH hR; subst hH; have hR := hR.symm; subst hR)
  (repeat (first | ((first | (apply wo_v; rfl) ); (· first | (apply pv_ev; rfl) | (apply pv_fld; rfl) | (apply g_load; first | (apply pv_ld; rfl; (· (repeat (first | apply sel_here ))); rfl) ) | (apply g_bi; first | fail ) )) | apply wo_nil | apply wc_seq | apply wc_region ))
  refine wo_app0 rfl rfl (ao := ao) (n := s.size) (c := c) (xs := brows s) (by (repeat (first | apply sel_here | apply sel_there)); done) (c2 := c2) (m := z.size) (ys := brows z) (by (repeat (first | apply sel_here | apply sel_there)); done) (by unfold maxLen; omega) (by omega) rfl (fun ao' c' h1 h2 h3 => ?_)
  rw [e1, e2]
  (repeat (first | ((first | (apply wo_v; rfl) ); (· first | (apply pv_ev; rfl) | (apply pv_fld; rfl) | (apply g_bi; first | (apply pv_len_sl; rfl) ) )) | apply wo_nil | apply wc_seq | apply wc_region | apply wc_ret | (apply wo_st; rfl; rfl; rfl; (· (repeat (first | apply sel_here | apply sel_there))); (· (repeat (first | apply SetAt.here | apply SetAt.there))); rfl) ))
  refine retv rfl (by (repeat (first | apply RV.nil | (apply RV.tmp; rfl) )); done) ⟨some ⟨g, 0, none⟩, ao', c', rfl, rfl, rfl, ⟨.inr rfl, .inr ?_⟩⟩ (by (repeat (first | apply sub_nil )); done) (by first | exact fun _ h => h | (intro r hr; cases hr; done) | (simp; done) | exact fun _ h => List.mem_append_left _ h | (intro r hr; simp [hr]; done))
  cases ao' with
  | none => have := h2 rfl; omega
  | some a =>
    rcases h1 a rfl with ⟨b, h⟩ | h
    · exact ⟨b, h, by omega⟩
    · rcases hw.b with ⟨h5, _, _⟩ | ⟨b, h5, _⟩
      · rw [h5] at h; cases h
      · exact ⟨b, h.trans h5, by omega⟩
theorem wU8 (g c bl c2 : Nat) (p ao : Option Addr) (s z : ByteArray) (hw : WOk g p ao c s) (hz0 : 0 < z.size) (hz : s.size + z.size ≤ 1099511627776) : Fn Try.prog 57 #[.pointer (some ⟨g, 0, none⟩), .slice (some ⟨bl, 0, none⟩) z.size c2] (wrH g p ao c s ++ [byO bl c2 z]) []
    (fun v L' R' => ∃ p' ao' c', v = .pointer (some ⟨g, 0, none⟩) ∧ L' = wrH g p' ao' c' (s ++ z) ∧ R' = [] ∧ WOk g p' ao' c' (s ++ z)) := by
  refine fn_intro Try.func57 rfl Try.ntmps57 rfl (fun E => ?_)
  (repeat (first | ((first | (apply wo_v; rfl) ); (· first | (apply pv_ev; rfl) | (apply pv_fld; rfl) )) | apply wo_nil | apply wc_seq | apply wc_region ))
  (refine wo_call (bWrite g c bl c2 p ao s z hw hz0 hz) rfl (by (repeat (first | apply sub_nil )); done) (by first | exact fun _ h => h | (intro r hr; cases hr; done) | (simp; done) | exact fun _ h => List.mem_append_left _ h | (intro r hr; simp [hr]; done)) rfl ?_; rintro v L' R' ⟨p', ao', c', rfl, rfl, rfl, hw2⟩ H' hH RR hR; simp only [List.cons_append, List.nil_append] at hH hR; subst hH; have hR := hR.symm; subst hR)
  (repeat (first | ((first | (apply wo_v; rfl) ); (· first | (apply pv_ev; rfl) )) | apply wo_nil | apply wc_seq | apply wc_region | apply wc_ret ))
  exact retv rfl (by (repeat (first | apply RV.nil | (apply RV.tmp; rfl) )); done) ⟨p', ao', c', rfl, rfl, rfl, hw2⟩ (by (repeat (first | apply sub_nil )); done) (by first | exact fun _ h => h | (intro r hr; cases hr; done) | (simp; done) | exact fun _ h => List.mem_append_left _ h | (intro r hr; simp [hr]; done))
theorem wLen (g c : Nat) (p ao : Option Addr) (n : Nat) : Fn Try.prog 90 #[.pointer (some ⟨g, 0, none⟩)] [wrO g p ao n c] [] (fun v L' R' => v = .int .i64 n ∧ L' = [wrO g p ao n c] ∧ R' = []) := by
  refine fn_intro Try.func90 rfl Try.ntmps90 rfl (fun E => ?_)
  (repeat (first | ((first | (apply wo_v; rfl) ); (· first | (apply pv_ev; rfl) | (apply pv_fld; rfl) )) | apply wo_nil | apply wc_seq | apply wc_region ))
  (refine wo_call (bLen g n c p ao) rfl (by (repeat (first | apply sub_nil )); done) (by first | exact fun _ h => h | (intro r hr; cases hr; done) | (simp; done) | exact fun _ h => List.mem_append_left _ h | (intro r hr; simp [hr]; done)) rfl ?_; rintro v L' R' ⟨rfl, rfl, rfl⟩ H' hH RR hR; simp only [List.cons_append, List.nil_append] at hH hR; subst hH; have hR := hR.symm; subst hR)
  (repeat (first | ((first | (apply wo_v; rfl) ); (· first | (apply pv_ev; rfl) )) | apply wo_nil | apply wc_ret ))
  exact retv rfl (by (repeat (first | apply RV.nil | (apply RV.tmp; rfl) )); done) (⟨rfl, rfl, rfl⟩) (by (repeat (first | apply sub_nil )); done) (by first | exact fun _ h => h | (intro r hr; cases hr; done) | (simp; done) | exact fun _ h => List.mem_append_left _ h | (intro r hr; simp [hr]; done))
theorem wText (g c : Nat) (p ao : Option Addr) (s : ByteArray) (hw : WOk g p ao c s) : Fn Try.prog 60 #[.pointer (some ⟨g, 0, none⟩)] (wrH g p ao c s) []
    (fun v L' R' => v = .string s ∧ L' = [wrO g p ao s.size c] ∧ R' = []) := by
  refine fn_intro Try.func60 rfl Try.ntmps60 rfl (fun E => ?_)
  (repeat (first | ((first | (apply wo_v; rfl) ); (· first | (apply pv_ev; rfl) | (apply pv_fld; rfl) )) | apply wo_nil | apply wc_seq | apply wc_region ))
  (refine wo_call (bString g c p ao s hw) rfl (by (repeat (first | apply sub_nil )); done) (by first | exact fun _ h => h | (intro r hr; cases hr; done) | (simp; done) | exact fun _ h => List.mem_append_left _ h | (intro r hr; simp [hr]; done)) rfl ?_; rintro v L' R' ⟨rfl, rfl, rfl⟩ H' hH RR hR; simp only [List.cons_append, List.nil_append] at hH hR; subst hH; have hR := hR.symm; subst hR)
  (repeat (first | ((first | (apply wo_v; rfl) ); (· first | (apply pv_ev; rfl) )) | apply wo_nil | apply wc_ret ))
  exact retv rfl (by (repeat (first | apply RV.nil | (apply RV.tmp; rfl) )); done) (⟨rfl, rfl, rfl⟩) (by (repeat (first | apply sub_nil )); done) (by first | exact fun _ h => h | (intro r hr; cases hr; done) | (simp; done) | exact fun _ h => List.mem_append_left _ h | (intro r hr; simp [hr]; done))
/-- a number's bytes, the highest first -/
def numS : Nat → Int → ByteArray
  | 0, _ => E0
  | k + 1, x => numS k (x / 256) ++ b1 (x % 256)
theorem numS_size : ∀ (k : Nat) (x : Int), (numS k x).size = k
  | 0, _ => rfl
  | k + 1, x => by simp [numS, numS_size k, b1_size]
def sh (x : Int) : Nat → Int
  | 0 => x
  | k + 1 => sh x k / 256
theorem sh_nonneg {x : Int} (h : 0 ≤ x) : ∀ k, 0 ≤ sh x k
  | 0 => h
  | k + 1 => by have := sh_nonneg h k; simp only [sh]; omega
theorem sh_fdiv {x : Int} (h : 0 ≤ x) : ∀ k : Nat, k ≤ 7 → x.fdiv (2 ^ (min ((8 * (k : Int)).toNat) IntKind.u64.bits)) = sh x k := by
  intro k hk
  have e : min ((8 * (k : Int)).toNat) IntKind.u64.bits = 8 * k := by
    have : IntKind.u64.bits = 64 := rfl
    omega
  rw [e, Int.fdiv_eq_ediv_of_nonneg _ (Int.le_of_lt (Int.pow_pos (by omega)))]
  clear e
  induction k with
  | zero => simp [sh]
  | succ k ih =>
    rw [sh, ← ih (by omega), show 8 * (k + 1) = 8 * k + 8 by omega, Int.pow_add, ← Int.ediv_ediv_of_nonneg (Int.le_of_lt (Int.pow_pos (by omega)))]
    rfl
end Go.Proofs.Ytlhlidmhlhodiaa

/-
  Package octet: Writer.Num, and what is made of it.
-/
namespace Go.Proofs.Ytlhlidmhlhodiaa
set_option linter.unusedSimpArgs false
set_option linter.unusedVariables false
set_option linter.unusedSimpArgs false
set_option linter.unusedVariables false
open Go.RowKit
set_option maxRecDepth 100000
attribute [local irreducible] Pv WO WC Fn
attribute [local irreducible] ByteArray.extract

def numsS (k : Nat) : List Int → ByteArray
  | [] => E0
  | x :: xs => numS k x ++ numsS k xs
theorem numsS_append (k : Nat) : ∀ a b : List Int, numsS k (a ++ b) = numsS k a ++ numsS k b
  | [], b => (E0_append _).symm
  | x :: a, b => by
    show numS k x ++ numsS k (a ++ b) = (numS k x ++ numsS k a) ++ numsS k b
    rw [numsS_append k a b, ByteArray.append_assoc]
theorem numsS_size (k : Nat) : ∀ a : List Int, (numsS k a).size = k * a.length
  | [] => rfl
  | x :: a => by
    simp only [numsS, ByteArray.size_append, numS_size, numsS_size k a, List.length_cons]
    rw [Nat.mul_add]; omega
theorem numsS_take {k : Nat} {xs : List Int} {j : Nat} {x : Int} (h : xs[j]? = some x) : numsS k (xs.take (j + 1)) = numsS k (xs.take j) ++ numS k x := by
  rw [List.take_add_one, h, numsS_append]
  show numsS k (xs.take j) ++ (numS k x ++ E0) = _
  rw [append_E0]
abbrev uO (bl c : Nat) (xs : List Int) : It := .own 78 1 (some ⟨bl, 0, none⟩) xs.length c (xs.map fun x => [.int .u64 x])
theorem WOk.ex (g : Nat) (s : ByteArray) : ∃ p ao c, WOk g p ao c s := by
  by_cases h : s.size = 0
  · exact ⟨none, none, 0, .inl rfl, .inl ⟨rfl, rfl, size_zero h⟩⟩
  · exact ⟨none, some ⟨0, 0, none⟩, 0, .inl rfl, .inr ⟨0, rfl, by omega⟩⟩
set_option maxHeartbeats 2000000 in
theorem wNum (g c bl c2 : Nat) (p ao : Option Addr) (s : ByteArray) (n : Int) (k : Nat) (xs : List Int) (hk : min (max n 1) 8 = (k : Int)) (hx : ∀ x ∈ xs, 0 ≤ x ∧ x ≤ 18446744073709551615) (hl : xs.length ≤ 1000000) (hw : WOk g p ao c s) (hz : s.size ≤ 1099000000000) :
    Fn Try.prog 120 #[.pointer (some ⟨g, 0, none⟩), .int .i64 n, .slice (some ⟨bl, 0, none⟩) xs.length c2] (wrH g p ao c s ++ [uO bl c2 xs]) []
    (fun v L' R' => ∃ p' ao' c', v = .pointer (some ⟨g, 0, none⟩) ∧ L' = wrH g p' ao' c' (s ++ numsS k xs) ∧ R' = [] ∧ WOk g p' ao' c' (s ++ numsS k xs)) := by
  have hk1 : 1 ≤ k ∧ k ≤ 8 := by omega
  refine fn_intro Try.func120 rfl Try.ntmps120 rfl (fun E => ?_)
  (repeat (first | ((first | (apply wo_v; rfl) ); (· first | (apply pv_ev; rfl) | (apply g_bi; first | (apply pv_len_sl; rfl) | (apply pv_min; rfl; rfl) | (apply pv_max; rfl; rfl)) )) | apply wo_nil | apply wc_seq | apply wc_region | apply wc_block ))
  rw [hk]
  refine wc_loop' (fun m st => ∃ (j : Nat) (p' ao' : Option Addr) (c' : Nat), m = xs.length - j ∧ st = ⟨[(0, .pointer (some ⟨g, 0, none⟩)), (1, .int .i64 k), (13, .slice (some ⟨bl, 0, none⟩) xs.length c2), (14, .int .i64 xs.length), (15, .int .i64 j)], wrH g p' ao' c' (s ++ numsS k (xs.take j)) ++ [uO bl c2 xs], []⟩ ∧ j ≤ xs.length ∧ WOk g p' ao' c' (s ++ numsS k (xs.take j)))
    ⟨0, p, ao, c, rfl, by rw [List.take_zero, show numsS k [] = E0 from rfl, append_E0], Nat.zero_le _, by rw [List.take_zero, show numsS k [] = E0 from rfl, append_E0]; exact hw⟩ (wk_mk (by (repeat (first | apply wkf_nil | (apply wkf_cons; rfl))); done) (by (repeat (first | apply sub_nil )); done) (by first | exact fun _ h => h | (intro r hr; cases hr; done) | (simp; done) | exact fun _ h => List.mem_append_left _ h | (intro r hr; simp [hr]; done))) ?_
  clear hw p ao c hk
  rintro m st ⟨j, p, ao, c, rfl, rfl, hj, hw⟩
  by_cases hlt : j < xs.length
  · obtain ⟨x, he⟩ : ∃ x, xs[j]? = some x := ⟨_, List.getElem?_eq_getElem hlt⟩
    have hr : (xs.map fun x => [Value.int .u64 x])[j]? = some [.int .u64 x] := by simp [he]
    have hxb := hx x (List.mem_of_getElem? he)
    have hS : (s ++ numsS k (xs.take j)).size + 8 ≤ 1099511627776 := by
      rw [ByteArray.size_append, numsS_size, List.length_take]
      have : k * min j xs.length ≤ 8 * 1000000 := Nat.mul_le_mul hk1.2 (by omega)
      omega
    have hnext := numsS_take (k := k) he
    obtain ⟨S0, hS0⟩ : ∃ S0, s ++ numsS k (xs.take j) = S0 := ⟨_, rfl⟩
    have hnx : s ++ numsS k (xs.take (j + 1)) = S0 ++ numS k x := by rw [hnext, ← ByteArray.append_assoc, hS0]
    rw [hS0] at hw hS ⊢
    clear hnext hS0
    (repeat (first | ((first | (apply wo_v; rfl) ); (· first | (apply pv_ev; rfl) | (apply g_load; first | (apply pv_ld; rfl; (· (repeat (first | apply sel_there))); rfl) | (apply pv_ld_ownf; rfl; (· (repeat (first | fail ))); (· assumption); rfl) | (apply pv_ld_own1; rfl; (· (repeat (first | apply sel_here | apply sel_there))); (· assumption)) ) | (apply g_bin; first | (apply a_sub; rfl; rfl; infer_instance; omega) ) | (apply g_idx; first | (apply pv_idx; rfl; rfl; omega) ) )) | apply wo_nil | apply wc_seq | apply wc_region | apply wc_block | apply wc_skip | (apply wc_true; rfl) | (apply wc_false; rfl) | (apply a_dec_t; rfl; (· first | assumption | omega)) ))
    refine wc_loop' (fun m st => ∃ (t : Nat) (z : Int) (p' ao' : Option Addr) (c' : Nat), m = k - t ∧ st = ⟨[(0, .pointer (some ⟨g, 0, none⟩)), (1, .int .i64 k), (8, .int .u64 x), (9, .int .i64 z), (13, .slice (some ⟨bl, 0, none⟩) xs.length c2), (14, .int .i64 xs.length), (15, .int .i64 j)], wrH g p' ao' c' (S0 ++ numS t (sh x (k - t))) ++ [uO bl c2 xs], []⟩ ∧ t ≤ k ∧ z = (k : Int) - 1 - (t : Int) ∧ WOk g p' ao' c' (S0 ++ numS t (sh x (k - t))))
      ⟨0, (k : Int) - 1, p, ao, c, rfl, by rw [show numS 0 (sh x (k - 0)) = E0 from rfl, append_E0], Nat.zero_le _, by omega, by rw [show numS 0 (sh x (k - 0)) = E0 from rfl, append_E0]; exact hw⟩ (wk_mk (by (repeat (first | apply wkf_nil | (apply wkf_cons; rfl))); done) (by (repeat (first | apply sub_nil )); done) (by first | exact fun _ h => h | (intro r hr; cases hr; done) | (simp; done) | exact fun _ h => List.mem_append_left _ h | (intro r hr; simp [hr]; done))) ?_
    clear hw p ao c
    rintro m st ⟨t, z, p, ao, c, rfl, rfl, ht, hz, hw⟩
    by_cases htk : t < k
    · obtain rfl : z = ((k - 1 - t : Nat) : Int) := by omega
      have hsh := sh_nonneg hxb.1 (k - 1 - t)
      have hfd := sh_fdiv hxb.1 (k - 1 - t) (by omega)
      have hs1 : numS (t + 1) (sh x (k - (t + 1))) = numS t (sh x (k - t)) ++ b1 (sh x (k - 1 - t) % 256) := by
        show numS t (sh x (k - (t + 1)) / 256) ++ b1 (sh x (k - (t + 1)) % 256) = _
        rw [show k - (t + 1) = k - 1 - t by omega, show k - t = (k - 1 - t) + 1 by omega]
        rfl
      have hsz : (S0 ++ numS t (sh x (k - t))).size + 1 ≤ 1099511627776 := by rw [ByteArray.size_append, numS_size]; omega
      have hB := fun p ao c hw => bWriteByte g c p ao (S0 ++ numS t (sh x (k - t))) (sh x (k - 1 - t) % 256) (by omega) hw hsz
      rw [ByteArray.append_assoc, ← hs1] at hB
      have hB := hB p ao c hw
      generalize S0 ++ numS t (sh x (k - t)) = S1 at hB hw hsz
      obtain ⟨S2, hS2⟩ : ∃ S2, S0 ++ numS (t + 1) (sh x (k - (t + 1))) = S2 := ⟨_, rfl⟩
      rw [hS2] at hB
      (repeat (first | ((first | (apply wo_v; rfl) ); (· first | (apply pv_ev; rfl) )) | apply wo_nil | apply wc_seq | apply wc_region | apply wc_block | apply wc_skip | (apply wc_true; rfl) ))
      (refine wc_reg [0] (asl [(8, 0)]) (fun _ _ v M => ∃ p' ao' c', v = .nilIface ∧ M = wrH g p' ao' c' S2 ∧ WOk g p' ao' c' S2) ([uO bl c2 xs]) (fm [(0, wrH g p ao c S1)]) mixed (by kernel_rfl) (by kernel_rfl) (by decide) (asl_mem (by decide)) (by (repeat (first | (apply prm_cons; (· (repeat (first | apply sel_here | apply sel_there)))) | apply List.Perm.nil )); done) ?_; (repeat (first | ((first | (apply HdE.val; rfl; rfl; (· first | apply gok_none ))); (· first | (apply pv_ev; rfl) | (apply pv_fld; rfl) | (apply g_bin; first | (apply a_mul; rfl; rfl; infer_instance; omega) | (apply a_shr; rfl; rfl; rfl; omega; rfl) | (apply pv_shr; rfl; rfl; omega) ) | (apply g_conv; first | (apply a_conv; rfl; infer_instance; infer_instance; infer_instance; omega) | (apply a_conv_u; rfl; infer_instance; infer_instance; infer_instance) ) )) )))
      rw [hfd]
      (refine he_eff rfl rfl rfl (by first | exact gok_none | exact gok_run rfl rfl) (outc_call (hB) rfl (by (repeat (first | apply sub_nil )); done) (by first | exact fun _ h => h | (intro r hr; cases hr; done) | (simp; done) | exact fun _ h => List.mem_append_left _ h | (intro r hr; simp [hr]; done)) ?_) ((by obtain ⟨p', ao', c', h⟩ := WOk.ex g S2; exact ⟨_, _, p', ao', c', rfl, rfl, h⟩)) ?_; (· rintro v L' R' ⟨p', ao', c', hv, rfl, _, hw'⟩; exact ⟨_, ⟨p', ao', c', hv, rfl, hw'⟩, (by (repeat (first | (apply prm_cons; (· (repeat (first | apply sel_here )))) | apply List.Perm.nil )); done)⟩); rintro v M ⟨p', ao', c', rfl, rfl, hw'⟩; simp only [setl, reduceIte, Nat.reduceEqDiff]; (repeat (first | fail )))
      (refine HdE.nil ?_; intro H hH; simp only [Hp, fm, look, setl, List.flatMap_cons, List.flatMap_nil, reduceIte, Nat.reduceEqDiff, Option.getD_some, List.append_nil, List.cons_append, List.nil_append] at hH; subst hH)
      (repeat (first | ((first | (apply wo_v; rfl) ); (· first | (apply pv_ev; rfl) | (apply g_bin; first | (apply a_sub; rfl; rfl; infer_instance; omega) ) )) | apply wo_nil | apply wc_region ))
      exact loop_end ⟨t + 1, ((k - 1 - t : Nat) : Int) - 1, p', ao', c', rfl, by rw [hS2], by omega, by omega, by rw [hS2]; exact hw'⟩ (by omega) (wk_mk (by (repeat (first | apply wkf_nil | (apply wkf_cons; rfl))); done) (by (repeat (first | apply sub_nil | (apply sub_cons; (· (repeat (first | apply sel_here | apply sel_there)))))); done) (by first | exact fun _ h => h | (intro r hr; cases hr; done) | (simp; done) | exact fun _ h => List.mem_append_left _ h | (intro r hr; simp [hr]; done)))
    · obtain rfl : t = k := by omega
      rw [Nat.sub_self] at hw ⊢
      rw [show sh x 0 = x from rfl, ← hnx] at hw ⊢
      subst hz
      (repeat (first | ((first | (apply wo_v; rfl) ); (· first | (apply pv_ev; rfl) | (apply g_bin; first | (apply a_add; rfl; rfl; infer_instance; omega) ) )) | apply wo_nil | apply wc_seq | apply wc_region | (apply wc_exit; rfl) | (apply wc_true; rfl) | (apply wc_false; rfl) | (apply a_dec_t; rfl; (· first | assumption | omega)) | (apply a_dec_f; rfl; (· first | assumption | omega)) ))
      exact loop_end ⟨j + 1, p, ao, c, rfl, rfl, by omega, hw⟩ (by omega) (wk_mk (by (repeat (first | apply wkf_nil | (apply wkf_cons; rfl))); done) (by (repeat (first | apply sub_nil )); done) (by first | exact fun _ h => h | (intro r hr; cases hr; done) | (simp; done) | exact fun _ h => List.mem_append_left _ h | (intro r hr; simp [hr]; done)))
  · obtain rfl : j = xs.length := by omega
    rw [List.take_length] at hw ⊢
    (repeat (first | ((first | (apply wo_v; rfl) ); (· first | (apply pv_ev; rfl) )) | apply wo_nil | apply wc_seq | apply wc_region | (apply wc_exit; rfl) | apply wc_ret | (apply wc_true; rfl) | (apply wc_false; rfl) | (apply a_dec_t; rfl; (· first | assumption | omega)) | (apply a_dec_f; rfl; (· first | assumption | omega)) ))
    exact retv rfl (by (repeat (first | apply RV.nil | (apply RV.tmp; rfl) )); done) ⟨p, ao, c, rfl, rfl, rfl, hw⟩ (by (repeat (first | apply sub_nil )); done) (by first | exact fun _ h => h | (intro r hr; cases hr; done) | (simp; done) | exact fun _ h => List.mem_append_left _ h | (intro r hr; simp [hr]; done))
end Go.Proofs.Ytlhlidmhlhodiaa

/-
  Package octet: Writer.U16, U32, Put, Pad.
-/
namespace Go.Proofs.Ytlhlidmhlhodiaa
set_option linter.unusedSimpArgs false
set_option linter.unusedVariables false
set_option linter.unusedSimpArgs false
set_option linter.unusedVariables false
open Go.RowKit
set_option maxRecDepth 100000
attribute [local irreducible] Pv WO WC Fn
attribute [local irreducible] ByteArray.extract

theorem min_max_lit (n : Int) (h : 1 ≤ n ∧ n ≤ 8) : min (max n 1) 8 = n := by omega
abbrev u16O (bl c : Nat) (xs : List Int) : It := .own 24 1 (some ⟨bl, 0, none⟩) xs.length c (xs.map fun x => [.int .u16 x])
set_option maxHeartbeats 1000000 in
theorem wU16 (g c bl c2 : Nat) (p ao : Option Addr) (s : ByteArray) (xs : List Int) (hx : ∀ x ∈ xs, 0 ≤ x ∧ x ≤ 65535) (hl : xs.length ≤ 1000000) (hw : WOk g p ao c s) (hz : s.size ≤ 1098000000000) :
    Fn Try.prog 61 #[.pointer (some ⟨g, 0, none⟩), .slice (some ⟨bl, 0, none⟩) xs.length c2] (wrH g p ao c s ++ [u16O bl c2 xs]) []
    (fun v L' R' => ∃ p' ao' c', v = .pointer (some ⟨g, 0, none⟩) ∧ L' = wrH g p' ao' c' (s ++ numsS 2 xs) ∧ R' = [] ∧ WOk g p' ao' c' (s ++ numsS 2 xs)) := by
  refine fn_intro Try.func61 rfl Try.ntmps61 rfl (fun E => ?_)
  (repeat (first | ((first | (apply wo_v; rfl) ); (· first | (apply pv_ev; rfl) | (apply g_bi; first | (apply pv_len_sl; rfl) ) )) | apply wo_nil | apply wc_seq | apply wc_region | apply wc_block ))
  refine wc_loop' (fun m st => ∃ (j : Nat) (p' ao' : Option Addr) (c' : Nat), m = xs.length - j ∧ st = ⟨[(0, .pointer (some ⟨g, 0, none⟩)), (7, .slice (some ⟨bl, 0, none⟩) xs.length c2), (8, .int .i64 xs.length), (9, .int .i64 j)], wrH g p' ao' c' (s ++ numsS 2 (xs.take j)) ++ [u16O bl c2 xs], []⟩ ∧ j ≤ xs.length ∧ WOk g p' ao' c' (s ++ numsS 2 (xs.take j)))
    ⟨0, p, ao, c, rfl, by rw [List.take_zero, show numsS 2 [] = E0 from rfl, append_E0], Nat.zero_le _, by rw [List.take_zero, show numsS 2 [] = E0 from rfl, append_E0]; exact hw⟩ (wk_mk (by (repeat (first | apply wkf_nil | (apply wkf_cons; rfl))); done) (by (repeat (first | apply sub_nil )); done) (by first | exact fun _ h => h | (intro r hr; cases hr; done) | (simp; done) | exact fun _ h => List.mem_append_left _ h | (intro r hr; simp [hr]; done))) ?_
  clear hw p ao c
  rintro m st ⟨j, p, ao, c, rfl, rfl, hj, hw⟩
  by_cases hlt : j < xs.length
  · obtain ⟨x, he⟩ : ∃ x, xs[j]? = some x := ⟨_, List.getElem?_eq_getElem hlt⟩
    have hr : (xs.map fun x => [Value.int .u16 x])[j]? = some [.int .u16 x] := by simp [he]
    have hxb := hx x (List.mem_of_getElem? he)
    have hS : (s ++ numsS 2 (xs.take j)).size ≤ 1099000000000 := by
      rw [ByteArray.size_append, numsS_size, List.length_take]; omega
    have hnext := numsS_take (k := 2) he
    obtain ⟨S0, hS0⟩ : ∃ S0, s ++ numsS 2 (xs.take j) = S0 := ⟨_, rfl⟩
    have hnx : s ++ numsS 2 (xs.take (j + 1)) = S0 ++ numsS 2 [x] := by rw [hnext, ← ByteArray.append_assoc, hS0]; show S0 ++ numS 2 x = S0 ++ (numS 2 x ++ E0); rw [append_E0]
    rw [hS0] at hw hS ⊢
    clear hnext hS0
    have hN := fun bl c2 => wNum g c bl c2 p ao S0 2 2 [x] rfl (by intro y hy; rcases List.mem_singleton.1 hy with rfl; omega) (by simp) hw hS
    rw [← hnx] at hN
    (repeat (first | ((first | (apply wo_v; rfl) ); (· first | (apply pv_ev; rfl) | (apply g_load; first | (apply pv_ld; rfl; (· (repeat (first | apply sel_there))); rfl) | (apply pv_ld_ownf; rfl; (· (repeat (first | fail ))); (· assumption); rfl) | (apply pv_ld_own1; rfl; (· (repeat (first | apply sel_here | apply sel_there))); (· assumption)) ) | (apply g_conv; first | (apply a_conv; rfl; infer_instance; infer_instance; infer_instance; omega) ) | (apply g_idx; first | (apply pv_idx; rfl; rfl; omega) ) )) | apply wo_nil | apply wc_seq | apply wc_region | apply wc_block | apply wc_skip | (apply wc_true; rfl) | (apply wc_false; rfl) | (apply a_dec_t; rfl; (· first | assumption | omega)) | (apply wo_bsl; (· (repeat (first | apply Rws'.nil | (apply Rws'.one; rfl; rfl; rfl) ))); rfl; rfl; rfl; rfl; intro bx) ))
    (refine wo_call (hN _ _) rfl (by (repeat (first | apply sub_nil | (apply sub_cons; (· (repeat (first | apply sel_here | apply sel_there)))))); done) (by first | exact fun _ h => h | (intro r hr; cases hr; done) | (simp; done) | exact fun _ h => List.mem_append_left _ h | (intro r hr; simp [hr]; done)) rfl ?_; rintro v L' R' ⟨p', ao', c', rfl, rfl, rfl, hw'⟩ H' hH RR hR; simp only [List.cons_append, List.nil_append] at hH hR; subst hH; have hR := hR.symm; subst hR)
    (repeat (first | ((first | (apply wo_v; rfl) ); (· first | (apply pv_ev; rfl) | (apply g_bin; first | (apply a_add; rfl; rfl; infer_instance; omega) ) )) | apply wo_nil | apply wc_region ))
    exact loop_end ⟨j + 1, p', ao', c', rfl, rfl, by omega, hw'⟩ (by omega) (wk_mk (by (repeat (first | apply wkf_nil | (apply wkf_cons; rfl))); done) (by (repeat (first | apply sub_nil )); done) (by first | exact fun _ h => h | (intro r hr; cases hr; done) | (simp; done) | exact fun _ h => List.mem_append_left _ h | (intro r hr; simp [hr]; done)))
  · obtain rfl : j = xs.length := by omega
    rw [List.take_length] at hw ⊢
    (repeat (first | ((first | (apply wo_v; rfl) ); (· first | (apply pv_ev; rfl) )) | apply wo_nil | apply wc_seq | apply wc_region | (apply wc_exit; rfl) | apply wc_ret | (apply wc_true; rfl) | (apply wc_false; rfl) | (apply a_dec_t; rfl; (· first | assumption | omega)) | (apply a_dec_f; rfl; (· first | assumption | omega)) ))
    exact retv rfl (by (repeat (first | apply RV.nil | (apply RV.tmp; rfl) )); done) ⟨p, ao, c, rfl, rfl, rfl, hw⟩ (by (repeat (first | apply sub_nil )); done) (by first | exact fun _ h => h | (intro r hr; cases hr; done) | (simp; done) | exact fun _ h => List.mem_append_left _ h | (intro r hr; simp [hr]; done))
abbrev u32O (bl c : Nat) (xs : List Int) : It := .own 30 1 (some ⟨bl, 0, none⟩) xs.length c (xs.map fun x => [.int .u32 x])
set_option maxHeartbeats 1000000 in
theorem wU32 (g c bl c2 : Nat) (p ao : Option Addr) (s : ByteArray) (xs : List Int) (hx : ∀ x ∈ xs, 0 ≤ x ∧ x ≤ 4294967295) (hl : xs.length ≤ 1000000) (hw : WOk g p ao c s) (hz : s.size ≤ 1098000000000) :
    Fn Try.prog 72 #[.pointer (some ⟨g, 0, none⟩), .slice (some ⟨bl, 0, none⟩) xs.length c2] (wrH g p ao c s ++ [u32O bl c2 xs]) []
    (fun v L' R' => ∃ p' ao' c', v = .pointer (some ⟨g, 0, none⟩) ∧ L' = wrH g p' ao' c' (s ++ numsS 4 xs) ∧ R' = [] ∧ WOk g p' ao' c' (s ++ numsS 4 xs)) := by
  refine fn_intro Try.func72 rfl Try.ntmps72 rfl (fun E => ?_)
  (repeat (first | ((first | (apply wo_v; rfl) ); (· first | (apply pv_ev; rfl) | (apply g_bi; first | (apply pv_len_sl; rfl) ) )) | apply wo_nil | apply wc_seq | apply wc_region | apply wc_block ))
  refine wc_loop' (fun m st => ∃ (j : Nat) (p' ao' : Option Addr) (c' : Nat), m = xs.length - j ∧ st = ⟨[(0, .pointer (some ⟨g, 0, none⟩)), (7, .slice (some ⟨bl, 0, none⟩) xs.length c2), (8, .int .i64 xs.length), (9, .int .i64 j)], wrH g p' ao' c' (s ++ numsS 4 (xs.take j)) ++ [u32O bl c2 xs], []⟩ ∧ j ≤ xs.length ∧ WOk g p' ao' c' (s ++ numsS 4 (xs.take j)))
    ⟨0, p, ao, c, rfl, by rw [List.take_zero, show numsS 4 [] = E0 from rfl, append_E0], Nat.zero_le _, by rw [List.take_zero, show numsS 4 [] = E0 from rfl, append_E0]; exact hw⟩ (wk_mk (by (repeat (first | apply wkf_nil | (apply wkf_cons; rfl))); done) (by (repeat (first | apply sub_nil )); done) (by first | exact fun _ h => h | (intro r hr; cases hr; done) | (simp; done) | exact fun _ h => List.mem_append_left _ h | (intro r hr; simp [hr]; done))) ?_
  clear hw p ao c
  rintro m st ⟨j, p, ao, c, rfl, rfl, hj, hw⟩
  by_cases hlt : j < xs.length
  · obtain ⟨x, he⟩ : ∃ x, xs[j]? = some x := ⟨_, List.getElem?_eq_getElem hlt⟩
    have hr : (xs.map fun x => [Value.int .u32 x])[j]? = some [.int .u32 x] := by simp [he]
    have hxb := hx x (List.mem_of_getElem? he)
    have hS : (s ++ numsS 4 (xs.take j)).size ≤ 1099000000000 := by
      rw [ByteArray.size_append, numsS_size, List.length_take]; omega
    have hnext := numsS_take (k := 4) he
    obtain ⟨S0, hS0⟩ : ∃ S0, s ++ numsS 4 (xs.take j) = S0 := ⟨_, rfl⟩
    have hnx : s ++ numsS 4 (xs.take (j + 1)) = S0 ++ numsS 4 [x] := by rw [hnext, ← ByteArray.append_assoc, hS0]; show S0 ++ numS 4 x = S0 ++ (numS 4 x ++ E0); rw [append_E0]
    rw [hS0] at hw hS ⊢
    clear hnext hS0
    have hN := fun bl c2 => wNum g c bl c2 p ao S0 4 4 [x] rfl (by intro y hy; rcases List.mem_singleton.1 hy with rfl; omega) (by simp) hw hS
    rw [← hnx] at hN
    (repeat (first | ((first | (apply wo_v; rfl) ); (· first | (apply pv_ev; rfl) | (apply g_load; first | (apply pv_ld; rfl; (· (repeat (first | apply sel_there))); rfl) | (apply pv_ld_ownf; rfl; (· (repeat (first | fail ))); (· assumption); rfl) | (apply pv_ld_own1; rfl; (· (repeat (first | apply sel_here | apply sel_there))); (· assumption)) ) | (apply g_conv; first | (apply a_conv; rfl; infer_instance; infer_instance; infer_instance; omega) ) | (apply g_idx; first | (apply pv_idx; rfl; rfl; omega) ) )) | apply wo_nil | apply wc_seq | apply wc_region | apply wc_block | apply wc_skip | (apply wc_true; rfl) | (apply wc_false; rfl) | (apply a_dec_t; rfl; (· first | assumption | omega)) | (apply wo_bsl; (· (repeat (first | apply Rws'.nil | (apply Rws'.one; rfl; rfl; rfl) ))); rfl; rfl; rfl; rfl; intro bx) ))
    (refine wo_call (hN _ _) rfl (by (repeat (first | apply sub_nil | (apply sub_cons; (· (repeat (first | apply sel_here | apply sel_there)))))); done) (by first | exact fun _ h => h | (intro r hr; cases hr; done) | (simp; done) | exact fun _ h => List.mem_append_left _ h | (intro r hr; simp [hr]; done)) rfl ?_; rintro v L' R' ⟨p', ao', c', rfl, rfl, rfl, hw'⟩ H' hH RR hR; simp only [List.cons_append, List.nil_append] at hH hR; subst hH; have hR := hR.symm; subst hR)
    (repeat (first | ((first | (apply wo_v; rfl) ); (· first | (apply pv_ev; rfl) | (apply g_bin; first | (apply a_add; rfl; rfl; infer_instance; omega) ) )) | apply wo_nil | apply wc_region ))
    exact loop_end ⟨j + 1, p', ao', c', rfl, rfl, by omega, hw'⟩ (by omega) (wk_mk (by (repeat (first | apply wkf_nil | (apply wkf_cons; rfl))); done) (by (repeat (first | apply sub_nil )); done) (by first | exact fun _ h => h | (intro r hr; cases hr; done) | (simp; done) | exact fun _ h => List.mem_append_left _ h | (intro r hr; simp [hr]; done)))
  · obtain rfl : j = xs.length := by omega
    rw [List.take_length] at hw ⊢
    (repeat (first | ((first | (apply wo_v; rfl) ); (· first | (apply pv_ev; rfl) )) | apply wo_nil | apply wc_seq | apply wc_region | (apply wc_exit; rfl) | apply wc_ret | (apply wc_true; rfl) | (apply wc_false; rfl) | (apply a_dec_t; rfl; (· first | assumption | omega)) | (apply a_dec_f; rfl; (· first | assumption | omega)) ))
    exact retv rfl (by (repeat (first | apply RV.nil | (apply RV.tmp; rfl) )); done) ⟨p, ao, c, rfl, rfl, rfl, hw⟩ (by (repeat (first | apply sub_nil )); done) (by first | exact fun _ h => h | (intro r hr; cases hr; done) | (simp; done) | exact fun _ h => List.mem_append_left _ h | (intro r hr; simp [hr]; done))
def catS : List ByteArray → ByteArray
  | [] => E0
  | z :: zs => z ++ catS zs
theorem catS_append : ∀ a b : List ByteArray, catS (a ++ b) = catS a ++ catS b
  | [], b => (E0_append _).symm
  | x :: a, b => by
    show x ++ catS (a ++ b) = (x ++ catS a) ++ catS b
    rw [catS_append a b, ByteArray.append_assoc]
theorem catS_take {zs : List ByteArray} {j : Nat} {z : ByteArray} (h : zs[j]? = some z) : catS (zs.take (j + 1)) = catS (zs.take j) ++ z := by
  rw [List.take_add_one, h, catS_append]
  show catS (zs.take j) ++ (z ++ E0) = _
  rw [append_E0]
theorem catS_size : ∀ {zs : List ByteArray}, (∀ z ∈ zs, z.size ≤ 1000000) → (catS zs).size ≤ 1000000 * zs.length
  | [], _ => Nat.le_refl _
  | z :: zs, h => by
    have h1 := h z (.head _)
    have h2 := catS_size (zs := zs) (fun y hy => h y (.tail _ hy))
    simp only [catS, ByteArray.size_append, List.length_cons]; omega
abbrev stO (bl c : Nat) (zs : List ByteArray) : It := .own 9 1 (some ⟨bl, 0, none⟩) zs.length c (zs.map fun z => [.string z])
set_option maxHeartbeats 1000000 in
theorem wPut (g c bl c2 : Nat) (p ao : Option Addr) (s : ByteArray) (zs : List ByteArray) (hx : ∀ z ∈ zs, z.size ≤ 1000000) (hl : zs.length ≤ 1000) (hw : WOk g p ao c s) (hz : s.size ≤ 1098000000000) :
    Fn Try.prog 73 #[.pointer (some ⟨g, 0, none⟩), .slice (some ⟨bl, 0, none⟩) zs.length c2] (wrH g p ao c s ++ [stO bl c2 zs]) []
    (fun v L' R' => ∃ p' ao' c', v = .pointer (some ⟨g, 0, none⟩) ∧ L' = wrH g p' ao' c' (s ++ catS zs) ∧ R' = [] ∧ WOk g p' ao' c' (s ++ catS zs)) := by
  refine fn_intro Try.func73 rfl Try.ntmps73 rfl (fun E => ?_)
  (repeat (first | ((first | (apply wo_v; rfl) ); (· first | (apply pv_ev; rfl) | (apply g_bi; first | (apply pv_len_sl; rfl) ) )) | apply wo_nil | apply wc_seq | apply wc_region | apply wc_block ))
  refine wc_loop' (fun m st => ∃ (j : Nat) (p' ao' : Option Addr) (c' : Nat), m = zs.length - j ∧ st = ⟨[(0, .pointer (some ⟨g, 0, none⟩)), (7, .slice (some ⟨bl, 0, none⟩) zs.length c2), (8, .int .i64 zs.length), (9, .int .i64 j)], wrH g p' ao' c' (s ++ catS (zs.take j)) ++ [stO bl c2 zs], []⟩ ∧ j ≤ zs.length ∧ WOk g p' ao' c' (s ++ catS (zs.take j)))
    ⟨0, p, ao, c, rfl, by rw [List.take_zero, show catS [] = E0 from rfl, append_E0], Nat.zero_le _, by rw [List.take_zero, show catS [] = E0 from rfl, append_E0]; exact hw⟩ (wk_mk (by (repeat (first | apply wkf_nil | (apply wkf_cons; rfl))); done) (by (repeat (first | apply sub_nil )); done) (by first | exact fun _ h => h | (intro r hr; cases hr; done) | (simp; done) | exact fun _ h => List.mem_append_left _ h | (intro r hr; simp [hr]; done))) ?_
  clear hw p ao c
  rintro m st ⟨j, p, ao, c, rfl, rfl, hj, hw⟩
  by_cases hlt : j < zs.length
  · obtain ⟨x, he⟩ : ∃ x, zs[j]? = some x := ⟨_, List.getElem?_eq_getElem hlt⟩
    have hr : (zs.map fun z => [Value.string z])[j]? = some [.string x] := by simp [he]
    have hxb := hx x (List.mem_of_getElem? he)
    have hS : (s ++ catS (zs.take j)).size + x.size ≤ 1099511627776 := by
      have := catS_size (zs := zs.take j) (fun y hy => hx y (List.mem_of_mem_take hy))
      rw [List.length_take] at this
      rw [ByteArray.size_append]; omega
    have hnext := catS_take he
    obtain ⟨S0, hS0⟩ : ∃ S0, s ++ catS (zs.take j) = S0 := ⟨_, rfl⟩
    have hnx : s ++ catS (zs.take (j + 1)) = S0 ++ x := by rw [hnext, ← ByteArray.append_assoc, hS0]
    rw [hS0] at hw hS ⊢
    clear hnext hS0
    have hN := bWriteString g c p ao S0 x hw hS
    rw [← hnx] at hN
    (repeat (first | ((first | (apply wo_v; rfl) ); (· first | (apply pv_ev; rfl) | (apply pv_fld; rfl) | (apply g_load; first | (apply pv_ld; rfl; (· (repeat (first | apply sel_there))); rfl) | (apply pv_ld_ownf; rfl; (· (repeat (first | fail ))); (· assumption); rfl) | (apply pv_ld_own1; rfl; (· (repeat (first | apply sel_here | apply sel_there))); (· assumption)) ) | (apply g_idx; first | (apply pv_idx; rfl; rfl; omega) ) )) | apply wo_nil | apply wc_seq | apply wc_region | apply wc_block | apply wc_skip | (apply wc_true; rfl) | (apply wc_false; rfl) | (apply a_dec_t; rfl; (· first | assumption | omega)) ))
    (refine wo_call (hN) rfl (by (repeat (first | apply sub_nil )); done) (by first | exact fun _ h => h | (intro r hr; cases hr; done) | (simp; done) | exact fun _ h => List.mem_append_left _ h | (intro r hr; simp [hr]; done)) rfl ?_; rintro v L' R' ⟨p', ao', c', rfl, rfl, rfl, hw'⟩ H' hH RR hR; simp only [List.cons_append, List.nil_append] at hH hR; subst hH; have hR := hR.symm; subst hR)
    (repeat (first | ((first | (apply wo_v; rfl) ); (· first | (apply pv_ev; rfl) | (apply g_bin; first | (apply a_add; rfl; rfl; infer_instance; omega) ) )) | apply wo_nil | apply wc_region ))
    exact loop_end ⟨j + 1, p', ao', c', rfl, rfl, by omega, hw'⟩ (by omega) (wk_mk (by (repeat (first | apply wkf_nil | (apply wkf_cons; rfl))); done) (by (repeat (first | apply sub_nil )); done) (by first | exact fun _ h => h | (intro r hr; cases hr; done) | (simp; done) | exact fun _ h => List.mem_append_left _ h | (intro r hr; simp [hr]; done)))
  · obtain rfl : j = zs.length := by omega
    rw [List.take_length] at hw ⊢
    (repeat (first | ((first | (apply wo_v; rfl) ); (· first | (apply pv_ev; rfl) )) | apply wo_nil | apply wc_seq | apply wc_region | (apply wc_exit; rfl) | apply wc_ret | (apply wc_true; rfl) | (apply wc_false; rfl) | (apply a_dec_t; rfl; (· first | assumption | omega)) | (apply a_dec_f; rfl; (· first | assumption | omega)) ))
    exact retv rfl (by (repeat (first | apply RV.nil | (apply RV.tmp; rfl) )); done) ⟨p, ao, c, rfl, rfl, rfl, hw⟩ (by (repeat (first | apply sub_nil )); done) (by first | exact fun _ h => h | (intro r hr; cases hr; done) | (simp; done) | exact fun _ h => List.mem_append_left _ h | (intro r hr; simp [hr]; done))
/-- so many zeros -/
def zb : Nat → ByteArray
  | 0 => E0
  | k + 1 => zb k ++ b1 0
theorem zb_size : ∀ k, (zb k).size = k
  | 0 => rfl
  | k + 1 => by simp [zb, zb_size k, b1_size]
def padJ (n T : Nat) : Nat := (T - n % T) % T
theorem padJ_lt (n : Nat) {T : Nat} (hT : 1 ≤ T) : padJ n T < T := Nat.mod_lt _ (by omega)
theorem padJ_eq (n : Nat) {T : Nat} (hT : 1 ≤ T) : (n + padJ n T) % T = 0 := by
  unfold padJ
  have h1 := Nat.mod_lt n (show 0 < T by omega)
  by_cases h : n % T = 0
  · rw [h, Nat.sub_zero, Nat.mod_self, Nat.add_zero]; exact h
  · rw [Nat.mod_eq_of_lt (show T - n % T < T by omega), Nat.add_mod, Nat.mod_eq_of_lt (show T - n % T < T by omega), show n % T + (T - n % T) = T by omega, Nat.mod_self]
theorem padJ_ne {n T j : Nat} (hT : 1 ≤ T) (hj : j < padJ n T) : (n + j) % T ≠ 0 := by
  have h1 := Nat.mod_lt n (show 0 < T by omega)
  unfold padJ at hj
  by_cases h : n % T = 0
  · rw [h, Nat.sub_zero, Nat.mod_self] at hj; omega
  · rw [Nat.mod_eq_of_lt (show T - n % T < T by omega)] at hj
    rw [Nat.add_mod, Nat.mod_eq_of_lt (show j < T by omega), Nat.mod_eq_of_lt (show n % T + j < T by omega)]
    omega
set_option maxHeartbeats 1000000 in
theorem wPad (g c : Nat) (p ao : Option Addr) (s : ByteArray) (to : Int) (T : Nat) (hT : max to 1 = (T : Int)) (hT2 : T ≤ 1000000) (hw : WOk g p ao c s) (hz : s.size ≤ 1098000000000) :
    Fn Try.prog 89 #[.pointer (some ⟨g, 0, none⟩), .int .i64 to] (wrH g p ao c s) []
    (fun v L' R' => ∃ p' ao' c', v = .pointer (some ⟨g, 0, none⟩) ∧ L' = wrH g p' ao' c' (s ++ zb (padJ s.size T)) ∧ R' = [] ∧ WOk g p' ao' c' (s ++ zb (padJ s.size T))) := by
  have hT1 : 1 ≤ T := by omega
  have hJ := padJ_lt s.size hT1
  refine fn_intro Try.func89 rfl Try.ntmps89 rfl (fun E => ?_)
  (repeat (first | ((first | (apply wo_v; rfl) ); (· first | (apply pv_ev; rfl) | (apply g_bi; first | (apply pv_max; rfl; rfl)) )) | apply wo_nil | apply wc_seq | apply wc_region | apply wc_block ))
  rw [hT]
  refine wc_loop' (fun m st => ∃ (j : Nat) (p' ao' : Option Addr) (c' : Nat), m = padJ s.size T - j ∧ st = ⟨[(0, .pointer (some ⟨g, 0, none⟩)), (1, .int .i64 T)], wrH g p' ao' c' (s ++ zb j), []⟩ ∧ j ≤ padJ s.size T ∧ WOk g p' ao' c' (s ++ zb j))
    ⟨0, p, ao, c, rfl, by rw [show zb 0 = E0 from rfl, append_E0], Nat.zero_le _, by rw [show zb 0 = E0 from rfl, append_E0]; exact hw⟩ (wk_mk (by (repeat (first | apply wkf_nil | (apply wkf_cons; rfl))); done) (by (repeat (first | apply sub_nil )); done) (by first | exact fun _ h => h | (intro r hr; cases hr; done) | (simp; done) | exact fun _ h => List.mem_append_left _ h | (intro r hr; simp [hr]; done))) ?_
  clear hw p ao c hT
  rintro m st ⟨j, p, ao, c, rfl, rfl, hj, hw⟩
  have hsz : (s ++ zb j).size = s.size + j := by rw [ByteArray.size_append, zb_size]
  have hL := wLen g c p ao (s ++ zb j).size
  by_cases hlt : j < padJ s.size T
  · have hne : ¬ (((s ++ zb j).size : Nat) : Int) % (T : Int) = 0 := by
      rw [hsz]; have := padJ_ne hT1 hlt; omega
    have hB := bWriteByte g c p ao (s ++ zb j) 0 (by omega) hw (by omega)
    rw [show s ++ zb j ++ b1 0 = s ++ zb (j + 1) from ByteArray.append_assoc] at hB
    generalize s ++ zb j = S0 at hL hB hne hw
    (repeat (first | ((first | (apply wo_v; rfl) ); (· first | (apply pv_ev; rfl) )) | apply wc_seq | apply wc_region ))
    (refine wo_call (hL) rfl (by (repeat (first | apply sub_nil )); done) (by first | exact fun _ h => h | (intro r hr; cases hr; done) | (simp; done) | exact fun _ h => List.mem_append_left _ h | (intro r hr; simp [hr]; done)) rfl ?_; rintro v L' R' ⟨rfl, rfl, rfl⟩ H' hH RR hR; simp only [List.cons_append, List.nil_append] at hH hR; subst hH; have hR := hR.symm; subst hR)
    (repeat (first | ((first | (apply wo_v; rfl) ); (· first | (apply pv_ev; rfl) | (apply pv_fld; rfl) | (apply g_bin; first | (apply pv_rem; rfl; rfl; omega) ) )) | apply wo_nil | apply wc_region | apply wc_block | apply wc_skip | (apply wc_true; rfl) | (apply wc_false; rfl) | (apply a_dec_t; rfl; (· first | assumption | omega)) ))
    (refine wo_call (hB) rfl (by (repeat (first | apply sub_nil )); done) (by first | exact fun _ h => h | (intro r hr; cases hr; done) | (simp; done) | exact fun _ h => List.mem_append_left _ h | (intro r hr; simp [hr]; done)) rfl ?_; rintro v L' R' ⟨p', ao', c', rfl, rfl, rfl, hw'⟩ H' hH RR hR; simp only [List.cons_append, List.nil_append] at hH hR; subst hH; have hR := hR.symm; subst hR)
    (repeat (first | apply wo_nil ))
    exact loop_end ⟨j + 1, p', ao', c', rfl, rfl, by omega, hw'⟩ (by omega) (wk_mk (by (repeat (first | apply wkf_nil | (apply wkf_cons; rfl))); done) (by (repeat (first | apply sub_nil )); done) (by first | exact fun _ h => h | (intro r hr; cases hr; done) | (simp; done) | exact fun _ h => List.mem_append_left _ h | (intro r hr; simp [hr]; done)))
  · obtain rfl : j = padJ s.size T := by omega
    have hne : (((s ++ zb (padJ s.size T)).size : Nat) : Int) % (T : Int) = 0 := by
      rw [hsz]; have := padJ_eq s.size hT1; omega
    generalize s ++ zb (padJ s.size T) = S0 at hL hne hw
    (repeat (first | ((first | (apply wo_v; rfl) ); (· first | (apply pv_ev; rfl) )) | apply wc_seq | apply wc_region ))
    (refine wo_call (hL) rfl (by (repeat (first | apply sub_nil )); done) (by first | exact fun _ h => h | (intro r hr; cases hr; done) | (simp; done) | exact fun _ h => List.mem_append_left _ h | (intro r hr; simp [hr]; done)) rfl ?_; rintro v L' R' ⟨rfl, rfl, rfl⟩ H' hH RR hR; simp only [List.cons_append, List.nil_append] at hH hR; subst hH; have hR := hR.symm; subst hR)
    (repeat (first | ((first | (apply wo_v; rfl) ); (· first | (apply pv_ev; rfl) | (apply g_bin; first | (apply pv_rem; rfl; rfl; omega) ) )) | apply wo_nil | apply wc_seq | apply wc_region | (apply wc_exit; rfl) | apply wc_ret | (apply wc_true; rfl) | (apply wc_false; rfl) | (apply a_dec_t; rfl; (· first | assumption | omega)) | (apply a_dec_f; rfl; (· first | assumption | omega)) ))
    exact retv rfl (by (repeat (first | apply RV.nil | (apply RV.tmp; rfl) )); done) ⟨p, ao, c, rfl, rfl, rfl, hw⟩ (by (repeat (first | apply sub_nil )); done) (by first | exact fun _ h => h | (intro r hr; cases hr; done) | (simp; done) | exact fun _ h => List.mem_append_left _ h | (intro r hr; simp [hr]; done))
end Go.Proofs.Ytlhlidmhlhodiaa

/-
  Layer 2: numbers written and read; the reference's Num.
-/
namespace Go.Proofs.Ytlhlidmhlhodiaa
set_option linter.unusedSimpArgs false
set_option linter.unusedVariables false
set_option linter.unusedSimpArgs false
set_option linter.unusedVariables false
open Go.RowKit
set_option maxRecDepth 100000
attribute [local irreducible] Pv WO WC Fn

theorem sb_left (a b : ByteArray) {i : Nat} (h : i < a.size) : sb (a ++ b) i = sb a i := by
  have h' : i < a.data.toList.length := by simpa using h
  unfold sb
  congr 2
  rw [ByteArray.data_append, Array.toList_append, List.getD_eq_getElem?_getD, List.getD_eq_getElem?_getD, List.getElem?_append_left h']
theorem sb_last (a : ByteArray) {x : Int} (h : 0 ≤ x ∧ x ≤ 255) : sb (a ++ b1 x) a.size = x := by
  have e : (((UInt8.ofNat x.toNat).toNat : Nat) : Int) = x := by
    simp only [UInt8.toNat_ofNat']; omega
  unfold sb
  rw [ByteArray.data_append, Array.toList_append, List.getD_eq_getElem?_getD, List.getElem?_append_right (by simp)]
  have : a.size - a.data.toList.length = 0 := by simp
  rw [this]
  exact e
theorem valK_left (a b : ByteArray) : ∀ k, k ≤ a.size → valK (a ++ b) k = valK a k
  | 0, _ => rfl
  | k + 1, h => by rw [valK, valK, valK_left a b k (by omega), sb_left a b (by omega)]
theorem valK_b1 (a : ByteArray) {x : Int} (h : 0 ≤ x ∧ x ≤ 255) : valK (a ++ b1 x) (a.size + 1) = valK a a.size * 256 + x := by
  rw [valK, valK_left a _ _ (Nat.le_refl _), sb_last a h]
theorem valK_num (k : Nat) (x : Int) : valK (numS (k + 1) x) (k + 1) = valK (numS k (x / 256)) k * 256 + x % 256 := by
  have := valK_b1 (numS k (x / 256)) (x := x % 256) (by omega)
  rw [numS_size] at this
  exact this
theorem num_val : ∀ (k : Nat) (x : Int), numS k (valK (numS k x) k) = numS k x
  | 0, _ => rfl
  | k + 1, x => by
    rw [valK_num]
    show numS k ((valK (numS k (x / 256)) k * 256 + x % 256) / 256) ++ b1 ((valK (numS k (x / 256)) k * 256 + x % 256) % 256) = numS k (x / 256) ++ b1 (x % 256)
    rw [show (valK (numS k (x / 256)) k * 256 + x % 256) / 256 = valK (numS k (x / 256)) k by omega, show (valK (numS k (x / 256)) k * 256 + x % 256) % 256 = x % 256 by omega, num_val k]
theorem val_num2 {x : Int} (h : 0 ≤ x ∧ x ≤ 65535) : valK (numS 2 x) 2 = x := by
  rw [valK_num, valK_num]
  show (0 * 256 + x / 256 % 256) * 256 + x % 256 = x
  omega
theorem val_num4 {x : Int} (h : 0 ≤ x ∧ x ≤ 4294967295) : valK (numS 4 x) 4 = x := by
  rw [valK_num, valK_num, valK_num, valK_num]
  show (((0 * 256 + x / 256 / 256 / 256 % 256) * 256 + x / 256 / 256 % 256) * 256 + x / 256 % 256) * 256 + x % 256 = x
  omega
theorem val_b1 {x : Int} (h : 0 ≤ x ∧ x ≤ 255) : valK (b1 x) 1 = x := by
  have := valK_b1 E0 h
  rw [E0_append] at this
  have e : valK (b1 x) 1 = valK E0 0 * 256 + x := this
  rw [e]
  show 0 * 256 + x = x
  omega
theorem numS_front : ∀ (k : Nat) (x : Int), numS (k + 1) x = b1 (sh x k % 256) ++ numS k x
  | 0, x => by
    show E0 ++ b1 (x % 256) = b1 (x % 256) ++ E0
    rw [E0_append, append_E0]
  | k + 1, x => by
    have e : ∀ k, sh (x / 256) k = sh x (k + 1) := fun k => by
      induction k with
      | zero => rfl
      | succ k ih => rw [sh, ih]; rfl
    show numS (k + 1) (x / 256) ++ b1 (x % 256) = b1 (sh x (k + 1) % 256) ++ (numS k (x / 256) ++ b1 (x % 256))
    rw [numS_front k (x / 256), ByteArray.append_assoc, e]
theorem ext_head2 (s z : ByteArray) : (s ++ z).extract 0 s.size = s := by
  apply ByteArray.ext
  simp [ByteArray.data_extract]
theorem ext_tail2 (s z : ByteArray) : (s ++ z).extract s.size (s ++ z).size = z := by
  apply ByteArray.ext
  simp [ByteArray.data_extract]
  rw [show s.data.extract s.size (s.size + z.size) = #[] from by apply Array.eq_empty_of_size_eq_zero; simp]
  show #[] ++ z.data.extract 0 z.data.size = z.data
  simp
theorem rdB_front (z rest : ByteArray) (n : Int) (h : n = (z.size : Int)) : rdB (z ++ rest) 0 n = (z, rest, 0) := by
  unfold rdB
  rw [if_neg (by omega), if_neg (by omega), if_neg (by rw [ByteArray.size_append]; omega), h, Int.toNat_natCast, ext_head2, ext_tail2]
attribute [local irreducible] ByteArray.extract
theorem numsS_one (k : Nat) (x : Int) : numsS k [x] = numS k x := append_E0 _
theorem brows_one {x : Int} (h : 0 ≤ x ∧ x ≤ 255) : [[Value.int .u8 x]] = brows (b1 x) := (b1_rows h).symm
end Go.Proofs.Ytlhlidmhlhodiaa
