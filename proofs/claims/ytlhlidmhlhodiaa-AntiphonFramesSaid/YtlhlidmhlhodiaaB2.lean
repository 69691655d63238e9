/-
  Texts of this proof, laid together (part 2 of 8).
-/
import Derived.Test.YtlhlidmhlhodiaaB1
import Derived.ProofKit
import Derived.OpenShut
import Derived.Deep.Slices
import Derived.Deep.Fields
import Derived.ChangeSame
import Derived.Lib.ConvBytes
import Derived.Lib.AppendStr
import Derived.Lib.UnsafeStr
import Derived.Lib.Builder
import Derived.Laws.BytesString
import Derived.Laws.Externs
import Derived.Laws.StructEq
import Derived.MapKept
import Derived.Carry
/-
  What the arguments of a law read as: integers with their bounds; slices as rows of cells. No program in sight.
-/
namespace Go.Proofs.Ytlhlidmhlhodiaa
set_option linter.unusedSimpArgs false
set_option linter.unusedVariables false
open Go.ChangeShapes Go.WideShapes Go.ChangeAt Go.RowKit Go.Deep

theorem bd_u8 {a : Int} (h : (Lit.int .u8 a).wf = true) : 0 ≤ a ∧ a ≤ 255 := by simpa [Lit.wf, IntKind.min, IntKind.max, IntKind.signed, IntKind.bits] using h
theorem bd_u16 {a : Int} (h : (Lit.int .u16 a).wf = true) : 0 ≤ a ∧ a ≤ 65535 := by simpa [Lit.wf, IntKind.min, IntKind.max, IntKind.signed, IntKind.bits] using h
theorem bd_u32 {a : Int} (h : (Lit.int .u32 a).wf = true) : 0 ≤ a ∧ a ≤ 4294967295 := by simpa [Lit.wf, IntKind.min, IntKind.max, IntKind.signed, IntKind.bits] using h
theorem bd_u64 {a : Int} (h : (Lit.int .u64 a).wf = true) : 0 ≤ a ∧ a ≤ 18446744073709551615 := by simpa [Lit.wf, IntKind.min, IntKind.max, IntKind.signed, IntKind.bits] using h
theorem bd_i16 {a : Int} (h : (Lit.int .i16 a).wf = true) : -32768 ≤ a ∧ a ≤ 32767 := by simpa [Lit.wf, IntKind.min, IntKind.max, IntKind.signed, IntKind.bits] using h
theorem bd_i32 {a : Int} (h : (Lit.int .i32 a).wf = true) : -2147483648 ≤ a ∧ a ≤ 2147483647 := by simpa [Lit.wf, IntKind.min, IntKind.max, IntKind.signed, IntKind.bits] using h
theorem bd_i64 {a : Int} (h : (Lit.int .i64 a).wf = true) : -9223372036854775808 ≤ a ∧ a ≤ 9223372036854775807 := by simpa [Lit.wf, IntKind.min, IntKind.max, IntKind.signed, IntKind.bits] using h

/-- a value of a kind with one cell -/
def FKok : TypeDesc → Value → Prop
  | .int k, v => ∃ n, v = .int k n ∧ (Lit.int k n).wf = true
  | .bool, v => ∃ b, v = .bool b
  | .string, v => ∃ s : ByteArray, v = .string s ∧ s.size ≤ maxLen
  | _, _ => False

/-- a slice that came in: n elements, each as many cells as 'ks' has kinds; cell j of element i holds 'V i j' -/
def Rws (ks : List TypeDesc) (w : World) (A : Option Addr) (n c : Nat) (V : Nat → Nat → Value) : Prop :=
  n ≤ c ∧ c ≤ maxLen ∧ (0 < n → ∃ b o, A = some ⟨b, o, none⟩ ∧ b < w.heap.size ∧ ∀ i j, i < n → j < ks.length → w.cell? ⟨b, o + (i * ks.length + j), none⟩ = some (V i j)) ∧
    ∀ i j k, i < n → ks[j]? = some k → FKok k (V i j)

theorem Rws.below {ks : List TypeDesc} {w w' : World} {A : Option Addr} {n c : Nat} {V : Nat → Nat → Value} (h : Rws ks w A n c V) (hb : Below w.heap.size w w') : Rws ks w' A n c V := by
  obtain ⟨h1, h2, h3, h4⟩ := h
  refine ⟨h1, h2, fun hn => ?_, h4⟩
  obtain ⟨b, o, rfl, hlt, hc⟩ := h3 hn
  exact ⟨b, o, rfl, Nat.lt_of_lt_of_le hlt hb.size, fun i j hi hj => (World.cell?_of_block (hb.block b hlt)).trans (hc i j hi hj)⟩

section
variable {H : Type} {enc : TypeId × Value → H} {P : Program} {W : World} {t e : TypeId} {a : Option Addr} {len cap : Nat} {d : DataW H} {p : List MemPlace}

theorem fk_of {k : TypeDesc} {f : TypeId} {n : Nat} {v : Value} {y : DataW H × List MemPlace} {base : Nat} {spare : Nat → Bool} {held : Bool} (hk : P.underlying f = some k) (hks : k = .bool ∨ k = .string ∨ ∃ q, k = .int q)
    (h : DataW.trod enc P W base spare held n f [v] = some y) : FKok k v := by
  rcases hks with rfl | rfl | ⟨q, rfl⟩
  · obtain ⟨b, hb, _⟩ := DataW.trod_bool hk h
    exact ⟨b, by simpa using hb⟩
  · obtain ⟨s, hs, _, hl⟩ := DataW.trod_string hk h
    exact ⟨s, by simpa using hs, hl⟩
  · obtain ⟨z, hz, _, hl⟩ := DataW.trod_int hk h
    exact ⟨z, by simpa using hz, hl⟩

def plainKinds (ks : List TypeDesc) : Bool := ks.all fun | .bool => true | .string => true | .int _ => true | _ => false
theorem plain_of {ks : List TypeDesc} (h : plainKinds ks = true) {j : Nat} {k : TypeDesc} (hj : ks[j]? = some k) : k = .bool ∨ k = .string ∨ ∃ q, k = .int q := by
  have := List.all_eq_true.1 h k (List.mem_of_getElem? hj)
  cases k <;> simp_all

theorem rws_of {ks : List TypeDesc} {x : Addr} (h0 : 0 < ks.length) (hl : len ≤ cap) (hc : cap ≤ maxLen)
    (h : ∀ i j k, i < len → ks[j]? = some k → ∃ v, W.cell? (x.add (i * ks.length + j)) = some v ∧ FKok k v) : ∃ V, Rws ks W (some x) len cap V := by
  have hat : ∀ i j, i < len → j < ks.length → W.cell? (x.add (i * ks.length + j)) = some ((W.cell? (x.add (i * ks.length + j))).getD .nilFunc) := by
    intro i j hi hj
    obtain ⟨v, hv, _⟩ := h i j ks[j] hi (List.getElem?_eq_getElem hj)
    rw [hv]; rfl
  refine ⟨fun i j => (W.cell? (x.add (i * ks.length + j))).getD .nilFunc, hl, hc, fun hn => ?_, fun i j k hi hj => ?_⟩
  · have h00 := hat 0 0 hn h0
    have hs : x.spot = none := World.cell?_spot (by simpa [Addr.add] using h00)
    obtain ⟨b, o, s⟩ := x
    simp only at hs
    subst hs
    have hblk : b < W.heap.size := by
      rcases Nat.lt_or_ge b W.heap.size with hb | hb
      · exact hb
      · have : W.cell? ((⟨b, o, none⟩ : Addr).add (0 * ks.length + 0)) = none := by
          simp [Addr.add, World.cell?, Array.getElem?_eq_none hb]
        rw [this] at h00; simp at h00
    refine ⟨b, o, rfl, hblk, fun i j hi hj => ?_⟩
    have := hat i j hi hj
    have e : (⟨b, o, none⟩ : Addr).add (i * ks.length + j) = ⟨b, o + (i * ks.length + j), none⟩ := by
      unfold Addr.add; split
      · rename_i h; simp [h]
      · rfl
    show _ = some ((W.cell? ((⟨b, o, none⟩ : Addr).add (i * ks.length + j))).getD .nilFunc)
    rw [← e]; exact this
  · obtain ⟨v, hv, hf⟩ := h i j k hi hj
    simp only [hv, Option.getD_some]
    exact hf

theorem open_rws_struct {fs : Array Field} {ks : List TypeDesc} (ht : P.underlying t = some (.slice e)) (he : P.underlying e = some (.struct fs)) (hone : oneCellFields P fs = true) (hC : P.cellsOf e = fs.size)
    (hk : (fs.toList.map fun f => P.underlying f.type) = ks.map some ∧ plainKinds ks = true ∧ 0 < ks.length)
    (h : DataW.Trod enc P W 0 (fun _ => true) true t (.slice a len cap) d p) : ∃ V, Rws ks W a len cap V := by
  obtain ⟨hks, hpl, h0⟩ := hk
  have hsz : fs.size = ks.length := by simpa using congrArg List.length hks
  obtain ⟨fuel, hf⟩ := h
  rcases open_slice ht hf with ⟨hcs, _⟩ | ⟨x, l, c, m, n, D, Pl, hcs, _, hl, hm, hmm, _, hi⟩
  · simp [Value.cells] at hcs
    obtain ⟨rfl, rfl, rfl⟩ := hcs
    exact ⟨fun _ _ => .nilFunc, Nat.le_refl _, by simp [maxLen], fun h => absurd h (by omega), fun i _ _ h => absurd h (by omega)⟩
  · simp [Value.cells] at hcs
    obtain ⟨rfl, rfl, rfl⟩ := hcs
    refine rws_of h0 hl hm fun i j k hil hj => ?_
    obtain ⟨cs', hc, ht'⟩ := hi i (by simp at hmm; omega)
    obtain ⟨ys, n', _, _, hlen, hyl, hff⟩ := DataW.trod_struct he ht'
    obtain ⟨_, hcl, hat⟩ := World.cells?_some hc
    rw [hC, hsz] at hcl hat
    have hjl : j < ks.length := (List.getElem?_eq_some_iff.1 hj).1
    obtain ⟨f, hfj⟩ : ∃ f, fs[j]? = some f := ⟨fs[j], Array.getElem?_eq_getElem (by omega)⟩
    obtain ⟨ho, hkc⟩ := hone_of hone j f hfj
    have hcell := hat j hjl
    have hv : cs'[j]? = some (cs'[j]'(by omega)) := List.getElem?_eq_getElem (by omega)
    have h1 := hff j f hfj
    rw [ho, hkc] at h1
    have hd1 : (cs'.drop j).take 1 = [cs'[j]'(by omega)] := by
      rw [List.drop_eq_getElem_cons (by omega)]; rfl
    rw [hd1] at h1
    have hys : ys[j]? = some (ys[j]'(by omega)) := List.getElem?_eq_getElem (by omega)
    have hu : P.underlying f.type = some k := by
      have e1 := congrArg (fun l => l[j]?) hks
      simp only [List.getElem?_map, Array.getElem?_toList, hfj, hj, Option.map_some] at e1
      injection e1
    refine ⟨cs'[j]'(by omega), ?_, fk_of hu (plain_of hpl hj) (h1.trans hys)⟩
    have hadd : x.add (i * ks.length + j) = (x.add (i * ks.length)).add j := by rw [Go.Deep.add_add]
    rw [hadd, hcell, hv]

theorem open_rws_one {k : TypeDesc} (ht : P.underlying t = some (.slice e)) (hk : P.underlying e = some k ∧ plainKinds [k] = true) (hC : P.cellsOf e = 1)
    (h : DataW.Trod enc P W 0 (fun _ => true) true t (.slice a len cap) d p) : ∃ V, Rws [k] W a len cap V := by
  obtain ⟨hu, hpl⟩ := hk
  obtain ⟨fuel, hf⟩ := h
  rcases open_slice1 ht hC hf with ⟨hcs, _⟩ | ⟨x, l, c, m, n, V, D, Pl, hcs, _, hl, hm, hmm, _, hi⟩
  · simp [Value.cells] at hcs
    obtain ⟨rfl, rfl, rfl⟩ := hcs
    exact ⟨fun _ _ => .nilFunc, Nat.le_refl _, by simp [maxLen], fun h => absurd h (by omega), fun i _ _ h => absurd h (by omega)⟩
  · simp [Value.cells] at hcs
    obtain ⟨rfl, rfl, rfl⟩ := hcs
    refine rws_of (by simp) hl hm fun i j k' hil hj => ?_
    have hj0 : j = 0 := by
      have := (List.getElem?_eq_some_iff.1 hj).1
      simp at this; omega
    subst hj0
    simp at hj
    subst hj
    obtain ⟨h1, h2⟩ := hi i (by simp at hmm; omega)
    exact ⟨V i, by simpa using h1, fk_of hu (plain_of hpl (j := 0) rfl) h2⟩
end

/-- an element's cells at hand -/
theorem Rws.at1 {k : TypeDesc} {w : World} {A : Option Addr} {n c : Nat} {V : Nat → Nat → Value} (h : Rws [k] w A n c V) {i : Nat} (hi : i < n) :
    ∃ b o, A = some ⟨b, o, none⟩ ∧ b < w.heap.size ∧ FKok k (V i 0) ∧ w.cell? ⟨b, o + i, none⟩ = some (V i 0) := by
  obtain ⟨_, _, h3, h4⟩ := h
  obtain ⟨b, o, rfl, hlt, hc⟩ := h3 (by omega)
  exact ⟨b, o, rfl, hlt, h4 i 0 k hi rfl, by simpa using hc i 0 hi (by simp)⟩
theorem Rws.at2 {k0 k1 : TypeDesc} {w : World} {A : Option Addr} {n c : Nat} {V : Nat → Nat → Value} (h : Rws [k0, k1] w A n c V) {i : Nat} (hi : i < n) :
    ∃ b o, A = some ⟨b, o, none⟩ ∧ b < w.heap.size ∧ FKok k0 (V i 0) ∧ FKok k1 (V i 1) ∧ w.cell? ⟨b, o + i * 2, none⟩ = some (V i 0) ∧ w.cell? ⟨b, o + i * 2 + 1, none⟩ = some (V i 1) := by
  obtain ⟨_, _, h3, h4⟩ := h
  obtain ⟨b, o, rfl, hlt, hc⟩ := h3 (by omega)
  exact ⟨b, o, rfl, hlt, h4 i 0 _ hi rfl, h4 i 1 _ hi rfl, hc i 0 hi (by simp), hc i 1 hi (by simp)⟩
theorem Rws.at3 {k0 k1 k2 : TypeDesc} {w : World} {A : Option Addr} {n c : Nat} {V : Nat → Nat → Value} (h : Rws [k0, k1, k2] w A n c V) {i : Nat} (hi : i < n) :
    ∃ b o, A = some ⟨b, o, none⟩ ∧ b < w.heap.size ∧ FKok k0 (V i 0) ∧ FKok k1 (V i 1) ∧ FKok k2 (V i 2) ∧ w.cell? ⟨b, o + i * 3, none⟩ = some (V i 0) ∧ w.cell? ⟨b, o + i * 3 + 1, none⟩ = some (V i 1) ∧
      w.cell? ⟨b, o + i * 3 + 2, none⟩ = some (V i 2) := by
  obtain ⟨_, _, h3, h4⟩ := h
  obtain ⟨b, o, rfl, hlt, hc⟩ := h3 (by omega)
  exact ⟨b, o, rfl, hlt, h4 i 0 _ hi rfl, h4 i 1 _ hi rfl, h4 i 2 _ hi rfl, hc i 0 hi (by simp), hc i 1 hi (by simp), hc i 2 hi (by simp)⟩
theorem Rws.at4 {k0 k1 k2 k3 : TypeDesc} {w : World} {A : Option Addr} {n c : Nat} {V : Nat → Nat → Value} (h : Rws [k0, k1, k2, k3] w A n c V) {i : Nat} (hi : i < n) :
    ∃ b o, A = some ⟨b, o, none⟩ ∧ b < w.heap.size ∧ FKok k0 (V i 0) ∧ FKok k1 (V i 1) ∧ FKok k2 (V i 2) ∧ FKok k3 (V i 3) ∧ w.cell? ⟨b, o + i * 4, none⟩ = some (V i 0) ∧ w.cell? ⟨b, o + i * 4 + 1, none⟩ = some (V i 1) ∧
      w.cell? ⟨b, o + i * 4 + 2, none⟩ = some (V i 2) ∧ w.cell? ⟨b, o + i * 4 + 3, none⟩ = some (V i 3) := by
  obtain ⟨_, _, h3, h4⟩ := h
  obtain ⟨b, o, rfl, hlt, hc⟩ := h3 (by omega)
  exact ⟨b, o, rfl, hlt, h4 i 0 _ hi rfl, h4 i 1 _ hi rfl, h4 i 2 _ hi rfl, h4 i 3 _ hi rfl, hc i 0 hi (by simp), hc i 1 hi (by simp), hc i 2 hi (by simp), hc i 3 hi (by simp)⟩
theorem Rws.at5 {k0 k1 k2 k3 k4 : TypeDesc} {w : World} {A : Option Addr} {n c : Nat} {V : Nat → Nat → Value} (h : Rws [k0, k1, k2, k3, k4] w A n c V) {i : Nat} (hi : i < n) :
    ∃ b o, A = some ⟨b, o, none⟩ ∧ b < w.heap.size ∧ FKok k0 (V i 0) ∧ FKok k1 (V i 1) ∧ FKok k2 (V i 2) ∧ FKok k3 (V i 3) ∧ FKok k4 (V i 4) ∧ w.cell? ⟨b, o + i * 5, none⟩ = some (V i 0) ∧ w.cell? ⟨b, o + i * 5 + 1, none⟩ = some (V i 1) ∧
      w.cell? ⟨b, o + i * 5 + 2, none⟩ = some (V i 2) ∧ w.cell? ⟨b, o + i * 5 + 3, none⟩ = some (V i 3) ∧ w.cell? ⟨b, o + i * 5 + 4, none⟩ = some (V i 4) := by
  obtain ⟨_, _, h3, h4⟩ := h
  obtain ⟨b, o, rfl, hlt, hc⟩ := h3 (by omega)
  exact ⟨b, o, rfl, hlt, h4 i 0 _ hi rfl, h4 i 1 _ hi rfl, h4 i 2 _ hi rfl, h4 i 3 _ hi rfl, h4 i 4 _ hi rfl, hc i 0 hi (by simp), hc i 1 hi (by simp), hc i 2 hi (by simp), hc i 3 hi (by simp), hc i 4 hi (by simp)⟩
end Go.Proofs.Ytlhlidmhlhodiaa

/-
  Sparse frames: from a contract to a law's walk; what came in, as segments.
-/
namespace Go.Proofs.Ytlhlidmhlhodiaa
set_option linter.unusedSimpArgs false
set_option linter.unusedVariables false
open Go.RowKit

theorem sat_start {w : World} {R : List Ro} (h : ∀ r ∈ R, r.sat w) : Sat w (feet []) (blks R) [] R w :=
  ⟨Frm.refl _ _, (by intro x hx; cases hx), (by intro x hx; cases hx), .nil, h, (by intro r _ x hx; cases hx), fun r hr => .inr (.inl (mem_blks.2 ⟨r, hr, rfl⟩))⟩
theorem walk_of {P : Program} {f : FuncId} {args : Array Value} {R : List Ro} {w : World} (hF : Fn P f args [] R (fun v _ _ => v = .bool true)) (hR : ∀ r ∈ R, r.sat w) :
    Calls P f args w fun e w' => e = .returned (.bool true) ∧ Below w.heap.size w w' :=
  (hF w (sat_start hR)).mono fun _ _ ⟨_, _, _, he, hv, hS⟩ => ⟨by rw [he, hv], hS.frm.below⟩

def rowsOf (ks : List TypeDesc) (V : Nat → Nat → Value) (n : Nat) : List (List Value) := (List.range n).map fun i => (List.range ks.length).map fun j => V i j
theorem rowsOf_at {ks : List TypeDesc} {V : Nat → Nat → Value} {n i : Nat} (hi : i < n) : (rowsOf ks V n)[i]? = some ((List.range ks.length).map fun j => V i j) := by
  simp [rowsOf, hi]
theorem rowsOf_len {ks : List TypeDesc} {V : Nat → Nat → Value} {n : Nat} : (rowsOf ks V n).length = n := by simp [rowsOf]
theorem fk_one {k : TypeDesc} {v : Value} (h : FKok k v) : v.oneCell' = true := by
  cases k <;> simp only [FKok] at h <;> first | exact h.elim | skip
  · obtain ⟨b, rfl⟩ := h; rfl
  · obtain ⟨n, rfl, _⟩ := h; rfl
  · obtain ⟨s, rfl, _⟩ := h; rfl
theorem block_of_cell {w : World} {b o : Nat} {v : Value} (h : w.cell? ⟨b, o, none⟩ = some v) : ∃ cur t fz, w.heap[b]? = some (.cells cur t fz) ∧ cur[o]? = some v := by
  unfold World.cell? at h
  split at h
  · rename_i c e fz hc
    exact ⟨c, e, fz, hc, by simpa using h⟩
  · cases h
theorem rws_ro {ks : List TypeDesc} {w : World} {A : Option Addr} {n c : Nat} {V : Nat → Nat → Value} (h : Rws ks w A n c V) (hk : 0 < ks.length) :
    ∃ R : List Ro, (∀ r ∈ R, r.sat w) ∧ (0 < n → ∃ b o, A = some ⟨b, o, none⟩ ∧ ⟨b, o, ks.length, rowsOf ks V n⟩ ∈ R) := by
  obtain ⟨h1, h2, h3, h4⟩ := h
  rcases Nat.eq_zero_or_pos n with h0 | h0
  · exact ⟨[], (by intro r hr; cases hr), fun h => by omega⟩
  · obtain ⟨b, o, rfl, hlt, hc⟩ := h3 h0
    refine ⟨[⟨b, o, ks.length, rowsOf ks V n⟩], fun r hr => ?_, fun _ => ⟨b, o, rfl, .head _⟩⟩
    rcases List.mem_singleton.1 hr with rfl
    obtain ⟨cur, t, fz, hb, _⟩ := block_of_cell (hc 0 0 h0 hk)
    have hrows : RowsOk ks.length (rowsOf ks V n) := by
      intro row hrow
      obtain ⟨i, hi, rfl⟩ := List.mem_map.1 hrow
      refine ⟨by simp, fun u hu => ?_⟩
      obtain ⟨j, hj, rfl⟩ := List.mem_map.1 hu
      have hj' := List.mem_range.1 hj
      exact fk_one (h4 i j ks[j] (List.mem_range.1 hi) (List.getElem?_eq_getElem hj'))
    refine ⟨hrows, cur, t, fz, hb, (seg_iff hrows.lens).2 ?_⟩
    intro i row hi j u hj
    have hil : i < n := by have := (List.getElem?_eq_some_iff.1 hi).1; rw [rowsOf_len] at this; exact this
    rw [rowsOf_at hil] at hi
    simp only [Option.some.injEq] at hi
    subst hi
    have hjl : j < ks.length := by have := (List.getElem?_eq_some_iff.1 hj).1; simpa using this
    simp [hjl] at hj
    subst hj
    have := hc i j hil hjl
    unfold World.cell? at this
    rw [hb] at this
    simpa using this
end Go.Proofs.Ytlhlidmhlhodiaa

/-
  Sparse frames: results that lie in cells; structs handed by value.
-/
namespace Go.Proofs.Ytlhlidmhlhodiaa
set_option linter.unusedSimpArgs false
set_option linter.unusedVariables false
open Go.RowKit
inductive RV (P : Program) (fr : List (Nat × Value)) (hp : List It) : List ResultVar → List Value → Prop
  | nil : RV P fr hp [] []
  | tmp {r v rs vs} (h : fget fr r = some v) (ht : RV P fr hp rs vs) : RV P fr hp (.tmp r :: rs) (v :: vs)
  | agg {a t rs vs b o n r} {l : List Value} {t' : TypeId} {fz : Nat × Nat} {F : List It} (h : fget fr a = some (.pointer (some ⟨b, o, none⟩))) (hs : hp.Perm (.ob b (.cells l.toArray t' fz) :: F)) (hT : TAgg P t n) (hl : Cut l o n r) (ht : RV P fr hp rs vs) : RV P fr hp (.cell a t :: rs) (.agg r.toArray :: vs)
  | one {a t rs vs b o v} {l : List Value} {t' : TypeId} {fz : Nat × Nat} {F : List It} (h : fget fr a = some (.pointer (some ⟨b, o, none⟩))) (hs : hp.Perm (.ob b (.cells l.toArray t' fz) :: F)) (hT : TOne P t) (hl : l[o]? = some v) (ht : RV P fr hp rs vs) : RV P fr hp (.cell a t :: rs) (v :: vs)
def outV : List Value → Value
  | [v] => v
  | vs => .tuple vs.toArray
def resOne (tmps : Array Value) : ResultVar → Sem Value
  | .tmp t => pure (tmps.getD t undef)
  | .cell a t => do loadVar t (← asAddr (tmps.getD a undef))
theorem run_loadVar_one {P : Program} {T : TypeId} {v : Value} [TOne P T] {w : World} {ad : Addr} (h : w.cell? ad = some v) : (loadVar T ad).run P w = .ok v w := by
  simp only [loadVar, Sem.run_bind, Sem.run_pure, Result.andThen_ok, run_isAgg_one, Bool.false_eq_true, if_false]
  simp [h, go_sem]
theorem run_loadVar_agg {P : Program} {T : TypeId} {n : Nat} [TAgg P T n] {w : World} {b o : Nat} {r : List Value} (hn : r.length = n) (h : ∀ j u, r[j]? = some u → w.cell? ⟨b, o + j, none⟩ = some u) : (loadVar T ⟨b, o, none⟩).run P w = .ok (.agg r.toArray) w := by
  have := run_loadCells_list (P := P) w ⟨b, o, none⟩ r (fun j u hj => by rw [Addr.add_lit]; exact h j u hj)
  subst hn
  simp only [loadVar, Sem.run_bind, Sem.run_pure, Result.andThen_ok, run_isAgg_agg, if_true, run_sizeOf_agg, this]
theorem RV.run {P : Program} {N : Nat} {E : Env} {fr : List (Nat × Value)} {hp : List It} {ro : List Ro} {rs : List ResultVar} {vs : List Value} (h : RV P fr hp rs vs) {a : Act} {w : World} (ok : Ok N E ⟨fr, hp, ro⟩ a w) :
    (rs.mapM (resOne a.tmps)).run P w = .ok vs w := by
  induction h with
  | nil => rfl
  | tmp h _ ih => simp only [List.mapM_cons, Sem.run_bind, resOne, Sem.run_pure, Result.andThen_ok, ih, ok.h.tmp h]
  | @agg _ t _ _ _ _ _ _ _ _ _ _ h hs hT hl _ ih =>
    have h1 := run_loadVar_agg (P := P) (T := t) hl.spec.1 (fun j u hj => cell_ob (ok.s.get hs) (hl.spec.2 j u hj))
    simp only [List.mapM_cons, Sem.run_bind, resOne, ok.h.tmp h, asAddr, Sem.run_pure, Result.andThen_ok, h1, ih]
  | @one _ t _ _ _ _ _ _ _ _ _ h hs hT hl _ ih =>
    have h1 := run_loadVar_one (P := P) (T := t) (cell_ob (ok.s.get hs) hl)
    simp only [List.mapM_cons, Sem.run_bind, resOne, ok.h.tmp h, asAddr, Sem.run_pure, Result.andThen_ok, h1, ih]
theorem outV_eq (vs : List Value) : (if h : vs.toArray.size = 1 then vs.toArray[0] else .tuple vs.toArray) = outV vs := by
  match vs with
  | [] => rfl
  | [v] => rfl
  | _ :: _ :: _ => simp [outV]
theorem retv {P : Program} {fn : Func} {fr : List (Nat × Value)} {hp hp' F : List It} {ro ro' : List Ro} {rs : List ResultVar} {vs : List Value} {Post : Value → List It → List Ro → Prop} (hr : fn.results = rs.toArray) (hv : RV P fr hp rs vs) (hP : Post (outV vs) hp' ro') (hpm : hp.Perm (hp' ++ F)) (ho : ∀ r ∈ ro', r ∈ ro) :
    Ret P fn Post ⟨fr, hp, ro⟩ :=
  ⟨_, hp', ro', fun _ _ a w ok => by
    have h1 := hv.run ok
    have e : results fn a.tmps = (do let vs ← fn.results.mapM (resOne a.tmps); pure (if h : vs.size = 1 then vs[0] else .tuple vs)) := by
      unfold results resOne
      rfl
    rw [e, hr, List.mapM_toArray]
    simp only [Sem.run_bind, map_eq_pure_bind, h1, Result.andThen_ok, Sem.run_pure, outV_eq], ⟨F, hpm⟩, ho, hP⟩
/-! shifts by so many bits; or of what doesn't overlap -/
def p2o (b : Int) : Option Int := ([1, 2, 4, 8, 16, 32, 64, 128, 256, 512, 1024, 2048, 4096, 8192, 16384, 32768, 65536, 131072, 262144, 524288, 1048576, 2097152, 4194304, 8388608, 16777216, 33554432, 67108864, 134217728, 268435456, 536870912, 1073741824, 2147483648, 4294967296, 8589934592, 17179869184, 34359738368, 68719476736, 137438953472, 274877906944, 549755813888, 1099511627776, 2199023255552, 4398046511104, 8796093022208, 17592186044416, 35184372088832, 70368744177664, 140737488355328, 281474976710656, 562949953421312, 1125899906842624, 2251799813685248, 4503599627370496, 9007199254740992, 18014398509481984, 36028797018963968, 72057594037927936, 144115188075855872, 288230376151711744, 576460752303423488, 1152921504606846976, 2305843009213693952, 4611686018427387904, 9223372036854775808] : List Int)[b.toNat]?
theorem p2o_eq {b m : Int} (h : p2o b = some m) : m = 2 ^ b.toNat ∧ b.toNat < 64 := by
  have hl : b.toNat < 64 := by
    have := (List.getElem?_eq_some_iff.1 h).1
    simpa using this
  refine ⟨?_, hl⟩
  have key : ∀ i : Nat, i < 64 → ([1, 2, 4, 8, 16, 32, 64, 128, 256, 512, 1024, 2048, 4096, 8192, 16384, 32768, 65536, 131072, 262144, 524288, 1048576, 2097152, 4194304, 8388608, 16777216, 33554432, 67108864, 134217728, 268435456, 536870912, 1073741824, 2147483648, 4294967296, 8589934592, 17179869184, 34359738368, 68719476736, 137438953472, 274877906944, 549755813888, 1099511627776, 2199023255552, 4398046511104, 8796093022208, 17592186044416, 35184372088832, 70368744177664, 140737488355328, 281474976710656, 562949953421312, 1125899906842624, 2251799813685248, 4503599627370496, 9007199254740992, 18014398509481984, 36028797018963968, 72057594037927936, 144115188075855872, 288230376151711744, 576460752303423488, 1152921504606846976, 2305843009213693952, 4611686018427387904, 9223372036854775808] : List Int)[i]? = some (2 ^ i) := by decide
  unfold p2o at h
  rw [key _ hl] at h
  exact (Option.some.inj h).symm
section
variable {P : Program} {fr : List (Nat × Value)} {hp : List It} {ro : List Ro} {x y : Operand} {k k' : IntKind} {a b lo hi m : Int} {t t' : TypeId}
theorem a_shr (hx : opd fr x = some (.int k a)) (hy : opd fr y = some (.int k' b)) (hm : p2o b = some m) (h0 : 0 ≤ b) (hb : Nat.ble b.toNat k.bits = true) : Pv P ⟨fr, hp, ro⟩ (.binOp .shr t x y t') (.int k (a / m)) := by
  obtain ⟨h1, h2⟩ := p2o_eq hm
  have := pv_shr (P := P) (hp := hp) (ro := ro) (t := t) (t' := t') hx hy h0
  rw [Nat.min_eq_left (Nat.le_of_ble_eq_true hb), ← h1, Int.fdiv_eq_ediv_of_nonneg _ (by rw [h1]; exact Int.le_of_lt (Int.pow_pos (by omega)))] at this
  exact this
theorem a_shl (hx : opd fr x = some (.int k a)) (hy : opd fr y = some (.int k' b)) (hm : p2o b = some m) (h0 : 0 ≤ b) (hb : Nat.ble b.toNat k.bits = true) (hk : KB k lo hi) (h : lo ≤ a * m ∧ a * m ≤ hi) : Pv P ⟨fr, hp, ro⟩ (.binOp .shl t x y t') (.int k (a * m)) := by
  obtain ⟨h1, h2⟩ := p2o_eq hm
  have := pv_shl (P := P) (hp := hp) (ro := ro) (t := t) (t' := t') hx hy h0
  rw [Nat.min_eq_left (Nat.le_of_ble_eq_true hb), ← h1, hk.h _ h.1 h.2] at this
  exact this
theorem a_shl_u (hx : opd fr x = some (.int k a)) (hy : opd fr y = some (.int k' b)) (hm : p2o b = some m) (h0 : 0 ≤ b) (hb : Nat.ble b.toNat k.bits = true) {mm : Int} (hk : KU k mm) : Pv P ⟨fr, hp, ro⟩ (.binOp .shl t x y t') (.int k (a * m % mm)) := by
  obtain ⟨h1, h2⟩ := p2o_eq hm
  have := pv_shl (P := P) (hp := hp) (ro := ro) (t := t) (t' := t') hx hy h0
  rw [Nat.min_eq_left (Nat.le_of_ble_eq_true hb), ← h1, hk.h] at this
  exact this
theorem wrap_lt (k : IntKind) (n : Int) : k.wrap n < ((2 ^ k.bits : Nat) : Int) := by
  cases k <;> simp only [IntKind.wrap, IntKind.bits, IntKind.signed] <;> simp <;> omega
theorem a_or (j : Int) (hx : opd fr x = some (.int k a)) (hy : opd fr y = some (.int k b)) (hk : KB k lo hi) (hm : p2o j = some m) (h : lo ≤ 0 ∧ 0 ≤ a ∧ a % m = 0 ∧ 0 ≤ b ∧ b < m ∧ a + b ≤ hi) : Pv P ⟨fr, hp, ro⟩ (.binOp .or t x y t') (.int k (a + b)) := by
  obtain ⟨h1, h2⟩ := p2o_eq hm
  obtain ⟨g1, g2, g3, g4, g5, g6⟩ := h
  have this := pv_or (P := P) (hp := hp) (ro := ro) (t := t) (t' := t') hx hy
  obtain ⟨u, rfl⟩ := Int.eq_ofNat_of_zero_le g2
  obtain ⟨v, rfl⟩ := Int.eq_ofNat_of_zero_le g4
  have hw := hk.h ((u : Int) + (v : Int)) (by omega) g6
  have hlt : u + v < 2 ^ k.bits := by have := wrap_lt k ((u : Int) + (v : Int))
                                      rw [hw] at this
                                      exact_mod_cast this
  have e : bits .or k (u : Int) (v : Int) = (u : Int) + (v : Int) := by
    show k.wrap ((BitVec.ofInt k.bits (u : Int) ||| BitVec.ofInt k.bits (v : Int)).toNat : Int) = _
    have hz : ∀ c : Nat, c < 2 ^ k.bits → (BitVec.ofInt k.bits (c : Int)).toNat = c := fun c hc => by
      rw [BitVec.ofInt_natCast, BitVec.toNat_ofNat]; exact Nat.mod_eq_of_lt hc
    rw [BitVec.toNat_or, hz u (by omega), hz v (by omega)]
    have hd : 2 ^ j.toNat ∣ u := by
      have : ((u % 2 ^ j.toNat : Nat) : Int) = 0 := by push_cast; rw [← h1]; exact g3
      exact Nat.dvd_of_mod_eq_zero (by exact_mod_cast this)
    obtain ⟨z, rfl⟩ := hd
    have hv : v < 2 ^ j.toNat := by have : (v : Int) < ((2 ^ j.toNat : Nat) : Int) := by push_cast; omega
                                    exact_mod_cast this
    rw [← Nat.two_pow_add_eq_or_of_lt hv z]
    push_cast at hw ⊢
    exact hw
  rw [e] at this
  exact this
end
/-! what one operation of a drawn region does -/
section
variable {P : Program} {N : Nat} {E : Env} {fr : List (Nat × Value)} {B0 : List It} {ro : List Ro} {T : TypeId} {x y : Operand} {v : Value} {dst : Option Tmp} {ty : TypeId} {pos : String} {af : Array Edge} {g : Option (Nat × Bool)} {b o : Nat} {l l' : List Value} {t : TypeId}
theorem outc_alloc {z : List Value} [TZ P T z] : ∀ a, Holds N fr a → Outc P E B0 ro ⟨dst, .alloc T, ty, pos, af, g⟩ a [] (fun v M => ∃ b, v = .pointer (some ⟨b, 0, none⟩) ∧ M = [.ob b (.cells z.toArray T (0, 0))]) := fun a hh F w hw => by
  obtain ⟨v, hv, hc⟩ := run_zeroValue (P := P) (T := T) (w := w)
  have e : (execOp a.eval ⟨dst, .alloc T, ty, pos, af, g⟩).run P w = .ok (.value (.pointer (some ⟨w.heap.size, 0, none⟩))) (w.alloc (.cells z.toArray T)) := by
    simp only [execOp, Instr.alloc, Sem.run_bind, hv, Result.andThen_ok, newVar, newRow, newObj, hc]; rfl
  rw [e]
  exact ⟨_, ⟨_, rfl, rfl⟩, (hw.step (L := []) (T' := []) (.refl _) (by simp) (Sat.fresh _)).some_ro (fun r hr => by simpa using hr)⟩
theorem outc_sta {n : Nat} {r : List Value} [TAgg P T n] (hx : opd fr x = some (.pointer (some ⟨b, o, none⟩))) (hy : opd fr y = some (.agg r.toArray)) (hn : Nat.beq r.length n = true) (h1 : allOne r = true) (hl : LayAt l o r l') :
    ∀ a, Holds N fr a → Outc P E B0 ro ⟨dst, .store T x y, ty, pos, af, g⟩ a [.ob b (.cells l.toArray t (0, 0))] (fun u M => u = undef ∧ M = [.ob b (.cells l'.toArray t (0, 0))]) := fun a hh F w hw => by
  obtain ⟨hf, rfl⟩ := hl.spec
  have hn := Nat.eq_of_beq_eq_true hn
  subst hn
  obtain ⟨w', h2, h3, h4⟩ := run_storeAt_lay (P := P) (T := T) (v := .agg r.toArray) rfl run_sizeOf_agg (show w.heap[b]? = _ from hw.get (.refl _)) (by simpa using hf) (allOne_mem h1)
  have e : (execOp a.eval ⟨dst, .store T x y, ty, pos, af, g⟩).run P w = .ok .skip w' := by
    simp only [execOp, hh.eval hx, hh.eval hy, Sem.run_bind, h2]; rfl
  rw [e]
  exact ⟨_, ⟨rfl, rfl⟩, (hw.step (L := [_]) (T' := []) (.refl _) (by simp) (Sat.relay h4 h3)).some_ro (fun r hr => by simpa using hr)⟩
theorem outc_st [TOne P T] (hx : opd fr x = some (.pointer (some ⟨b, o, none⟩))) (hy : opd fr y = some v) (h1 : v.oneCell' = true) (hl : SetAt l o v l') :
    ∀ a, Holds N fr a → Outc P E B0 ro ⟨dst, .store T x y, ty, pos, af, g⟩ a [.ob b (.cells l.toArray t (0, 0))] (fun u M => u = undef ∧ M = [.ob b (.cells l'.toArray t (0, 0))]) := fun a hh F w hw => by
  obtain ⟨hf, rfl⟩ := hl.lay.spec
  obtain ⟨w', h2, h3, h4⟩ := run_storeAt_lay (P := P) (T := T) (r := [v]) (cells_one h1) run_sizeOf_one (show w.heap[b]? = _ from hw.get (.refl _)) (by simpa using hf) (by simpa using h1)
  have e : (execOp a.eval ⟨dst, .store T x y, ty, pos, af, g⟩).run P w = .ok .skip w' := by
    simp only [execOp, hh.eval hx, hh.eval hy, Sem.run_bind, h2]; rfl
  rw [e]
  exact ⟨_, ⟨rfl, rfl⟩, (hw.step (L := [_]) (T' := []) (.refl _) (by simp) (Sat.relay h4 h3)).some_ro (fun r hr => by simpa using hr)⟩
theorem outc_mono {L : List It} {o : Oper} {a : Act} {T T' : Value → List It → Prop} (h : Outc P E B0 ro o a L T) (hT : ∀ v M, T v M → T' v M) : Outc P E B0 ro o a L T' := fun F w hw => by
  have := h F w hw
  revert this
  cases hr : (execOp a.eval o).run P w with
  | ok n w' =>
    cases n with
    | value v => exact fun ⟨M, h1, h2⟩ => ⟨M, hT _ _ h1, h2⟩
    | skip => exact fun ⟨M, h1, h2⟩ => ⟨M, hT _ _ h1, h2⟩
    | enter f args => exact fun ⟨h0, h⟩ => ⟨h0, h.mono fun _ _ ⟨v, M, h1, h2, h3⟩ => ⟨v, M, h1, hT _ _ h2, h3⟩⟩
    | _ => exact fun h => h
  | _ => exact fun h => h
end
abbrev cM (L : List It) : Nat → List It := fun _ => L
/-- one store, into a block of its own class -/
abbrev stT (new : List Value) (T : TypeId) : Nat → List It → Value → List It → Prop := fun _ L v M => match L with
  | [.ob b _] => v = undef ∧ M = [.ob b (.cells new.toArray T (0, 0))]
  | _ => False
/-! a slice of numbers that came in -/
def kseg (k : IntKind) (z : Nat → Int) (n : Nat) : List (List Value) := (List.range n).map fun i => [.int k (z i)]
theorem kseg_at {k : IntKind} {z : Nat → Int} {n i : Nat} (h : i < n) : (kseg k z n)[i]? = some [.int k (z i)] := by simp [kseg, h]
theorem rws_k {k : IntKind} {w : World} {A : Option Addr} {n c : Nat} {V : Nat → Nat → Value} (h : Rws [.int k] w A n c V) :
    ∃ (z : Nat → Int) (R : List Ro), (∀ r ∈ R, r.sat w) ∧ (∀ i, i < n → k.min ≤ z i ∧ z i ≤ k.max) ∧ (0 < n → ∃ b o, A = some ⟨b, o, none⟩ ∧ ⟨b, o, 1, kseg k z n⟩ ∈ R) ∧ n ≤ 9223372036854775807 := by
  obtain ⟨R, hR, h0⟩ := rws_ro h (by simp)
  obtain ⟨h1, h2, _, h4⟩ := h
  refine ⟨fun i => match V i 0 with | .int _ z => z | _ => 0, R, hR, fun i hi => ?_, fun hn => ?_, by unfold maxLen at h2; omega⟩
  · obtain ⟨z, hz, hw⟩ := h4 i 0 _ hi rfl
    simp only [hz]
    simpa [Lit.wf] using hw
  · obtain ⟨b, o, hA, hm⟩ := h0 hn
    refine ⟨b, o, hA, ?_⟩
    have e : rowsOf [.int k] V n = kseg k (fun i => match V i 0 with | .int _ z => z | _ => 0) n := by
      unfold rowsOf kseg
      refine List.map_congr_left fun i hi => ?_
      obtain ⟨z, hz, _⟩ := h4 i 0 _ (List.mem_range.1 hi) rfl
      simp [hz]
    rw [← e]; exact hm
/-! classes as a list -/
def look : List (Nat × List It) → Nat → Option (List It)
  | [], _ => none
  | (i, M) :: l, k => if i = k then some M else look l k
def setl : List (Nat × List It) → Nat → List It → List (Nat × List It)
  | [], c, M => [(c, M)]
  | (i, M') :: l, c, M => if i = c then (i, M) :: l else (i, M') :: setl l c M
def fm (l : List (Nat × List It)) : Nat → List It := fun k => (look l k).getD []
theorem look_set (c : Nat) (M : List It) (k : Nat) : ∀ l, look (setl l c M) k = if c = k then some M else look l k
  | [] => by simp only [setl, look]
  | (i, M') :: l => by
    unfold setl
    by_cases h : i = c
    · subst h
      rw [if_pos rfl]
      simp only [look]
      split <;> rfl
    · rw [if_neg h]
      simp only [look, look_set c M k l]
      by_cases h2 : i = k
      · subst h2; rw [if_pos rfl, if_neg (Ne.symm h), if_pos rfl]
      · rw [if_neg h2, if_neg h2]
theorem fm_set (l : List (Nat × List It)) (c : Nat) (M : List It) : fm (setl l c M) = upd (fm l) c M := by
  funext k
  unfold fm upd
  rw [look_set]
  by_cases h : c = k
  · subst h; simp
  · rw [if_neg h]
    have : Nat.beq c k = false := by cases hb : Nat.beq c k with
      | false => rfl
      | true => exact absurd (Nat.eq_of_beq_eq_true hb) h
    rw [this]; rfl
theorem he_eff {P : Program} {N : Nat} {E : Env} {B0 : List It} {ro : List Ro} {ops : Array Oper} {cls : Nat → Option Nat} {tbl : Nat → List It → Value → List It → Prop} {K : List (Nat × Value) → (Nat → List It) → Prop} {k : Nat} {fr : List (Nat × Value)} {l : List (Nat × List It)} {dst : Option Tmp} {op : Op} {ty : TypeId} {pos : String} {af : Array Edge} {rest : List Oper} {c : Nat} {L : List It} {g : Option (Nat × Bool)}
    (hc : cls k = some c) (hm : look l c = some L) (hd : dstOk dst N = true) (hg : GOk ops fr g) (ho : ∀ a, Holds N fr a → Outc P E B0 ro ⟨dst, op, ty, pos, af, g⟩ a L (tbl k L)) (hin : ∃ v M, tbl k L v M)
    (h : ∀ v M, tbl k L v M → HdE P N E B0 ro ops cls tbl K (k + 1) rest (putF dst v fr) (fm (setl l c M))) : HdE P N E B0 ro ops cls tbl K k (⟨dst, op, ty, pos, af, g⟩ :: rest) fr (fm l) :=
  .eff hc (by unfold fm; rw [hm]; rfl) hd hg ho hin (fun v M hv => by rw [← fm_set]; exact h v M hv)
end Go.Proofs.Ytlhlidmhlhodiaa

/-
  Sparse frames: texts and bytes.
-/
namespace Go.Proofs.Ytlhlidmhlhodiaa
set_option linter.unusedSimpArgs false
set_option linter.unusedVariables false
open Go.RowKit
def sb (s : ByteArray) (i : Nat) : Int := ((s.data.toList.getD i 0).toNat : Int)
theorem sb_b (s : ByteArray) (i : Nat) : 0 ≤ sb s i ∧ sb s i ≤ 255 := by
  unfold sb
  have := (s.data.toList.getD i 0).toNat_lt
  omega
def brows (s : ByteArray) : List (List Value) := s.data.toList.map fun b => [.int .u8 (b.toNat : Int)]
theorem brows_len (s : ByteArray) : (brows s).length = s.size := by simp [brows]
theorem brows_at {s : ByteArray} {i : Nat} (h : i < s.size) : (brows s)[i]? = some [.int .u8 (sb s i)] := by
  have h' : i < s.data.size := h
  simp [brows, sb, List.getD, Array.getElem?_eq_getElem h']
theorem brows_append (a b : ByteArray) : brows (a ++ b) = brows a ++ brows b := by simp [brows]
theorem brows_ok (s : ByteArray) : RowsOk 1 (brows s) := by
  intro r hr
  obtain ⟨b, _, rfl⟩ := List.mem_map.1 hr
  exact ⟨rfl, by simp; rfl⟩
theorem flat_one {α β : Type} (f : α → β) : ∀ l : List α, (l.map fun b => [f b]).flatten = l.map f
  | [] => rfl
  | x :: l => by simp [flat_one f l]
theorem brows_flat (s : ByteArray) : (brows s).flatten = Lib.strCells s := by
  unfold brows Lib.strCells
  exact flat_one _ _
section
variable {P : Program} {N : Nat} {E : Env} {fr : List (Nat × Value)} {hp : List It} {ro : List Ro} {Kn Kr : St → Prop} {Kx : List (Nat × (St → Prop))} {ops : Array Oper} {rest : List Oper} {dst : Option Tmp} {ty : TypeId} {pos : String} {af : Array Edge} {T : TypeId} {x y : Operand} {v : Value} {F : List It} {t t' : TypeId} {k : IntKind}
theorem pv_index_s {s : ByteArray} {z : Int} [hT : TStr P t] (hx : opd fr x = some (.string s)) (hy : opd fr y = some (.int k z)) (hz : 0 ≤ z ∧ z < s.size) : Pv P ⟨fr, hp, ro⟩ (.index t x y) (.int .u8 (sb s z.toNat)) := fun N E ac w dst ty pos af g ok => by
  have hi : z.toNat < s.size := by omega
  have hi' : z.toNat < s.data.size := hi
  have e : s[z.toNat]? = some s.data[z.toNat] := by
    rw [getElem?_pos s z.toNat hi]; rfl
  simp only [execOp, ok.h.eval hx, ok.h.eval hy]
  simp [Instr.index, asIntOf, run_underlying hT.h, hz.1, e, sb, List.getD, Array.getElem?_eq_getElem hi', go_sem]
theorem pv_index_sn {s : ByteArray} {i : Nat} [hT : TStr P t] (hx : opd fr x = some (.string s)) (hy : opd fr y = some (.int k (i : Int))) (hz : i < s.size) : Pv P ⟨fr, hp, ro⟩ (.index t x y) (.int .u8 (sb s i)) := by
  have := pv_index_s (P := P) (hp := hp) (ro := ro) (t := t) hx hy (by omega)
  rwa [Int.toNat_natCast] at this
/-- a string's bytes, laid into a row that is only read -/
theorem wo_conv_sb {d e by_ : Nat} {s : ByteArray} [hS : TStr P t] [hT : TSl P t' e 1 by_] [he : TInt P e .u8] (hx : opd fr x = some (.string s)) (hd : Nat.ble (d + 1) N = true)
    (h : ∀ b c, s.size ≤ c → WO P N E ops rest ⟨(d, .slice (some ⟨b, 0, none⟩) s.size c) :: fr, hp, ⟨b, 0, 1, brows s⟩ :: ro⟩ Kn) : WO P N E ops (⟨some d, .convert t t' x, ty, pos, af, none⟩ :: rest) ⟨fr, hp, ro⟩ Kn := by
  intro Q hQ a w ok
  unfold wpList
  rw [if_pos (by simp [Region.wanted])]
  refine .inl ?_
  obtain ⟨_, _, h1, _⟩ := sl_und hT.h
  have hr := Lib.run_convert_string_bytes (P := P) w t t' e s hS.h h1 he.h
  unfold Oper.wp
  have e1 : (execOp a.eval ⟨some d, .convert t t' x, ty, pos, af, none⟩).run P w = .ok (.value (.slice (some ⟨w.heap.size, 0, none⟩) s.size (grownCap w s.size 0 e))) (Lib.bytesWorld w e s) := by
    simp only [execOp, ok.h.eval hx, Sem.run_bind, hr, Result.andThen_ok]; rfl
  rw [e1]
  have hS' : Sat w (feet []) [] [] [⟨w.heap.size, 0, 1, brows s⟩] (Lib.bytesWorld w e s) :=
    ⟨⟨rfl, rfl, rfl, by rw [Lib.bytesWorld_size]; omega, fun k hk _ => Lib.bytesWorld_at_old w e s k hk⟩, (by intro x hx; cases hx), (by intro x hx; cases hx), .nil, fun r hr => by
      rcases List.mem_singleton.1 hr with rfl
      refine ⟨brows_ok s, _, _, _, Lib.bytesWorld_at_new w e s, fun j u hj => ?_⟩
      rw [brows_flat] at hj
      simp only [Nat.zero_add]
      unfold Lib.bytesCells
      have hj' : j < s.size := by have := (List.getElem?_eq_some_iff.1 hj).1; rw [Lib.strCells_length] at this; exact this
      rw [Array.getElem?_append_left (by simpa using hj')]
      unfold Lib.strCells at hj
      simpa using hj, (by intro r _ x hx; cases hx), fun r hr => by
      rcases List.mem_singleton.1 hr with rfl
      exact .inr (.inr (Nat.le_refl _))⟩
  exact h _ _ (grownCap_ge w s.size 0 e) Q hQ _ _ ⟨ok.h.put (Nat.le_of_ble_eq_true hd) _, ok.s.step (L := []) (.refl _) blks_mem hS'⟩
/-- bytes as numbers, and their string -/
def bytesOf (ns : List Int) : ByteArray := ns.foldl (fun r n => r.push (UInt8.ofNat n.toNat)) ByteArray.empty
theorem pv_conv_bs {e by_ b o n c : Nat} {ns : List Int} {xs : List (List Value)} {ty' : TypeId} [hT : TSl P t e 1 by_] [he : TInt P e .u8] [hS : TStr P t'] (hx : opd fr x = some (.slice (some ⟨b, o, none⟩) n c)) (hs : hp.Perm (.own ty' 1 (some ⟨b, o, none⟩) n c xs :: F)) (hn : xs = ns.map fun z => [.int .u8 z]) :
    Pv P ⟨fr, hp, ro⟩ (.convert t t' x) (.string (bytesOf ns)) := fun N E ac w dst ty pos af g ok => by
  subst hn
  have hO : OwnSat w ty' 1 (some ⟨b, o, none⟩) n c _ := ok.s.get hs
  obtain ⟨_, _, h1, _⟩ := sl_und hT.h
  have hl : n = ns.length := by have := hO.len; simpa using this.symm
  subst hl
  have hc := run_loadCells_list (P := P) w ⟨b, o, none⟩ (ns.map (Value.int .u8)) (fun j u hj => by
    rw [Addr.add_lit]
    obtain ⟨_, cur, hcur, _, hseg⟩ := hO.at_ _ rfl
    simp only at hcur hseg
    simp only [World.cell?, hcur]
    exact hseg j u (by rw [flat_one]; exact hj))
  rw [List.length_map] at hc
  have hr := run_bytesToString (P := P) w ⟨b, o, none⟩ ns.length c ns hc
  simp only [execOp, ok.h.eval hx]
  simp [convert, run_underlying h1, run_underlying hS.h, run_underlying he.h, hr, bytesOf, go_sem]
theorem run_append_str {w : World} {t u ty e : TypeId} [hT : TSl P t e 1 1] [hu : TStr P u] {ao : Option Addr} {n c : Nat} {xs : List (List Value)} (hS : OwnSat w e 1 ao n c xs) (h0 : ao = none ∨ ∃ b, ao = some ⟨b, 0, none⟩) (s : ByteArray) (hb : n + s.size ≤ 1099511627776) :
    ∃ ao' c' w', (Builtin.append_ #[t, u] ty #[.slice ao n c, .string s]).run P w = .ok (.slice ao' (n + s.size) c') w' ∧ OwnSat w' e 1 ao' (n + s.size) c' (xs ++ brows s) ∧ Frm (feet [It.own e 1 ao n c xs]) w w' ∧
      (∀ b, (It.own e 1 ao' (n + s.size) c' (xs ++ brows s)).foot = some b → b ∈ feet [It.own e 1 ao n c xs] ∨ w.heap.size ≤ b) ∧ ((ao' = none ∧ n + s.size = 0) ∨ ∃ b, ao' = some ⟨b, 0, none⟩) ∧ (ao = none → s.size = 0 → ao' = none) := by
  obtain ⟨i, z, h1, h2, h3, h4, h5, h6, h7⟩ := sl_und hT.h
  have hrows : RowsOk 1 (xs ++ brows s) := fun r hr => by
    rcases List.mem_append.1 hr with hr | hr
    · exact hS.rows r hr
    · exact brows_ok s r hr
  have hlen : (xs ++ brows s).length = n + s.size := by simp [hS.len, brows_len]
  have hfl : (xs ++ brows s).flatten = xs.flatten ++ Lib.strCells s := by rw [List.flatten_append, brows_flat]
  have hxl : xs.flatten.length = n := by rw [flat_len hS.rows.lens, hS.len, Nat.mul_one]
  rcases h0 with rfl | ⟨b, rfl⟩
  · have hc0 := hS.nil rfl
    have hle := hS.le
    subst hc0
    obtain rfl : n = 0 := by omega
    have hx0 : xs = [] := List.eq_nil_of_length_eq_zero hS.len
    subst hx0
    have hz : i.zero = some (.int .u8 0) ∨ True := .inr trivial
    by_cases hm : s.size = 0
    · refine ⟨none, 0, w, ?_, ?_, Frm.refl _ _, (by intro b hb; cases hb), .inl ⟨rfl, by omega⟩, fun _ _ => rfl⟩
      · have hn : Lib.strCells s = [] := List.eq_nil_of_length_eq_zero (by rw [Lib.strCells_length]; exact hm)
        have hf := Lib.run_firstCells_string (P := P) w 1 s
        rw [hm] at hf
        simp [Builtin.append_, run_underlying h1, run_underlying hu.h, sizeOf, typeInfo, h2, h5, Builtin.lenOf, hm, hf]
      · have : brows s = [] := List.eq_nil_of_length_eq_zero (by rw [brows_len]; exact hm)
        rw [this, hm]; exact hS
    · have hn : ¬ (0 + s.size ≤ 0) := by omega
      have h63' : ¬ (9223372036854775807 < (((0 : Nat) : Int) + (s.size : Int))) := by omega
      have hfit : Builtin.nextslicecap (0 + s.size) 0 * i.bytes ≤ 281474976710656 := by rw [h6]; exact growslice_fits (by omega) (by omega)
      have h48' : ¬ (281474976710656 < Builtin.nextslicecap (0 + s.size) 0 * i.bytes) := by omega
      have hf := Lib.run_firstCells_string (P := P) w.drew i.size s
      have hr : (Builtin.append_ #[t, u] ty #[.slice none 0 0, .string s]).run P w = .ok (.slice (some ⟨w.heap.size, 0, none⟩) (0 + s.size) (grownCap w (0 + s.size) 0 e))
          (w.drew.alloc (.cells ((Lib.strCells s).toArray ++ Builtin.zeroCells z.cells (grownCap w (0 + s.size) 0 e - (0 + s.size))) e)) := by
        simp only [Nat.zero_add] at hn h48' ⊢
        simp only [Int.natCast_zero, Int.zero_add] at h63'
        have hfx : (s.data.map fun b => Value.int .u8 (b.toNat : Int)).extract 0 s.size = (Lib.strCells s).toArray := by
          apply Array.ext'
          simp [Lib.strCells]
          exact List.take_of_length_le (Nat.le_of_eq (by first | (simp; done) | (simp; rfl)))
        simp [Builtin.append_, run_underlying h1, run_underlying hu.h, sizeOf, typeInfo, zeroValue, h2, h3, h5, Builtin.lenOf, hm, h63', h48', Question.forced, hf, newRow, grownCap, Builtin.firstCells, hfx]
      refine ⟨_, _, _, hr, ⟨hlen, hrows, grownCap_ge w _ 0 e, grownCap_le_maxLen w _ 0 e (by unfold maxLen; omega), (fun h => by cases h), fun a ha => ?_⟩, ⟨rfl, rfl, rfl, by simp, fun k hk _ => heap_alloc_old w.drew _ hk⟩, fun k hk => .inr (by simp only [It.foot, Option.map_some, Option.some.injEq] at hk; omega), .inr ⟨_, rfl⟩, fun _ h => absurd h hm⟩
      simp only [Option.some.injEq] at ha
      subst ha
      have hge := grownCap_ge w (0 + s.size) 0 e
      refine ⟨rfl, _, heap_alloc_new w.drew _, ?_, fun j v hj => ?_⟩
      · simp only [Array.size_append, List.size_toArray, size_zeroCells, h4, Lib.strCells_length]; omega
      · simp only [List.nil_append, Nat.zero_add] at hj ⊢
        rw [brows_flat] at hj
        rw [Array.getElem?_append_left (by simpa using (List.getElem?_eq_some_iff.1 hj).1)]
        simpa using hj
  · obtain ⟨_, cur, hcur, hfit, hseg⟩ := hS.at_ _ rfl
    simp only [Nat.zero_add, Nat.mul_one] at hcur hfit hseg
    have hle := hS.le
    by_cases hroom : n + s.size ≤ c
    · have hr := Lib.run_append_room_string (P := P) w t u ty e i h1 hu.h h2 h5 b n c cur hcur s hroom (by omega)
      have hset := setRow_heap w b cur (cur.toList.take n ++ Lib.strCells s ++ cur.toList.drop (n + s.size)).toArray e (0, 0) hcur
      refine ⟨_, _, _, hr, ⟨hlen, hrows, hroom, hS.max, (fun h => by cases h), fun a ha => ?_⟩, ⟨rfl, rfl, rfl, by simp, fun k _ hk => setRow_other w b k _ (fun e => hk (by simp [feet, It.foot, e]))⟩, fun k hk => .inl (by simp only [It.foot, Option.map_some, Option.some.injEq] at hk; simp [feet, It.foot, hk]), .inr ⟨_, rfl⟩, fun h => by cases h⟩
      simp only [Option.some.injEq] at ha
      subst ha
      refine ⟨rfl, _, hset, ?_, fun j v hj => ?_⟩
      · simp only [List.size_toArray, List.length_append, List.length_take, List.length_drop, Array.length_toList, Lib.strCells_length]; omega
      · rw [hfl] at hj
        simp only [Nat.zero_add]
        rw [List.getElem?_toArray]
        have hl := Lib.strCells_length s
        have := lay_get (l := cur.toList) (r := Lib.strCells s) (o := n) (j := j) (by rw [hl]; simp; omega)
        rw [hl] at this
        rw [this]
        by_cases c1 : j < n
        · rw [if_pos c1]
          rw [List.getElem?_append_left (by omega)] at hj
          have := hseg j v hj
          simpa using this
        · rw [List.getElem?_append_right (by omega), hxl] at hj
          have hjl := (List.getElem?_eq_some_iff.1 hj).1
          rw [if_neg c1, if_pos (by omega)]
          exact hj
    · have hr := Lib.run_append_grow_string (P := P) w t u ty e i z h1 hu.h h2 h3 ⟨b, 0, none⟩ n c xs.flatten (by rw [h5]; omega) (fun j v hj => by
        rw [Addr.add_lit]; simp only [World.cell?, hcur, Nat.zero_add]; have := hseg j v hj; simpa using this) s (by omega) (by omega) (by rw [h6]; exact growslice_fits (by omega) (by omega))
      have hge := grownCap_ge w (n + s.size) c e
      refine ⟨_, _, _, hr, ⟨hlen, hrows, hge, grownCap_le_maxLen w _ c e (by unfold maxLen; omega), (fun h => by cases h), fun a ha => ?_⟩, ⟨rfl, rfl, rfl, by simp, fun k hk _ => heap_alloc_old w.drew _ hk⟩, fun k hk => .inr (by simp only [It.foot, Option.map_some, Option.some.injEq] at hk; omega), .inr ⟨_, rfl⟩, fun h => by cases h⟩
      simp only [Option.some.injEq] at ha
      subst ha
      refine ⟨rfl, _, heap_alloc_new w.drew _, ?_, fun j v hj => ?_⟩
      · simp only [Array.size_append, List.size_toArray, size_zeroCells, h4, Lib.strCells_length, hxl]; omega
      · rw [hfl] at hj
        simp only [Nat.zero_add]
        have hjl := (List.getElem?_eq_some_iff.1 hj).1
        rw [Array.getElem?_append_left (by simpa using hjl)]
        simpa using hj
theorem wo_app_str {d e n c : Nat} {ao : Option Addr} {xs : List (List Value)} {s : ByteArray} [hT : TSl P t e 1 1] [hu : TStr P t'] (hx : opd fr x = some (.slice ao n c)) (hy : opd fr y = some (.string s))
    (hs : hp.Perm (.own e 1 ao n c xs :: F)) (h0 : ao = none ∨ ∃ b, ao = some ⟨b, 0, none⟩) (hb : n + s.size ≤ 1099511627776) (hd : Nat.ble (d + 1) N = true)
    (h : ∀ ao' c', ((ao' = none ∧ n + s.size = 0) ∨ ∃ b, ao' = some ⟨b, 0, none⟩) → (ao = none → s.size = 0 → ao' = none) → (ao' = none → c' = 0) → WO P N E ops rest ⟨(d, .slice ao' (n + s.size) c') :: fr, .own e 1 ao' (n + s.size) c' (xs ++ brows s) :: F, ro⟩ Kn) : WO P N E ops (⟨some d, .call ⟨.builtin .append, #[x, y], #[t, t']⟩, ty, pos, af, none⟩ :: rest) ⟨fr, hp, ro⟩ Kn :=
  wo_eff (L := [_]) hs hd fun a w ok => by
    have hS : OwnSat w e 1 ao n c xs := ok.s.get hs
    obtain ⟨ao', c', w', h1, h2, h3, h4, h5, h6⟩ := run_append_str (P := P) (t := t) (u := t') (ty := ty) hS h0 s hb
    refine ⟨_, [.own e 1 ao' (n + s.size) c' (xs ++ brows s)], w', ?_, Sat.regrow h3 h2 h4, by simpa [putF] using h ao' c' h5 h6 h2.nil⟩
    simp only [execOp, resolve, List.map_toArray, List.map_cons, List.map_nil, ok.h.eval hx, ok.h.eval hy]
    simp only [Sem.run_bind, Sem.run_pure, Result.andThen_ok, invoke, builtin, h1]
theorem pv_neq_pp {e : TypeId} [h : TPtr P t e] [h2 : TAgg P e 2] {b o : Nat} (hx : opd fr x = some (.pointer (some ⟨b, o, none⟩))) (hy : opd fr y = some (.pointer (some ⟨b, o, none⟩))) : Pv P ⟨fr, hp, ro⟩ (.binOp .neq t x y t') (.bool false) := fun N E ac w dst ty pos af g ok => by
  have h1 : (Op.equal t (.pointer (some ⟨b, o, none⟩)) (.pointer (some ⟨b, o, none⟩))).run P w = .ok true w := by
    show Sem.run P (Op.equalIn (9999 + 1) t _ _) w = _
    rw [Op.equalIn]
    simp only [Sem.run_bind, run_underlying h.h, Result.andThen_ok]
    simp [run_sizeOf_agg (P := P) (T := e) (n := 2), sameAddr, go_sem]
  simp only [execOp, ok.h.eval hx, ok.h.eval hy]
  simp [eqGuard, binOp, h1, go_sem]
class TUns (P : Program) (T : TypeId) : Prop where h : P.underlying T = some .unsafePointer
theorem pv_tou {e b o : Nat} {l : List Value} {tt : TypeId} {fz : Nat × Nat} [h1 : TPtr P t e] [h2 : TUns P t'] [h3 : TAgg P e 2] (hx : opd fr x = some (.pointer (some ⟨b, o, none⟩))) (hs : hp.Perm (.ob b (.cells l.toArray tt fz) :: F)) (ho : Nat.ble (o + 1) l.length = true) :
    Pv P ⟨fr, hp, ro⟩ (.convert t t' x) (.pointer (some ⟨b, o, none⟩)) := fun N E ac w dst ty pos af g ok => by
  obtain ⟨d, i, h4, h5, h6, _⟩ := agg_und h3.h
  have hc : w.heap[b]? = some (.cells l.toArray tt fz) := ok.s.get hs
  have := Lib.run_to_unsafe (P := P) (w := w) (e := tt) (cells := l.length) ⟨b, o, none⟩ h1.h h2.h h5 (by omega) (by simp [World.shape?, hc]) (Nat.le_of_ble_eq_true ho)
  simp only [execOp, ok.h.eval hx, Sem.run_bind, this, Result.andThen_ok]; rfl
theorem pv_fromu {e b o : Nat} {l : List Value} {tt : TypeId} {fz : Nat × Nat} [h1 : TUns P t] [h2 : TPtr P t' e] [h3 : TAgg P e 2] (hx : opd fr x = some (.pointer (some ⟨b, o, none⟩))) (hs : hp.Perm (.ob b (.cells l.toArray tt fz) :: F)) (ho : liesAt P P.depth tt (l.length / P.cellsOf tt) o e 1 = true) :
    Pv P ⟨fr, hp, ro⟩ (.convert t t' x) (.pointer (some ⟨b, o, none⟩)) := fun N E ac w dst ty pos af g ok => by
  obtain ⟨d, i, h4, h5, h6, _⟩ := agg_und h3.h
  have hc : w.heap[b]? = some (.cells l.toArray tt fz) := ok.s.get hs
  have := Lib.run_from_unsafe (P := P) (w := w) (e := tt) (cells := l.length) ⟨b, o, none⟩ h1.h h2.h h5 (by simp [World.shape?, hc]) ho
  simp only [execOp, ok.h.eval hx, Sem.run_bind, this, Result.andThen_ok]; rfl
theorem pv_ext {f : FuncId} {fn : Func} {e : Array Value → Sem Value} {ats : Array TypeId} (hf : P.funcs[f]? = some fn) (hname : (fn.name == "runtime.NumGoroutine") = false) (hb : fn.body.isNone = true) (hn : Extern.findNext fn = none) (he : Extern.find fn = some e)
    (hx : opd fr x = some v) (hv : ∀ w, (e #[v]).run P w = .ok v w) : Pv P ⟨fr, hp, ro⟩ (.call ⟨.value (.func f), #[x], ats⟩) v := fun N E ac w dst ty pos af g ok => by
  have h1 := run_callFunc_extern (P := P) hf hname hb hn he #[v] w
  rw [hv w] at h1
  simp only [execOp, resolve, List.map_toArray, List.map_cons, List.map_nil, ok.h.eval hx]
  simp [Deferred.ofValue, Act.eval, invoke, h1, go_sem]
theorem pv_sld {b o n c : Nat} {ats : Array TypeId} (hx : opd fr x = some (.slice (some ⟨b, o, none⟩) n c)) (hc : 0 < c) : Pv P ⟨fr, hp, ro⟩ (.call ⟨.builtin .unsafeSliceData, #[x], ats⟩) (.pointer (some ⟨b, o, none⟩)) := fun N E ac w dst ty pos af g ok => by
  have := Lib.run_unsafeSliceData_row (P := P) w ats ty ⟨b, o, none⟩ n c (by omega)
  simp only [execOp, resolve, List.map_toArray, List.map_cons, List.map_nil, ok.h.eval hx]
  simp [invoke, builtin, this, go_sem]
theorem pv_sld0 {ats : Array TypeId} (hx : opd fr x = some (.slice none 0 0)) : Pv P ⟨fr, hp, ro⟩ (.call ⟨.builtin .unsafeSliceData, #[x], ats⟩) (.pointer none) := fun N E ac w dst ty pos af g ok => by
  have := Lib.run_unsafeSliceData_nil (P := P) w ats ty 0 0
  simp only [execOp, resolve, List.map_toArray, List.map_cons, List.map_nil, ok.h.eval hx]
  simp [invoke, builtin, this, go_sem]
theorem pv_ustr0 {t1 t2 : TypeId} (hx : opd fr x = some (.pointer none)) (hy : opd fr y = some (.int .i64 0)) : Pv P ⟨fr, hp, ro⟩ (.call ⟨.builtin .unsafeString, #[x, y], #[t1, t2]⟩) (.string .empty) := fun N E ac w dst ty pos af g ok => by
  have := Lib.run_unsafeString_none (P := P) w t1 t2 ty none
  simp only [execOp, resolve, List.map_toArray, List.map_cons, List.map_nil, ok.h.eval hx, ok.h.eval hy]
  simp [invoke, builtin, this, go_sem]
/-- the bytes of a buffer, as a string; the buffer is nobody's any more -/
theorem wo_ustr {d e b c : Nat} {s : ByteArray} {t1 t2 : TypeId} [h1 : TPtr P t1 e] [h2 : TInt P e .u8] (hc : P.cellsOf e = 1) (hx : opd fr x = some (.pointer (some ⟨b, 0, none⟩))) (hy : opd fr y = some (.int .i64 s.size)) (hs : hp.Perm (.own e 1 (some ⟨b, 0, none⟩) s.size c (brows s) :: F)) (h0 : 0 < s.size) (hd : Nat.ble (d + 1) N = true)
    (h : WO P N E ops rest ⟨(d, .string s) :: fr, F, ro⟩ Kn) : WO P N E ops (⟨some d, .call ⟨.builtin .unsafeString, #[x, y], #[t1, t2]⟩, ty, pos, af, none⟩ :: rest) ⟨fr, hp, ro⟩ Kn :=
  wo_eff (L := [_]) hs hd fun a w ok => by
    have hO : OwnSat w e 1 (some ⟨b, 0, none⟩) s.size c (brows s) := ok.s.get hs
    obtain ⟨_, cur, hcur, hfit, hseg⟩ := hO.at_ _ rfl
    simp only at hcur hfit hseg
    have hle := hO.le
    have hm := hO.max
    have hl : s.data.toList.length = s.size := by first | (simp; done) | (simp; rfl)
    have hr := Lib.run_unsafeString_row (P := P) w t1 t2 ty e h1.h hc b cur.size (by simp [World.shape?, hcur]) s.data.toList (by intro e0; rw [e0] at hl; simp at hl; omega) (by rw [hl]; omega) (by rw [hl]; unfold maxLen at hm; omega)
      (fun j v hj => by
        rw [Addr.add_lit]
        simp only [World.cell?, hcur]
        refine hseg j _ ?_
        rw [brows_flat]
        simp [Lib.strCells] at hj ⊢
        exact ⟨v, hj, rfl⟩)
    rw [hl] at hr
    refine ⟨.string s, [], w.freeze ⟨b, 0, none⟩ s.size, ?_, ?_, by simpa [putF] using h⟩
    · simp only [execOp, resolve, List.map_toArray, List.map_cons, List.map_nil, ok.h.eval hx, ok.h.eval hy]
      simp [invoke, builtin, hr, go_sem]
    · have hfz := Lib.below_freeze (B := 0) (Below.refl 0 w) (p := ⟨b, 0, none⟩) (Nat.zero_le _) s.size
      refine ⟨⟨?_, ?_, ?_, ?_, fun k hk hn => ?_⟩, (by intro x hx; cases hx), (by intro x hx; cases hx), .nil, (by intro r hr; cases hr), (by intro r hr; cases hr), (by intro r hr; cases hr)⟩
      · unfold World.freeze; split <;> rfl
      · unfold World.freeze; split <;> rfl
      · unfold World.freeze; split <;> rfl
      · unfold World.freeze; split <;> simp
      · have hne : b ≠ k := fun e0 => hn (by simp [feet, It.foot, e0])
        unfold World.freeze
        split
        · rfl
        · simp [Array.getElem?_modify, hne]
theorem pv_cs_lo {s : ByteArray} {z : Int} {lo : Operand} [hT : TStr P T] (hx : opd fr x = some (.string s)) (hl : opd fr lo = some (.int k z)) (h : 0 ≤ z ∧ z ≤ s.size) : Pv P ⟨fr, hp, ro⟩ (.slice T x (some lo) none none) (.string (s.extract z.toNat s.size)) :=
  pv_cut_s hx (.lo hl (by omega) (by omega))
theorem pv_cs_hi {s : ByteArray} {z : Int} {hi : Operand} [hT : TStr P T] (hx : opd fr x = some (.string s)) (hl : opd fr hi = some (.int k z)) (h : 0 ≤ z ∧ z ≤ s.size) : Pv P ⟨fr, hp, ro⟩ (.slice T x none (some hi) none) (.string (s.extract 0 z.toNat)) :=
  pv_cut_s hx (.hi hl (by omega) (by omega))
end
end Go.Proofs.Ytlhlidmhlhodiaa

/-
  Sparse frames: structures compared, slices that are only read (cut, appended, appended to), items that are only read from now on. No program in sight.
-/
namespace Go.Proofs.Ytlhlidmhlhodiaa
set_option linter.unusedSimpArgs false
set_option linter.unusedVariables false
open Go.RowKit

/-! ## structures of plain fields compared -/
inductive Kd where
  | i (k : IntKind)
  | b
  | s
def kdOf : TypeDesc → Option Kd
  | .int k => some (.i k)
  | .bool => some .b
  | .string => some .s
  | _ => none
def chkF (P : Program) : Nat → List Field → Option (List Kd)
  | _, [] => some []
  | n, f :: fs => match P.underlying f.type, P.info? f.type with
    | some d, some i => match kdOf d, chkF P (n + 1) fs with
      | some k, some ks => if f.name ≠ "_" ∧ f.offset = n ∧ i.size = 1 then some (k :: ks) else none
      | _, _ => none
    | _, _ => none
def eqB (P : Program) (T : TypeId) : Option (List Kd) := match P.underlying T with
  | some (.struct fs) => if P.stoodInHeld T = false ∧ P.eqGuardType P.depth T = false then chkF P 0 fs.toList else none
  | _ => none
class TEq (P : Program) (T : TypeId) (ks : outParam (List Kd)) : Prop where h : eqB P T = some ks
def fits : List Kd → List Value → Bool
  | [], [] => true
  | .i k :: ks, .int k' _ :: l => decide (k = k') && fits ks l
  | .b :: ks, .bool _ :: l => fits ks l
  | .s :: ks, .string _ :: l => fits ks l
  | _, _ => false
def eqRow : List Value → List Value → Bool
  | .int _ a :: l, .int _ b :: m => decide (a = b) && eqRow l m
  | .bool a :: l, .bool b :: m => decide (a = b) && eqRow l m
  | .string a :: l, .string b :: m => decide (a = b) && eqRow l m
  | [], [] => true
  | _, _ => false
theorem eqRow_refl : ∀ (ks : List Kd) (l : List Value), fits ks l = true → eqRow l l = true
  | [], [], _ => rfl
  | [], v :: _, h => by cases v <;> simp [fits] at h
  | .i k :: ks, v :: l, h => by
    cases v <;> simp only [fits, Bool.false_eq_true] at h
    simp only [Bool.and_eq_true] at h
    simp [eqRow, eqRow_refl ks l h.2]
  | .b :: ks, v :: l, h => by
    cases v <;> simp only [fits, Bool.false_eq_true] at h
    simp [eqRow, eqRow_refl ks l h]
  | .s :: ks, v :: l, h => by
    cases v <;> simp only [fits, Bool.false_eq_true] at h
    simp [eqRow, eqRow_refl ks l h]
  | .i _ :: _, [], h => by simp [fits] at h
  | .b :: _, [], h => by simp [fits] at h
  | .s :: _, [], h => by simp [fits] at h
def EqRow (l m : List Value) : Prop := eqRow l m = true
instance (l m : List Value) : Decidable (EqRow l m) := inferInstanceAs (Decidable (eqRow l m = true))
theorem eqRow_dec (l m : List Value) : eqRow l m = decide (EqRow l m) := by
  rw [Bool.eq_iff_iff, decide_eq_true_eq]; rfl

theorem run_part1 {P : Program} {w : World} {t : TypeId} {cs : Array Value} {n : Nat} {v : Value} {d : TypeDesc} {i : TypeInfo} {k : Kd} (hu : P.underlying t = some d) (hi : P.info? t = some i) (hk : kdOf d = some k) (h1 : i.size = 1) (h : cs[n]? = some v) : (part t cs n).run P w = .ok v w := by
  have : TOne P t := ⟨by unfold oneB; rw [hu, hi]; cases d <;> simp [kdOf] at hk <;> simp [plainD, h1]⟩
  unfold part
  simp only [Sem.run_bind, run_isAgg_one, Result.andThen_ok, Bool.false_eq_true, if_false]
  rw [h]; rfl
theorem run_eqFields_row {P : Program} {w : World} {d : Nat} {r1 r2 : Array Value} : ∀ (fs : List Field) (n : Nat) (ks : List Kd) (l m : List Value), chkF P n fs = some ks → r1.toList.drop n = l → r2.toList.drop n = m → fits ks l = true → fits ks m = true →
    (Op.eqFields (d + 1) r1 r2 fs).run P w = .ok (eqRow l m) w
  | [], n, ks, l, m, hc, h1, h2, f1, f2 => by
    simp only [chkF, Option.some.injEq] at hc
    subst hc
    cases l with
    | cons v l => cases v <;> simp [fits] at f1
    | nil =>
      cases m with
      | cons v l => cases v <;> simp [fits] at f2
      | nil => simp [Op.eqFields, eqRow]
  | f :: fs, n, ks, l, m, hc, h1, h2, f1, f2 => by
    unfold chkF at hc
    split at hc
    · rename_i dd i hu hi
      split at hc
      · rename_i k ks' hk hks
        split at hc
        · rename_i hcond
          simp only [Option.some.injEq] at hc
          subst hc
          cases l with
          | nil => cases k <;> simp [fits] at f1
          | cons u l =>
            cases m with
            | nil => cases k <;> simp [fits] at f2
            | cons v m =>
              have g1 : r1[n]? = some u := by
                have := congrArg (fun z : List Value => z[0]?) h1
                simpa using this
              have g2 : r2[n]? = some v := by
                have := congrArg (fun z : List Value => z[0]?) h2
                simpa using this
              have d1 : r1.toList.drop (n + 1) = l := by rw [← List.drop_drop, h1]; rfl
              have d2 : r2.toList.drop (n + 1) = m := by rw [← List.drop_drop, h2]; rfl
              unfold Op.eqFields
              rw [if_pos hcond.1]
              simp only [Sem.run_bind, hcond.2.1, run_part1 hu hi hk hcond.2.2 g1, run_part1 hu hi hk hcond.2.2 g2, Result.andThen_ok]
              have key : ∀ b : Bool, (Op.equalIn (d + 1) f.type u v).run P w = .ok b w → eqRow (u :: l) (v :: m) = (b && eqRow l m) → (fits ks' l = true ∧ fits ks' m = true) → ((Op.equalIn (d + 1) f.type u v).run P w).andThen (fun r w' => (if (!r) = true then pure false else Op.eqFields (d + 1) r1 r2 fs : Sem Bool).run P w') = .ok (eqRow (u :: l) (v :: m)) w := by
                intro b hb he hf
                rw [hb, he, Result.andThen_ok]
                cases b with
                | false => simp
                | true =>
                  simp only [Bool.not_true, Bool.false_eq_true, if_false, Bool.true_and]
                  exact run_eqFields_row fs (n + 1) ks' l m hks d1 d2 hf.1 hf.2
              cases k with
              | i k =>
                have hdd : dd = .int k := by cases dd <;> simp [kdOf] at hk; rw [hk]
                subst hdd
                cases u <;> simp only [fits, Bool.false_eq_true] at f1
                cases v <;> simp only [fits, Bool.false_eq_true] at f2
                simp only [Bool.and_eq_true, decide_eq_true_eq] at f1 f2
                obtain ⟨rfl, f1⟩ := f1
                obtain ⟨rfl, f2⟩ := f2
                refine key _ (run_equalIn_int w d f.type _ _ _ _ hu) ?_ ⟨f1, f2⟩
                simp only [eqRow]
                congr 1
              | b =>
                have hdd : dd = .bool := by cases dd <;> simp [kdOf] at hk; rfl
                subst hdd
                cases u <;> simp only [fits, Bool.false_eq_true] at f1
                cases v <;> simp only [fits, Bool.false_eq_true] at f2
                refine key _ (run_equalIn_bool' w d f.type _ _ hu) ?_ ⟨f1, f2⟩
                simp only [eqRow]
                congr 1
              | s =>
                have hdd : dd = .string := by cases dd <;> simp [kdOf] at hk; rfl
                subst hdd
                cases u <;> simp only [fits, Bool.false_eq_true] at f1
                cases v <;> simp only [fits, Bool.false_eq_true] at f2
                refine key _ (run_equalIn_string w d f.type _ _ hu) ?_ ⟨f1, f2⟩
                simp only [eqRow, str_beq]
        · cases hc
      · cases hc
    · cases hc
section
variable {P : Program} {fr : List (Nat × Value)} {hp : List It} {ro : List Ro} {T t t' : TypeId} {x y c : Operand} {v u : Value} {F : List It}
theorem run_eq_row {w : World} {ks : List Kd} {r1 r2 : List Value} (h : TEq P t ks) (h1 : fits ks r1 = true) (h2 : fits ks r2 = true) : (Op.equalIn 10000 t (.agg r1.toArray) (.agg r2.toArray)).run P w = .ok (eqRow r1 r2) w ∧ P.eqGuardType P.depth t = false := by
  have h := h.h
  unfold eqB at h
  split at h
  · rename_i fs hu
    split at h
    · rename_i hg
      have hf : P.fieldsOf t = fs := by unfold Program.fieldsOf; rw [hu]
      rw [run_equalIn_struct w 9999 t _ _ (by rw [hf]; exact hu) hg.1, hf]
      exact ⟨run_eqFields_row fs.toList 0 ks r1 r2 h rfl rfl h1 h2, hg.2⟩
    · cases h
  · cases h
theorem pv_eql_a {ks : List Kd} {r1 r2 : List Value} (hx : opd fr x = some (.agg r1.toArray)) (hy : opd fr y = some (.agg r2.toArray)) (h : TEq P t ks) (h1 : fits ks r1 = true) (h2 : fits ks r2 = true) : Pv P ⟨fr, hp, ro⟩ (.binOp .eql t x y t') (.bool (decide (EqRow r1 r2))) := fun N E ac w dst ty pos af g ok => by
  obtain ⟨e1, e2⟩ := run_eq_row (w := w) h h1 h2
  simp only [execOp, ok.h.eval hx, ok.h.eval hy, Sem.run_bind, run_eqGuard_agg w .eql t x y _ _ e2, Result.andThen_ok, run_eql_struct, e1, Sem.run_pure, eqRow_dec]
theorem pv_neq_a {ks : List Kd} {r1 r2 : List Value} (hx : opd fr x = some (.agg r1.toArray)) (hy : opd fr y = some (.agg r2.toArray)) (h : TEq P t ks) (h1 : fits ks r1 = true) (h2 : fits ks r2 = true) : Pv P ⟨fr, hp, ro⟩ (.binOp .neq t x y t') (.bool (decide (¬ EqRow r1 r2))) := fun N E ac w dst ty pos af g ok => by
  obtain ⟨e1, e2⟩ := run_eq_row (w := w) h h1 h2
  simp only [execOp, ok.h.eval hx, ok.h.eval hy, Sem.run_bind, run_eqGuard_agg w .neq t x y _ _ e2, Result.andThen_ok, run_neq_struct, e1, Sem.run_pure, eqRow_dec, decide_not]
end

/-! ## slices that are only read -/
structure SR (R : List Ro) (sz : Nat) (ao : Option Addr) (n c : Nat) (xs : List (List Value)) : Prop where
  len : xs.length = n
  le : n ≤ c
  mx : c ≤ maxLen
  rows : RowsOk sz xs
  at_ : (ao = none ∧ c = 0) ∨ ∃ b o, ao = some ⟨b, o, none⟩ ∧ (0 < n → ⟨b, o, sz, xs⟩ ∈ R)
theorem SR.mono {R R' : List Ro} {sz : Nat} {ao : Option Addr} {n c : Nat} {xs : List (List Value)} (h : SR R sz ao n c xs) (hR : ∀ r ∈ R, r ∈ R') : SR R' sz ao n c xs :=
  ⟨h.len, h.le, h.mx, h.rows, h.at_.imp id (fun ⟨b, o, e, m⟩ => ⟨b, o, e, fun h0 => hR _ (m h0)⟩)⟩
theorem SR.pos {R : List Ro} {sz : Nat} {ao : Option Addr} {n c : Nat} {xs : List (List Value)} (h : SR R sz ao n c xs) (h0 : 0 < n) : ∃ b o, ao = some ⟨b, o, none⟩ ∧ ⟨b, o, sz, xs⟩ ∈ R := by
  rcases h.at_ with ⟨_, h1⟩ | ⟨b, o, e, m⟩
  · have := h.le; omega
  · exact ⟨b, o, e, m h0⟩
theorem SR.nil (R : List Ro) (sz : Nat) : SR R sz none 0 0 [] := ⟨rfl, Nat.le_refl _, Nat.zero_le _, (fun r h => by cases h), .inl ⟨rfl, rfl⟩⟩
theorem SR.cut {R : List Ro} {sz b o n c l h m : Nat} {xs : List (List Value)} (hS : SR R sz (some ⟨b, o, none⟩) n c xs) (hlh : l ≤ h ∧ h ≤ n ∧ h ≤ m ∧ m ≤ c) :
    SR (⟨b, elt o l sz, sz, (xs.take h).drop l⟩ :: R) sz (if m = l then some ⟨b, o, none⟩ else (some (⟨b, o, none⟩ : Addr)).map (·.add (l * sz))) (h - l) (m - l) ((xs.take h).drop l) := by
  refine ⟨by simp [hS.len]; omega, by omega, Nat.le_trans (Nat.sub_le _ _) (Nat.le_trans hlh.2.2.2 hS.mx), fun r hr => hS.rows r (List.mem_of_mem_take (List.mem_of_mem_drop hr)), .inr ?_⟩
  by_cases c1 : m = l
  · exact ⟨b, o, by rw [if_pos c1], fun h0 => by omega⟩
  · exact ⟨b, elt o l sz, by rw [if_neg c1, Option.map_some, Addr.add_lit]; rfl, fun _ => .head _⟩
section
variable {P : Program} {N : Nat} {E : Env} {fr : List (Nat × Value)} {hp F : List It} {ro : List Ro} {T : TypeId} {x y : Operand} {ops : Array Oper} {rest : List Oper} {Kn Kr : St → Prop} {Kx : List (Nat × (St → Prop))} {ty : TypeId} {pos : String} {af : Array Edge}
/-- a cut's value; what is read behind it: wo_ro, wc_ro -/
theorem pv_cut {e sz by_ n c l h m : Nat} {ao : Option Addr} {lo hi mx : Option Operand} (hT : TSl P T e sz by_) (hx : opd fr x = some (.slice ao n c)) (hb : Bnds fr n c lo hi mx l h m) :
    Pv P ⟨fr, hp, ro⟩ (.slice T x lo hi mx) (.slice (if m = l then ao else ao.map (·.add (l * sz))) (h - l) (m - l)) := fun N E a w dst ty pos af g ok => exec_cut ok.h hx hb
theorem Sat.more {B : World} {S T : List Nat} {w : World} {b o sz l h : Nat} {xs : List (List Value)} (hs : Sat B S T hp ro w) (hr : ⟨b, o, sz, xs⟩ ∈ ro) : Sat B S T hp (⟨b, elt o l sz, sz, (xs.take h).drop l⟩ :: ro) w := by
  refine ⟨hs.frm, hs.sat, hs.own, hs.dis, fun r hr' => ?_, fun r hr' => ?_, fun r hr' => ?_⟩
  · rcases List.mem_cons.1 hr' with rfl | hr'
    · exact Ro.cut (hs.rds _ hr)
    · exact hs.rds r hr'
  · rcases List.mem_cons.1 hr' with rfl | hr'
    · exact hs.rod ⟨b, o, sz, xs⟩ hr
    · exact hs.rod r hr'
  · rcases List.mem_cons.1 hr' with rfl | hr'
    · exact hs.rok ⟨b, o, sz, xs⟩ hr
    · exact hs.rok r hr'
theorem wo_ro {b o sz : Nat} {xs : List (List Value)} (l h : Nat) (hr : ⟨b, o, sz, xs⟩ ∈ ro) (hk : WO P N E ops rest ⟨fr, hp, ⟨b, elt o l sz, sz, (xs.take h).drop l⟩ :: ro⟩ Kn) : WO P N E ops rest ⟨fr, hp, ro⟩ Kn := fun Q hQ a w ok => hk Q hQ a w ⟨ok.h, ok.s.more hr⟩
theorem wc_ro {c : Code} {b o sz : Nat} {xs : List (List Value)} (l h : Nat) (hr : ⟨b, o, sz, xs⟩ ∈ ro) (hk : WC P N E c ⟨fr, hp, ⟨b, elt o l sz, sz, (xs.take h).drop l⟩ :: ro⟩ Kn Kx Kr) : WC P N E c ⟨fr, hp, ro⟩ Kn Kx Kr := fun a w ok => hk a w ⟨ok.h, ok.s.more hr⟩
/-- an owned slice is only read from now on -/
theorem Sat.still {B : World} {S T : List Nat} {w : World} {e sz n c : Nat} {ao : Option Addr} {xs : List (List Value)} (hs : Sat B S T hp ro w) (hpm : hp.Perm (.own e sz ao n c xs :: F)) : ∃ R, (R = [] ∨ ∃ r, R = [r]) ∧ SR (R ++ ro) sz ao n c xs ∧ Sat B S T F (R ++ ro) w := by
  have h := hs.perm hpm
  have hO : OwnSat w e sz ao n c xs := h.sat _ (.head _)
  have hF : Sat B S T F ro w := ⟨h.frm, fun x hx => h.sat x (.tail _ hx), fun x hx => h.own x (.tail _ hx), (List.pairwise_cons.1 h.dis).2, h.rds, fun r hr x hx => h.rod r hr x (.tail _ hx), h.rok⟩
  cases ao with
  | none => exact ⟨[], .inl rfl, ⟨hO.len, hO.le, hO.max, hO.rows, .inl ⟨rfl, hO.nil rfl⟩⟩, hF⟩
  | some a =>
    obtain ⟨hsp, cur, hcur, hfit, hseg⟩ := hO.at_ a rfl
    obtain ⟨b, o, s⟩ := a
    simp only at hsp hcur hseg
    subst hsp
    refine ⟨[⟨b, o, sz, xs⟩], .inr ⟨_, rfl⟩, ⟨hO.len, hO.le, hO.max, hO.rows, .inr ⟨b, o, rfl, fun _ => .head _⟩⟩, ⟨hF.frm, hF.sat, hF.own, hF.dis, fun r hr => ?_, fun r hr x hx => ?_, fun r hr => ?_⟩⟩
    · rcases List.mem_cons.1 hr with rfl | hr
      · exact ⟨hO.rows, cur, e, (0, 0), hcur, hseg⟩
      · exact hF.rds r hr
    · rcases List.mem_cons.1 hr with rfl | hr
      · exact fun hx' => (List.pairwise_cons.1 h.dis).1 x hx b rfl hx'
      · exact hF.rod r hr x hx
    · rcases List.mem_cons.1 hr with rfl | hr
      · rcases h.own _ (.head _) b rfl with h1 | h1
        · exact .inl h1
        · exact .inr (.inr h1)
      · exact hF.rok r hr
theorem wo_still {e sz n c : Nat} {ao : Option Addr} {xs : List (List Value)} (hpm : hp.Perm (.own e sz ao n c xs :: F)) (hk : ∀ R, SR (R ++ ro) sz ao n c xs → WO P N E ops rest ⟨fr, F, R ++ ro⟩ Kn) : WO P N E ops rest ⟨fr, hp, ro⟩ Kn := fun Q hQ a w ok => by
  obtain ⟨R, _, h1, h2⟩ := ok.s.still hpm
  exact hk R h1 Q hQ a w ⟨ok.h, h2⟩
theorem wc_still {cd : Code} {e sz n c : Nat} {ao : Option Addr} {xs : List (List Value)} (hpm : hp.Perm (.own e sz ao n c xs :: F)) (hk : ∀ R, SR (R ++ ro) sz ao n c xs → WC P N E cd ⟨fr, F, R ++ ro⟩ Kn Kx Kr) : WC P N E cd ⟨fr, hp, ro⟩ Kn Kx Kr := fun a w ok => by
  obtain ⟨R, _, h1, h2⟩ := ok.s.still hpm
  exact hk R h1 a w ⟨ok.h, h2⟩
/-- append of a slice that is only read -/
theorem app_sr_run {w : World} {t e sz by_ n c m c2 : Nat} {ao ao2 : Option Addr} {xs ys : List (List Value)} [TSl P t e sz by_] (hS : OwnSat w e sz ao n c xs) (hr : SR ro sz ao2 m c2 ys) (hrd : ∀ r ∈ ro, r.sat w) (b1 : n + m ≤ maxLen) (b2 : (n + m) * by_ ≤ 140737488355328) :
    ∃ ao' c' w', (Builtin.append_ #[t, t] ty #[.slice ao n c, .slice ao2 m c2]).run P w = .ok (.slice ao' (n + m) c') w' ∧ OwnSat w' e sz ao' (n + m) c' (xs ++ ys) ∧ Frm (feet [It.own e sz ao n c xs]) w w' ∧
      (∀ b, (It.own e sz ao' (n + m) c' (xs ++ ys)).foot = some b → b ∈ feet [It.own e sz ao n c xs] ∨ w.heap.size ≤ b) := by
  rcases hr.at_ with ⟨rfl, h0⟩ | ⟨b, o, rfl, hm⟩
  · obtain ⟨i, z, h1, h2, h3, h4, h5, h6, h7⟩ := sl_und (TSl.h (P := P) (T := t))
    have hle := hr.le
    have hm0 : m = 0 := by omega
    subst hm0
    obtain rfl : ys = [] := List.eq_nil_of_length_eq_zero hr.len
    refine ⟨ao, c, w, ?_, by simpa using hS, Frm.refl _ _, fun b hb => .inl (mem_feet.2 ⟨_, .head _, by simpa using hb⟩)⟩
    have hn0 : n + 0 ≤ c := by have := hS.le; omega
    cases ao <;> simp [Builtin.append_, run_underlying h1, sizeOf, typeInfo, h2, Builtin.lenOf, hn0, Builtin.firstCells, storeCells, go_sem] <;> (have := hS.le; omega)
  · have hc : ∀ j u, ys.flatten[j]? = some u → w.cell? ((⟨b, o, none⟩ : Addr).add j) = some u := fun j u hj => by
      by_cases h0 : 0 < m
      · obtain ⟨hro, cur, tt, fz, hcur, hseg⟩ := hrd _ (hm h0)
        simp only at hcur hseg
        rw [Addr.add_lit]; simp only [World.cell?, hcur]; exact hseg j u hj
      · obtain rfl : ys = [] := List.eq_nil_of_length_eq_zero (by rw [hr.len]; omega)
        simp at hj
    obtain ⟨ao', c', w', h1, h2, h3, h4, h5⟩ := run_append_sl (P := P) (t := t) (ty := ty) (ad := ⟨b, o, none⟩) (c2 := c2) hS hr.rows hr.len hc b1 b2
    exact ⟨ao', c', w', h1, h2, h3, h4⟩
theorem wo_app_sr {d t e sz by_ n c m c2 : Nat} {ao ao2 : Option Addr} {xs ys : List (List Value)} [TSl P t e sz by_] (hx : opd fr x = some (.slice ao n c)) (hy : opd fr y = some (.slice ao2 m c2))
    (hs : hp.Perm (.own e sz ao n c xs :: F)) (hr : SR ro sz ao2 m c2 ys) (b1 : n + m ≤ maxLen) (b2 : (n + m) * by_ ≤ 140737488355328) (hd : Nat.ble (d + 1) N = true)
    (h : ∀ ao' c', WO P N E ops rest ⟨(d, .slice ao' (n + m) c') :: fr, .own e sz ao' (n + m) c' (xs ++ ys) :: F, ro⟩ Kn) : WO P N E ops (⟨some d, .call ⟨.builtin .append, #[x, y], #[t, t]⟩, ty, pos, af, none⟩ :: rest) ⟨fr, hp, ro⟩ Kn :=
  wo_eff (L := [_]) hs hd fun a w ok => by
    obtain ⟨ao', c', w', h1, h2, h3, h4⟩ := app_sr_run (P := P) (t := t) (ty := ty) (ok.s.get hs) hr ok.s.rds b1 b2
    exact ⟨_, [.own e sz ao' (n + m) c' (xs ++ ys)], w', exec_append (ok.h.eval hx) (ok.h.eval hy) h1, Sat.regrow h3 h2 h4, by simpa [putF] using h ao' c'⟩
/-- append to a slice that is only read and full: a block of its own -/
theorem app_full_run {w : World} {t e sz by_ n m c2 b2 o2 : Nat} {ao : Option Addr} {xs ys : List (List Value)} [TSl P t e sz by_] (hr : SR ro sz ao n n xs) (hrd : ∀ r ∈ ro, r.sat w) (hS : OwnSat w e sz (some ⟨b2, o2, none⟩) m c2 ys) (h0 : 0 < m) (hb1 : n + m ≤ maxLen) (hb2 : (n + m) * by_ ≤ 140737488355328) :
    ∃ ao' c' w', (Builtin.append_ #[t, t] ty #[.slice ao n n, .slice (some ⟨b2, o2, none⟩) m c2]).run P w = .ok (.slice ao' (n + m) c') w' ∧ (It.own e sz ao' (n + m) c' (xs ++ ys)).sat w' ∧ Frm [] w w' ∧ ∀ b, (It.own e sz ao' (n + m) c' (xs ++ ys)).foot = some b → w.heap.size ≤ b := by
  obtain ⟨_, cur2, hcur2, _, hseg2⟩ := hS.at_ _ rfl
  simp only at hcur2 hseg2
  have hny : ∀ j u, ys.flatten[j]? = some u → w.cell? ((⟨b2, o2, none⟩ : Addr).add j) = some u := fun j u hj => by
    rw [Addr.add_lit]; simp only [World.cell?, hcur2]; exact hseg2 j u hj
  obtain ⟨i, z, h1, h2, h3, h4, h5, h6, h7⟩ := sl_und (TSl.h (P := P) (T := t))
  have hxl : xs.flatten.length = n * sz := by rw [flat_len hr.rows.lens, hr.len]
  have hyl : ys.flatten.length = m * sz := by rw [flat_len hS.rows.lens, hS.len]
  have hone : ∀ u ∈ ys.flatten, u.oneCell' = true := fun u hu => by
    obtain ⟨r, hr, hu⟩ := List.mem_flatten.1 hu
    exact (hS.rows r hr).2 u hu
  have hrows : RowsOk sz (xs ++ ys) := fun r hr' => by
    rcases List.mem_append.1 hr' with hr' | hr'
    · exact hr.rows r hr'
    · exact hS.rows r hr'
  have hlen : (xs ++ ys).length = n + m := by simp [hr.len, hS.len]
  obtain ⟨v', w', hrun, hO, hg⟩ : ∃ v' w', (Builtin.append_ #[t, t] ty #[.slice ao n n, .slice (some ⟨b2, o2, none⟩) m c2]).run P w = .ok v' w' ∧ w'.ownsRow w.heap.size e sz v' (n + m) (xs.flatten ++ ys.flatten) ∧ w.grownBy w' none := by
    rcases hr.at_ with ⟨rfl, hn0⟩ | ⟨b, o, rfl, hm⟩
    · subst hn0
      obtain rfl : xs = [] := List.eq_nil_of_length_eq_zero hr.len
      obtain ⟨v', w', hr, ho, hg, _⟩ := run_append_own (P := P) w w.heap.size t ty e i z sz by_ h1 h2 h3 h5 h6 h4 h7 (.slice none 0 0) 0 [] (World.ownsRow_nil w _ e sz) ⟨b2, o2, none⟩ m c2 ys.flatten hyl hny hone hb1 hb2 (Nat.le_refl _)
      exact ⟨v', w', hr, by simpa using ho, hg⟩
    · exact run_append_arg_grows (P := P) w t ty e i z sz by_ h1 h2 h3 h5 h6 h4 h7 ⟨b, o, none⟩ n n xs.flatten hxl (fun j u hj => by
        have hn : 0 < n := by
          rcases Nat.eq_zero_or_pos n with h' | h'
          · obtain rfl : xs = [] := List.eq_nil_of_length_eq_zero (by rw [hr.len]; omega)
            simp at hj
          · exact h'
        obtain ⟨_, cur, tt, fz, hcur, hseg⟩ := hrd _ (hm hn)
        simp only at hcur hseg
        rw [Addr.add_lit]; simp only [World.cell?, hcur]; exact hseg j u hj) ⟨b2, o2, none⟩ m c2 ys.flatten hyl hny (by omega) hb1 hb2
  rw [← List.flatten_append] at hO
  obtain ⟨ao', c', rfl, hO2, hB⟩ := own_of_row hrows hlen hO
  refine ⟨ao', c', w', hrun, hO2, ⟨hg.os, hg.tape, hg.output, hg.size, fun k hk _ => hg.block k hk (by simp)⟩, fun b hb => ?_⟩
  cases ao' with
  | none => cases hb
  | some a =>
    simp only [It.foot, Option.map_some, Option.some.injEq] at hb
    subst hb
    exact (hB a rfl).1
theorem wo_app_full {d t e sz by_ n m c2 b2 o2 : Nat} {ao : Option Addr} {xs ys : List (List Value)} [TSl P t e sz by_] (hx : opd fr x = some (.slice ao n n)) (hy : opd fr y = some (.slice (some ⟨b2, o2, none⟩) m c2))
    (hr : SR ro sz ao n n xs) (hs : hp.Perm (.own e sz (some ⟨b2, o2, none⟩) m c2 ys :: F)) (h0 : 0 < m) (hb1 : n + m ≤ maxLen) (hb2 : (n + m) * by_ ≤ 140737488355328) (hd : Nat.ble (d + 1) N = true)
    (h : ∀ ao' c', WO P N E ops rest ⟨(d, .slice ao' (n + m) c') :: fr, .own e sz ao' (n + m) c' (xs ++ ys) :: hp, ro⟩ Kn) : WO P N E ops (⟨some d, .call ⟨.builtin .append, #[x, y], #[t, t]⟩, ty, pos, af, none⟩ :: rest) ⟨fr, hp, ro⟩ Kn :=
  wo_eff (L := []) (.refl _) hd fun a w ok => by
    obtain ⟨ao', c', w', h1, h2, h3, h4⟩ := app_full_run (P := P) (t := t) (ty := ty) hr ok.s.rds (ok.s.get hs) h0 hb1 hb2
    exact ⟨_, [.own e sz ao' (n + m) c' (xs ++ ys)], w', exec_append (ok.h.eval hx) (ok.h.eval hy) h1, Sat.one h3 h2 (fun b hb => .inr (h4 b hb)), by simpa [putF] using h ao' c'⟩
end
end Go.Proofs.Ytlhlidmhlhodiaa

/-
  Sparse frames: maps with whole-number keys, known whole. No program in sight.
-/
namespace Go.Proofs.Ytlhlidmhlhodiaa
set_option linter.unusedSimpArgs false
set_option linter.unusedVariables false
open Go.RowKit

def mEnt (k : IntKind) : Nat → List (Int × Value) → List MapEntry
  | _, [] => []
  | n, (a, v) :: l => ⟨.int k a, v, n⟩ :: mEnt k (n + 1) l
abbrev mob (k : IntKind) (l : List (Int × Value)) : Obj := .map (mEnt k 0 l).toArray l.length
def alook : List (Int × Value) → Int → Option Value
  | [], _ => none
  | (a, v) :: l, x => if x = a then some v else alook l x
def aidx : List (Int × Value) → Int → Nat
  | [], _ => 0
  | (a, _) :: l, x => if x = a then 0 else aidx l x + 1
def aset : List (Int × Value) → Int → Value → List (Int × Value)
  | [], x, v => [(x, v)]
  | (a, u) :: l, x, v => if x = a then (a, v) :: l else (a, u) :: aset l x v
theorem mEnt_len (k : IntKind) : ∀ (l : List (Int × Value)) (n : Nat), (mEnt k n l).length = l.length
  | [], _ => rfl
  | _ :: l, n => by simp [mEnt, mEnt_len k l]
theorem alook_set (l : List (Int × Value)) (x : Int) (v : Value) (y : Int) : alook (aset l x v) y = if y = x then some v else alook l y := by
  induction l with
  | nil => simp [aset, alook]
  | cons p l ih =>
    obtain ⟨a, u⟩ := p
    unfold aset
    by_cases h : x = a
    · subst h; simp only [if_true, alook]
      by_cases h2 : y = x <;> simp [h2]
    · simp only [if_neg h, alook, ih]
      by_cases h2 : y = a
      · subst h2; simp [Ne.symm h]
      · simp [h2]
theorem aidx_lt {l : List (Int × Value)} {x : Int} {v : Value} (h : alook l x = some v) : aidx l x < l.length := by
  induction l with
  | nil => cases h
  | cons p l ih =>
    obtain ⟨a, u⟩ := p
    unfold alook at h
    unfold aidx
    by_cases h2 : x = a
    · simp [h2]
    · rw [if_neg h2] at h ⊢
      have := ih h
      simp; omega
theorem aidx_le (l : List (Int × Value)) (x : Int) : aidx l x ≤ l.length := by
  induction l with
  | nil => simp [aidx]
  | cons p l ih =>
    obtain ⟨a, u⟩ := p
    unfold aidx
    by_cases h2 : x = a
    · simp [h2]
    · rw [if_neg h2]; simp; omega
theorem aidx_none {l : List (Int × Value)} {x : Int} (h : alook l x = none) : aidx l x = l.length := by
  induction l with
  | nil => rfl
  | cons p l ih =>
    obtain ⟨a, u⟩ := p
    unfold alook at h
    unfold aidx
    by_cases h2 : x = a
    · rw [if_pos h2] at h; cases h
    · rw [if_neg h2] at h ⊢
      rw [ih h]; simp
theorem aset_none {l : List (Int × Value)} {x : Int} (v : Value) (h : alook l x = none) : aset l x v = l ++ [(x, v)] := by
  induction l with
  | nil => rfl
  | cons p l ih =>
    obtain ⟨a, u⟩ := p
    unfold alook at h
    unfold aset
    by_cases h2 : x = a
    · rw [if_pos h2] at h; cases h
    · rw [if_neg h2] at h ⊢
      rw [ih h]; rfl
theorem aset_same {l : List (Int × Value)} {x : Int} {v : Value} (h : alook l x = some v) : aset l x v = l := by
  induction l with
  | nil => cases h
  | cons p l ih =>
    obtain ⟨a, u⟩ := p
    unfold alook at h
    unfold aset
    by_cases h2 : x = a
    · rw [if_pos h2] at h ⊢; cases h; rfl
    · rw [if_neg h2] at h ⊢
      rw [ih h]
theorem aset_len_some {l : List (Int × Value)} {x : Int} {u : Value} (v : Value) (h : alook l x = some u) : (aset l x v).length = l.length := by
  induction l with
  | nil => cases h
  | cons p l ih =>
    obtain ⟨a, u⟩ := p
    unfold alook at h
    unfold aset
    by_cases h2 : x = a
    · rw [if_pos h2]; rfl
    · rw [if_neg h2] at h ⊢
      simp [ih h]
theorem aset_len_none {l : List (Int × Value)} {x : Int} (v : Value) (h : alook l x = none) : (aset l x v).length = l.length + 1 := by
  rw [aset_none v h]; simp
theorem aset_len_le (l : List (Int × Value)) (x : Int) (v : Value) : (aset l x v).length ≤ l.length + 1 := by
  cases h : alook l x with
  | none => rw [aset_len_none v h]; omega
  | some u => rw [aset_len_some v h]; omega
theorem aset_aset (l : List (Int × Value)) (x : Int) (u v : Value) : aset (aset l x u) x v = aset l x v := by
  induction l with
  | nil => simp [aset]
  | cons p l ih =>
    obtain ⟨a, z⟩ := p
    by_cases h2 : x = a
    · subst h2; simp [aset]
    · simp [aset, h2, ih]
theorem aidx_set (l : List (Int × Value)) (x : Int) (v : Value) : aidx (aset l x v) x = aidx l x := by
  induction l with
  | nil => simp [aset, aidx]
  | cons p l ih =>
    obtain ⟨a, z⟩ := p
    by_cases h2 : x = a
    · subst h2; simp [aset, aidx]
    · simp [aset, aidx, h2, ih]
theorem findNow_m (k : IntKind) (x : Int) : ∀ (l : List (Int × Value)) (n i : Nat), Instr.findNow (.int k) (.int k x) (mEnt k n l) i = some ((alook l x).map fun v => (i + aidx l x, v))
  | [], _, _ => rfl
  | (a, v) :: l, n, i => by
    have e : Instr.sameNow (.int k) (.int k x) (.int k a) = some (x == a) := by simp [Instr.sameNow]
    unfold mEnt Instr.findNow
    rw [e]
    by_cases h : x = a
    · subst h; simp [alook, aidx]
    · have hb : (x == a) = false := by simpa using h
      rw [hb]
      simp only [findNow_m k x l (n + 1) (i + 1), alook, aidx, if_neg h]
      cases alook l x <;> simp; omega
theorem mEnt_modify (k : IntKind) (x : Int) (v : Value) : ∀ (l : List (Int × Value)) (n : Nat) {u : Value}, alook l x = some u → (mEnt k n l).modify (aidx l x) (fun e => { e with key := .int k x, val := v }) = mEnt k n (aset l x v)
  | [], _, _, h => by cases h
  | (a, z) :: l, n, u, h => by
    unfold alook at h
    by_cases h2 : x = a
    · subst h2; simp [aset, aidx, mEnt]
    · rw [if_neg h2] at h
      simp only [aset, aidx, if_neg h2, mEnt, List.modify_succ_cons, mEnt_modify k x v l (n + 1) h]
theorem mEnt_modify' (k : IntKind) (x : Int) : ∀ (l : List (Int × Value)) (n : Nat) {u : Value}, alook l x = some u → (mEnt k n l).modify (aidx l x) (fun e => { e with key := .int k x }) = mEnt k n l
  | [], _, _, h => by cases h
  | (a, z) :: l, n, u, h => by
    unfold alook at h
    by_cases h2 : x = a
    · subst h2; simp [aidx, mEnt]
    · rw [if_neg h2] at h
      simp only [aidx, if_neg h2, mEnt, List.modify_succ_cons, mEnt_modify' k x l (n + 1) h]
theorem mEnt_modv (k : IntKind) (x : Int) (v : Value) : ∀ (l : List (Int × Value)) (n : Nat) {u : Value}, alook l x = some u → (mEnt k n l).modify (aidx l x) (fun e => { e with val := v }) = mEnt k n (aset l x v)
  | [], _, _, h => by cases h
  | (a, z) :: l, n, u, h => by
    unfold alook at h
    by_cases h2 : x = a
    · subst h2; simp [aset, aidx, mEnt]
    · rw [if_neg h2] at h
      simp only [aset, aidx, if_neg h2, mEnt, List.modify_succ_cons, mEnt_modv k x v l (n + 1) h]
theorem mEnt_at (k : IntKind) (x : Int) : ∀ (l : List (Int × Value)) (n : Nat) {u : Value}, alook l x = some u → (mEnt k n l)[aidx l x]? = some ⟨.int k x, u, n + aidx l x⟩
  | [], _, _, h => by cases h
  | (a, z) :: l, n, u, h => by
    unfold alook at h
    by_cases h2 : x = a
    · subst h2
      rw [if_pos rfl] at h; cases h
      simp [aidx, mEnt]
    · rw [if_neg h2] at h
      simp only [aidx, if_neg h2, mEnt, List.getElem?_cons_succ, mEnt_at k x l (n + 1) h]
      simp; omega
theorem mEnt_push (k : IntKind) (x : Int) (v : Value) : ∀ (l : List (Int × Value)) (n : Nat), mEnt k n l ++ [⟨.int k x, v, n + l.length⟩] = mEnt k n (l ++ [(x, v)])
  | [], _ => rfl
  | (a, z) :: l, n => by
    have := mEnt_push k x v l (n + 1)
    simp only [mEnt, List.cons_append, List.length_cons, List.cons.injEq, true_and]
    rw [← this]
    have e : n + (l.length + 1) = n + 1 + l.length := by omega
    rw [e]
theorem mEnt_find (k : IntKind) : ∀ (l : List (Int × Value)) (n j : Nat), j < l.length → (mEnt k n l).findIdx? (fun e => (e.born : Int) == ((n + j : Nat) : Int)) = some j
  | [], _, _, h => by simp at h
  | (a, z) :: l, n, 0, h => by simp [mEnt, List.findIdx?_cons]
  | (a, z) :: l, n, j + 1, h => by
    have h' := mEnt_find k l (n + 1) j (by simpa using h)
    have e : n + 1 + j = n + (j + 1) := by omega
    rw [e] at h'
    unfold mEnt
    rw [List.findIdx?_cons]
    have hb : (((n : Nat) : Int) == ((n + (j + 1) : Nat) : Int)) = false := by simp; omega
    simp only [hb]
    rw [h']; rfl
/-! contracts of the older kind turned into these -/
section
variable {P : Program} {f : FuncId} {args : Array Value} {g : Nat} {T : TypeId} {cs : Array Value}
theorem sat_none {w w' : World} (h : Below w.heap.size w w') : Sat w (feet []) (blks []) [] [] w' :=
  ⟨⟨h.os, h.tape, h.output, h.size, fun k hk _ => h.block k hk⟩, (by intro x hx; cases hx), (by intro x hx; cases hx), .nil, (by intro r hr; cases hr), (by intro r hr; cases hr), (by intro r hr; cases hr)⟩
theorem fn_pure {v : Value} (h : ∀ w, Calls P f args w fun e w' => e = .returned v ∧ Below w.heap.size w w') : Fn P f args [] [] (fun u L' R' => u = v ∧ L' = [] ∧ R' = []) :=
  fun w _ => (h w).mono fun _ _ ⟨h1, h2⟩ => ⟨v, [], [], h1, ⟨rfl, rfl, rfl⟩, sat_none h2⟩
theorem fn_blk {Q : Value → Array Value → Prop} (h : ∀ w, Blk w g T cs → Calls P f args w fun e w' => ∃ v cs', e = .returned v ∧ Q v cs' ∧ Blk w' g T cs' ∧ w.grownBy w' (some g)) :
    Fn P f args [.ob g (.cells cs T (0, 0))] [] (fun u L' R' => ∃ cs', Q u cs' ∧ L' = [.ob g (.cells cs' T (0, 0))] ∧ R' = []) :=
  fun w hw => (h w (hw.sat _ (.head _))).mono fun _ _ ⟨v, cs', h1, h2, h3, h4⟩ => ⟨v, _, [], h1, ⟨cs', h2, rfl, rfl⟩, Sat.relay (by simpa using Frm.grown h4) h3⟩
theorem fn_read {v : Value} (h : ∀ w, Blk w g T cs → Calls P f args w fun e w' => e = .returned v ∧ w = w') :
    Fn P f args [.ob g (.cells cs T (0, 0))] [] (fun u L' R' => u = v ∧ L' = [.ob g (.cells cs T (0, 0))] ∧ R' = []) :=
  fun w hw => (h w (hw.sat _ (.head _))).mono fun _ _ ⟨h1, h2⟩ => ⟨v, _, [], h1, ⟨rfl, rfl, rfl⟩, by subst h2; exact hw⟩
theorem fn_new {Q : Array Value → Prop} (h : ∀ w, Calls P f args w fun e w' => ∃ g cs, e = .returned (.pointer (some ⟨g, 0, none⟩)) ∧ Q cs ∧ Blk w' g T cs ∧ w.heap.size ≤ g ∧ Below w.heap.size w w') :
    Fn P f args [] [] (fun u L' R' => ∃ g cs, u = .pointer (some ⟨g, 0, none⟩) ∧ Q cs ∧ L' = [.ob g (.cells cs T (0, 0))] ∧ R' = []) :=
  fun w _ => (h w).mono fun _ w' ⟨g, cs, h1, h2, h3, h4, h5⟩ => ⟨_, _, [], h1, ⟨g, cs, rfl, h2, rfl, rfl⟩, Sat.one (L := []) ⟨h5.os, h5.tape, h5.output, h5.size, fun k hk _ => h5.block k hk⟩ h3 (fun b hb => by
    simp only [It.foot, Option.some.injEq] at hb; subst hb; exact .inr h4)⟩
end
section
variable {P : Program} {N : Nat} {E : Env} {fr : List (Nat × Value)} {hp : List It} {ro : List Ro} {Kn Kr : St → Prop} {ops : Array Oper} {rest : List Oper} {dst : Option Tmp} {ty t : TypeId} {pos : String} {af : Array Edge} {F : List It} {x y z : Operand} {k : IntKind} {b : Nat} {l : List (Int × Value)} {a : Int} {v : Value} {kt e : TypeId}
theorem pv_mlook {zv : Value} [ht : TMap P t kt e] [hk : TInt P kt k] [hz : TZV P e zv] (hx : opd fr x = some (.map (some b))) (hy : opd fr y = some (.int k a)) (hs : hp.Perm (.ob b (mob k l) :: F)) :
    Pv P ⟨fr, hp, ro⟩ (.lookup t x y true) (.tuple #[(alook l a).getD zv, .bool (alook l a).isSome]) := fun N E ac w dst ty pos af g ok => by
  have hb : w.heap[b]? = some (mob k l) := ok.s.get hs
  simp only [execOp, ok.h.eval hx, ok.h.eval hy]
  have h1 := findNow_m k a l 0 0
  have hf := MapKept.run_findKey (P := P) (w := w) hk.h h1
  have hc : ∀ em, (Instr.checkKey em 10000 kt (.int k a)).run P w = .ok () w := fun em => MapKept.run_checkKey hk.h (by simp [MapKept.IsKey]) em 9999
  cases h : alook l a with
  | none => rw [h] at hf; simp [Instr.lookup, run_underlying ht.h, MapKept.run_getObj_map hb, hc, hf, Result.andThen, run_zeroV (P := P) (T := e)]
  | some u => rw [h] at hf; simp [Instr.lookup, run_underlying ht.h, MapKept.run_getObj_map hb, hc, hf, Result.andThen]
theorem pv_mlook1 {zv : Value} [ht : TMap P t kt e] [hk : TInt P kt k] [hz : TZV P e zv] (hx : opd fr x = some (.map (some b))) (hy : opd fr y = some (.int k a)) (hs : hp.Perm (.ob b (mob k l) :: F)) :
    Pv P ⟨fr, hp, ro⟩ (.lookup t x y false) ((alook l a).getD zv) := fun N E ac w dst ty pos af g ok => by
  have hb : w.heap[b]? = some (mob k l) := ok.s.get hs
  simp only [execOp, ok.h.eval hx, ok.h.eval hy]
  have h1 := findNow_m k a l 0 0
  have hf := MapKept.run_findKey (P := P) (w := w) hk.h h1
  have hc : ∀ em, (Instr.checkKey em 10000 kt (.int k a)).run P w = .ok () w := fun em => MapKept.run_checkKey hk.h (by simp [MapKept.IsKey]) em 9999
  cases h : alook l a with
  | none => rw [h] at hf; simp [Instr.lookup, run_underlying ht.h, MapKept.run_getObj_map hb, hc, hf, Result.andThen, run_zeroV (P := P) (T := e)]
  | some u => rw [h] at hf; simp [Instr.lookup, run_underlying ht.h, MapKept.run_getObj_map hb, hc, hf, Result.andThen]
theorem pv_min3 {k : IntKind} {a b c : Int} {ats : Array TypeId} (hx : opd fr x = some (.int k a)) (hy : opd fr y = some (.int k b)) (hz : opd fr z = some (.int k c)) : Pv P ⟨fr, hp, ro⟩ (.call ⟨.builtin .min, #[x, y, z], ats⟩) (.int k (min (min a b) c)) := fun N E ac w dst ty pos af g ok => by
  have e : (if b < a then b else a) = min a b := by omega
  have e2 : (if c < min a b then c else min a b) = min (min a b) c := by omega
  simp only [execOp, resolve, List.map_toArray, List.map_cons, List.map_nil, ok.h.eval hx, ok.h.eval hy, ok.h.eval hz]; simp [invoke, builtin, Builtin.min_, Builtin.min2, e, e2, go_sem]
/-! rows of strings that came in -/
def sseg (S : Nat → ByteArray) (n : Nat) : List (List Value) := (List.range n).map fun i => [.string (S i)]
theorem sseg_at {S : Nat → ByteArray} {n i : Nat} (h : i < n) : (sseg S n)[i]? = some [.string (S i)] := by simp [sseg, h]
theorem rws_s {w : World} {A : Option Addr} {n c : Nat} {V : Nat → Nat → Value} (h : Rws [.string] w A n c V) :
    ∃ (S : Nat → ByteArray) (R : List Ro), (∀ r ∈ R, r.sat w) ∧ (∀ i, i < n → (S i).size ≤ maxLen) ∧ (0 < n → ∃ b o, A = some ⟨b, o, none⟩ ∧ ⟨b, o, 1, sseg S n⟩ ∈ R) ∧ n ≤ 9223372036854775807 := by
  obtain ⟨R, hR, h0⟩ := rws_ro h (by simp)
  obtain ⟨h1, h2, _, h4⟩ := h
  refine ⟨fun i => match V i 0 with | .string z => z | _ => ByteArray.empty, R, hR, fun i hi => ?_, fun hn => ?_, by unfold maxLen at h2; omega⟩
  · obtain ⟨z, hz, hw⟩ := h4 i 0 _ hi rfl
    simp only [hz]
    exact hw
  · obtain ⟨b, o, hA, hm⟩ := h0 hn
    refine ⟨b, o, hA, ?_⟩
    have e : rowsOf [.string] V n = sseg (fun i => match V i 0 with | .string z => z | _ => ByteArray.empty) n := by
      unfold rowsOf sseg
      refine List.map_congr_left fun i hi => ?_
      obtain ⟨z, hz, _⟩ := h4 i 0 _ (List.mem_range.1 hi) rfl
      simp [hz]
    rw [← e]; exact hm
theorem g_lk {c : Bool} (h : Pv P ⟨fr, hp, ro⟩ (.lookup t x y c) v) : Pv P ⟨fr, hp, ro⟩ (.lookup t x y c) v := h
theorem pv_mlk_s [ht : TMap P t kt e] [hk : TInt P kt k] {zv : Value} [hz : TZV P e zv] (hx : opd fr x = some (.map (some b))) (hy : opd fr y = some (.int k a)) (hs : hp.Perm (.ob b (mob k l) :: F)) (hl : alook l a = some v) : Pv P ⟨fr, hp, ro⟩ (.lookup t x y false) v := by
  have := pv_mlook1 (P := P) (ro := ro) hx hy hs (t := t); rwa [hl] at this
theorem pv_mlk_n [ht : TMap P t kt e] [hk : TInt P kt k] {zv : Value} [hz : TZV P e zv] (hx : opd fr x = some (.map (some b))) (hy : opd fr y = some (.int k a)) (hs : hp.Perm (.ob b (mob k l) :: F)) (hl : alook l a = none) : Pv P ⟨fr, hp, ro⟩ (.lookup t x y false) zv := by
  have := pv_mlook1 (P := P) (ro := ro) hx hy hs (t := t); rwa [hl] at this
theorem pv_mlko_s [ht : TMap P t kt e] [hk : TInt P kt k] {zv : Value} [hz : TZV P e zv] (hx : opd fr x = some (.map (some b))) (hy : opd fr y = some (.int k a)) (hs : hp.Perm (.ob b (mob k l) :: F)) (hl : alook l a = some v) : Pv P ⟨fr, hp, ro⟩ (.lookup t x y true) (.tuple #[v, .bool true]) := by
  have := pv_mlook (P := P) (ro := ro) hx hy hs (t := t); rwa [hl] at this
theorem pv_mlko_n [ht : TMap P t kt e] [hk : TInt P kt k] {zv : Value} [hz : TZV P e zv] (hx : opd fr x = some (.map (some b))) (hy : opd fr y = some (.int k a)) (hs : hp.Perm (.ob b (mob k l) :: F)) (hl : alook l a = none) : Pv P ⟨fr, hp, ro⟩ (.lookup t x y true) (.tuple #[zv, .bool false]) := by
  have := pv_mlook (P := P) (ro := ro) hx hy hs (t := t); rwa [hl] at this
theorem pv_mlen [ht : TMap P t kt e] (hx : opd fr x = some (.map (some b))) (hs : hp.Perm (.ob b (mob k l) :: F)) : Pv P ⟨fr, hp, ro⟩ (.call ⟨.builtin .len, #[x], #[t]⟩) (.int .i64 l.length) := fun N E ac w dst ty pos af g ok => by
  have hb : w.heap[b]? = some (mob k l) := ok.s.get hs
  simp only [execOp, resolve, List.map_toArray, List.map_cons, List.map_nil, ok.h.eval hx]; simp [invoke, builtin, Builtin.len_, run_underlying ht.h, MapKept.run_getObj_map hb, Result.andThen, goInt, mEnt_len, go_sem]
theorem wo_mmake {d : Nat} (k : IntKind) (hd : Nat.ble (d + 1) N = true)
    (h : ∀ b, WO P N E ops rest ⟨(d, .map (some b)) :: fr, .ob b (mob k []) :: hp, ro⟩ Kn) : WO P N E ops (⟨some d, .makeMap t none, ty, pos, af, none⟩ :: rest) ⟨fr, hp, ro⟩ Kn :=
  wo_eff (L := []) (.refl _) hd fun a w ok => ⟨.map (some w.heap.size), _, w.alloc (.map #[] 0), by simp only [execOp, Option.map_none, Sem.run_bind, run_makeMap, Result.andThen_ok]; rfl, Sat.fresh _, h _⟩
theorem set_frm {w : World} {b : Nat} {o o' : Obj} (hb : w.heap[b]? = some o) : Frm [b] w { w with heap := w.heap.setIfInBounds b o' } ∧ ({ w with heap := w.heap.setIfInBounds b o' } : World).heap[b]? = some o' :=
  ⟨⟨rfl, rfl, rfl, by simp, fun k _ hn => (MapKept.heap_set hb).2 k (by simpa using hn)⟩, (MapKept.heap_set hb).1⟩
theorem run_mput {w : World} [ht : TMap P t kt e] [hk : TInt P kt k] (hb : w.heap[b]? = some (mob k l)) :
    (Instr.mapUpdate t (.map (some b)) (.int k a) v).run P w = .ok () { w with heap := w.heap.setIfInBounds b (mob k (aset l a v)) } := by
  have h1 := findNow_m k a l 0 0
  have hf := MapKept.run_findKey (P := P) (w := w) hk.h h1
  have hc : (Instr.checkKey false 10000 kt (.int k a)).run P w = .ok () w := MapKept.run_checkKey hk.h (by simp [MapKept.IsKey]) false 9999
  cases h : alook l a with
  | none =>
    rw [h] at hf
    have e1 := mEnt_push k a v l 0
    rw [Nat.zero_add] at e1
    simp [Instr.mapUpdate, run_underlying ht.h, MapKept.run_getObj_map hb, hc, hf, MapKept.run_setObj_map _ hb, Result.andThen, mob, aset_none v h, e1]
  | some u =>
    rw [h] at hf
    have e1 := mEnt_modify k a v l 0 h
    have e2 := mEnt_at k a l 0 h
    have hks : (Instr.keyThatStays (.int k a) (.int k a)).run P w = .ok (.int k a) w := MapKept.run_keyThatStays (d := .int k) (by simp [MapKept.IsKey])
    simp [Instr.mapUpdate, run_underlying ht.h, MapKept.run_getObj_map hb, hc, hf, MapKept.run_setObj_map _ hb, Result.andThen, mob, aset_len_some v h, e1, e2, hks]
theorem wo_mput [ht : TMap P t kt e] [hk : TInt P kt k] (hx : opd fr x = some (.map (some b))) (hy : opd fr y = some (.int k a)) (hz : opd fr z = some v) (hs : hp.Perm (.ob b (mob k l) :: F)) (hd : dstOk dst N = true)
    (h : WO P N E ops rest ⟨putF dst undef fr, .ob b (mob k (aset l a v)) :: F, ro⟩ Kn) : WO P N E ops (⟨dst, .mapUpdate t x y z, ty, pos, af, none⟩ :: rest) ⟨fr, hp, ro⟩ Kn :=
  wo_eff_skip (L := [_]) hs hd fun ac w ok => by
    have hb : w.heap[b]? = some (mob k l) := ok.s.get hs
    refine ⟨_, _, ?_, Sat.relay (set_frm hb).1 (set_frm (o' := mob k (aset l a v)) hb).2, by simpa using h⟩
    simp only [execOp, ok.h.eval hx, ok.h.eval hy, ok.h.eval hz, Sem.run_bind, run_mput hb]; rfl
theorem wo_mentry {d : Nat} {zv : Value} [ht : TMap P t kt e] [hk : TInt P kt k] [hzv : TZV P e zv] (hx : opd fr x = some (.map (some b))) (hy : opd fr y = some (.int k a)) (hs : hp.Perm (.ob b (mob k l) :: F)) (hd : Nat.ble (d + 1) N = true)
    (h : WO P N E ops rest ⟨(d, .tuple #[(alook l a).getD zv, .int .i64 (aidx l a)]) :: fr, .ob b (mob k (aset l a ((alook l a).getD zv))) :: F, ro⟩ Kn) : WO P N E ops (⟨some d, .mapEntry t x y, ty, pos, af, none⟩ :: rest) ⟨fr, hp, ro⟩ Kn :=
  wo_eff (L := [_]) hs hd fun ac w ok => by
    have hb : w.heap[b]? = some (mob k l) := ok.s.get hs
    refine ⟨_, _, _, ?_, Sat.relay (set_frm hb).1 (set_frm (o' := mob k (aset l a ((alook l a).getD zv))) hb).2, by simpa [putF] using h⟩
    have h1 := findNow_m k a l 0 0
    have hf := MapKept.run_findKey (P := P) (w := w) hk.h h1
    have hc : (Instr.checkKey false 10000 kt (.int k a)).run P w = .ok () w := MapKept.run_checkKey hk.h (by simp [MapKept.IsKey]) false 9999
    simp only [execOp, ok.h.eval hx, ok.h.eval hy]
    cases h : alook l a with
    | none =>
      rw [h] at hf
      have e1 := mEnt_push k a zv l 0
      rw [Nat.zero_add] at e1
      simp [Instr.mapEntry, run_underlying ht.h, MapKept.run_getObj_map hb, hc, hf, MapKept.run_setObj_map _ hb, Result.andThen, mob, aset_none _ h, e1, run_zeroV (P := P) (T := e), goInt, aidx_none h]
    | some u =>
      rw [h] at hf
      have e1 := mEnt_modify' k a l 0 h
      have e2 := mEnt_at k a l 0 h
      have hks : (Instr.keyThatStays (.int k a) (.int k a)).run P w = .ok (.int k a) w := MapKept.run_keyThatStays (d := .int k) (by simp [MapKept.IsKey])
      simp [Instr.mapEntry, run_underlying ht.h, MapKept.run_getObj_map hb, hc, hf, MapKept.run_setObj_map _ hb, Result.andThen, mob, aset_same h, e1, e2, hks, goInt]
theorem wo_mstore {j : Nat} [ht : TMap P t kt e] (hx : opd fr x = some (.map (some b))) (hy : opd fr y = some (.int .i64 j)) (hz : opd fr z = some v) (hs : hp.Perm (.ob b (mob k l) :: F)) {u : Value} (hl : alook l a = some u) (hj : aidx l a = j) (hd : dstOk dst N = true)
    (h : WO P N E ops rest ⟨putF dst undef fr, .ob b (mob k (aset l a v)) :: F, ro⟩ Kn) : WO P N E ops (⟨dst, .entryStore t x y z, ty, pos, af, none⟩ :: rest) ⟨fr, hp, ro⟩ Kn :=
  wo_eff_skip (L := [_]) hs hd fun ac w ok => by
    have hb : w.heap[b]? = some (mob k l) := ok.s.get hs
    refine ⟨_, _, ?_, Sat.relay (set_frm hb).1 (set_frm (o' := mob k (aset l a v)) hb).2, by simpa using h⟩
    have e1 := mEnt_modv k a v l 0 hl
    have e2 := mEnt_find k l 0 (aidx l a) (aidx_lt hl)
    rw [Nat.zero_add] at e2
    subst hj
    simp only [execOp, ok.h.eval hx, ok.h.eval hy, ok.h.eval hz, Sem.run_bind]
    simp [Instr.entryStore, MapKept.run_getObj_map hb, MapKept.run_setObj_map _ hb, Result.andThen, asInt, asIntOf, e2, mob, e1, aset_len_some v hl, go_sem]
end
end Go.Proofs.Ytlhlidmhlhodiaa

/-
  Sparse frames: maps with at most one entry (what an earlier entry left of their clocks is kept). No program in sight.
-/
namespace Go.Proofs.Ytlhlidmhlhodiaa
set_option linter.unusedSimpArgs false
set_option linter.unusedVariables false
open Go.RowKit

abbrev m0 (ck : Nat) : Obj := .map #[] ck
abbrev m1 (k : IntKind) (a : Int) (v : Value) (bn ck : Nat) : Obj := .map #[⟨.int k a, v, bn⟩] ck
theorem findNow_1 (k : IntKind) (x : Int) (v : Value) (bn : Nat) : Instr.findNow (.int k) (.int k x) [⟨.int k x, v, bn⟩] 0 = some (some (0, v)) := by
  have := findNow_m k x [(x, v)] bn 0
  simpa [mEnt, alook, aidx] using this
section
variable {P : Program} {N : Nat} {E : Env} {fr : List (Nat × Value)} {hp F B0 : List It} {ro : List Ro} {Kn : St → Prop} {ops : Array Oper} {rest : List Oper} {dst : Option Tmp} {ty t : TypeId} {pos : String} {af : Array Edge} {x y z : Operand} {k : IntKind} {b bn ck : Nat} {a : Int} {v : Value} {kt e : TypeId} {g : Option (Nat × Bool)}
theorem pv_m0 {zv : Value} [ht : TMap P t kt e] [hk : TInt P kt k] [hz : TZV P e zv] (hx : opd fr x = some (.map (some b))) (hy : opd fr y = some (.int k a)) (hs : hp.Perm (.ob b (m0 ck) :: F)) :
    Pv P ⟨fr, hp, ro⟩ (.lookup t x y true) (.tuple #[zv, .bool false]) := fun N E ac w dst ty pos af g ok => by
  have hb : w.heap[b]? = some (m0 ck) := ok.s.get hs
  simp only [execOp, ok.h.eval hx, ok.h.eval hy]
  have hf := MapKept.run_findKey (P := P) (w := w) (k := .int k a) (l := []) hk.h rfl
  have hc : ∀ em, (Instr.checkKey em 10000 kt (.int k a)).run P w = .ok () w := fun em => MapKept.run_checkKey hk.h (by simp [MapKept.IsKey]) em 9999
  simp [Instr.lookup, run_underlying ht.h, MapKept.run_getObj_map hb, hc, hf, Result.andThen, run_zeroV (P := P) (T := e)]
theorem pv_m1 [ht : TMap P t kt e] [hk : TInt P kt k] (hx : opd fr x = some (.map (some b))) (hy : opd fr y = some (.int k a)) (hs : hp.Perm (.ob b (m1 k a v bn ck) :: F)) :
    Pv P ⟨fr, hp, ro⟩ (.lookup t x y true) (.tuple #[v, .bool true]) := fun N E ac w dst ty pos af g ok => by
  have hb : w.heap[b]? = some (m1 k a v bn ck) := ok.s.get hs
  simp only [execOp, ok.h.eval hx, ok.h.eval hy]
  have hf := MapKept.run_findKey (P := P) (w := w) (k := .int k a) hk.h (findNow_1 k a v bn)
  have hc : ∀ em, (Instr.checkKey em 10000 kt (.int k a)).run P w = .ok () w := fun em => MapKept.run_checkKey hk.h (by simp [MapKept.IsKey]) em 9999
  simp [Instr.lookup, run_underlying ht.h, MapKept.run_getObj_map hb, hc, hf, Result.andThen]
theorem pv_m1s [ht : TMap P t kt e] [hk : TInt P kt k] (hx : opd fr x = some (.map (some b))) (hy : opd fr y = some (.int k a)) (hs : hp.Perm (.ob b (m1 k a v bn ck) :: F)) :
    Pv P ⟨fr, hp, ro⟩ (.lookup t x y false) v := fun N E ac w dst ty pos af g ok => by
  have hb : w.heap[b]? = some (m1 k a v bn ck) := ok.s.get hs
  simp only [execOp, ok.h.eval hx, ok.h.eval hy]
  have hf := MapKept.run_findKey (P := P) (w := w) (k := .int k a) hk.h (findNow_1 k a v bn)
  have hc : ∀ em, (Instr.checkKey em 10000 kt (.int k a)).run P w = .ok () w := fun em => MapKept.run_checkKey hk.h (by simp [MapKept.IsKey]) em 9999
  simp [Instr.lookup, run_underlying ht.h, MapKept.run_getObj_map hb, hc, hf, Result.andThen]
theorem pv_m0len [ht : TMap P t kt e] (hx : opd fr x = some (.map (some b))) (hs : hp.Perm (.ob b (m0 ck) :: F)) : Pv P ⟨fr, hp, ro⟩ (.call ⟨.builtin .len, #[x], #[t]⟩) (.int .i64 0) := fun N E ac w dst ty pos af g ok => by
  have hb : w.heap[b]? = some (m0 ck) := ok.s.get hs
  simp only [execOp, resolve, List.map_toArray, List.map_cons, List.map_nil, ok.h.eval hx]; simp [invoke, builtin, Builtin.len_, run_underlying ht.h, MapKept.run_getObj_map hb, Result.andThen, goInt, go_sem]
theorem run_m0put {w : World} [ht : TMap P t kt e] [hk : TInt P kt k] (hb : w.heap[b]? = some (m0 ck)) :
    (Instr.mapUpdate t (.map (some b)) (.int k a) v).run P w = .ok () { w with heap := w.heap.setIfInBounds b (m1 k a v ck (ck + 1)) } := by
  have hf := MapKept.run_findKey (P := P) (w := w) (k := .int k a) (l := []) hk.h rfl
  have hc : (Instr.checkKey false 10000 kt (.int k a)).run P w = .ok () w := MapKept.run_checkKey hk.h (by simp [MapKept.IsKey]) false 9999
  simp [Instr.mapUpdate, run_underlying ht.h, MapKept.run_getObj_map hb, hc, hf, MapKept.run_setObj_map _ hb, Result.andThen]
theorem run_m1del {w : World} [ht : TMap P t kt e] [hk : TInt P kt k] {kt' : TypeId} (hb : w.heap[b]? = some (m1 k a v bn ck)) :
    (Builtin.delete_ #[t, kt'] ty #[.map (some b), .int k a]).run P w = .ok (.tuple #[]) { w with heap := w.heap.setIfInBounds b (m0 ck) } := by
  have hf := MapKept.run_findKey (P := P) (w := w) (k := .int k a) hk.h (findNow_1 k a v bn)
  have hc : ∀ em, (Instr.checkKey em 10000 kt (.int k a)).run P w = .ok () w := fun em => MapKept.run_checkKey hk.h (by simp [MapKept.IsKey]) em 9999
  simp [Builtin.delete_, run_underlying ht.h, MapKept.run_getObj_map hb, hc, hf, MapKept.run_setObj_map _ hb, Result.andThen]
theorem outc_m0put [ht : TMap P t kt e] [hk : TInt P kt k] (hx : opd fr x = some (.map (some b))) (hy : opd fr y = some (.int k a)) (hz : opd fr z = some v) :
    ∀ ac, Holds N fr ac → Outc P E B0 ro ⟨dst, .mapUpdate t x y z, ty, pos, af, g⟩ ac [.ob b (m0 ck)] (fun u M => u = undef ∧ M = [.ob b (m1 k a v ck (ck + 1))]) := fun ac hh F w hw => by
  have hb : w.heap[b]? = some (m0 ck) := hw.get (.refl _)
  have e : (execOp ac.eval ⟨dst, .mapUpdate t x y z, ty, pos, af, g⟩).run P w = .ok .skip { w with heap := w.heap.setIfInBounds b (m1 k a v ck (ck + 1)) } := by
    simp only [execOp, hh.eval hx, hh.eval hy, hh.eval hz, Sem.run_bind, run_m0put hb]; rfl
  rw [e]
  exact ⟨_, ⟨rfl, rfl⟩, (hw.step (L := [_]) (T' := []) (.refl _) (by simp) (Sat.relay (set_frm hb).1 (set_frm (o' := m1 k a v ck (ck + 1)) hb).2)).some_ro (fun r hr => by simpa using hr)⟩
theorem outc_m1del [ht : TMap P t kt e] [hk : TInt P kt k] {kt' : TypeId} (hx : opd fr x = some (.map (some b))) (hy : opd fr y = some (.int k a)) :
    ∀ ac, Holds N fr ac → Outc P E B0 ro ⟨dst, .call ⟨.builtin .delete, #[x, y], #[t, kt']⟩, ty, pos, af, g⟩ ac [.ob b (m1 k a v bn ck)] (fun u M => u = .tuple #[] ∧ M = [.ob b (m0 ck)]) := fun ac hh F w hw => by
  have hb : w.heap[b]? = some (m1 k a v bn ck) := hw.get (.refl _)
  have e : (execOp ac.eval ⟨dst, .call ⟨.builtin .delete, #[x, y], #[t, kt']⟩, ty, pos, af, g⟩).run P w = .ok (.value (.tuple #[])) { w with heap := w.heap.setIfInBounds b (m0 ck) } := by
    simp only [execOp, resolve, List.map_toArray, List.map_cons, List.map_nil, hh.eval hx, hh.eval hy]; simp [invoke, builtin, run_m1del hb, Result.andThen]
  rw [e]
  exact ⟨_, ⟨rfl, rfl⟩, (hw.step (L := [_]) (T' := []) (.refl _) (by simp) (Sat.relay (set_frm hb).1 (set_frm (o' := m0 ck) hb).2)).some_ro (fun r hr => by simpa using hr)⟩
theorem wo_m0put [ht : TMap P t kt e] [hk : TInt P kt k] (hx : opd fr x = some (.map (some b))) (hy : opd fr y = some (.int k a)) (hz : opd fr z = some v) (hs : hp.Perm (.ob b (m0 ck) :: F)) (hd : dstOk dst N = true)
    (h : WO P N E ops rest ⟨putF dst undef fr, .ob b (m1 k a v ck (ck + 1)) :: F, ro⟩ Kn) : WO P N E ops (⟨dst, .mapUpdate t x y z, ty, pos, af, none⟩ :: rest) ⟨fr, hp, ro⟩ Kn :=
  wo_eff_skip (L := [_]) hs hd fun ac w ok => by
    have hb : w.heap[b]? = some (m0 ck) := ok.s.get hs
    refine ⟨_, _, ?_, Sat.relay (set_frm hb).1 (set_frm (o' := m1 k a v ck (ck + 1)) hb).2, by simpa using h⟩
    simp only [execOp, ok.h.eval hx, ok.h.eval hy, ok.h.eval hz, Sem.run_bind, run_m0put hb]; rfl
end
end Go.Proofs.Ytlhlidmhlhodiaa

/-
  Sparse frames: drawn regions again, where one operation may change the items of several classes.
-/
namespace Go.Proofs.Ytlhlidmhlhodiaa
set_option linter.unusedSimpArgs false
set_option linter.unusedVariables false
open Go.RowKit
def updL (m : Nat → List It) : List Nat → List (List It) → Nat → List It
  | c :: cs, M :: Ms => updL (upd m c M) cs Ms
  | _, _ => m
theorem updL_ne {c : Nat} : ∀ (cs : List Nat) (Ms : List (List It)) (m : Nat → List It), c ∉ cs → updL m cs Ms c = m c
  | [], _, _, _ => by unfold updL; rfl
  | _ :: _, [], _, _ => by unfold updL; rfl
  | d :: cs, M :: Ms, m, h => by
    unfold updL
    rw [updL_ne cs Ms _ (fun h' => h (.tail _ h')), upd_ne _ _ (fun e => h (by rw [e]; exact .head _))]
theorem upd_updL (c : Nat) (M : List It) : ∀ (cs : List Nat) (Ms : List (List It)) (m : Nat → List It), c ∉ cs → upd (updL m cs Ms) c M = updL (upd m c M) cs Ms
  | [], _, _, _ => by unfold updL; rfl
  | _ :: _, [], _, _ => by unfold updL; rfl
  | d :: cs, N :: Ms, m, h => by
    unfold updL
    rw [upd_updL c M cs Ms _ (fun h' => h (.tail _ h')), upd_comm m _ _ (fun e => h (by rw [e]; exact .head _))]
theorem updL_comm : ∀ (ds : List Nat) (Ns : List (List It)) (cs : List Nat) (Ms : List (List It)) (m : Nat → List It), (∀ d ∈ ds, d ∉ cs) → updL (updL m cs Ms) ds Ns = updL (updL m ds Ns) cs Ms
  | [], _, cs, Ms, m, _ => by unfold updL; cases cs <;> cases Ms <;> rfl
  | _ :: _, [], cs, Ms, m, _ => by unfold updL; cases cs <;> cases Ms <;> rfl
  | d :: ds, N :: Ns, cs, Ms, m, h => by
    show updL (upd (updL m cs Ms) d N) ds Ns = updL (updL (upd m d N) ds Ns) cs Ms
    rw [upd_updL d N cs Ms m (h d (.head _)), updL_comm ds Ns cs Ms _ (fun x hx => h x (.tail _ hx))]
theorem map_updL {cs ds : List Nat} {Ms : List (List It)} {m : Nat → List It} (h : ∀ d ∈ ds, d ∉ cs) : ds.map (updL m cs Ms) = ds.map m := List.map_congr_left fun d hd => updL_ne cs Ms m (h d hd)
theorem flat_updL : ∀ {cs : List Nat} {Ms : List (List It)} {m : Nat → List It}, cs.Nodup → Ms.length = cs.length → cs.map (updL m cs Ms) = Ms
  | [], [], _, _, _ => rfl
  | [], _ :: _, _, _, h => by cases h
  | _ :: _, [], _, _, h => by cases h
  | c :: cs, M :: Ms, m, hn, h => by
    have hn' := List.nodup_cons.1 hn
    show updL (upd m c M) cs Ms c :: cs.map (updL (upd m c M) cs Ms) = M :: Ms
    rw [updL_ne cs Ms _ hn'.1, upd_self, flat_updL hn'.2 (by simpa using h)]

section
variable (P : Program) (E : Env) (B0 : List It) (ro : List Ro) (ops : Array Oper) (cls : Nat → List Nat) (tbl : Nat → List (List It) → Value → List (List It) → Prop)
def safeM (i : Nat) (o : Oper) (a : Act) (m : Nat → List It) : Prop :=
  if Region.wanted o (yielded ops a.tmps) then
    if cls i = [] then ∃ v, PV P E B0 ro o a v
    else (∃ v Ms, tbl i ((cls i).map m) v Ms ∧ Ms.length = (cls i).length) ∧ Outc P E B0 ro o a ((cls i).map m).flatten (fun v M => ∃ Ms, tbl i ((cls i).map m) v Ms ∧ Ms.length = (cls i).length ∧ M = Ms.flatten)
  else True
def outM (i : Nat) (o : Oper) (a : Act) (m : Nat → List It) (v : Value) (m' : Nat → List It) : Prop :=
  if Region.wanted o (yielded ops a.tmps) then
    if cls i = [] then PV P E B0 ro o a v ∧ m' = m
    else ∃ Ms, tbl i ((cls i).map m) v Ms ∧ Ms.length = (cls i).length ∧ m' = updL m (cls i) Ms
  else v = undef ∧ m' = m
def rOpM (i : Nat) (K : Act → (Nat → List It) → Prop) (a : Act) (m : Nat → List It) : Prop :=
  ∀ o, ops[i]? = some o → safeM P E B0 ro ops cls tbl i o a m ∧ ∀ v m', outM P E B0 ro ops cls tbl i o a m v m' → K (a.put o.dst v) m'
end
section
variable {P : Program} {E : Env} {B0 : List It} {ro : List Ro} {ops : Array Oper} {cls : Nat → List Nat} {tbl : Nat → List (List It) → Value → List (List It) → Prop} {md : Region.Mode}
theorem safe_outM {i : Nat} {o : Oper} {a : Act} {m : Nat → List It} (h : safeM P E B0 ro ops cls tbl i o a m) : ∃ v m', outM P E B0 ro ops cls tbl i o a m v m' := by
  unfold safeM at h
  unfold outM
  split at h
  · rename_i hw
    simp only [hw, if_true]
    split at h
    · rename_i hc
      simp only [hc, if_true]
      obtain ⟨v, hv⟩ := h
      exact ⟨v, m, hv, rfl⟩
    · rename_i hc
      simp only [hc, if_false]
      obtain ⟨⟨v, Ms, hv, hl⟩, _⟩ := h
      exact ⟨v, _, Ms, hv, hl, rfl⟩
  · rename_i hw
    simp only [hw]
    exact ⟨undef, m, rfl, rfl⟩
theorem rOpM_mono {i : Nat} {a : Act} {m : Nat → List It} {K K' : Act → (Nat → List It) → Prop} (h : ∀ a m, K a m → K' a m) (hh : rOpM P E B0 ro ops cls tbl i K a m) : rOpM P E B0 ro ops cls tbl i K' a m :=
  fun o ho => ⟨(hh o ho).1, fun v m' hv => h _ _ ((hh o ho).2 v m' hv)⟩
section
variable {i j : Nat} {oi oj : Oper} {a : Act} {m m' : Nat → List It} {u v : Value} {dst : Option Tmp}
theorem safe_putM (hs : ∀ cs b, oj.op ≠ .select cs b) (h : ∀ d, dst = some d → d ∉ oj.looksAt ops) : safeM P E B0 ro ops cls tbl j oj (a.put dst v) m = safeM P E B0 ro ops cls tbl j oj a m := by
  unfold safeM PV Outc
  rw [wanted_put oj a dst v h, execOp_put oj hs a dst v h]
theorem out_putM (hs : ∀ cs b, oj.op ≠ .select cs b) (h : ∀ d, dst = some d → d ∉ oj.looksAt ops) : outM P E B0 ro ops cls tbl j oj (a.put dst v) m u m' = outM P E B0 ro ops cls tbl j oj a m u m' := by
  unfold outM PV
  rw [wanted_put oj a dst v h, execOp_put oj hs a dst v h]
theorem out_otherM (h : outM P E B0 ro ops cls tbl i oi a m v m') {ds : List Nat} (hc : ∀ d ∈ ds, d ∉ cls i) : ds.map m' = ds.map m := by
  unfold outM at h
  split at h
  · split at h
    · rw [h.2]
    · obtain ⟨Ms, _, _, rfl⟩ := h
      exact map_updL hc
  · rw [h.2]
theorem safe_otherM (h : outM P E B0 ro ops cls tbl i oi a m v m') (hc : ∀ d ∈ cls j, d ∉ cls i) : safeM P E B0 ro ops cls tbl j oj a m' = safeM P E B0 ro ops cls tbl j oj a m := by
  unfold safeM
  rw [out_otherM h hc]
theorem out_diamondM {m1 m2 : Nat → List It} (hc : ∀ d ∈ cls j, d ∉ cls i) (h1 : outM P E B0 ro ops cls tbl j oj a m u m1) (h2 : outM P E B0 ro ops cls tbl i oi a m1 v m2) :
    ∃ m3, outM P E B0 ro ops cls tbl i oi a m v m3 ∧ outM P E B0 ro ops cls tbl j oj a m3 u m2 := by
  have key : (cls i).map m1 = (cls i).map m := out_otherM h1 (fun d hd hd' => hc d hd' hd)
  unfold outM at h1 h2 ⊢
  by_cases wi : Region.wanted oi (yielded ops a.tmps) = true
  · simp only [wi, if_true] at h2 ⊢
    by_cases wj : Region.wanted oj (yielded ops a.tmps) = true
    · simp only [wj, if_true] at h1 ⊢
      by_cases ci : cls i = []
      · simp only [ci, if_true] at h2 ⊢
        obtain ⟨h2, rfl⟩ := h2
        exact ⟨m, ⟨h2, rfl⟩, h1⟩
      · simp only [ci, if_false] at h2 ⊢
        rw [key] at h2
        obtain ⟨Ms, h2, hl, rfl⟩ := h2
        refine ⟨updL m (cls i) Ms, ⟨Ms, h2, hl, rfl⟩, ?_⟩
        by_cases cj : cls j = []
        · simp only [cj, if_true] at h1 ⊢
          exact ⟨h1.1, by rw [h1.2]⟩
        · simp only [cj, if_false] at h1 ⊢
          obtain ⟨Ns, h1, hl', rfl⟩ := h1
          refine ⟨Ns, by rw [map_updL hc]; exact h1, hl', ?_⟩
          exact (updL_comm (cls j) Ns (cls i) Ms m hc).symm
    · simp only [wj] at h1 ⊢
      obtain ⟨rfl, rfl⟩ := h1
      exact ⟨m2, h2, rfl, rfl⟩
  · simp only [wi] at h2 ⊢
    obtain ⟨rfl, rfl⟩ := h2
    exact ⟨m, ⟨rfl, rfl⟩, h1⟩
theorem rOp_swapM {K : Act → (Nat → List It) → Prop} (hi : ops[i]? = some oi) (hj : ops[j]? = some oj) (hap : oi.apart ops oj = true) (hc : ∀ d ∈ cls j, d ∉ cls i) (hsi : ∀ cs b, oi.op ≠ .select cs b) (hsj : ∀ cs b, oj.op ≠ .select cs b)
    (H : rOpM P E B0 ro ops cls tbl i (rOpM P E B0 ro ops cls tbl j K) a m) : rOpM P E B0 ro ops cls tbl j (rOpM P E B0 ro ops cls tbl i K) a m := by
  obtain ⟨h1, h2, h3⟩ := Oper.apart_spec hap
  obtain ⟨Hs, Ho⟩ := H oi hi
  intro o ho
  obtain rfl : oj = o := by rw [hj] at ho; exact Option.some.inj ho
  refine ⟨?_, fun u m1 hu o ho => ?_⟩
  · obtain ⟨v, m1, hv⟩ := safe_outM Hs
    have := (Ho v m1 hv oj hj).1
    rw [safe_putM hsj h1, safe_otherM hv hc] at this
    exact this
  · obtain rfl : oi = o := by rw [hi] at ho; exact Option.some.inj ho
    refine ⟨?_, fun v m2 hv => ?_⟩
    · rw [safe_putM hsi h3, safe_otherM hu (fun d hd hd' => hc d hd' hd)]
      exact Hs
    · rw [out_putM hsi h3] at hv
      obtain ⟨m3, h4, h5⟩ := out_diamondM hc hu hv
      have := (Ho v m3 h4 oj hj).2 u m2 (by rw [out_putM hsj h1]; exact h5)
      rw [← Act.put_comm a v u h2]
      exact this
end
def wpAnyM (P : Program) (E : Env) (B0 : List It) (ro : List Ro) (ops : Array Oper) (cls : Nat → List Nat) (tbl : Nat → List (List It) → Value → List (List It) → Prop) (md : Region.Mode) (Q : Act → (Nat → List It) → Prop) : Nat → Array Bool → Act → (Nat → List It) → Prop
  | 0, listed, a, m => Region.ready md ops listed = [] ∧ Q a m
  | fuel + 1, listed, a, m => (Region.ready md ops listed = [] → Q a m) ∧ ∀ i ∈ Region.ready md ops listed, rOpM P E B0 ro ops cls tbl i (wpAnyM P E B0 ro ops cls tbl md Q fuel (listed.setIfInBounds i true)) a m
theorem wpAnyM_first {Q : Act → (Nat → List It) → Prop} {i : Nat} {oi : Oper} (hi : ops[i]? = some oi) (hsel : ∀ (j : Nat) (o : Oper) cs b, ops[j]? = some o → o.op ≠ .select cs b)
    (hcls : ∀ (j : Nat) (listed : Array Bool), j ≠ i → Closed md ops listed → (∀ k, k < i → listed.getD k true = true) → listed.getD i true = false → j ∈ Region.ready md ops listed → ∀ d ∈ cls j, d ∉ cls i) :
    ∀ (fuel : Nat) (listed : Array Bool) (a : Act) (m : Nat → List It), Closed md ops listed → (∀ k, k < i → listed.getD k true = true) →
      (∀ j oj, ops[j]? = some oj → j ≠ i → listed.getD j true = false → (∀ e ∈ oj.after, Region.binds md e = true → e.on ≠ i) → oi.apart ops oj = true) →
      i ∈ Region.ready md ops listed → rOpM P E B0 ro ops cls tbl i (wpAnyM P E B0 ro ops cls tbl md Q fuel (listed.setIfInBounds i true)) a m → wpAnyM P E B0 ro ops cls tbl md Q (fuel + 1) listed a m := by
  intro fuel
  induction fuel with
  | zero =>
    intro listed a m _ _ _ hr H
    refine ⟨fun h => (by rw [h] at hr; cases hr), fun j hj => ?_⟩
    by_cases hji : j = i
    · subst hji; exact H
    · have := ready_mono hj hji
      obtain ⟨hs, ho⟩ := H oi hi
      obtain ⟨v, m', hv⟩ := safe_outM hs
      rw [(ho v m' hv).1] at this
      cases this
  | succ fuel ih =>
    intro listed a m hcl hpre hfree hr H
    refine ⟨fun h => (by rw [h] at hr; cases hr), fun j hj => ?_⟩
    by_cases hji : j = i
    · subst hji; exact H
    · obtain ⟨hjun, oj, hoj, hall⟩ := mem_ready.1 hj
      have hnot : ∀ e ∈ oj.after, Region.binds md e = true → e.on ≠ i := fun e he hb heq => by
        have h1 := hall e he hb
        have h0 := (mem_ready.1 hr).1
        rw [heq] at h1
        rcases Nat.lt_or_ge i listed.size with h' | h'
        · simp [h'] at h0 h1; rw [h0] at h1; cases h1
        · simp [Array.getElem?_eq_none h'] at h1
      have h1 := rOpM_mono (fun a' m' h => h.2 j (ready_mono hj hji)) H
      have f1 := hfree j oj hoj hji hjun hnot
      have f2 := hcls j listed hji hcl hpre (mem_ready.1 hr).1 hj
      have h2 := rOp_swapM hi hoj f1 f2 (fun cs b => hsel i oi cs b hi) (fun cs b => hsel j oj cs b hoj) h1
      refine rOpM_mono (fun a' m' h3 => ih (listed.setIfInBounds j true) a' m' (hcl.set hj) (fun k hk => ?_) (fun k ok hk hki hun hno => ?_) (ready_mono hr (Ne.symm hji)) ?_) h2
      · by_cases hjk : j = k
        · subst hjk
          rcases Nat.lt_or_ge j listed.size with h2 | h2
          · simp [h2]
          · simp [h2]
        · rw [getD_set_ne true hjk]; exact hpre k hk
      · refine hfree k ok hk hki ?_ hno
        by_cases hjk : j = k
        · subst hjk; exact hjun
        · rw [getD_set_ne true hjk] at hun; exact hun
      · rw [Array.setIfInBounds_comm _ _ hji]
        exact h3
def wpM (P : Program) (E : Env) (B0 : List It) (ro : List Ro) (ops : Array Oper) (cls : Nat → List Nat) (tbl : Nat → List (List It) → Value → List (List It) → Prop) (Q : Act → (Nat → List It) → Prop) : List Oper → Nat → Act → (Nat → List It) → Prop
  | [], _, a, m => Q a m
  | o :: l, k, a, m => rOpM P E B0 ro ops cls tbl k (wpM P E B0 ro ops cls tbl Q l (k + 1)) a m
def clsM (md : Region.Mode) (ops : Array Oper) (cls : Nat → List Nat) : Bool :=
  (List.range ops.size).all fun j => (List.range j).all fun i => ((cls j).all fun d => !(cls i).contains d) || reachB md ops i ops.size j
theorem clsM_spec (h : clsM md ops cls = true) {i j : Nat} {oj : Oper} (hj : ops[j]? = some oj) (hij : i < j) {d : Nat} (hd : d ∈ cls j) (hi : d ∈ cls i) : reachB md ops i ops.size j = true := by
  unfold clsM at h
  rw [List.all_eq_true] at h
  have h1 := h j (by have := (Array.getElem?_eq_some_iff.1 hj).1; simpa using this)
  rw [List.all_eq_true] at h1
  have h2 := h1 i (by simpa using hij)
  rw [Bool.or_eq_true] at h2
  rcases h2 with h2 | h2
  · rw [List.all_eq_true] at h2
    have := h2 d hd
    simp [hi] at this
  · exact h2
theorem wpAnyM_lex {Q : Act → (Nat → List It) → Prop} (hs : Region.noSelect ops = true) (hcl : clsM md ops cls = true) : ∀ (l : List Oper) (k : Nat) (listed : Array Bool) (a : Act) (m : Nat → List It), Closed md ops listed → ops.size = listed.size → (∀ j, l[j]? = ops[k + j]?) → (∀ j, j < k → listed.getD j true = true) →
    Region.lexFrom md ops l.length k listed = true → wpM P E B0 ro ops cls tbl Q l k a m → wpAnyM P E B0 ro ops cls tbl md Q l.length listed a m
  | [], _, _, _, _, _, _, _, _, hB, h => ⟨by simpa [Region.lexFrom] using hB, h⟩
  | o :: l, k, listed, a, m, hC, hz, hl, hk, hB, h => by
    have h0 : ops[k]? = some o := by simpa using (hl 0).symm
    simp only [List.length_cons, Region.lexFrom, Bool.and_eq_true] at hB
    obtain ⟨⟨hr, hf⟩, hB'⟩ := hB
    have hr' : k ∈ Region.ready md ops listed := by simpa using hr
    refine wpAnyM_first h0 (Region.noSelect_spec hs) (fun j ld hjk hCl hpre hun hj d hd hdi => ?_) l.length listed a m hC hk (fun j oj hj hjk hun hno => Region.free_spec h0 hf j oj hj hjk hun hno) hr' ?_
    · obtain ⟨hjun, oj, hoj, hall⟩ := mem_ready.1 hj
      have hle := lex_lt hpre hjun
      have hks : k < ld.size := by
        rcases Nat.lt_or_ge k ld.size with h' | h'
        · exact h'
        · simp [Array.getD, Nat.not_lt.2 h'] at hun
      obtain ⟨o2, h2, e, he, hb, hne⟩ := reach_not hCl hun hks _ _ (clsM_spec hcl hoj (show k < j by omega) hd hdi)
      rw [hoj] at h2
      obtain rfl := Option.some.inj h2
      rw [hall e he hb] at hne; cases hne
    · refine rOpM_mono (fun a' m' h' => wpAnyM_lex hs hcl l (k + 1) _ a' m' (hC.set hr') (by simpa using hz) (fun j => by have := hl (j + 1); simpa [Nat.add_assoc, Nat.add_comm 1 j] using this) (fun j hj => ?_) hB' h') h
      rcases Nat.lt_or_ge j k with h1 | h1
      · rw [getD_set_ne true (show k ≠ j by omega)]; exact hk j h1
      · obtain rfl : j = k := by omega
        rcases Nat.lt_or_ge j listed.size with h2 | h2
        · simp [h2]
        · simp [h2]
theorem flat_split {all cs : List Nat} (hn : all.Nodup) (hc : cs.Nodup) (hs : ∀ c ∈ cs, c ∈ all) (m : Nat → List It) : (all.flatMap m).Perm ((cs.map m).flatten ++ (all.filter fun c => !cs.contains c).flatMap m) := by
  have h1 : (all.filter fun c => cs.contains c).Perm cs := by
    refine (List.perm_ext_iff_of_nodup (hn.filter _) hc).2 fun c => ?_
    simp only [List.mem_filter, List.contains_iff_mem]
    exact ⟨fun h => h.2, fun h => ⟨hs c h, h⟩⟩
  have h2 := (List.filter_append_perm (fun c => cs.contains c) all).symm
  have h3 := (h2.trans (h1.append_right _)).flatMap_right m
  rw [List.flatMap_append] at h3
  rw [← List.flatMap_def]
  exact h3
theorem rest_same {all cs : List Nat} (m : Nat → List It) (Ms : List (List It)) : (all.filter fun c => !cs.contains c).flatMap (updL m cs Ms) = (all.filter fun c => !cs.contains c).flatMap m := by
  rw [List.flatMap_def, List.flatMap_def, map_updL]
  intro d hd
  have := (List.mem_filter.1 hd).2
  simpa using this
theorem wpAny_of_M {all : List Nat} (hn : all.Nodup) (hcs : ∀ i, (cls i).Nodup ∧ ∀ c ∈ cls i, c ∈ all) {Q : Act → (Nat → List It) → Prop} {Q' : Exit → Act → World → Prop} (hQ : ∀ a m w, Sat E.B E.S E.T (Hp B0 all m) ro w → Q a m → Q' .normal a w) :
    ∀ (fuel : Nat) (listed : Array Bool) (a : Act) (m : Nat → List It) (w : World), Sat E.B E.S E.T (Hp B0 all m) ro w → wpAnyM P E B0 ro ops cls tbl md Q fuel listed a m → wpAny P md ops Q' fuel listed a w
  | 0, _, _, _, _, hw, h => ⟨h.1, hQ _ _ _ hw h.2⟩
  | fuel + 1, listed, a, m, w, hw, h => ⟨fun h0 => hQ _ _ _ hw (h.1 h0), fun i hi => by
    obtain ⟨_, o, ho, _⟩ := mem_ready.1 hi
    obtain ⟨hs, hk⟩ := h.2 i hi o ho
    have ih := wpAny_of_M hn hcs hQ fuel (listed.setIfInBounds i true)
    unfold wpOp
    simp only [ho]
    unfold safeM at hs
    unfold outM at hk
    split
    · rename_i hwt
      simp only [hwt, if_true] at hs hk
      refine .inl ?_
      by_cases hc : cls i = []
      · simp only [hc, if_true] at hs hk
        obtain ⟨v, hv⟩ := hs
        unfold Oper.wp
        rw [hv _ w hw]
        exact ih _ _ _ hw (hk v m ⟨hv, rfl⟩)
      · simp only [hc, if_false] at hs hk
        have hp1 : (Hp B0 all m).Perm (((cls i).map m).flatten ++ (B0 ++ (all.filter fun c => !(cls i).contains c).flatMap m)) := by
          unfold Hp
          exact ((flat_split hn (hcs i).1 (hcs i).2 m).append_left B0).trans (by rw [← List.append_assoc, ← List.append_assoc]; exact List.perm_append_comm.append_right _)
        have hp2 : ∀ Ms : List (List It), Ms.length = (cls i).length → (Ms.flatten ++ (B0 ++ (all.filter fun c => !(cls i).contains c).flatMap m)).Perm (Hp B0 all (updL m (cls i) Ms)) := fun Ms hl => by
          unfold Hp
          refine List.Perm.trans ?_ ((flat_split hn (hcs i).1 (hcs i).2 (updL m (cls i) Ms)).append_left B0).symm
          rw [flat_updL (hcs i).1 hl, rest_same, ← List.append_assoc, ← List.append_assoc]
          exact List.perm_append_comm.append_right _
        have h1 := hs.2 _ w (hw.perm hp1)
        unfold Oper.wp
        generalize (execOp a.eval o).run P w = r at h1
        cases r with
        | ok n w' =>
          cases n <;> simp only [outcU] at h1 <;> simp only [Oper.upon] <;> first | exact h1.elim | skip
          case value u => obtain ⟨M, ⟨Ms, h2, hl, rfl⟩, h3⟩ := h1; exact ih _ _ _ (h3.perm (hp2 Ms hl)) (hk _ _ ⟨Ms, h2, hl, rfl⟩)
          case skip => obtain ⟨M, ⟨Ms, h2, hl, rfl⟩, h3⟩ := h1; exact ih _ _ _ (h3.perm (hp2 Ms hl)) (hk _ _ ⟨Ms, h2, hl, rfl⟩)
          case enter f args =>
            obtain ⟨rfl, h2⟩ := h1
            refine h2.mono fun e w'' ⟨v, M, he, ⟨Ms, h3, hl, hM⟩, h4⟩ => ?_
            subst he; subst hM
            exact ih _ _ _ (h4.perm (hp2 Ms hl)) (hk _ _ ⟨Ms, h3, hl, rfl⟩)
        | halt x w' => simp only [outcU] at h1
    · rename_i hwt
      simp only [hwt] at hk
      exact ih _ _ _ hw (hk undef m ⟨rfl, rfl⟩)⟩
inductive HdM (P : Program) (N : Nat) (E : Env) (B0 : List It) (ro : List Ro) (ops : Array Oper) (cls : Nat → List Nat) (tbl : Nat → List (List It) → Value → List (List It) → Prop) (K : List (Nat × Value) → (Nat → List It) → Prop) : Nat → List Oper → List (Nat × Value) → (Nat → List It) → Prop
  | nil {k fr m} (h : K fr m) : HdM P N E B0 ro ops cls tbl K k [] fr m
  | val {k fr m op ty pos af rest d v g} (hd : Nat.ble (d + 1) N = true) (hc : cls k = []) (hg : GOk ops fr g) (hv : Pv P ⟨fr, B0, ro⟩ op v) (h : HdM P N E B0 ro ops cls tbl K (k + 1) rest ((d, v) :: fr) m) :
      HdM P N E B0 ro ops cls tbl K k (⟨some d, op, ty, pos, af, g⟩ :: rest) fr m
  | eff {k fr m dst op ty pos af rest cs Ls g} (hc : cls k = cs) (hne : cs ≠ []) (hm : cs.map m = Ls) (hd : dstOk dst N = true) (hg : GOk ops fr g) (ho : ∀ a, Holds N fr a → Outc P E B0 ro ⟨dst, op, ty, pos, af, g⟩ a Ls.flatten (fun v M => ∃ Ms, tbl k Ls v Ms ∧ Ms.length = cs.length ∧ M = Ms.flatten))
      (hin : ∃ v Ms, tbl k Ls v Ms ∧ Ms.length = cs.length) (h : ∀ v Ms, tbl k Ls v Ms → Ms.length = cs.length → HdM P N E B0 ro ops cls tbl K (k + 1) rest (putF dst v fr) (updL m cs Ms)) : HdM P N E B0 ro ops cls tbl K k (⟨dst, op, ty, pos, af, g⟩ :: rest) fr m
  | skip {k fr m d op ty pos af rest j s b c} (hg : gslot ops j = some s) (hs : fget fr s = some (.bool b)) (hb : (b == c) = false) (hd : Nat.ble (d + 1) N = true) (h : HdM P N E B0 ro ops cls tbl K (k + 1) rest ((d, undef) :: fr) m) :
      HdM P N E B0 ro ops cls tbl K k (⟨some d, op, ty, pos, af, some (j, c)⟩ :: rest) fr m
  | skipu {k fr m d op ty pos af rest j s c} (hg : gslot ops j = some s) (hs : fget fr s = some undef) (hd : Nat.ble (d + 1) N = true) (h : HdM P N E B0 ro ops cls tbl K (k + 1) rest ((d, undef) :: fr) m) :
      HdM P N E B0 ro ops cls tbl K k (⟨some d, op, ty, pos, af, some (j, c)⟩ :: rest) fr m
  | dec {k fr m rest s} {p : Prop} {dd : Decidable p} (hs : fget fr s = some (.bool (@decide p dd))) (ht : p → HdM P N E B0 ro ops cls tbl K k rest ((s, .bool true) :: fr) m) (hf : ¬p → HdM P N E B0 ro ops cls tbl K k rest ((s, .bool false) :: fr) m) :
      HdM P N E B0 ro ops cls tbl K k rest fr m
theorem HdM.sound {N : Nat} {K : List (Nat × Value) → (Nat → List It) → Prop} {k : Nat} {l : List Oper} {fr : List (Nat × Value)} {m : Nat → List It} (h : HdM P N E B0 ro ops cls tbl K k l fr m) (hw0 : ∃ F w, Sat E.B E.S E.T (B0 ++ F) ro w) {Q : Act → (Nat → List It) → Prop}
    (hQ : ∀ fr a m, K fr m → Holds N fr a → Q a m) : (∀ j, j < l.length → l[j]? = ops[k + j]?) → ∀ a, Holds N fr a → wpM P E B0 ro ops cls tbl Q l k a m := by
  have shift : ∀ {o : Oper} {l : List Oper} {k : Nat}, (∀ j, j < (o :: l).length → (o :: l)[j]? = ops[k + j]?) → ops[k]? = some o ∧ ∀ j, j < l.length → l[j]? = ops[k + 1 + j]? := fun h =>
    ⟨by simpa using (h 0 (by simp)).symm, fun j hj => by have := h (j + 1) (by simp; omega); simpa [Nat.add_assoc, Nat.add_comm 1 j] using this⟩
  induction h with
  | nil h => exact fun _ a ha => hQ _ a _ h ha
  | @val k fr m op ty pos af rest d v g hd hc hg hv _ ih =>
    intro hl a ha o ho
    obtain ⟨h0, hl'⟩ := shift hl
    rw [h0] at ho
    obtain rfl := Option.some.inj ho
    have hpv : PV P E B0 ro ⟨some d, op, ty, pos, af, g⟩ a v := fun F w hw => hv N E a w _ _ _ _ _ ⟨ha, hw.left⟩
    unfold safeM outM
    simp only [hg.wanted ha, if_true, hc]
    refine ⟨⟨v, hpv⟩, fun v' m' ⟨hv', hm'⟩ => ?_⟩
    subst hm'
    obtain ⟨F, w, hw⟩ := hw0
    have e : v' = v := by
      have h1 := hpv F w hw
      have h2 := hv' F w hw
      rw [h1] at h2
      injection h2 with h2 _
      injection h2 with h2
      exact h2.symm
    subst e
    exact ih hl' _ (ha.put (Nat.le_of_ble_eq_true hd) _)
  | @eff k fr m dst op ty pos af rest cs Ls g hc hne hm hd hg ho hin _ ih =>
    intro hl a ha o ho'
    obtain ⟨h0, hl'⟩ := shift hl
    rw [h0] at ho'
    obtain rfl := Option.some.inj ho'
    unfold safeM outM
    simp only [hg.wanted ha, if_true, hc, hne, if_false, hm]
    refine ⟨⟨hin, ho a ha⟩, fun v' m' ⟨Ms, hv', hlen, hm'⟩ => ?_⟩
    subst hm'
    exact ih v' Ms hv' hlen hl' _ (ha.putF hd _)
  | @skip k fr m d op ty pos af rest j s b c hg hs hb hd _ ih =>
    intro hl a ha o ho
    obtain ⟨h0, hl'⟩ := shift hl
    rw [h0] at ho
    obtain rfl := Option.some.inj ho
    have hwt : ¬ Region.wanted (⟨some d, op, ty, pos, af, some (j, c)⟩ : Oper) (yielded ops a.tmps) = true := by simp [Region.wanted, yielded_of ha hg hs]; simpa using hb
    unfold safeM outM
    simp only [hwt]
    refine ⟨trivial, fun v' m' ⟨hv', hm'⟩ => ?_⟩
    subst hv'; subst hm'
    exact ih hl' _ (ha.put (Nat.le_of_ble_eq_true hd) _)
  | @skipu k fr m d op ty pos af rest j s c hg hs hd _ ih =>
    intro hl a ha o ho
    obtain ⟨h0, hl'⟩ := shift hl
    rw [h0] at ho
    obtain rfl := Option.some.inj ho
    have hwt : ¬ Region.wanted (⟨some d, op, ty, pos, af, some (j, c)⟩ : Oper) (yielded ops a.tmps) = true := by simp [Region.wanted, yielded_undef ha hg hs]
    unfold safeM outM
    simp only [hwt]
    refine ⟨trivial, fun v' m' ⟨hv', hm'⟩ => ?_⟩
    subst hv'; subst hm'
    exact ih hl' _ (ha.put (Nat.le_of_ble_eq_true hd) _)
  | @dec k fr m rest s p _ hs _ _ iht ihf =>
    intro hl a ha
    by_cases hp : p
    · exact iht hp hl a (ha.same hs (by simp [hp]))
    · exact ihf hp hl a (ha.same hs (by simp [hp]))
def wpAnyLM (P : Program) (E : Env) (B0 : List It) (ro : List Ro) (ops : Array Oper) (cls : Nat → List Nat) (tbl : Nat → List (List It) → Value → List (List It) → Prop) (md : Region.Mode) (n : Nat) (L : Array Bool → Act → (Nat → List It) → Prop) : Nat → Array Bool → Act → (Nat → List It) → Prop
  | 0, listed, a, m => L listed a m
  | f + 1, listed, a, m => Region.ready md ops listed ≠ [] ∧ ∀ i ∈ Region.ready md ops listed, i < n ∧ rOpM P E B0 ro ops cls tbl i (wpAnyLM P E B0 ro ops cls tbl md n L f (listed.setIfInBounds i true)) a m
theorem wpAny_of_LM {all : List Nat} (hn : all.Nodup) (hcs : ∀ i, (cls i).Nodup ∧ ∀ c ∈ cls i, c ∈ all) {n g : Nat} {L : Array Bool → Act → (Nat → List It) → Prop} {Q' : Exit → Act → World → Prop}
    (hL : ∀ listed a m w, Sat E.B E.S E.T (Hp B0 all m) ro w → L listed a m → wpAny P md ops Q' g listed a w) :
    ∀ (f : Nat) (listed : Array Bool) (a : Act) (m : Nat → List It) (w : World), Sat E.B E.S E.T (Hp B0 all m) ro w → wpAnyLM P E B0 ro ops cls tbl md n L f listed a m → wpAny P md ops Q' (f + g) listed a w
  | 0, _, _, _, _, hw, h => by rw [Nat.zero_add]; exact hL _ _ _ _ hw h
  | f + 1, listed, a, m, w, hw, h => by
    rw [show f + 1 + g = (f + g) + 1 by omega]
    refine ⟨fun h0 => absurd h0 h.1, fun i hi => ?_⟩
    obtain ⟨_, o, ho, _⟩ := mem_ready.1 hi
    obtain ⟨hs, hk⟩ := (h.2 i hi).2 o ho
    have ih := wpAny_of_LM (n := n) hn hcs hL f (listed.setIfInBounds i true)
    unfold wpOp
    simp only [ho]
    unfold safeM at hs
    unfold outM at hk
    split
    · rename_i hwt
      simp only [hwt, if_true] at hs hk
      refine .inl ?_
      by_cases hc : cls i = []
      · simp only [hc, if_true] at hs hk
        obtain ⟨v, hv⟩ := hs
        unfold Oper.wp
        rw [hv _ w hw]
        exact ih _ _ _ hw (hk v m ⟨hv, rfl⟩)
      · simp only [hc, if_false] at hs hk
        have hp1 : (Hp B0 all m).Perm (((cls i).map m).flatten ++ (B0 ++ (all.filter fun c => !(cls i).contains c).flatMap m)) := by
          unfold Hp
          exact ((flat_split hn (hcs i).1 (hcs i).2 m).append_left B0).trans (by rw [← List.append_assoc, ← List.append_assoc]; exact List.perm_append_comm.append_right _)
        have hp2 : ∀ Ms : List (List It), Ms.length = (cls i).length → (Ms.flatten ++ (B0 ++ (all.filter fun c => !(cls i).contains c).flatMap m)).Perm (Hp B0 all (updL m (cls i) Ms)) := fun Ms hl => by
          unfold Hp
          refine List.Perm.trans ?_ ((flat_split hn (hcs i).1 (hcs i).2 (updL m (cls i) Ms)).append_left B0).symm
          rw [flat_updL (hcs i).1 hl, rest_same, ← List.append_assoc, ← List.append_assoc]
          exact List.perm_append_comm.append_right _
        have h1 := hs.2 _ w (hw.perm hp1)
        unfold Oper.wp
        generalize (execOp a.eval o).run P w = r at h1
        cases r with
        | ok n w' =>
          cases n <;> simp only [outcU] at h1 <;> simp only [Oper.upon] <;> first | exact h1.elim | skip
          case value u => obtain ⟨M, ⟨Ms, h2, hl, rfl⟩, h3⟩ := h1; exact ih _ _ _ (h3.perm (hp2 Ms hl)) (hk _ _ ⟨Ms, h2, hl, rfl⟩)
          case skip => obtain ⟨M, ⟨Ms, h2, hl, rfl⟩, h3⟩ := h1; exact ih _ _ _ (h3.perm (hp2 Ms hl)) (hk _ _ ⟨Ms, h2, hl, rfl⟩)
          case enter f args =>
            obtain ⟨rfl, h2⟩ := h1
            refine h2.mono fun e w'' ⟨v, M, he, ⟨Ms, h3, hl, hM⟩, h4⟩ => ?_
            subst he; subst hM
            exact ih _ _ _ (h4.perm (hp2 Ms hl)) (hk _ _ ⟨Ms, h3, hl, rfl⟩)
        | halt x w' => simp only [outcU] at h1
    · rename_i hwt
      simp only [hwt] at hk
      exact ih _ _ _ hw (hk undef m ⟨rfl, rfl⟩)
theorem wpAnyLM_first {n : Nat} {L : Array Bool → Act → (Nat → List It) → Prop} {i : Nat} {oi : Oper} (hi : ops[i]? = some oi) (hsel : ∀ (j : Nat) (o : Oper) cs b, ops[j]? = some o → o.op ≠ .select cs b)
    (htw : ∀ listed, Closed md ops listed → HeadInv md ops n listed → ∀ i, i < n → listed.getD i true = false → ∀ t, n ≤ t → t ∉ Region.ready md ops listed) (hin : i < n) (hdone : ∀ listed a m, L listed a m → ∀ j ∈ Region.ready md ops listed, n ≤ j)
    (hcls : ∀ (j : Nat) (listed : Array Bool), j ≠ i → Closed md ops listed → (∀ k, k < i → listed.getD k true = true) → listed.getD i true = false → j ∈ Region.ready md ops listed → ∀ d ∈ cls j, d ∉ cls i) :
    ∀ (f : Nat) (listed : Array Bool) (a : Act) (m : Nat → List It), Closed md ops listed → HeadInv md ops n listed → (∀ k, k < i → listed.getD k true = true) →
      (∀ j oj, ops[j]? = some oj → j ≠ i → listed.getD j true = false → (∀ e ∈ oj.after, Region.binds md e = true → e.on ≠ i) → oi.apart ops oj = true) →
      i ∈ Region.ready md ops listed → rOpM P E B0 ro ops cls tbl i (wpAnyLM P E B0 ro ops cls tbl md n L f (listed.setIfInBounds i true)) a m → wpAnyLM P E B0 ro ops cls tbl md n L (f + 1) listed a m := by
  intro f
  induction f with
  | zero =>
    intro listed a m hcl inv _ _ hr H
    have hun := (mem_ready.1 hr).1
    refine ⟨fun h => (by rw [h] at hr; cases hr), fun j hj => ?_⟩
    have hjn : j < n := by
      rcases Nat.lt_or_ge j n with h | h
      · exact h
      · exact absurd hj (htw listed hcl inv i hin hun j h)
    refine ⟨hjn, ?_⟩
    by_cases hji : j = i
    · subst hji; exact H
    · have hjr := ready_mono hj hji
      obtain ⟨hs, ho⟩ := H oi hi
      obtain ⟨v, m', hv⟩ := safe_outM hs
      have := hdone _ _ _ (ho v m' hv) j hjr
      omega
  | succ f ih =>
    intro listed a m hcl inv hpre hfree hr H
    have hun := (mem_ready.1 hr).1
    refine ⟨fun h => (by rw [h] at hr; cases hr), fun j hj => ?_⟩
    have hjn : j < n := by
      rcases Nat.lt_or_ge j n with h | h
      · exact h
      · exact absurd hj (htw listed hcl inv i hin hun j h)
    refine ⟨hjn, ?_⟩
    by_cases hji : j = i
    · subst hji; exact H
    · obtain ⟨hjun, oj, hoj, hall⟩ := mem_ready.1 hj
      have hnot : ∀ e ∈ oj.after, Region.binds md e = true → e.on ≠ i := fun e he hb heq => by
        have h1 := hall e he hb
        rw [heq, getD_both hun] at h1
        cases h1
      have h1 := rOpM_mono (fun a' m' h => (h.2 j (ready_mono hj hji)).2) H
      have f1 := hfree j oj hoj hji hjun hnot
      have f2 := hcls j listed hji hcl hpre hun hj
      have h2 := rOp_swapM hi hoj f1 f2 (fun cs b => hsel i oi cs b hi) (fun cs b => hsel j oj cs b hoj) h1
      refine rOpM_mono (fun a' m' h3 => ih (listed.setIfInBounds j true) a' m' (hcl.set hj) (inv.set hj hjn) (fun k hk => ?_) (fun k ok hk hki hun hno => ?_) (ready_mono hr (Ne.symm hji)) ?_) h2
      · by_cases hjk : j = k
        · subst hjk
          rcases Nat.lt_or_ge j listed.size with h2 | h2
          · simp [h2]
          · simp [h2]
        · rw [getD_set_ne true hjk]; exact hpre k hk
      · refine hfree k ok hk hki ?_ hno
        by_cases hjk : j = k
        · subst hjk; exact hjun
        · rw [getD_set_ne true hjk] at hun; exact hun
      · rw [Array.setIfInBounds_comm _ _ hji]
        exact h3
theorem wpAnyLM_lex {n g : Nat} {Q : Act → (Nat → List It) → Prop} (hs : Region.noSelect ops = true) (hcl : clsM md ops cls = true) (hsk : Region.sinkB md ops n = true) (hch : Region.chainB md ops n = true) (hn : n < ops.size) :
    ∀ (l : List Oper) (k : Nat) (listed : Array Bool) (a : Act) (m : Nat → List It), Closed md ops listed → HeadInv md ops n listed → (∀ j, j < l.length → l[j]? = ops[k + j]?) → k + l.length = n → (∀ j, j < k → listed.getD j true = true) →
    Region.lexHead md ops g l.length k listed = true → wpM P E B0 ro ops cls tbl Q l k a m → wpAnyLM P E B0 ro ops cls tbl md n (fun listed' a' m' => Region.seqB md ops g n listed' = true ∧ Q a' m') l.length listed a m
  | [], k, listed, a, m, _, _, _, hk, _, hB, h => by
    have : k = n := by simpa using hk
    subst this
    exact ⟨by simpa [Region.lexHead] using hB, h⟩
  | o :: l, k, listed, a, m, hC, inv, hl, hkn, hk, hB, h => by
    have h0 : ops[k]? = some o := by simpa using (hl 0 (by simp)).symm
    simp only [List.length_cons, Region.lexHead, Bool.and_eq_true] at hB
    obtain ⟨⟨hr, hf⟩, hB'⟩ := hB
    have hr' : k ∈ Region.ready md ops listed := by simpa using hr
    have hlt : k < n := by simp only [List.length_cons] at hkn; omega
    refine wpAnyLM_first h0 (Region.noSelect_spec hs) (fun listed _ inv i hi hun t ht => tail_waits hsk hch hn inv _ i rfl hi hun t ht) hlt (fun listed' a' m' hL => seqB_ready hL.1) (fun j ld hjk hCl hpre hun hj d hd hdi => ?_) l.length listed a m hC inv hk (fun j oj hj hjk hun hno => Region.free_spec h0 hf j oj hj hjk hun hno) hr' ?_
    · obtain ⟨hjun, oj, hoj, hall⟩ := mem_ready.1 hj
      have hle := lex_lt hpre hjun
      have hks : k < ld.size := by
        rcases Nat.lt_or_ge k ld.size with h' | h'
        · exact h'
        · simp [Array.getD, Nat.not_lt.2 h'] at hun
      obtain ⟨o2, h2, e, he, hb, hne⟩ := reach_not hCl hun hks _ _ (clsM_spec hcl hoj (show k < j by omega) hd hdi)
      rw [hoj] at h2
      obtain rfl := Option.some.inj h2
      rw [hall e he hb] at hne; cases hne
    · refine rOpM_mono (fun a' m' h' => wpAnyLM_lex hs hcl hsk hch hn l (k + 1) _ a' m' (hC.set hr') (inv.set hr' hlt) (fun j hj => by have := hl (j + 1) (by simp; omega); simpa [Nat.add_assoc, Nat.add_comm 1 j] using this) (by simp only [List.length_cons] at hkn; omega) (fun j hj => ?_) hB' h') h
      rcases Nat.lt_or_ge j k with h1 | h1
      · rw [getD_set_ne true (show k ≠ j by omega)]; exact hk j h1
      · obtain rfl : j = k := by omega
        rcases Nat.lt_or_ge j listed.size with h2 | h2
        · simp [h2]
        · simp [h2]
/-- a drawn region of operations that change memory, and behind operation n a tail in one order -/
theorem wc_regMT {N : Nat} {fr : List (Nat × Value)} {hp : List It} {Kn Kr : St → Prop} {Kx : List (Nat × (St → Prop))} {id : Nat} {l : List Oper} (n : Nat) (all : List Nat) (cls : Nat → List Nat) (tbl : Nat → List (List It) → Value → List (List It) → Prop) (B0 : List It) (m0 : Nat → List It)
    (hm : P.follows .mixedOrders = true) (hB : Region.lexTailB .any l.toArray n = true) (hcl : clsM .any l.toArray cls = true) (hn : all.Nodup) (hcs : ∀ i, (cls i).Nodup ∧ ∀ c ∈ cls i, c ∈ all) (hperm : hp.Perm (Hp B0 all m0))
    (h : HdM P N E B0 ro l.toArray cls tbl (fun fr m => ∀ H, H = Hp B0 all m → WO P N E l.toArray (l.drop n) ⟨fr, H, ro⟩ Kn) 0 (l.take n) fr m0) : WC P N E (.region id l.toArray true) ⟨fr, hp, ro⟩ Kn Kx Kr := fun a w ok => by
  simp only [Region.lexTailB, Bool.and_eq_true, decide_eq_true_eq] at hB
  obtain ⟨⟨⟨⟨hsel, hnn⟩, hs⟩, hc⟩, hlex⟩ := hB
  have hn' : n < l.length := by simpa using hnn
  have htl : (l.take n).length = n := by simp; omega
  have hdl : (l.drop n).length = l.toArray.size - n := by simp
  have inv0 : HeadInv .any l.toArray n (Array.replicate l.toArray.size false) :=
    ⟨by simp, fun j oj _ hl => (by rw [getD_replicate_false] at hl; cases hl), fun t _ ht => getD_in (by simpa using ht) (getD_replicate_false _ _)⟩
  have hw : Sat E.B E.S E.T (Hp B0 all m0) ro _ := (ok.s.drawn (w.drawn + 1)).perm hperm
  refine wp_region_any hm ?_
  have H := wpAnyLM_lex (P := P) (E := E) (B0 := B0) (ro := ro) (tbl := tbl) (md := .any) (g := l.toArray.size - n) hsel hcl hs hc hnn (l.take n) 0 (Array.replicate l.toArray.size false) a m0 closed0 inv0 (fun j hj => by
      have hj' : j < n := by rw [htl] at hj; exact hj
      simp [hj']) (by simpa using htl) (fun j hj => by omega) (by rw [htl]; exact hlex)
    (h.sound (Q := fun a m => ∃ fr', WO P N E l.toArray (l.drop n) ⟨fr', Hp B0 all m, ro⟩ Kn ∧ Holds N fr' a) ⟨_, _, hw⟩ (fun fr a m hk ha => ⟨fr, hk _ rfl, ha⟩) (fun j hj => by
      have hj' : j < n := by rw [htl] at hj; exact hj
      simp [hj']) a ok.h)
  have := wpAny_of_LM (ro := ro) (tbl := tbl) hn hcs (g := l.toArray.size - n) (Q' := post N E Kn Kx Kr) (fun listed a' m w' hsat hL => by
    obtain ⟨h1, fr', h2, h3⟩ := hL
    have := wpAny_of_seq (md := .any) (Q' := post N E Kn Kx Kr) (l.drop n) n listed a' w' (fun j => by simp [List.getElem?_drop]) (by rw [hdl]; exact h1) (h2 _ (fun st' a w hk ok' => ⟨st', hk, ok'⟩) a' w' ⟨h3, hsat⟩)
    rwa [hdl] at this) _ _ _ _ _ hw H
  rw [htl, show n + (l.toArray.size - n) = l.toArray.size by omega] at this
  exact this
/-- a region that one operation cuts in two: everything ahead of it comes ahead, everything behind it behind -/
def pivB (md : Region.Mode) (ops : Array Oper) (n : Nat) : Bool := decide (n < ops.size) && Region.sinkB md ops n && ((List.range ops.size).all fun t => decide (t ≤ n) || reachB md ops n ops.size t)
theorem piv_waits {n : Nat} {listed : Array Bool} (hp : pivB md ops n = true) (hC : Closed md ops listed) (inv : HeadInv md ops n listed) :
    ∀ (d i : Nat), n - i = d → i < n → listed.getD i true = false → ∀ t, n ≤ t → t ∉ Region.ready md ops listed := by
  simp only [pivB, Bool.and_eq_true, decide_eq_true_eq] at hp
  obtain ⟨⟨hn, hs⟩, hr⟩ := hp
  intro d
  induction d using Nat.strongRecOn with
  | _ d ih =>
    intro i hd hi hun t ht hrd
    obtain ⟨_, ot, hot, hall⟩ := mem_ready.1 hrd
    have htlt : t < ops.size := (Array.getElem?_eq_some_iff.1 hot).1
    by_cases htn : t = n
    · subst htn
      have h1 := List.all_eq_true.1 hs i (List.mem_range.2 hi)
      obtain ⟨j, hj, hj2⟩ := List.any_eq_true.1 h1
      simp only [Bool.and_eq_true, decide_eq_true_eq] at hj2
      obtain ⟨oj, hoj, e, he, hb, hon⟩ := Region.waitsFor_spec hj2.2
      have hjle : j ≤ t := by have := List.mem_range.1 hj; omega
      by_cases hjt : j = t
      · subst hjt
        have : oj = ot := Option.some.inj (hoj.symm.trans hot)
        subst this
        have h2 := hall e he hb
        rw [hon, getD_both hun] at h2
        cases h2
      · cases hl : listed.getD j false with
        | true =>
          have h2 := inv.closed j oj hoj hl e he hb
          rw [hon, getD_both hun] at h2
          cases h2
        | false =>
          have hjs : j < listed.size := by rw [inv.size]; omega
          exact ih (t - j) (by omega) j rfl (by omega) (getD_in hjs hl) t (Nat.le_refl _) hrd
    · have h1 := List.all_eq_true.1 hr t (List.mem_range.2 htlt)
      simp only [Bool.or_eq_true, decide_eq_true_eq] at h1
      have h2 : reachB md ops n ops.size t = true := by rcases h1 with h1 | h1 <;> first | omega | exact h1
      obtain ⟨o2, h3, e, he, hb, hne⟩ := reach_not hC (inv.tail n (Nat.le_refl _) hn) (by rw [inv.size]; exact hn) _ _ h2
      rw [hot] at h3
      obtain rfl := Option.some.inj h3
      rw [hall e he hb] at hne; cases hne
theorem wpAnyLM_lexP {n g : Nat} {Q : Act → (Nat → List It) → Prop} (hs : Region.noSelect ops = true) (hcl : clsM md ops cls = true) (hp : pivB md ops n = true) :
    ∀ (l : List Oper) (k : Nat) (listed : Array Bool) (a : Act) (m : Nat → List It), Closed md ops listed → HeadInv md ops n listed → (∀ j, j < l.length → l[j]? = ops[k + j]?) → k + l.length = n → (∀ j, j < k → listed.getD j true = true) →
    Region.lexFrom md ops (l.length + g) k listed = true → wpM P E B0 ro ops cls tbl Q l k a m → wpAnyLM P E B0 ro ops cls tbl md n (fun listed' a' m' => Region.lexFrom md ops g n listed' = true ∧ Closed md ops listed' ∧ HeadInv md ops n listed' ∧ (∀ j, j < n → listed'.getD j true = true) ∧ Q a' m') l.length listed a m
  | [], k, listed, a, m, hC, inv, _, hk, hpre, hB, h => by
    have : k = n := by simpa using hk
    subst this
    exact ⟨by simpa using hB, hC, inv, hpre, h⟩
  | o :: l, k, listed, a, m, hC, inv, hl, hkn, hk, hB, h => by
    have h0 : ops[k]? = some o := by simpa using (hl 0 (by simp)).symm
    rw [List.length_cons, show l.length + 1 + g = (l.length + g) + 1 by omega] at hB
    simp only [Region.lexFrom, Bool.and_eq_true] at hB
    obtain ⟨⟨hr, hf⟩, hB'⟩ := hB
    have hr' : k ∈ Region.ready md ops listed := by simpa using hr
    have hlt : k < n := by simp only [List.length_cons] at hkn; omega
    refine wpAnyLM_first h0 (Region.noSelect_spec hs) (fun listed hC inv i hi hun t ht => piv_waits hp hC inv _ i rfl hi hun t ht) hlt (fun listed' a' m' hL j hj => lex_lt hL.2.2.2.1 (mem_ready.1 hj).1) (fun j ld hjk hCl hpre hun hj d hd hdi => ?_) l.length listed a m hC inv hk (fun j oj hj hjk hun hno => Region.free_spec h0 hf j oj hj hjk hun hno) hr' ?_
    · obtain ⟨hjun, oj, hoj, hall⟩ := mem_ready.1 hj
      have hle := lex_lt hpre hjun
      have hks : k < ld.size := by
        rcases Nat.lt_or_ge k ld.size with h' | h'
        · exact h'
        · simp [Array.getD, Nat.not_lt.2 h'] at hun
      obtain ⟨o2, h2, e, he, hb, hne⟩ := reach_not hCl hun hks _ _ (clsM_spec hcl hoj (show k < j by omega) hd hdi)
      rw [hoj] at h2
      obtain rfl := Option.some.inj h2
      rw [hall e he hb] at hne; cases hne
    · refine rOpM_mono (fun a' m' h' => wpAnyLM_lexP hs hcl hp l (k + 1) _ a' m' (hC.set hr') (inv.set hr' hlt) (fun j hj => by have := hl (j + 1) (by simp; omega); simpa [Nat.add_assoc, Nat.add_comm 1 j] using this) (by simp only [List.length_cons] at hkn; omega) (fun j hj => ?_) hB' h') h
      rcases Nat.lt_or_ge j k with h1 | h1
      · rw [getD_set_ne true (show k ≠ j by omega)]; exact hk j h1
      · obtain rfl : j = k := by omega
        rcases Nat.lt_or_ge j listed.size with h2 | h2
        · simp [h2]
        · simp [h2]
theorem clsM_nil (md : Region.Mode) (ops : Array Oper) : clsM md ops (fun _ => []) = true := by
  unfold clsM
  simp
/-- a drawn region of which operation n, a call, comes behind all ahead of it and ahead of all behind it; what the call leaves may be only read from then on -/
theorem wc_regP {N : Nat} {fr : List (Nat × Value)} {hp F : List It} {Kn Kr : St → Prop} {Kx : List (Nat × (St → Prop))} {id : Nat} {l : List Oper} (n : Nat) (all : List Nat) (cls : Nat → List Nat)
    {f : FuncId} [HasBody P f] {vs : List Value} {L : List It} {R : List Ro} {Post : Value → List It → List Ro → Prop} {args : List Operand} {ats : Array TypeId} {dst : Option Tmp} {ty : TypeId} {pos : String} {af : Array Edge}
    (hF : Fn P f vs.toArray L R Post) (hs : hp.Perm (L ++ F)) (hrs : ∀ r ∈ R, r ∈ ro)
    (hm : P.follows .mixedOrders = true) (hB : Region.lexB .any l.toArray = true) (hP : pivB .any l.toArray n = true) (hcl : clsM .any l.toArray cls = true) (hn : all.Nodup) (hcs : ∀ i, (cls i).Nodup ∧ ∀ c ∈ cls i, c ∈ all)
    (ho : l[n]? = some ⟨dst, .call ⟨.value (.func f), args.toArray, ats⟩, ty, pos, af, none⟩) (hd : dstOk dst N = true)
    (h : HdM P N E hp ro l.toArray (fun _ => []) (fun _ _ _ _ => False) (fun fr' _ => opdL fr' args = some vs ∧ ∀ v L' R', Post v L' R' → ∀ RR, RR = R' ++ ro → ∃ B0 tbl m0, (L' ++ F).Perm (Hp B0 all m0) ∧
      HdM P N E B0 RR l.toArray cls tbl (fun fr m => ∀ H, H = Hp B0 all m → Kn ⟨fr, H, RR⟩) (n + 1) (l.drop (n + 1)) (putF dst v fr') m0) 0 (l.take n) fr (fun _ => [])) : WC P N E (.region id l.toArray true) ⟨fr, hp, ro⟩ Kn Kx Kr := fun a w ok => by
  simp only [Region.lexB, Bool.and_eq_true] at hB
  have hP' := hP
  simp only [pivB, Bool.and_eq_true, decide_eq_true_eq] at hP'
  obtain ⟨⟨hnn, _⟩, hreach⟩ := hP'
  have hn' : n < l.length := by simpa using hnn
  have htl : (l.take n).length = n := by simp; omega
  have hdl : (l.drop (n + 1)).length = l.toArray.size - n - 1 := by simp; omega
  have inv0 : HeadInv .any l.toArray n (Array.replicate l.toArray.size false) :=
    ⟨by simp, fun j oj _ hl => (by rw [getD_replicate_false] at hl; cases hl), fun t _ ht => getD_in (by simpa using ht) (getD_replicate_false _ _)⟩
  have hw : Sat E.B E.S E.T (Hp hp [] (fun _ => [])) ro { w with drawn := w.drawn + 1 } := by
    have := ok.s.drawn (w.drawn + 1)
    simpa [Hp] using this
  refine wp_region_any hm ?_
  have H := wpAnyLM_lexP (P := P) (E := E) (B0 := hp) (ro := ro) (cls := fun _ => []) (tbl := fun _ _ _ _ => False) (md := .any) (g := l.toArray.size - n) hB.1 (clsM_nil _ _) hP (l.take n) 0 (Array.replicate l.toArray.size false) a (fun _ => []) closed0 inv0 (fun j hj => by
      have hj' : j < n := by rw [htl] at hj; exact hj
      simp [hj']) (by simpa using htl) (fun j hj => by omega) (by rw [htl, show n + (l.toArray.size - n) = l.toArray.size by omega]; exact hB.2)
    (h.sound (Q := fun a _ => ∃ fr', (opdL fr' args = some vs ∧ ∀ v L' R', Post v L' R' → ∀ RR, RR = R' ++ ro → ∃ B0 tbl m0, (L' ++ F).Perm (Hp B0 all m0) ∧
      HdM P N E B0 RR l.toArray cls tbl (fun fr m => ∀ H, H = Hp B0 all m → Kn ⟨fr, H, RR⟩) (n + 1) (l.drop (n + 1)) (putF dst v fr') m0) ∧ Holds N fr' a) ⟨[], { w with drawn := w.drawn + 1 }, by simpa [Hp] using hw⟩ (fun fr a m hk ha => ⟨fr, hk, ha⟩) (fun j hj => by
      have hj' : j < n := by rw [htl] at hj; exact hj
      simp [hj']) a ok.h)
  have := wpAny_of_LM (ro := ro) (all := []) (tbl := fun _ _ _ _ => False) (by simp) (fun i => ⟨List.nodup_nil, fun c hc => by cases hc⟩) (g := l.toArray.size - n) (Q' := post N E Kn Kx Kr) (fun listed a' m' w' hsat hL => by
    obtain ⟨h1, hC, inv, hpre, fr', ⟨hargs, hk⟩, ha⟩ := hL
    have hsat' : Sat E.B E.S E.T hp ro w' := by simpa [Hp] using hsat
    rw [show l.toArray.size - n = (l.toArray.size - n - 1) + 1 by omega] at h1 ⊢
    simp only [Region.lexFrom, Bool.and_eq_true] at h1
    obtain ⟨⟨hr, hf⟩, h1'⟩ := h1
    have hr' : n ∈ Region.ready .any l.toArray listed := by simpa using hr
    refine ⟨fun h0 => (by rw [h0] at hr'; cases hr'), fun i hi => ?_⟩
    have hin : i = n := by
      obtain ⟨hiun, oi, hoi, hall⟩ := mem_ready.1 hi
      have hge := lex_lt hpre hiun
      rcases Nat.eq_or_lt_of_le hge with h2 | h2
      · exact h2.symm
      · have h3 := List.all_eq_true.1 hreach i (List.mem_range.2 (Array.getElem?_eq_some_iff.1 hoi).1)
        simp only [Bool.or_eq_true, decide_eq_true_eq] at h3
        have h4 : reachB .any l.toArray n l.toArray.size i = true := by rcases h3 with h3 | h3 <;> first | omega | exact h3
        obtain ⟨o2, h5, e, he, hb, hne⟩ := reach_not hC (inv.tail n (Nat.le_refl _) hnn) (by rw [inv.size]; exact hnn) _ _ h4
        rw [hoi] at h5
        obtain rfl := Option.some.inj h5
        rw [hall e he hb] at hne; cases hne
    subst hin
    unfold wpOp
    have ho' : l.toArray[i]? = some ⟨dst, .call ⟨.value (.func f), args.toArray, ats⟩, ty, pos, af, none⟩ := by simpa using ho
    simp only [ho']
    rw [if_pos (by simp [Region.wanted])]
    refine .inl ?_
    unfold Oper.wp
    rw [HasBody.enter w', ha.evalL hargs]
    refine (hF w' (hsat'.start hs hrs)).mono fun e w'' ⟨v, L', R', he, hPo, hS⟩ => ?_
    subst he
    obtain ⟨B0, tbl, m0, hpm, hK⟩ := hk v L' R' hPo _ rfl
    have hw2 : Sat E.B E.S E.T (Hp B0 all m0) (R' ++ ro) w'' := (hsat'.step hs (fun b hb => by
      obtain ⟨r, h1, h2⟩ := mem_blks.1 hb; exact mem_blks.2 ⟨r, hrs r h1, h2⟩) hS).perm hpm
    refine wpAny_of_M (ro := R' ++ ro) (tbl := tbl) (Q := fun a m => ∃ fr', Kn ⟨fr', Hp B0 all m, R' ++ ro⟩ ∧ Holds N fr' a) hn hcs (fun a m w' hs ⟨fr', hk, ha⟩ => ⟨_, hk, ha, hs⟩) _ _ _ m0 _ hw2 ?_
    have := wpAnyM_lex (P := P) (E := E) (B0 := B0) (ro := R' ++ ro) (tbl := tbl) (md := .any) hB.1 hcl (l.drop (i + 1)) (i + 1) (listed.setIfInBounds i true) (a'.put dst v) m0 (hC.set hr') (by simp [inv.size]) (fun j => by simp [List.getElem?_drop]) (fun j hj => by
      rcases Nat.lt_or_ge j i with h1 | h1
      · rw [getD_set_ne true (show i ≠ j by omega)]; exact hpre j h1
      · obtain rfl : j = i := by omega
        rcases Nat.lt_or_ge j listed.size with h2 | h2
        · simp [h2]
        · simp [h2]) (by rw [hdl]; exact h1')
      (hK.sound (Q := fun a m => ∃ fr', Kn ⟨fr', Hp B0 all m, R' ++ ro⟩ ∧ Holds N fr' a) ⟨_, _, hw2⟩ (fun fr a m hk ha => ⟨fr, hk _ rfl, ha⟩) (fun j _ => by simp [List.getElem?_drop]) _ (ha.putF hd v))
    rw [hdl] at this
    exact this) _ _ _ _ _ hw H
  rw [htl, show n + (l.toArray.size - n) = l.toArray.size by omega] at this
  exact this
theorem wc_regM {N : Nat} {fr : List (Nat × Value)} {hp : List It} {Kn Kr : St → Prop} {Kx : List (Nat × (St → Prop))} {id : Nat} {l : List Oper} (all : List Nat) (cls : Nat → List Nat) (tbl : Nat → List (List It) → Value → List (List It) → Prop) (B0 : List It) (m0 : Nat → List It)
    (hm : P.follows .mixedOrders = true) (hB : Region.lexB .any l.toArray = true) (hcl : clsM .any l.toArray cls = true) (hn : all.Nodup) (hcs : ∀ i, (cls i).Nodup ∧ ∀ c ∈ cls i, c ∈ all) (hperm : hp.Perm (Hp B0 all m0))
    (h : HdM P N E B0 ro l.toArray cls tbl (fun fr m => ∀ H, H = Hp B0 all m → Kn ⟨fr, H, ro⟩) 0 l fr m0) : WC P N E (.region id l.toArray true) ⟨fr, hp, ro⟩ Kn Kx Kr := fun a w ok => by
  simp only [Region.lexB, Bool.and_eq_true] at hB
  have hw : Sat E.B E.S E.T (Hp B0 all m0) ro _ := (ok.s.drawn (w.drawn + 1)).perm hperm
  refine wp_region_any hm (wpAny_of_M (ro := ro) (tbl := tbl) (Q := fun a m => ∃ fr', Kn ⟨fr', Hp B0 all m, ro⟩ ∧ Holds N fr' a) hn hcs (fun a m w' hs ⟨fr', hk, ha⟩ => ⟨_, hk, ha, hs⟩) _ _ a m0 _ hw ?_)
  have := wpAnyM_lex (P := P) (E := E) (B0 := B0) (ro := ro) (tbl := tbl) (md := .any) hB.1 hcl l 0 (Array.replicate l.toArray.size false) a m0 closed0 (by simp) (by simp) (fun j hj => by omega) (by simpa using hB.2)
    (h.sound (Q := fun a m => ∃ fr', Kn ⟨fr', Hp B0 all m, ro⟩ ∧ Holds N fr' a) ⟨_, _, hw⟩ (fun fr a m hk ha => ⟨fr, hk _ rfl, ha⟩) (fun j _ => by simp) a ok.h)
  simpa using this
end
def aslL : List (Nat × List Nat) → Nat → List Nat
  | [], _ => []
  | (i, c) :: l, k => bif Nat.beq i k then c else aslL l k
theorem aslL_ok {all : List Nat} : ∀ {l : List (Nat × List Nat)}, (l.all fun p => decide p.2.Nodup && p.2.all all.contains) = true → ∀ i, (aslL l i).Nodup ∧ ∀ c ∈ aslL l i, c ∈ all
  | [], _, _ => ⟨List.nodup_nil, fun c h => by cases h⟩
  | (i, c) :: l, hl, k => by
    simp only [List.all_cons, Bool.and_eq_true, decide_eq_true_eq] at hl
    unfold aslL
    cases hb : Nat.beq i k with
    | true =>
      simp only [cond_true]
      refine ⟨hl.1.1, fun d hd => ?_⟩
      have := List.all_eq_true.1 hl.1.2 d hd
      simpa using this
    | false => simp only [cond_false]; exact aslL_ok hl.2 k
def looks (l : List (Nat × List It)) : List Nat → Option (List (List It))
  | [] => some []
  | c :: cs => match look l c, looks l cs with
    | some M, some Ms => some (M :: Ms)
    | _, _ => none
def setls (l : List (Nat × List It)) : List Nat → List (List It) → List (Nat × List It)
  | c :: cs, M :: Ms => setls (setl l c M) cs Ms
  | _, _ => l
theorem looks_map {l : List (Nat × List It)} : ∀ {cs : List Nat} {Ls : List (List It)}, looks l cs = some Ls → cs.map (fm l) = Ls
  | [], _, h => by simp only [looks, Option.some.injEq] at h; exact h
  | c :: cs, Ls, h => by
    unfold looks at h
    split at h
    · rename_i M Ms h1 h2
      simp only [Option.some.injEq] at h
      subst h
      rw [List.map_cons, looks_map h2]
      unfold fm
      rw [h1]; rfl
    · cases h
theorem fm_setls : ∀ (cs : List Nat) (Ms : List (List It)) (l : List (Nat × List It)), fm (setls l cs Ms) = updL (fm l) cs Ms
  | [], _, _ => by unfold setls updL; rfl
  | _ :: _, [], _ => by unfold setls updL; rfl
  | c :: cs, M :: Ms, l => by
    show fm (setls (setl l c M) cs Ms) = updL (upd (fm l) c M) cs Ms
    rw [fm_setls cs Ms, fm_set]
section
variable {P : Program} {N : Nat} {E : Env} {B0 : List It} {ro : List Ro} {ops : Array Oper} {cls : Nat → List Nat} {tbl : Nat → List (List It) → Value → List (List It) → Prop} {K : List (Nat × Value) → (Nat → List It) → Prop} {k : Nat} {fr : List (Nat × Value)} {l : List (Nat × List It)} {m : Nat → List It} {dst : Option Tmp} {op : Op} {ty : TypeId} {pos : String} {af : Array Edge} {rest : List Oper} {cs : List Nat} {Ls : List (List It)} {g : Option (Nat × Bool)} {j s : Nat} {c : Bool} {p : Prop} {d : Decidable p}
theorem hm_eff (hc : cls k = cs) (hne : cs ≠ []) (hm : looks l cs = some Ls) (hd : dstOk dst N = true) (hg : GOk ops fr g) (ho : ∀ a, Holds N fr a → Outc P E B0 ro ⟨dst, op, ty, pos, af, g⟩ a Ls.flatten (fun v M => ∃ Ms, tbl k Ls v Ms ∧ Ms.length = cs.length ∧ M = Ms.flatten))
    (hin : ∃ v Ms, tbl k Ls v Ms ∧ Ms.length = cs.length) (h : ∀ v Ms, tbl k Ls v Ms → Ms.length = cs.length → HdM P N E B0 ro ops cls tbl K (k + 1) rest (putF dst v fr) (fm (setls l cs Ms))) : HdM P N E B0 ro ops cls tbl K k (⟨dst, op, ty, pos, af, g⟩ :: rest) fr (fm l) :=
  .eff hc hne (looks_map hm) hd hg ho hin (fun v Ms h1 h2 => by rw [← fm_setls]; exact h v Ms h1 h2)
theorem am_gt (hg : gslot ops j = some s) (hs : fget fr s = some (.bool (@decide p d))) (hp' : p) (h : HdM P N E B0 ro ops cls tbl K k (⟨dst, op, ty, pos, af, some (j, c)⟩ :: rest) ((s, .bool true) :: fr) m) : HdM P N E B0 ro ops cls tbl K k (⟨dst, op, ty, pos, af, some (j, c)⟩ :: rest) fr m :=
  .dec hs (fun _ => h) (fun hn => absurd hp' hn)
theorem am_gf (hg : gslot ops j = some s) (hs : fget fr s = some (.bool (@decide p d))) (hp' : ¬p) (h : HdM P N E B0 ro ops cls tbl K k (⟨dst, op, ty, pos, af, some (j, c)⟩ :: rest) ((s, .bool false) :: fr) m) : HdM P N E B0 ro ops cls tbl K k (⟨dst, op, ty, pos, af, some (j, c)⟩ :: rest) fr m :=
  .dec hs (fun h => absurd h hp') (fun _ => h)
theorem outc_bsl {T : TypeId} {n e sz by_ : Nat} {l : List (Nat × Operand)} {xs : List (List Value)} [hT : TSl P T e sz by_] (hr : Rws' fr sz 0 l xs) (hn : Nat.beq l.length n = true) (hz : Nat.ble (n * sz) 1000000 = true) (hm : Nat.ble n 1000000 = true) :
    ∀ a, Holds N fr a → Outc P E B0 ro ⟨dst, .buildSlice T n l.toArray, ty, pos, af, g⟩ a [] (fun v M => ∃ b, v = .slice (some ⟨b, 0, none⟩) n n ∧ M = [.own e sz (some ⟨b, 0, none⟩) n n xs]) := fun a hh F w hw => by
  obtain ⟨i, z, h1, h2, h3, h4, h5, h6, h7⟩ := sl_und hT.h
  have hn := Nat.eq_of_beq_eq_true hn
  have hz := Nat.le_of_ble_eq_true hz
  have hm := Nat.le_of_ble_eq_true hm
  have hfill := fill_rws hr hh ((List.range (n * sz)).map fun j => z.cells[j % z.cells.size]!) (by simp [hn])
  have hrows := hr.ok
  simp only [Nat.zero_mul, List.take_zero, List.nil_append] at hfill
  have ex : (execOp a.eval ⟨dst, .buildSlice T n l.toArray, ty, pos, af, g⟩).run P w = .ok (.value (.slice (some ⟨w.heap.size, 0, none⟩) n n)) (w.alloc (.cells xs.flatten.toArray e)) := by
    have hbig : ¬ n * sz > 2 ^ 24 := by omega
    have e0 : (List.map (fun (x : Nat × Operand) => match x with | (i, x) => (i, a.eval x)) l) = l.map (fun p => (p.1, a.eval p.2)) := rfl
    have hsz : (sizeOf e).run P w = .ok sz w := by simp [sizeOf, typeInfo, h2, h5, go_sem]
    have hzv : (zeroValue e).run P w = .ok z w := by simp [zeroValue, typeInfo, h2, h3, go_sem]
    simp only [execOp, List.map_toArray, e0]
    generalize (l.map fun p => (p.1, a.eval p.2)) = parts at hfill ⊢
    by_cases h0 : n * sz = 0
    · have hr0 : ∀ f : Nat → Value, (Array.range (n * sz)).map f = #[] := fun f => by rw [h0]; simp
      have hl0 : ((List.range (n * sz)).map fun j => z.cells[j % z.cells.size]!).toArray = #[] := by rw [h0]; rfl
      rw [hl0] at hfill
      simp only [Instr.buildSlice, Sem.run_bind, run_underlying h1, Result.andThen_ok, hsz, hbig, if_false, h0, if_true, Sem.run_pure]
      simp only [h0] at hr0
      simp only [hr0, hfill]
      rfl
    · have hr0 : (Array.range (n * sz)).map (fun j => z.cells[j % z.cells.size]!) = ((List.range (n * sz)).map fun j => z.cells[j % z.cells.size]!).toArray := by apply Array.ext'; simp
      simp only [Instr.buildSlice, Sem.run_bind, run_underlying h1, Result.andThen_ok, hsz, hbig, if_false, h0, Sem.run_pure, hzv, hr0, hfill]
      rfl
  rw [ex]
  refine ⟨_, ⟨w.heap.size, rfl, rfl⟩, (hw.step (w' := w.alloc (.cells xs.flatten.toArray e)) (L := []) (T' := []) (.refl _) (by simp) (Sat.one ⟨rfl, rfl, rfl, by simp, fun k hk _ => Below.heap_alloc w _ k hk⟩ ?_ (fun b hb => .inr (by simp only [It.foot, Option.map_some, Option.some.injEq] at hb; omega)))).some_ro (fun r hr => by simpa using hr)⟩
  refine ⟨by rw [hrows.2, hn], hrows.1, Nat.le_refl _, by unfold maxLen; omega, (fun h => by cases h), fun ad had => ?_⟩
  simp only [Option.some.injEq] at had
  subst had
  refine ⟨rfl, _, heap_alloc_new w _, ?_, fun j u hj => by simpa using hj⟩
  have := flat_len hrows.1.lens
  rw [hrows.2, hn] at this
  simp only [List.size_toArray, this]; omega
theorem outc_app_full {t e sz by_ n m c2 b2 o2 : Nat} {ao : Option Addr} {xs ys : List (List Value)} {x y : Operand} [TSl P t e sz by_] (hx : opd fr x = some (.slice ao n n)) (hy : opd fr y = some (.slice (some ⟨b2, o2, none⟩) m c2))
    (hr : SR ro sz ao n n xs) (h0 : 0 < m) (hb1 : n + m ≤ maxLen) (hb2 : (n + m) * by_ ≤ 140737488355328) :
    ∀ a, Holds N fr a → Outc P E B0 ro ⟨dst, .call ⟨.builtin .append, #[x, y], #[t, t]⟩, ty, pos, af, g⟩ a [.own e sz (some ⟨b2, o2, none⟩) m c2 ys] (fun v M => ∃ ao' c', v = .slice ao' (n + m) c' ∧ M = [.own e sz ao' (n + m) c' (xs ++ ys)]) := fun a hh F w hw => by
  obtain ⟨ao', c', w', h1, h2, h3, h4⟩ := app_full_run (P := P) (t := t) (ty := ty) hr hw.rds (hw.get (.refl _)) h0 hb1 hb2
  rw [exec_append (hh.eval hx) (hh.eval hy) h1]
  exact ⟨_, ⟨ao', c', rfl, rfl⟩, (hw.step (L := [_]) (T' := []) (.refl _) (by simp) (Sat.one ⟨h3.os, h3.tape, h3.output, h3.size, fun k hk _ => h3.block k hk (by simp)⟩ h2 (fun b hb => .inr (h4 b hb)))).some_ro (fun r hr => by simpa using hr)⟩
theorem outc_app_sr {t e sz by_ n c m c2 : Nat} {ao ao2 : Option Addr} {xs ys : List (List Value)} {x y : Operand} [TSl P t e sz by_] (hx : opd fr x = some (.slice ao n c)) (hy : opd fr y = some (.slice ao2 m c2))
    (hr : SR ro sz ao2 m c2 ys) (b1 : n + m ≤ maxLen) (b2 : (n + m) * by_ ≤ 140737488355328) :
    ∀ a, Holds N fr a → Outc P E B0 ro ⟨dst, .call ⟨.builtin .append, #[x, y], #[t, t]⟩, ty, pos, af, g⟩ a [.own e sz ao n c xs] (fun v M => ∃ ao' c', v = .slice ao' (n + m) c' ∧ M = [.own e sz ao' (n + m) c' (xs ++ ys)]) := fun a hh F w hw => by
  obtain ⟨ao', c', w', h1, h2, h3, h4⟩ := app_sr_run (P := P) (t := t) (ty := ty) (hw.get (.refl _) : OwnSat w e sz ao n c xs) hr hw.rds b1 b2
  rw [exec_append (hh.eval hx) (hh.eval hy) h1]
  exact ⟨_, ⟨ao', c', rfl, rfl⟩, (hw.step (L := [_]) (T' := []) (.refl _) (by simp) (Sat.regrow (y := .own e sz ao' (n + m) c' (xs ++ ys)) h3 h2 h4)).some_ro (fun r hr => by simpa using hr)⟩
theorem outc_app {t e sz by_ n c m c2 b2 o2 : Nat} {ao : Option Addr} {xs ys : List (List Value)} {x y : Operand} [TSl P t e sz by_] (hx : opd fr x = some (.slice ao n c)) (hy : opd fr y = some (.slice (some ⟨b2, o2, none⟩) m c2))
    (hb1 : n + m ≤ maxLen) (hb2 : (n + m) * by_ ≤ 140737488355328) :
    ∀ a, Holds N fr a → Outc P E B0 ro ⟨dst, .call ⟨.builtin .append, #[x, y], #[t, t]⟩, ty, pos, af, g⟩ a [.own e sz ao n c xs, .own e sz (some ⟨b2, o2, none⟩) m c2 ys] (fun v M => ∃ ao' c', v = .slice ao' (n + m) c' ∧ M = [.own e sz ao' (n + m) c' (xs ++ ys), .own e sz (some ⟨b2, o2, none⟩) m c2 ys]) := fun a hh F w hw => by
  have hS2 : OwnSat w e sz (some ⟨b2, o2, none⟩) m c2 ys := hw.get (.swap _ _ _)
  obtain ⟨_, cur, hcur, _, hseg⟩ := hS2.at_ _ rfl
  simp only at hcur hseg
  obtain ⟨ao', c', w', h1, h2, h3, h4, _⟩ := run_append_sl (P := P) (t := t) (ty := ty) (ad := ⟨b2, o2, none⟩) (c2 := c2) (hw.get (.refl _) : OwnSat w e sz ao n c xs) hS2.rows hS2.len (fun j u hj => by rw [Addr.add_lit]; simp only [World.cell?, hcur]; exact hseg j u hj) hb1 hb2
  rw [exec_append (hh.eval hx) (hh.eval hy) h1]
  exact ⟨_, ⟨ao', c', rfl, rfl⟩, (hw.step (L := [_]) (T' := []) (.refl _) (by simp) (Sat.regrow (y := .own e sz ao' (n + m) c' (xs ++ ys)) h3 h2 h4)).some_ro (fun r hr => by simpa using hr)⟩
end
end Go.Proofs.Ytlhlidmhlhodiaa

/-
  Sparse frames: interface values: making one, asserting one, calling through one.
-/
namespace Go.Proofs.Ytlhlidmhlhodiaa
set_option linter.unusedSimpArgs false
set_option linter.unusedVariables false
open Go.RowKit

class TIfc (P : Program) (T : TypeId) : Prop where h : ∀ (x : Value) (w : World), (Instr.makeInterface T x).run P w = .ok (.iface T x) w
class TAs (P : Program) (xT T U : TypeId) (f : outParam (Value → Value)) : Prop where h : ∀ (v : Value) (w : World), (Instr.typeAssert (.iface T v) xT U true).run P w = .ok (f v) w
class TInv (P : Program) (T : TypeId) (m : String) (f : outParam FuncId) : Prop where h : ∀ (v : Value) (args : Array Value) (w : World), (callMethod (.iface T v) m args).run P w = .ok (.enter f (#[v] ++ args)) w
section
variable {P : Program} {N : Nat} {E : Env} {fr : List (Nat × Value)} {hp F : List It} {ro : List Ro} {T U xT : TypeId} {x : Operand} {v : Value} {Kn Kr : St → Prop} {Kx : List (Nat × (St → Prop))} {ops : Array Oper} {rest : List Oper} {dst : Option Tmp} {ty : TypeId} {pos : String} {af : Array Edge}
theorem pv_mki (hx : opd fr x = some v) (hT : TIfc P T) : Pv P ⟨fr, hp, ro⟩ (.makeInterface T x) (.iface T v) := fun N E ac w dst ty pos af g ok => by
  simp only [execOp, ok.h.eval hx]; simp [hT.h, go_sem]
theorem pv_tas {f : Value → Value} (hx : opd fr x = some (.iface T v)) (hT : TAs P xT T U f) : Pv P ⟨fr, hp, ro⟩ (.typeAssert x xT U true) (f v) := fun N E ac w dst ty pos af g ok => by
  simp only [execOp, ok.h.eval hx]; simp [hT.h, go_sem]
theorem inv_enter {f : FuncId} {m : String} {a : Act} {l : List Operand} {ats : Array TypeId} {g : Option (Nat × Bool)} (hT : TInv P T m f) (hx : a.eval x = .iface T v) (w : World) :
    (execOp a.eval ⟨dst, .call ⟨.invoke x m, l.toArray, ats⟩, ty, pos, af, g⟩).run P w = .ok (.enter f (v :: l.map a.eval).toArray) w := by
  have e : ∀ r : Array Value, (#[Value.iface T v] ++ r)[0]? = some (Value.iface T v) := fun r => by
    rw [Array.getElem?_append_left (Nat.zero_lt_one)]; rfl
  have e2 : ∀ r : Array Value, (#[Value.iface T v] ++ r).extract 1 (#[Value.iface T v] ++ r).size = r := fun r => by
    apply Array.ext'; simp
  have e3 : (execOp a.eval ⟨dst, .call ⟨.invoke x m, l.toArray, ats⟩, ty, pos, af, g⟩).run P w = (Go.invoke (.fn (.method m) #[]) (#[Value.iface T v] ++ l.toArray.map a.eval)).run P w := by
    simp only [execOp, resolve, hx, Sem.run_bind, Sem.run_pure, Result.andThen_ok]
  rw [e3]
  unfold Go.invoke
  rw [e]
  simp only [e2]
  rw [hT.h]
  simp
theorem wo_inv {f : FuncId} {m : String} {vs : List Value} {L F : List It} {R : List Ro} {Post : Value → List It → List Ro → Prop} {l : List Operand} {ats : Array TypeId}
    (hx : opd fr x = some (.iface T v)) (hT : TInv P T m f) (hF : Fn P f (v :: vs).toArray L R Post) (ha : opdL fr l = some vs) (hs : hp.Perm (L ++ F)) (hr : ∀ r ∈ R, r ∈ ro) (hd : dstOk dst N = true)
    (h : ∀ v L' R', Post v L' R' → ∀ H, H = L' ++ F → ∀ RR, RR = R' ++ ro → WO P N E ops rest ⟨putF dst v fr, H, RR⟩ Kn) :
    WO P N E ops (⟨dst, .call ⟨.invoke x m, l.toArray, ats⟩, ty, pos, af, none⟩ :: rest) ⟨fr, hp, ro⟩ Kn := by
  intro Q hQ a w ok
  unfold wpList
  rw [if_pos (by simp [Region.wanted])]
  refine .inl ?_
  unfold Oper.wp
  rw [inv_enter hT (ok.h.eval hx) w, ok.h.evalL ha]
  refine (hF w (ok.s.start hs hr)).mono fun e w' ⟨v, L', R', he, hP, hS⟩ => ?_
  subst he
  exact h v L' R' hP _ rfl _ rfl Q hQ _ w' ⟨ok.h.putF hd v, ok.s.step hs (fun b hb => by
    obtain ⟨r, h1, h2⟩ := mem_blks.1 hb; exact mem_blks.2 ⟨r, hr r h1, h2⟩) hS⟩
theorem outc_inv {f : FuncId} {m : String} {B0 : List It} {vs : List Value} {L Lc F1 : List It} {R : List Ro} {Post : Value → List It → List Ro → Prop} {TT : Value → List It → Prop} {l : List Operand} {ats : Array TypeId} {g : Option (Nat × Bool)}
    (hx : opd fr x = some (.iface T v)) (hT : TInv P T m f) (hF : Fn P f (v :: vs).toArray L R Post) (ha : opdL fr l = some vs) (hs : (Lc ++ B0).Perm (L ++ F1)) (hr : ∀ r ∈ R, r ∈ ro) (hTT : ∀ v L' R', Post v L' R' → ∃ M, TT v M ∧ (L' ++ F1).Perm (M ++ B0)) :
    ∀ a, Holds N fr a → Outc P E B0 ro ⟨dst, .call ⟨.invoke x m, l.toArray, ats⟩, ty, pos, af, g⟩ a Lc TT := fun a hh F w hw => by
  rw [inv_enter hT (hh.eval hx) w, hh.evalL ha]
  refine ⟨rfl, ?_⟩
  have hp1 : (Lc ++ (B0 ++ F)).Perm (L ++ (F1 ++ F)) := by
    rw [← List.append_assoc, ← List.append_assoc]; exact hs.append_right F
  have hw1 := hw.perm hp1
  refine (hF w (hw1.start (.refl _) hr)).mono fun e w' ⟨v, L', R', he, hP, hS⟩ => ?_
  obtain ⟨M, h1, h2⟩ := hTT v L' R' hP
  have h3 := (hw1.step (.refl _) (fun b hb => by obtain ⟨r, h1, h2⟩ := mem_blks.1 hb; exact mem_blks.2 ⟨r, hr r h1, h2⟩) hS).some_ro (fun r hr => List.mem_append_right _ hr)
  refine ⟨v, M, he, h1, h3.perm ?_⟩
  rw [← List.append_assoc, ← List.append_assoc]
  exact h2.append_right F
theorem outc_app_g {t e sz by_ n c m c2 : Nat} {B0 : List It} {ao ao2 : Option Addr} {xs ys : List (List Value)} {x y : Operand} {g : Option (Nat × Bool)} [TSl P t e sz by_] (hx : opd fr x = some (.slice ao n c)) (hy : opd fr y = some (.slice ao2 m c2))
    (b1 : n + m ≤ maxLen) (b2 : (n + m) * by_ ≤ 140737488355328) :
    ∀ a, Holds N fr a → Outc P E B0 ro ⟨dst, .call ⟨.builtin .append, #[x, y], #[t, t]⟩, ty, pos, af, g⟩ a [.own e sz ao n c xs, .own e sz ao2 m c2 ys] (fun v M => ∃ ao' c', v = .slice ao' (n + m) c' ∧ M = [.own e sz ao' (n + m) c' (xs ++ ys), .own e sz ao2 m c2 ys]) := by
  cases ao2 with
  | some ad =>
    intro a hh F w hw
    have hS2 : OwnSat w e sz (some ad) m c2 ys := hw.get (.swap _ _ _)
    obtain ⟨hsp, _⟩ := hS2.at_ _ rfl
    obtain ⟨b, o, s⟩ := ad
    simp only at hsp
    subst hsp
    exact outc_app hx hy b1 b2 a hh F w hw
  | none =>
    intro a hh F w hw
    obtain ⟨i, z, h1, h2, h3, h4, h5, h6, h7⟩ := sl_und (TSl.h (P := P) (T := t))
    have hS : OwnSat w e sz ao n c xs := hw.get (.refl _)
    have hS2 : OwnSat w e sz none m c2 ys := hw.get (.swap _ _ _)
    have hc0 := hS2.nil rfl
    have hle := hS2.le
    obtain rfl : m = 0 := by omega
    obtain rfl : ys = [] := List.eq_nil_of_length_eq_zero hS2.len
    have hr : (Builtin.append_ #[t, t] ty #[.slice ao n c, .slice none 0 c2]).run P w = .ok (.slice ao n c) w := by
      have hn0 : n + 0 ≤ c := by have := hS.le; omega
      cases ao <;> simp [Builtin.append_, run_underlying h1, sizeOf, typeInfo, h2, Builtin.lenOf, hn0, Builtin.firstCells, storeCells, go_sem] <;> (have := hS.le; omega)
    rw [exec_append (hh.eval hx) (hh.eval hy) hr]
    exact ⟨_, ⟨ao, c, rfl, rfl⟩, by simpa using hw⟩
/-- a field of a structure that is a value -/
def fld1B (P : Program) (T i : Nat) : Option Nat := match P.underlying T with
  | some (.struct fs) => match fs[i]? with
    | some f => if oneB P f.type then some f.offset else none
    | none => none
  | _ => none
class FO (P : Program) (T i : Nat) (off : outParam Nat) : Prop where h : fld1B P T i = some off
theorem pv_field {i off : Nat} {l : List Value} (hx : opd fr x = some (.agg l.toArray)) (hF : FO P T i off) (hl : l[off]? = some v) : Pv P ⟨fr, hp, ro⟩ (.field T x i) v := fun N E ac w dst ty pos af g ok => by
  have h := hF.h
  unfold fld1B at h
  split at h
  · rename_i fs hu
    split at h
    · rename_i f hf
      split at h
      · rename_i h1
        simp only [Option.some.injEq] at h
        subst h
        haveI : TOne P f.type := ⟨h1⟩
        simp only [execOp, ok.h.eval hx]
        have e := run_part_one (P := P) (T := f.type) (w := w) hl
        simp only [Instr.field, Sem.run_bind, run_underlying hu, Result.andThen_ok, hf, asAgg, Sem.run_pure, e]
      · cases h
    · cases h
  · cases h
end
theorem outc_ld {P : Program} {N : Nat} {E : Env} {fr : List (Nat × Value)} {L B0 : List It} {ro : List Ro} {op : Op} {v : Value} {dst : Option Tmp} {ty : TypeId} {pos : String} {af : Array Edge} {g : Option (Nat × Bool)} (h : Pv P ⟨fr, L, ro⟩ op v) :
    ∀ a, Holds N fr a → Outc P E B0 ro ⟨dst, op, ty, pos, af, g⟩ a L (fun v' M => v' = v ∧ M = L) := fun a hh F w hw => by
  unfold Pv at h
  rw [h N E a w dst ty pos af g ⟨hh, hw.left⟩]
  exact ⟨L, ⟨rfl, rfl⟩, hw⟩
theorem outc_fr {P : Program} {E : Env} {B0 X L : List It} {ro : List Ro} {o : Oper} {a : Act} {T : Value → List It → Prop} (h : Outc P E B0 ro o a L T) : Outc P E B0 ro o a (X ++ L) (fun v M => ∃ M0, T v M0 ∧ M = X ++ M0) := fun F w hw => by
  have pm : ∀ Y : List It, ((X ++ Y) ++ (B0 ++ F)).Perm (Y ++ (B0 ++ (X ++ F))) := fun Y => by
    rw [List.append_assoc]
    refine List.perm_append_comm.trans ?_
    rw [List.append_assoc, List.append_assoc]
    refine List.Perm.append_left Y ?_
    exact List.Perm.append_left B0 List.perm_append_comm
  have h1 := h (X ++ F) w (hw.perm (pm L))
  cases hr : (execOp a.eval o).run P w with
  | ok v w' =>
    rw [hr] at h1
    cases v with
    | value v =>
      obtain ⟨M, h2, h3⟩ := h1
      exact ⟨X ++ M, ⟨M, h2, rfl⟩, h3.perm (pm M).symm⟩
    | skip =>
      obtain ⟨M, h2, h3⟩ := h1
      exact ⟨X ++ M, ⟨M, h2, rfl⟩, h3.perm (pm M).symm⟩
    | enter f args =>
      obtain ⟨h0, h1⟩ := h1
      exact ⟨h0, h1.mono fun e w'' ⟨v, M, h2, h3, h4⟩ => ⟨v, X ++ M, h2, ⟨M, h3, rfl⟩, h4.perm (pm M).symm⟩⟩
    | _ => exact h1
  | _ => rw [hr] at h1; exact h1
theorem outc_frA {P : Program} {N : Nat} {E : Env} {fr : List (Nat × Value)} {B0 X L : List It} {ro : List Ro} {o : Oper} {T : Value → List It → Prop} (h : ∀ a, Holds N fr a → Outc P E B0 ro o a L T) : ∀ a, Holds N fr a → Outc P E B0 ro o a (X ++ L) (fun v M => ∃ M0, T v M0 ∧ M = X ++ M0) := fun a ha => outc_fr (h a ha)
end Go.Proofs.Ytlhlidmhlhodiaa

/-
  Drawn regions with classes: operations that only read their class need no order among themselves.
-/
namespace Go.Proofs.Ytlhlidmhlhodiaa
set_option linter.unusedSimpArgs false
set_option linter.unusedVariables false
open Go.RowKit

theorem updL_self : ∀ (cs : List Nat) (m : Nat → List It), updL m cs (cs.map m) = m
  | [], _ => rfl
  | c :: cs, m => by
    show updL (upd m c (m c)) cs (cs.map m) = m
    have e : upd m c (m c) = m := by
      funext d
      by_cases h : d = c
      · subst h; exact upd_self ..
      · exact upd_ne m (m c) (fun e => h e.symm)
    rw [e]; exact updL_self cs m
def Rdr (tbl : Nat → List (List It) → Value → List (List It) → Prop) (k : Nat) : Prop := ∀ L v Ms, tbl k L v Ms → Ms = L
section
variable {P : Program} {E : Env} {B0 : List It} {ro : List Ro} {ops : Array Oper} {cls : Nat → List Nat} {tbl : Nat → List (List It) → Value → List (List It) → Prop} {md : Region.Mode}
theorem out_rdr {i : Nat} {oi : Oper} {a : Act} {m m' : Nat → List It} {v : Value} (hr : Rdr tbl i) (h : outM P E B0 ro ops cls tbl i oi a m v m') : m' = m := by
  unfold outM at h
  split at h
  · split at h
    · exact h.2
    · obtain ⟨Ms, h1, _, rfl⟩ := h
      rw [hr _ _ _ h1]; exact updL_self _ _
  · exact h.2
theorem rOp_swapR {i j : Nat} {oi oj : Oper} {a : Act} {m : Nat → List It} {K : Act → (Nat → List It) → Prop} (hi : ops[i]? = some oi) (hj : ops[j]? = some oj) (hap : oi.apart ops oj = true) (ri : Rdr tbl i) (rj : Rdr tbl j) (hsi : ∀ cs b, oi.op ≠ .select cs b) (hsj : ∀ cs b, oj.op ≠ .select cs b)
    (H : rOpM P E B0 ro ops cls tbl i (rOpM P E B0 ro ops cls tbl j K) a m) : rOpM P E B0 ro ops cls tbl j (rOpM P E B0 ro ops cls tbl i K) a m := by
  obtain ⟨h1, h2, h3⟩ := Oper.apart_spec hap
  obtain ⟨Hs, Ho⟩ := H oi hi
  intro o ho
  obtain rfl : oj = o := by rw [hj] at ho; exact Option.some.inj ho
  refine ⟨?_, fun u m1 hu o ho => ?_⟩
  · obtain ⟨v, m1, hv⟩ := safe_outM Hs
    have := (Ho v m1 hv oj hj).1
    rw [safe_putM hsj h1, out_rdr ri hv] at this
    exact this
  · obtain rfl : oi = o := by rw [hi] at ho; exact Option.some.inj ho
    obtain rfl := out_rdr rj hu
    refine ⟨?_, fun v m2 hv => ?_⟩
    · rw [safe_putM hsi h3]
      exact Hs
    · rw [out_putM hsi h3] at hv
      obtain rfl := out_rdr ri hv
      have := (Ho v _ hv oj hj).2 u _ (by rw [out_putM hsj h1]; exact hu)
      rw [← Act.put_comm a v u h2]
      exact this
theorem wpAnyM_firstR {Q : Act → (Nat → List It) → Prop} {i : Nat} {oi : Oper} (hi : ops[i]? = some oi) (hsel : ∀ (j : Nat) (o : Oper) cs b, ops[j]? = some o → o.op ≠ .select cs b)
    (hcls : ∀ (j : Nat) (listed : Array Bool), j ≠ i → Closed md ops listed → (∀ k, k < i → listed.getD k true = true) → listed.getD i true = false → j ∈ Region.ready md ops listed → (∀ d ∈ cls j, d ∉ cls i) ∨ (Rdr tbl i ∧ Rdr tbl j)) :
    ∀ (fuel : Nat) (listed : Array Bool) (a : Act) (m : Nat → List It), Closed md ops listed → (∀ k, k < i → listed.getD k true = true) →
      (∀ j oj, ops[j]? = some oj → j ≠ i → listed.getD j true = false → (∀ e ∈ oj.after, Region.binds md e = true → e.on ≠ i) → oi.apart ops oj = true) →
      i ∈ Region.ready md ops listed → rOpM P E B0 ro ops cls tbl i (wpAnyM P E B0 ro ops cls tbl md Q fuel (listed.setIfInBounds i true)) a m → wpAnyM P E B0 ro ops cls tbl md Q (fuel + 1) listed a m := by
  intro fuel
  induction fuel with
  | zero =>
    intro listed a m _ _ _ hr H
    refine ⟨fun h => (by rw [h] at hr; cases hr), fun j hj => ?_⟩
    by_cases hji : j = i
    · subst hji; exact H
    · have := ready_mono hj hji
      obtain ⟨hs, ho⟩ := H oi hi
      obtain ⟨v, m', hv⟩ := safe_outM hs
      rw [(ho v m' hv).1] at this
      cases this
  | succ fuel ih =>
    intro listed a m hcl hpre hfree hr H
    refine ⟨fun h => (by rw [h] at hr; cases hr), fun j hj => ?_⟩
    by_cases hji : j = i
    · subst hji; exact H
    · obtain ⟨hjun, oj, hoj, hall⟩ := mem_ready.1 hj
      have hnot : ∀ e ∈ oj.after, Region.binds md e = true → e.on ≠ i := fun e he hb heq => by
        have h1 := hall e he hb
        have h0 := (mem_ready.1 hr).1
        rw [heq] at h1
        rcases Nat.lt_or_ge i listed.size with h' | h'
        · simp [h'] at h0 h1; rw [h0] at h1; cases h1
        · simp [Array.getElem?_eq_none h'] at h1
      have h1 := rOpM_mono (fun a' m' h => h.2 j (ready_mono hj hji)) H
      have f1 := hfree j oj hoj hji hjun hnot
      have f2 := hcls j listed hji hcl hpre (mem_ready.1 hr).1 hj
      have h2 := f2.elim (fun f2 => rOp_swapM hi hoj f1 f2 (fun cs b => hsel i oi cs b hi) (fun cs b => hsel j oj cs b hoj) h1) (fun f2 => rOp_swapR hi hoj f1 f2.1 f2.2 (fun cs b => hsel i oi cs b hi) (fun cs b => hsel j oj cs b hoj) h1)
      refine rOpM_mono (fun a' m' h3 => ih (listed.setIfInBounds j true) a' m' (hcl.set hj) (fun k hk => ?_) (fun k ok hk hki hun hno => ?_) (ready_mono hr (Ne.symm hji)) ?_) h2
      · by_cases hjk : j = k
        · subst hjk
          rcases Nat.lt_or_ge j listed.size with h2 | h2
          · simp [h2]
          · simp [h2]
        · rw [getD_set_ne true hjk]; exact hpre k hk
      · refine hfree k ok hk hki ?_ hno
        by_cases hjk : j = k
        · subst hjk; exact hjun
        · rw [getD_set_ne true hjk] at hun; exact hun
      · rw [Array.setIfInBounds_comm _ _ hji]
        exact h3
def clsR (md : Region.Mode) (ops : Array Oper) (cls : Nat → List Nat) (rd : List Nat) : Bool :=
  (List.range ops.size).all fun j => (List.range j).all fun i => ((cls j).all fun d => !(cls i).contains d) || (rd.contains i && rd.contains j) || reachB md ops i ops.size j
theorem clsR_spec {rd : List Nat} (h : clsR md ops cls rd = true) {i j : Nat} {oj : Oper} (hj : ops[j]? = some oj) (hij : i < j) : (∀ d ∈ cls j, d ∉ cls i) ∨ (i ∈ rd ∧ j ∈ rd) ∨ reachB md ops i ops.size j = true := by
  unfold clsR at h
  rw [List.all_eq_true] at h
  have h1 := h j (by have := (Array.getElem?_eq_some_iff.1 hj).1; simpa using this)
  rw [List.all_eq_true] at h1
  have h2 := h1 i (by simpa using hij)
  rw [Bool.or_eq_true, Bool.or_eq_true, Bool.and_eq_true] at h2
  rcases h2 with (h2 | ⟨h2, h3⟩) | h2
  · refine .inl fun d hd hd' => ?_
    rw [List.all_eq_true] at h2
    have := h2 d hd
    simp [hd'] at this
  · exact .inr (.inl ⟨by simpa using h2, by simpa using h3⟩)
  · exact .inr (.inr h2)
theorem wpAnyM_lexR {Q : Act → (Nat → List It) → Prop} {rd : List Nat} (hs : Region.noSelect ops = true) (hcl : clsR md ops cls rd = true) (hrd : ∀ k ∈ rd, Rdr tbl k) : ∀ (l : List Oper) (k : Nat) (listed : Array Bool) (a : Act) (m : Nat → List It), Closed md ops listed → ops.size = listed.size → (∀ j, l[j]? = ops[k + j]?) → (∀ j, j < k → listed.getD j true = true) →
    Region.lexFrom md ops l.length k listed = true → wpM P E B0 ro ops cls tbl Q l k a m → wpAnyM P E B0 ro ops cls tbl md Q l.length listed a m
  | [], _, _, _, _, _, _, _, _, hB, h => ⟨by simpa [Region.lexFrom] using hB, h⟩
  | o :: l, k, listed, a, m, hC, hz, hl, hk, hB, h => by
    have h0 : ops[k]? = some o := by simpa using (hl 0).symm
    simp only [List.length_cons, Region.lexFrom, Bool.and_eq_true] at hB
    obtain ⟨⟨hr, hf⟩, hB'⟩ := hB
    have hr' : k ∈ Region.ready md ops listed := by simpa using hr
    refine wpAnyM_firstR h0 (Region.noSelect_spec hs) (fun j ld hjk hCl hpre hun hj => ?_) l.length listed a m hC hk (fun j oj hj hjk hun hno => Region.free_spec h0 hf j oj hj hjk hun hno) hr' ?_
    · obtain ⟨hjun, oj, hoj, hall⟩ := mem_ready.1 hj
      have hle := lex_lt hpre hjun
      have hks : k < ld.size := by
        rcases Nat.lt_or_ge k ld.size with h' | h'
        · exact h'
        · simp [Array.getD, Nat.not_lt.2 h'] at hun
      rcases clsR_spec hcl hoj (show k < j by omega) with h1 | ⟨h1, h2⟩ | h1
      · exact .inl h1
      · exact .inr ⟨hrd _ h1, hrd _ h2⟩
      · exfalso
        obtain ⟨o2, h2, e, he, hb, hne⟩ := reach_not hCl hun hks _ _ h1
        rw [hoj] at h2
        obtain rfl := Option.some.inj h2
        rw [hall e he hb] at hne; cases hne
    · refine rOpM_mono (fun a' m' h' => wpAnyM_lexR hs hcl hrd l (k + 1) _ a' m' (hC.set hr') (by simpa using hz) (fun j => by have := hl (j + 1); simpa [Nat.add_assoc, Nat.add_comm 1 j] using this) (fun j hj => ?_) hB' h') h
      rcases Nat.lt_or_ge j k with h1 | h1
      · rw [getD_set_ne true (show k ≠ j by omega)]; exact hk j h1
      · obtain rfl : j = k := by omega
        rcases Nat.lt_or_ge j listed.size with h2 | h2
        · simp [h2]
        · simp [h2]
theorem wc_regR {N : Nat} {fr : List (Nat × Value)} {hp : List It} {Kn Kr : St → Prop} {Kx : List (Nat × (St → Prop))} {id : Nat} {l : List Oper} (rd all : List Nat) (cls : Nat → List Nat) (tbl : Nat → List (List It) → Value → List (List It) → Prop) (B0 : List It) (m0 : Nat → List It)
    (hm : P.follows .mixedOrders = true) (hB : Region.lexB .any l.toArray = true) (hcl : clsR .any l.toArray cls rd = true) (hrd : ∀ k ∈ rd, Rdr tbl k) (hn : all.Nodup) (hcs : ∀ i, (cls i).Nodup ∧ ∀ c ∈ cls i, c ∈ all) (hperm : hp.Perm (Hp B0 all m0))
    (h : HdM P N E B0 ro l.toArray cls tbl (fun fr m => ∀ H, H = Hp B0 all m → Kn ⟨fr, H, ro⟩) 0 l fr m0) : WC P N E (.region id l.toArray true) ⟨fr, hp, ro⟩ Kn Kx Kr := fun a w ok => by
  simp only [Region.lexB, Bool.and_eq_true] at hB
  have hw : Sat E.B E.S E.T (Hp B0 all m0) ro _ := (ok.s.drawn (w.drawn + 1)).perm hperm
  refine wp_region_any hm (wpAny_of_M (ro := ro) (tbl := tbl) (Q := fun a m => ∃ fr', Kn ⟨fr', Hp B0 all m, ro⟩ ∧ Holds N fr' a) hn hcs (fun a m w' hs ⟨fr', hk, ha⟩ => ⟨_, hk, ha, hs⟩) _ _ a m0 _ hw ?_)
  have := wpAnyM_lexR (P := P) (E := E) (B0 := B0) (ro := ro) (tbl := tbl) (md := .any) hB.1 hcl hrd l 0 (Array.replicate l.toArray.size false) a m0 closed0 (by simp) (by simp) (fun j hj => by omega) (by simpa using hB.2)
    (h.sound (Q := fun a m => ∃ fr', Kn ⟨fr', Hp B0 all m, ro⟩ ∧ Holds N fr' a) ⟨_, _, hw⟩ (fun fr a m hk ha => ⟨fr, hk _ rfl, ha⟩) (fun j _ => by simp) a ok.h)
  simpa using this
end
end Go.Proofs.Ytlhlidmhlhodiaa
