/-
  What the arguments of a law read as: integers with their bounds; slices as rows of cells. No program in sight.
-/
import Derived.Test.YtlhlidmhlhodiaaBase
import Derived.ProofKit
import Derived.OpenShut
import Derived.Deep.Slices
import Derived.Deep.Fields
import Derived.ChangeSame
namespace Go.Proofs.Ytlhlidmhlhodiaa
set_option linter.unusedSimpArgs false
set_option linter.unusedVariables false
open Go.ChangeShapes Go.WideShapes Go.ChangeAt Go.RowKit Go.Deep

theorem bd_u8 {a : Int} (h : (Lit.int .u8 a).wf = true) : 0 ≤ a ∧ a ≤ 255 := by simpa [Lit.wf, IntKind.min, IntKind.max, IntKind.signed, IntKind.bits] using h
theorem bd_u16 {a : Int} (h : (Lit.int .u16 a).wf = true) : 0 ≤ a ∧ a ≤ 65535 := by simpa [Lit.wf, IntKind.min, IntKind.max, IntKind.signed, IntKind.bits] using h
theorem bd_u32 {a : Int} (h : (Lit.int .u32 a).wf = true) : 0 ≤ a ∧ a ≤ 4294967295 := by simpa [Lit.wf, IntKind.min, IntKind.max, IntKind.signed, IntKind.bits] using h
theorem bd_u64 {a : Int} (h : (Lit.int .u64 a).wf = true) : 0 ≤ a ∧ a ≤ 18446744073709551615 := by simpa [Lit.wf, IntKind.min, IntKind.max, IntKind.signed, IntKind.bits] using h
theorem bd_i16 {a : Int} (h : (Lit.int .i16 a).wf = true) : -32768 ≤ a ∧ a ≤ 32767 := by simpa [Lit.wf, IntKind.min, IntKind.max, IntKind.signed, IntKind.bits] using h
theorem bd_i32 {a : Int} (h : (Lit.int .i32 a).wf = true) : -2147483648 ≤ a ∧ a ≤ 2147483647 := by simpa [Lit.wf, IntKind.min, IntKind.max, IntKind.signed, IntKind.bits] using h
theorem bd_i64 {a : Int} (h : (Lit.int .i64 a).wf = true) : -9223372036854775808 ≤ a ∧ a ≤ 9223372036854775807 := by simpa [Lit.wf, IntKind.min, IntKind.max, IntKind.signed, IntKind.bits] using h

/-- a value of a kind with one cell -/
def FKok : TypeDesc → Value → Prop
  | .int k, v => ∃ n, v = .int k n ∧ (Lit.int k n).wf = true
  | .bool, v => ∃ b, v = .bool b
  | .string, v => ∃ s : ByteArray, v = .string s ∧ s.size ≤ maxLen
  | _, _ => False

/-- a slice that came in: n elements, each as many cells as 'ks' has kinds; cell j of element i holds 'V i j' -/
def Rws (ks : List TypeDesc) (w : World) (A : Option Addr) (n c : Nat) (V : Nat → Nat → Value) : Prop :=
  n ≤ c ∧ c ≤ maxLen ∧ (0 < n → ∃ b o, A = some ⟨b, o, none⟩ ∧ b < w.heap.size ∧ ∀ i j, i < n → j < ks.length → w.cell? ⟨b, o + (i * ks.length + j), none⟩ = some (V i j)) ∧
    ∀ i j k, i < n → ks[j]? = some k → FKok k (V i j)

theorem Rws.below {ks : List TypeDesc} {w w' : World} {A : Option Addr} {n c : Nat} {V : Nat → Nat → Value} (h : Rws ks w A n c V) (hb : Below w.heap.size w w') : Rws ks w' A n c V := by
  obtain ⟨h1, h2, h3, h4⟩ := h
  refine ⟨h1, h2, fun hn => ?_, h4⟩
  obtain ⟨b, o, rfl, hlt, hc⟩ := h3 hn
  exact ⟨b, o, rfl, Nat.lt_of_lt_of_le hlt hb.size, fun i j hi hj => (World.cell?_of_block (hb.block b hlt)).trans (hc i j hi hj)⟩

section
variable {H : Type} {enc : TypeId × Value → H} {P : Program} {W : World} {t e : TypeId} {a : Option Addr} {len cap : Nat} {d : DataW H} {p : List MemPlace}

theorem fk_of {k : TypeDesc} {f : TypeId} {n : Nat} {v : Value} {y : DataW H × List MemPlace} {base : Nat} {spare : Nat → Bool} {held : Bool} (hk : P.underlying f = some k) (hks : k = .bool ∨ k = .string ∨ ∃ q, k = .int q)
    (h : DataW.trod enc P W base spare held n f [v] = some y) : FKok k v := by
  rcases hks with rfl | rfl | ⟨q, rfl⟩
  · obtain ⟨b, hb, _⟩ := DataW.trod_bool hk h
    exact ⟨b, by simpa using hb⟩
  · obtain ⟨s, hs, _, hl⟩ := DataW.trod_string hk h
    exact ⟨s, by simpa using hs, hl⟩
  · obtain ⟨z, hz, _, hl⟩ := DataW.trod_int hk h
    exact ⟨z, by simpa using hz, hl⟩

def plainKinds (ks : List TypeDesc) : Bool := ks.all fun | .bool => true | .string => true | .int _ => true | _ => false
theorem plain_of {ks : List TypeDesc} (h : plainKinds ks = true) {j : Nat} {k : TypeDesc} (hj : ks[j]? = some k) : k = .bool ∨ k = .string ∨ ∃ q, k = .int q := by
  have := List.all_eq_true.1 h k (List.mem_of_getElem? hj)
  cases k <;> simp_all

theorem rws_of {ks : List TypeDesc} {x : Addr} (h0 : 0 < ks.length) (hl : len ≤ cap) (hc : cap ≤ maxLen)
    (h : ∀ i j k, i < len → ks[j]? = some k → ∃ v, W.cell? (x.add (i * ks.length + j)) = some v ∧ FKok k v) : ∃ V, Rws ks W (some x) len cap V := by
  have hat : ∀ i j, i < len → j < ks.length → W.cell? (x.add (i * ks.length + j)) = some ((W.cell? (x.add (i * ks.length + j))).getD .nilFunc) := by
    intro i j hi hj
    obtain ⟨v, hv, _⟩ := h i j ks[j] hi (List.getElem?_eq_getElem hj)
    rw [hv]; rfl
  refine ⟨fun i j => (W.cell? (x.add (i * ks.length + j))).getD .nilFunc, hl, hc, fun hn => ?_, fun i j k hi hj => ?_⟩
  · have h00 := hat 0 0 hn h0
    have hs : x.spot = none := World.cell?_spot (by simpa [Addr.add] using h00)
    obtain ⟨b, o, s⟩ := x
    simp only at hs
    subst hs
    have hblk : b < W.heap.size := by
      rcases Nat.lt_or_ge b W.heap.size with hb | hb
      · exact hb
      · have : W.cell? ((⟨b, o, none⟩ : Addr).add (0 * ks.length + 0)) = none := by
          simp [Addr.add, World.cell?, Array.getElem?_eq_none hb]
        rw [this] at h00; simp at h00
    refine ⟨b, o, rfl, hblk, fun i j hi hj => ?_⟩
    have := hat i j hi hj
    have e : (⟨b, o, none⟩ : Addr).add (i * ks.length + j) = ⟨b, o + (i * ks.length + j), none⟩ := by
      unfold Addr.add; split
      · rename_i h; simp [h]
      · rfl
    show _ = some ((W.cell? ((⟨b, o, none⟩ : Addr).add (i * ks.length + j))).getD .nilFunc)
    rw [← e]; exact this
  · obtain ⟨v, hv, hf⟩ := h i j k hi hj
    simp only [hv, Option.getD_some]
    exact hf

theorem open_rws_struct {fs : Array Field} {ks : List TypeDesc} (ht : P.underlying t = some (.slice e)) (he : P.underlying e = some (.struct fs)) (hone : oneCellFields P fs = true) (hC : P.cellsOf e = fs.size)
    (hk : (fs.toList.map fun f => P.underlying f.type) = ks.map some ∧ plainKinds ks = true ∧ 0 < ks.length)
    (h : DataW.Trod enc P W 0 (fun _ => true) true t (.slice a len cap) d p) : ∃ V, Rws ks W a len cap V := by
  obtain ⟨hks, hpl, h0⟩ := hk
  have hsz : fs.size = ks.length := by simpa using congrArg List.length hks
  obtain ⟨fuel, hf⟩ := h
  rcases open_slice ht hf with ⟨hcs, _⟩ | ⟨x, l, c, m, n, D, Pl, hcs, _, hl, hm, hmm, _, hi⟩
  · simp [Value.cells] at hcs
    obtain ⟨rfl, rfl, rfl⟩ := hcs
    exact ⟨fun _ _ => .nilFunc, Nat.le_refl _, by simp [maxLen], fun h => absurd h (by omega), fun i _ _ h => absurd h (by omega)⟩
  · simp [Value.cells] at hcs
    obtain ⟨rfl, rfl, rfl⟩ := hcs
    refine rws_of h0 hl hm fun i j k hil hj => ?_
    obtain ⟨cs', hc, ht'⟩ := hi i (by simp at hmm; omega)
    obtain ⟨ys, n', _, _, hlen, hyl, hff⟩ := DataW.trod_struct he ht'
    obtain ⟨_, hcl, hat⟩ := World.cells?_some hc
    rw [hC, hsz] at hcl hat
    have hjl : j < ks.length := (List.getElem?_eq_some_iff.1 hj).1
    obtain ⟨f, hfj⟩ : ∃ f, fs[j]? = some f := ⟨fs[j], Array.getElem?_eq_getElem (by omega)⟩
    obtain ⟨ho, hkc⟩ := hone_of hone j f hfj
    have hcell := hat j hjl
    have hv : cs'[j]? = some (cs'[j]'(by omega)) := List.getElem?_eq_getElem (by omega)
    have h1 := hff j f hfj
    rw [ho, hkc] at h1
    have hd1 : (cs'.drop j).take 1 = [cs'[j]'(by omega)] := by
      rw [List.drop_eq_getElem_cons (by omega)]; rfl
    rw [hd1] at h1
    have hys : ys[j]? = some (ys[j]'(by omega)) := List.getElem?_eq_getElem (by omega)
    have hu : P.underlying f.type = some k := by
      have e1 := congrArg (fun l => l[j]?) hks
      simp only [List.getElem?_map, Array.getElem?_toList, hfj, hj, Option.map_some] at e1
      injection e1
    refine ⟨cs'[j]'(by omega), ?_, fk_of hu (plain_of hpl hj) (h1.trans hys)⟩
    have hadd : x.add (i * ks.length + j) = (x.add (i * ks.length)).add j := by rw [Go.Deep.add_add]
    rw [hadd, hcell, hv]

theorem open_rws_one {k : TypeDesc} (ht : P.underlying t = some (.slice e)) (hk : P.underlying e = some k ∧ plainKinds [k] = true) (hC : P.cellsOf e = 1)
    (h : DataW.Trod enc P W 0 (fun _ => true) true t (.slice a len cap) d p) : ∃ V, Rws [k] W a len cap V := by
  obtain ⟨hu, hpl⟩ := hk
  obtain ⟨fuel, hf⟩ := h
  rcases open_slice1 ht hC hf with ⟨hcs, _⟩ | ⟨x, l, c, m, n, V, D, Pl, hcs, _, hl, hm, hmm, _, hi⟩
  · simp [Value.cells] at hcs
    obtain ⟨rfl, rfl, rfl⟩ := hcs
    exact ⟨fun _ _ => .nilFunc, Nat.le_refl _, by simp [maxLen], fun h => absurd h (by omega), fun i _ _ h => absurd h (by omega)⟩
  · simp [Value.cells] at hcs
    obtain ⟨rfl, rfl, rfl⟩ := hcs
    refine rws_of (by simp) hl hm fun i j k' hil hj => ?_
    have hj0 : j = 0 := by
      have := (List.getElem?_eq_some_iff.1 hj).1
      simp at this; omega
    subst hj0
    simp at hj
    subst hj
    obtain ⟨h1, h2⟩ := hi i (by simp at hmm; omega)
    exact ⟨V i, by simpa using h1, fk_of hu (plain_of hpl (j := 0) rfl) h2⟩
end

/-- an element's cells at hand -/
theorem Rws.at1 {k : TypeDesc} {w : World} {A : Option Addr} {n c : Nat} {V : Nat → Nat → Value} (h : Rws [k] w A n c V) {i : Nat} (hi : i < n) :
    ∃ b o, A = some ⟨b, o, none⟩ ∧ b < w.heap.size ∧ FKok k (V i 0) ∧ w.cell? ⟨b, o + i, none⟩ = some (V i 0) := by
  obtain ⟨_, _, h3, h4⟩ := h
  obtain ⟨b, o, rfl, hlt, hc⟩ := h3 (by omega)
  exact ⟨b, o, rfl, hlt, h4 i 0 k hi rfl, by simpa using hc i 0 hi (by simp)⟩
theorem Rws.at2 {k0 k1 : TypeDesc} {w : World} {A : Option Addr} {n c : Nat} {V : Nat → Nat → Value} (h : Rws [k0, k1] w A n c V) {i : Nat} (hi : i < n) :
    ∃ b o, A = some ⟨b, o, none⟩ ∧ b < w.heap.size ∧ FKok k0 (V i 0) ∧ FKok k1 (V i 1) ∧ w.cell? ⟨b, o + i * 2, none⟩ = some (V i 0) ∧ w.cell? ⟨b, o + i * 2 + 1, none⟩ = some (V i 1) := by
  obtain ⟨_, _, h3, h4⟩ := h
  obtain ⟨b, o, rfl, hlt, hc⟩ := h3 (by omega)
  exact ⟨b, o, rfl, hlt, h4 i 0 _ hi rfl, h4 i 1 _ hi rfl, hc i 0 hi (by simp), hc i 1 hi (by simp)⟩
theorem Rws.at3 {k0 k1 k2 : TypeDesc} {w : World} {A : Option Addr} {n c : Nat} {V : Nat → Nat → Value} (h : Rws [k0, k1, k2] w A n c V) {i : Nat} (hi : i < n) :
    ∃ b o, A = some ⟨b, o, none⟩ ∧ b < w.heap.size ∧ FKok k0 (V i 0) ∧ FKok k1 (V i 1) ∧ FKok k2 (V i 2) ∧ w.cell? ⟨b, o + i * 3, none⟩ = some (V i 0) ∧ w.cell? ⟨b, o + i * 3 + 1, none⟩ = some (V i 1) ∧
      w.cell? ⟨b, o + i * 3 + 2, none⟩ = some (V i 2) := by
  obtain ⟨_, _, h3, h4⟩ := h
  obtain ⟨b, o, rfl, hlt, hc⟩ := h3 (by omega)
  exact ⟨b, o, rfl, hlt, h4 i 0 _ hi rfl, h4 i 1 _ hi rfl, h4 i 2 _ hi rfl, hc i 0 hi (by simp), hc i 1 hi (by simp), hc i 2 hi (by simp)⟩
theorem Rws.at4 {k0 k1 k2 k3 : TypeDesc} {w : World} {A : Option Addr} {n c : Nat} {V : Nat → Nat → Value} (h : Rws [k0, k1, k2, k3] w A n c V) {i : Nat} (hi : i < n) :
    ∃ b o, A = some ⟨b, o, none⟩ ∧ b < w.heap.size ∧ FKok k0 (V i 0) ∧ FKok k1 (V i 1) ∧ FKok k2 (V i 2) ∧ FKok k3 (V i 3) ∧ w.cell? ⟨b, o + i * 4, none⟩ = some (V i 0) ∧ w.cell? ⟨b, o + i * 4 + 1, none⟩ = some (V i 1) ∧
      w.cell? ⟨b, o + i * 4 + 2, none⟩ = some (V i 2) ∧ w.cell? ⟨b, o + i * 4 + 3, none⟩ = some (V i 3) := by
  obtain ⟨_, _, h3, h4⟩ := h
  obtain ⟨b, o, rfl, hlt, hc⟩ := h3 (by omega)
  exact ⟨b, o, rfl, hlt, h4 i 0 _ hi rfl, h4 i 1 _ hi rfl, h4 i 2 _ hi rfl, h4 i 3 _ hi rfl, hc i 0 hi (by simp), hc i 1 hi (by simp), hc i 2 hi (by simp), hc i 3 hi (by simp)⟩
theorem Rws.at5 {k0 k1 k2 k3 k4 : TypeDesc} {w : World} {A : Option Addr} {n c : Nat} {V : Nat → Nat → Value} (h : Rws [k0, k1, k2, k3, k4] w A n c V) {i : Nat} (hi : i < n) :
    ∃ b o, A = some ⟨b, o, none⟩ ∧ b < w.heap.size ∧ FKok k0 (V i 0) ∧ FKok k1 (V i 1) ∧ FKok k2 (V i 2) ∧ FKok k3 (V i 3) ∧ FKok k4 (V i 4) ∧ w.cell? ⟨b, o + i * 5, none⟩ = some (V i 0) ∧ w.cell? ⟨b, o + i * 5 + 1, none⟩ = some (V i 1) ∧
      w.cell? ⟨b, o + i * 5 + 2, none⟩ = some (V i 2) ∧ w.cell? ⟨b, o + i * 5 + 3, none⟩ = some (V i 3) ∧ w.cell? ⟨b, o + i * 5 + 4, none⟩ = some (V i 4) := by
  obtain ⟨_, _, h3, h4⟩ := h
  obtain ⟨b, o, rfl, hlt, hc⟩ := h3 (by omega)
  exact ⟨b, o, rfl, hlt, h4 i 0 _ hi rfl, h4 i 1 _ hi rfl, h4 i 2 _ hi rfl, h4 i 3 _ hi rfl, h4 i 4 _ hi rfl, hc i 0 hi (by simp), hc i 1 hi (by simp), hc i 2 hi (by simp), hc i 3 hi (by simp), hc i 4 hi (by simp)⟩
end Go.Proofs.Ytlhlidmhlhodiaa
