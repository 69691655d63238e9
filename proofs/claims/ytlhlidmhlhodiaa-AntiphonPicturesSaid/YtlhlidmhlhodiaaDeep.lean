/-
  Arguments that hold slices in structures, structures by value, slices of slices: what stands in the memory at the call. No program in sight.
-/
import Derived.Test.YtlhlidmhlhodiaaSpL
import Derived.Deep.Slices
namespace Go.Proofs.Ytlhlidmhlhodiaa
set_option linter.unusedSimpArgs false
set_option linter.unusedVariables false
open Go.ChangeShapes Go.WideShapes Go.ChangeAt Go.RowKit Go.Deep

inductive Fd1 where
  | one (k : TypeDesc)
  | sl (ks : List TypeDesc)
def FV1 (R : List Ro) : Fd1 → Value → Prop
  | .one k, v => FKok k v
  | .sl ks, v => ∃ (A : Option Addr) (n c : Nat) (V : Nat → Nat → Value), v = .slice A n c ∧ n ≤ c ∧ c ≤ maxLen ∧ (∀ i j k, i < n → ks[j]? = some k → FKok k (V i j)) ∧ (0 < n → ∃ b o, A = some ⟨b, o, none⟩ ∧ ⟨b, o, ks.length, rowsOf ks V n⟩ ∈ R)
def FV1s (R : List Ro) (fs : List Fd1) (row : List Value) : Prop := row.length = fs.length ∧ ∀ (j : Nat) f, fs[j]? = some f → ∃ v, row[j]? = some v ∧ FV1 R f v
theorem FV1.mono {R R' : List Ro} (h : ∀ r ∈ R, r ∈ R') {f : Fd1} {v : Value} (hv : FV1 R f v) : FV1 R' f v := by
  cases f with
  | one k => exact hv
  | sl ks =>
    obtain ⟨A, n, c, V, h1, h2, h3, h4, h5⟩ := hv
    exact ⟨A, n, c, V, h1, h2, h3, h4, fun hn => by obtain ⟨b, o, h6, h7⟩ := h5 hn; exact ⟨b, o, h6, h _ h7⟩⟩
theorem FV1s.mono {R R' : List Ro} (h : ∀ r ∈ R, r ∈ R') {fs : List Fd1} {row : List Value} (hv : FV1s R fs row) : FV1s R' fs row :=
  ⟨hv.1, fun j f hf => by obtain ⟨v, h1, h2⟩ := hv.2 j f hf; exact ⟨v, h1, h2.mono h⟩⟩
theorem FV1.one_ {R : List Ro} {f : Fd1} {v : Value} (h : FV1 R f v) : v.oneCell' = true := by
  cases f with
  | one k => exact fk_one h
  | sl ks => obtain ⟨A, n, c, V, rfl, _⟩ := h; rfl
def kindB (P : Program) (t : TypeId) (k : TypeDesc) : Bool := match P.underlying t, k with
  | some .bool, .bool => true
  | some .string, .string => true
  | some (.int q), .int q' => decide (q = q')
  | _, _ => false
theorem kindB_spec {P : Program} {t : TypeId} {k : TypeDesc} (h : kindB P t k = true) : P.underlying t = some k ∧ plainKinds [k] = true := by
  unfold kindB at h
  split at h <;> first | (rename_i h1; exact ⟨h1, rfl⟩) | (rename_i h1; have := of_decide_eq_true h; subst this; exact ⟨h1, rfl⟩) | cases h
def kindsB (P : Program) : List TypeId → List TypeDesc → Bool
  | [], [] => true
  | t :: ts, k :: ks => kindB P t k && kindsB P ts ks
  | _, _ => false
theorem kindsB_spec {P : Program} : ∀ {ts : List TypeId} {ks : List TypeDesc}, kindsB P ts ks = true → ts.map P.underlying = ks.map some ∧ plainKinds ks = true
  | [], [], _ => ⟨rfl, rfl⟩
  | t :: ts, k :: ks, h => by
    simp only [kindsB, Bool.and_eq_true] at h
    obtain ⟨h1, h2⟩ := kindB_spec h.1
    obtain ⟨h3, h4⟩ := kindsB_spec h.2
    refine ⟨by simp [h1, h3], ?_⟩
    simp only [plainKinds, List.all_cons, List.all_nil, Bool.and_true] at h2 h4 ⊢
    rw [h2, h4]; rfl
  | [], _ :: _, h => by cases h
  | _ :: _, [], h => by cases h
def fit1B (P : Program) (t : TypeId) : Fd1 → Bool
  | .one k => kindB P t k
  | .sl ks => match P.underlying t with
    | some (.slice e) => match P.underlying e with
      | some (.struct fs) => oneCellFields P fs && (P.cellsOf e == fs.size) && kindsB P (fs.toList.map (·.type)) ks && !ks.isEmpty
      | _ => (match ks with
        | [k] => kindB P e k && P.cellsOf e == 1
        | _ => false)
    | _ => false
def fit1sB (P : Program) : List TypeId → List Fd1 → Bool
  | [], [] => true
  | t :: ts, f :: fs => fit1B P t f && fit1sB P ts fs
  | _, _ => false
theorem fit1sB_at {P : Program} : ∀ {ts : List TypeId} {fs : List Fd1}, fit1sB P ts fs = true → ts.length = fs.length ∧ ∀ (j : Nat) f, fs[j]? = some f → ∃ t, ts[j]? = some t ∧ fit1B P t f = true
  | [], [], _ => ⟨rfl, fun j f h => by simp at h⟩
  | t :: ts, f :: fs, h => by
    simp only [fit1sB, Bool.and_eq_true] at h
    obtain ⟨h1, h2⟩ := fit1sB_at h.2
    refine ⟨by simp [h1], fun j g hg => ?_⟩
    cases j with
    | zero => simp at hg; subst hg; exact ⟨t, rfl, h.1⟩
    | succ j => simpa using h2 j g (by simpa using hg)
  | [], _ :: _, h => by cases h
  | _ :: _, [], h => by cases h
section
variable {H : Type} {enc : TypeId × Value → H} {P : Program} {W : World} {t e : TypeId} {a : Option Addr} {len cap : Nat} {d : DataW H} {p : List MemPlace}
theorem fv1_of {f : Fd1} {v : Value} {n : Nat} {y : DataW H × List MemPlace} (hf : fit1B P t f = true) (h : DataW.trod enc P W 0 (fun _ => true) true n t [v] = some y) : ∃ R : List Ro, (∀ r ∈ R, r.sat W) ∧ FV1 R f v := by
  cases f with
  | one k =>
    obtain ⟨h1, h2⟩ := kindB_spec hf
    exact ⟨[], (by intro r hr; cases hr), fk_of h1 (plain_of h2 (j := 0) rfl) h⟩
  | sl ks =>
    simp only [fit1B] at hf
    split at hf
    · rename_i e he
      obtain ⟨A, ln, cp, rfl⟩ : ∃ A ln cp, v = .slice A ln cp := by
        rcases open_slice he h with ⟨hcs, _⟩ | ⟨x, l, c, m, n, D, Pl, hcs, _⟩
        · simp at hcs; exact ⟨_, _, _, hcs⟩
        · simp at hcs; exact ⟨_, _, _, hcs⟩
      have hT : DataW.Trod enc P W 0 (fun _ => true) true t (.slice A ln cp) y.1 y.2 := ⟨n, h⟩
      have key : ∃ V, Rws ks W A ln cp V := by
        split at hf
        · rename_i fs hfs
          simp only [Bool.and_eq_true, beq_iff_eq, Bool.not_eq_true'] at hf
          obtain ⟨⟨⟨h1, h2⟩, h3⟩, h4⟩ := hf
          obtain ⟨h5, h6⟩ := kindsB_spec h3
          exact open_rws_struct he hfs h1 h2 ⟨by rw [← h5, List.map_map]; rfl, h6, by cases ks with | nil => simp at h4 | cons => simp⟩ hT
        · split at hf
          · rename_i k
            simp only [Bool.and_eq_true, beq_iff_eq] at hf
            exact open_rws_one he (kindB_spec hf.1) hf.2 hT
          · cases hf
      obtain ⟨V, hV⟩ := key
      have hk0 : 0 < ks.length := by
        cases ks with
        | cons => simp
        | nil =>
          split at hf
          · simp at hf
          · cases hf
      obtain ⟨R, h1, h2⟩ := rws_ro hV hk0
      exact ⟨R, h1, A, ln, cp, V, rfl, hV.1, hV.2.1, hV.2.2.2, h2⟩
    · cases hf
theorem fv1s_of {fs : List Fd1} {ts : List TypeId} {row : List Value} (hfit : fit1sB P ts fs = true) (hl : row.length = ts.length)
    (h : ∀ (j : Nat) t v, ts[j]? = some t → row[j]? = some v → ∃ n y, DataW.trod enc P W 0 (fun _ => true) true n t [v] = some y) : ∃ R : List Ro, (∀ r ∈ R, r.sat W) ∧ FV1s R fs row := by
  induction fs generalizing ts row with
  | nil =>
    cases ts with
    | nil => exact ⟨[], (by intro r hr; cases hr), by simpa using hl, fun j f hf => by simp at hf⟩
    | cons => cases hfit
  | cons f fs ih =>
    cases ts with
    | nil => cases hfit
    | cons t ts =>
      cases row with
      | nil => simp at hl
      | cons v row =>
        simp only [fit1sB, Bool.and_eq_true] at hfit
        obtain ⟨n, y, h0⟩ := h 0 t v rfl rfl
        obtain ⟨R1, g1, g2⟩ := fv1_of hfit.1 h0
        obtain ⟨R2, k1, k2, k3⟩ := ih hfit.2 (by simpa using hl) (fun j t v ht hv => h (j + 1) t v (by simpa using ht) (by simpa using hv))
        refine ⟨R1 ++ R2, fun r hr => ?_, by simp [k2], fun j g hg => ?_⟩
        · rcases List.mem_append.1 hr with hr | hr
          · exact g1 r hr
          · exact k1 r hr
        · cases j with
          | zero => simp at hg; subst hg; exact ⟨v, rfl, g2.mono fun r hr => List.mem_append_left _ hr⟩
          | succ j =>
            obtain ⟨u, h1, h2⟩ := k3 j g (by simpa using hg)
            exact ⟨u, by simpa using h1, h2.mono fun r hr => List.mem_append_right _ hr⟩
/-- a structure by value -/
theorem open_agg_deep {r : Reach} {b0 : Nat} {fs : Array Field} {Fs : List Fd1} {v : Value} (hs : P.underlying t = some (.struct fs)) (hone : oneCellFields P fs = true) (hC : P.cellsOf t = fs.size) (hfit : fit1sB P (fs.toList.map (·.type)) Fs = true)
    (hv : Value.okWide P W r b0 t v) (h : DataW.Trod enc P W 0 (fun _ => true) true t v d p) : ∃ (row : List Value) (R : List Ro), v = .agg row.toArray ∧ (∀ r ∈ R, r.sat W) ∧ FV1s R Fs row := by
  obtain ⟨cs, rfl, hsz⟩ := okWide_struct hs hv
  obtain ⟨fuel, hf⟩ := h
  obtain ⟨xs, n, _, _, hlen, hxl, hff⟩ := DataW.trod_struct hs hf
  have hcs : cs.toList.length = fs.size := by simp [hsz, hC]
  obtain ⟨R, h1, h2⟩ := fv1s_of (enc := enc) (W := W) (row := cs.toList) hfit (by simp [hsz, hC]) (fun j t' v ht hv => by
    have hj : j < fs.size := by have := (List.getElem?_eq_some_iff.1 hv).1; omega
    have hfj : fs[j]? = some fs[j] := Array.getElem?_eq_getElem hj
    obtain ⟨ho, hkc⟩ := hone_of hone j _ hfj
    have h3 := hff j _ hfj
    rw [ho, hkc] at h3
    have hd1 : ((Value.agg cs).cells.toList.drop j).take 1 = [v] := by
      have e : (Value.agg cs).cells.toList = cs.toList := rfl
      rw [e, List.drop_eq_getElem_cons (by omega)]
      have := (List.getElem?_eq_some_iff.1 hv).2
      simp [this]
    rw [hd1] at h3
    have ht2 : t' = fs[j].type := by simp [hfj] at ht; exact ht.symm
    subst ht2
    exact ⟨n, xs[j]'(by omega), h3.trans (List.getElem?_eq_getElem _)⟩)
  exact ⟨cs.toList, R, by simp, h1, h2⟩
theorem comb {Fs : List Fd1} {x : Addr} {sz : Nat} (hz : sz = Fs.length) (h0 : 0 < sz)
    (h : ∀ i, i < len → ∃ (row : List Value) (R : List Ro), (∀ r ∈ R, r.sat W) ∧ FV1s R Fs row ∧ ∀ j, j < sz → W.cell? (x.add (i * sz + j)) = row[j]?) :
    ∃ (rows : List (List Value)) (R : List Ro), (∀ r ∈ R, r.sat W) ∧ rows.length = len ∧ (∀ row ∈ rows, FV1s R Fs row) ∧ (0 < len → ∃ b o, (some x : Option Addr) = some ⟨b, o, none⟩ ∧ ⟨b, o, sz, rows⟩ ∈ R) := by
  classical
  let rowf (i : Nat) : List Value := if hi : i < len then Classical.choose (h i hi) else []
  let Rf (i : Nat) : List Ro := if hi : i < len then Classical.choose (Classical.choose_spec (h i hi)) else []
  have hspec : ∀ i, i < len → (∀ r ∈ Rf i, r.sat W) ∧ FV1s (Rf i) Fs (rowf i) ∧ ∀ j, j < sz → W.cell? (x.add (i * sz + j)) = (rowf i)[j]? := fun i hi => by
    have := Classical.choose_spec (Classical.choose_spec (h i hi))
    simp only [rowf, Rf, dif_pos hi]
    exact this
  let rows := (List.range len).map rowf
  let R0 := (List.range len).flatMap Rf
  have hR0 : ∀ r ∈ R0, r.sat W := fun r hr => by
    obtain ⟨i, hi, hr⟩ := List.mem_flatMap.1 hr
    exact (hspec i (List.mem_range.1 hi)).1 r hr
  have hrows : ∀ row ∈ rows, FV1s R0 Fs row := fun row hrow => by
    obtain ⟨i, hi, rfl⟩ := List.mem_map.1 hrow
    exact (hspec i (List.mem_range.1 hi)).2.1.mono fun r hr => List.mem_flatMap.2 ⟨i, hi, hr⟩
  rcases Nat.eq_zero_or_pos len with hl | hl
  · exact ⟨rows, R0, hR0, by simp [rows], hrows, fun h => by omega⟩
  · have hrl : ∀ i, i < len → (rowf i).length = sz := fun i hi => (hspec i hi).2.1.1.trans hz.symm
    have h00 : W.cell? (x.add (0 * sz + 0)) = some ((rowf 0)[0]'(by rw [hrl 0 hl]; exact h0)) := by
      rw [(hspec 0 hl).2.2 0 h0]; exact List.getElem?_eq_getElem _
    have hs : x.spot = none := World.cell?_spot (by simpa [Addr.add] using h00)
    obtain ⟨b, o, s⟩ := x
    simp only at hs
    subst hs
    have hadd : ∀ k, (⟨b, o, none⟩ : Addr).add k = ⟨b, o + k, none⟩ := fun k => by
      unfold Addr.add; split
      · rename_i h; simp [h]
      · rfl
    simp only [hadd] at hspec h00
    obtain ⟨cur, tt, fz, hb, _⟩ := block_of_cell h00
    have hok : RowsOk sz rows := fun row hrow => by
      obtain ⟨i, hi, rfl⟩ := List.mem_map.1 hrow
      have hi := List.mem_range.1 hi
      refine ⟨hrl i hi, fun u hu => ?_⟩
      obtain ⟨j, hj⟩ := List.mem_iff_getElem?.1 hu
      have hjl : j < Fs.length := by have := (List.getElem?_eq_some_iff.1 hj).1; rw [hrl i hi, hz] at this; exact this
      obtain ⟨v, h1, h2⟩ := (hspec i hi).2.1.2 j Fs[j] (List.getElem?_eq_getElem hjl)
      rw [hj] at h1
      obtain rfl := Option.some.inj h1
      exact h2.one_
    have hseg : Ro.sat W ⟨b, o, sz, rows⟩ := by
      refine ⟨hok, cur, tt, fz, hb, (seg_iff hok.lens).2 ?_⟩
      intro i row hi j u hj
      have hil : i < len := by have := (List.getElem?_eq_some_iff.1 hi).1; simpa [rows] using this
      have e : row = rowf i := by simp [rows, hil] at hi; exact hi.symm
      subst e
      have hjl : j < sz := by have := (List.getElem?_eq_some_iff.1 hj).1; rw [hrl i hil] at this; exact this
      have := (hspec i hil).2.2 j hjl
      rw [hj] at this
      unfold World.cell? at this
      rw [hb] at this
      simpa using this
    refine ⟨rows, ⟨b, o, sz, rows⟩ :: R0, fun r hr => ?_, by simp [rows], fun row hrow => (hrows row hrow).mono fun r hr => .tail _ hr, fun _ => ⟨b, o, rfl, .head _⟩⟩
    rcases List.mem_cons.1 hr with rfl | hr
    · exact hseg
    · exact hR0 r hr
/-- what a slice with such rows is -/
def Deep (R : List Ro) (Fs : List Fd1) (A : Option Addr) (n c : Nat) (rows : List (List Value)) : Prop :=
  n ≤ c ∧ c ≤ maxLen ∧ rows.length = n ∧ (∀ row ∈ rows, FV1s R Fs row) ∧ (0 < n → ∃ b o, A = some ⟨b, o, none⟩ ∧ ⟨b, o, Fs.length, rows⟩ ∈ R)
/-- a slice of structures -/
theorem open_sl_deep {fs : Array Field} {Fs : List Fd1} (ht : P.underlying t = some (.slice e)) (he : P.underlying e = some (.struct fs)) (hone : oneCellFields P fs = true) (hC : P.cellsOf e = fs.size) (hfit : fit1sB P (fs.toList.map (·.type)) Fs = true) (h0 : 0 < Fs.length)
    (h : DataW.Trod enc P W 0 (fun _ => true) true t (.slice a len cap) d p) : ∃ (rows : List (List Value)) (R : List Ro), (∀ r ∈ R, r.sat W) ∧ Deep R Fs a len cap rows := by
  have hsz : fs.size = Fs.length := by simpa using (fit1sB_at hfit).1
  obtain ⟨fuel, hf⟩ := h
  rcases open_slice ht hf with ⟨hcs, _⟩ | ⟨x, l, c, m, n, D, Pl, hcs, _, hl, hm, hmm, _, hi⟩
  · simp [Value.cells] at hcs
    obtain ⟨rfl, rfl, rfl⟩ := hcs
    exact ⟨[], [], (by intro r hr; cases hr), Nat.le_refl _, by simp [maxLen], rfl, (by intro row hr; cases hr), fun h => by omega⟩
  · simp [Value.cells] at hcs
    obtain ⟨rfl, rfl, rfl⟩ := hcs
    obtain ⟨rows, R, h1, h2, h3, h4⟩ := comb (W := W) (len := len) (x := x) (sz := Fs.length) rfl h0 (fun i hil => by
      obtain ⟨cs', hc, ht'⟩ := hi i (by simp at hmm; omega)
      obtain ⟨ys, n', _, _, hlen, hyl, hff⟩ := DataW.trod_struct he ht'
      obtain ⟨_, hcl, hat⟩ := World.cells?_some hc
      rw [hC, hsz] at hcl hat
      obtain ⟨R, h1, h2⟩ := fv1s_of (enc := enc) (W := W) (row := cs') hfit (by simp [hcl, hsz]) (fun j t' v ht hv => by
        have hj : j < fs.size := by have := (List.getElem?_eq_some_iff.1 hv).1; omega
        have hfj : fs[j]? = some fs[j] := Array.getElem?_eq_getElem hj
        obtain ⟨ho, hkc⟩ := hone_of hone j _ hfj
        have h3 := hff j _ hfj
        rw [ho, hkc] at h3
        have hd1 : (cs'.drop j).take 1 = [v] := by
          rw [List.drop_eq_getElem_cons (by omega)]
          have := (List.getElem?_eq_some_iff.1 hv).2
          simp [this]
        rw [hd1] at h3
        have ht2 : t' = fs[j].type := by simp [hfj] at ht; exact ht.symm
        subst ht2
        exact ⟨n', ys[j]'(by omega), h3.trans (List.getElem?_eq_getElem _)⟩)
      refine ⟨cs', R, h1, h2, fun j hj => ?_⟩
      have hadd : x.add (i * Fs.length + j) = (x.add (i * Fs.length)).add j := by rw [Go.Deep.add_add]
      rw [hadd]; exact hat j hj)
    exact ⟨rows, R, h1, hl, hm, h2, h3, h4⟩
/-- a slice of slices -/
theorem open_sls_deep {f : Fd1} (ht : P.underlying t = some (.slice e)) (hC : P.cellsOf e = 1) (hfit : fit1B P e f = true)
    (h : DataW.Trod enc P W 0 (fun _ => true) true t (.slice a len cap) d p) : ∃ (rows : List (List Value)) (R : List Ro), (∀ r ∈ R, r.sat W) ∧ Deep R [f] a len cap rows := by
  obtain ⟨fuel, hf⟩ := h
  rcases open_slice1 ht hC hf with ⟨hcs, _⟩ | ⟨x, l, c, m, n, V, D, Pl, hcs, _, hl, hm, hmm, _, hi⟩
  · simp [Value.cells] at hcs
    obtain ⟨rfl, rfl, rfl⟩ := hcs
    exact ⟨[], [], (by intro r hr; cases hr), Nat.le_refl _, by simp [maxLen], rfl, (by intro row hr; cases hr), fun h => by omega⟩
  · simp [Value.cells] at hcs
    obtain ⟨rfl, rfl, rfl⟩ := hcs
    obtain ⟨rows, R, h1, h2, h3, h4⟩ := comb (W := W) (len := len) (x := x) (Fs := [f]) (sz := 1) rfl (by omega) (fun i hil => by
      obtain ⟨h1, h2⟩ := hi i (by simp at hmm; omega)
      obtain ⟨R, h3, h4⟩ := fv1_of hfit h2
      refine ⟨[V i], R, h3, ⟨rfl, fun j g hg => ?_⟩, fun j hj => ?_⟩
      · cases j with
        | zero => simp at hg; subst hg; exact ⟨V i, rfl, h4⟩
        | succ j => simp at hg
      · have : j = 0 := by omega
        subst this
        simpa using h1)
    exact ⟨rows, R, h1, hl, hm, h2, h3, h4⟩
end
end Go.Proofs.Ytlhlidmhlhodiaa
