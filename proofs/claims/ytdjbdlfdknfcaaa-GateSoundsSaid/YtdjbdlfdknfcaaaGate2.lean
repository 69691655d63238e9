/-
  Package gate over one model, the reference's own struct: a gate in memory stands for it.
-/
import Derived.Test.YtdjbdlfdknfcaaaGate
namespace Go.Proofs.Ytdjbdlfdknfcaaa
set_option linter.unusedSimpArgs false
set_option linter.unusedVariables false
open Go.RowKit

structure RG where
  vid : Bool
  pau : Bool
  at_ : Int
  aim : Int
  shu : Int
  tur : Int
  deriving DecidableEq
def RG.vals (x : RG) : Array Value := #[.bool x.vid, .bool x.pau, .int .i64 x.at_, .int .i64 x.aim, .int .i64 x.shu, .int .i64 x.tur]
def RG.pass (x : RG) (lay : Int) (key : Bool) : RG × Bool :=
  if x.pau then (x, false)
  else if !x.vid then ({ x with at_ := lay }, true)
  else if (lay == x.aim) && key then ({ x with tur := if 0 ≤ x.at_ ∧ x.at_ ≠ lay then x.tur + 1 else x.tur, at_ := lay }, true)
  else (x, decide (0 ≤ x.at_) && (x.at_ == lay))
def RG.close (x : RG) : RG := { x with shu := if 0 ≤ x.at_ then x.shu + 1 else x.shu, at_ := -1 }

/-- the gate in block g stands for x -/
def GB (w : World) (g : Nat) (x : RG) : Prop :=
  ∃ a, Blk w g 101 #[.bool x.vid, .bool (decide (0 ≤ x.at_)), .int .i64 a, .int .i64 x.aim, .bool x.pau, .int .i64 x.shu, .int .i64 x.tur] ∧ (0 ≤ x.at_ → a = x.at_)
theorem GB.lt {w : World} {g : Nat} {x : RG} (h : GB w g x) : g < w.heap.size := by
  obtain ⟨a, h, _⟩ := h; exact h.lt
theorem GB.below {w w' : World} {g B : Nat} {x : RG} (h : GB w g x) (hb : Below B w w') (hg : g < B) : GB w' g x := by
  obtain ⟨a, h, e⟩ := h; exact ⟨a, h.below hb hg, e⟩
theorem GB.alloc {w : World} {g : Nat} {x : RG} (h : GB w g x) (o : Obj) : GB (w.alloc o) g x := by
  obtain ⟨a, h, e⟩ := h; exact ⟨a, h.alloc o, e⟩
theorem GB.far {w : World} {g : Nat} {x : RG} (h : GB w g x) {p : Addr} (hp : g ≠ p.block) (u : Value) : GB (w.setCell p u) g x := by
  obtain ⟨a, h, e⟩ := h; exact ⟨a, h.far hp u, e⟩
theorem GB.drewN {w : World} {g : Nat} {x : RG} (h : GB w g x) (n : Nat) : GB (w.drewN n) g x := by
  obtain ⟨a, h, e⟩ := h; exact ⟨a, h.drewN n, e⟩

abbrev RG.ok (x : RG) : Prop := 0 ≤ x.shu ∧ x.shu ≤ 1000000 ∧ 0 ≤ x.tur ∧ x.tur ≤ 1000000

theorem beqc (a b : Int) : (a == b) = (b == a) := BEq.comm
theorem gPass (x : RG) (lay : Int) (key : Bool) (g : Nat) (w : World) (h : GB w g x) (ho : x.ok) (hl : 0 ≤ lay) :
    Calls Try.prog 19 #[.pointer (some ⟨g, 0, none⟩), .int .i64 lay, .bool key] w fun e w' => e = .returned (.bool (x.pass lay key).2) ∧ GB w' g (x.pass lay key).1 ∧ w.grownBy w' (some g) := by
  obtain ⟨vid, pau, at_, aim, shu, tur⟩ := x
  obtain ⟨a, hB, ea0⟩ := h
  obtain ⟨o1, o2, o3, o4⟩ := ho
  simp only at *
  cases pau
  · cases vid
    · refine (gPass2 _ a aim shu tur lay key g w hB).mono fun e w' ⟨h1, h2, h3⟩ => ⟨by simpa [RG.pass] using h1, ⟨lay, ?_, ?_⟩, h3⟩
      · simpa [RG.pass, Blk, hl] using h2
      · simp [RG.pass]
    · by_cases hk : lay = aim
      · subst hk
        cases key
        · by_cases h0 : 0 ≤ at_
          · have ea := ea0 h0
            subst ea
            have hB' := hB
            simp only [h0, decide_true] at hB'
            refine (gPass9 a lay shu tur g w hB').mono fun e w' ⟨h1, h2, h3⟩ => ⟨by rw [beqc] at h1; simpa [RG.pass, h0] using h1, ⟨a, ?_, ?_⟩, h3⟩
            · simpa [RG.pass, Blk, h0] using h2
            · simp [RG.pass]
          · have hB' := hB
            simp only [h0, decide_false] at hB'
            refine (gPass8 a lay shu tur g w hB').mono fun e w' ⟨h1, h2, h3⟩ => ⟨by simpa [RG.pass, h0] using h1, ⟨a, ?_, ?_⟩, h3⟩
            · simpa [RG.pass, Blk, h0] using h2
            · simp [RG.pass, h0]
        · by_cases h0 : 0 ≤ at_
          · have ea := ea0 h0
            subst ea
            have hB' := hB
            simp only [h0, decide_true] at hB'
            by_cases hne : a = lay
            · refine (gPass5 a lay shu tur g w hB' (by simp [hne])).mono fun e w' ⟨h1, h2, h3⟩ => ⟨by simpa [RG.pass] using h1, ⟨lay, ?_, ?_⟩, h3⟩
              · simpa [RG.pass, Blk, hl, hne] using h2
              · simp [RG.pass]
            · refine (gPass4 a lay shu tur g w hB' ⟨o3, o4⟩ (by simp [hne])).mono fun e w' ⟨h1, h2, h3⟩ => ⟨by simpa [RG.pass] using h1, ⟨lay, ?_, ?_⟩, h3⟩
              · simpa [RG.pass, Blk, hl, hne, h0] using h2
              · simp [RG.pass]
          · have hB' := hB
            simp only [h0, decide_false] at hB'
            refine (gPass3 a lay shu tur g w hB').mono fun e w' ⟨h1, h2, h3⟩ => ⟨by simpa [RG.pass] using h1, ⟨lay, ?_, ?_⟩, h3⟩
            · simpa [RG.pass, Blk, hl, h0] using h2
            · simp [RG.pass]
      · have hk2 : (lay == aim) = false := by simp [hk]
        by_cases h0 : 0 ≤ at_
        · have ea := ea0 h0
          subst ea
          have hB' := hB
          simp only [h0, decide_true] at hB'
          cases key
          · refine (gPass9b a aim shu tur lay g w hB' hk2).mono fun e w' ⟨h1, h2, h3⟩ => ⟨by rw [beqc] at h1; simpa [RG.pass, h0] using h1, ⟨a, ?_, ?_⟩, h3⟩
            · simpa [RG.pass, Blk, h0] using h2
            · simp [RG.pass]
          · refine (gPass7 a aim shu tur lay g w hB' hk2).mono fun e w' ⟨h1, h2, h3⟩ => ⟨by rw [beqc] at h1; simpa [RG.pass, h0, hk] using h1, ⟨a, ?_, ?_⟩, h3⟩
            · simpa [RG.pass, Blk, h0, hk] using h2
            · simp [RG.pass, hk]
        · have hB' := hB
          simp only [h0, decide_false] at hB'
          cases key
          · refine (gPass8b a aim shu tur lay g w hB' hk2).mono fun e w' ⟨h1, h2, h3⟩ => ⟨by simpa [RG.pass, h0] using h1, ⟨a, ?_, ?_⟩, h3⟩
            · simpa [RG.pass, Blk, h0] using h2
            · simp [RG.pass, h0]
          · refine (gPass6 a aim shu tur lay g w hB' hk2).mono fun e w' ⟨h1, h2, h3⟩ => ⟨by simpa [RG.pass, h0, hk] using h1, ⟨a, ?_, ?_⟩, h3⟩
            · simpa [RG.pass, Blk, h0, hk] using h2
            · simp [RG.pass, h0, hk]
  · refine (gPass1 vid _ a aim shu tur lay key g w hB).mono fun e w' ⟨h1, h2, h3⟩ => ⟨by simpa [RG.pass] using h1, ⟨a, ?_, ?_⟩, h3⟩
    · simpa [RG.pass, Blk] using h2
    · simpa [RG.pass] using ea0

theorem gClose (x : RG) (g : Nat) (w : World) (h : GB w g x) (ho : x.ok) :
    Calls Try.prog 50 #[.pointer (some ⟨g, 0, none⟩)] w fun e w' => e = .returned (.tuple #[]) ∧ GB w' g x.close ∧ w.grownBy w' (some g) := by
  obtain ⟨vid, pau, at_, aim, shu, tur⟩ := x
  obtain ⟨a, hB, ea0⟩ := h
  obtain ⟨o1, o2, o3, o4⟩ := ho
  simp only at *
  by_cases h0 : 0 ≤ at_
  · have hB' := hB
    simp only [h0, decide_true] at hB'
    refine (gShut2 vid a aim pau shu tur g w hB' ⟨o1, o2⟩).mono fun e w' ⟨h1, h2, h3⟩ => ⟨h1, ⟨a, ?_, ?_⟩, h3⟩
    · simpa [RG.close, Blk, h0] using h2
    · simp [RG.close]
  · have hB' := hB
    simp only [h0, decide_false] at hB'
    refine (gShut1 vid a aim pau shu tur g w hB').mono fun e w' ⟨h1, h2, h3⟩ => ⟨h1, ⟨a, ?_, ?_⟩, h3⟩
    · simpa [RG.close, Blk, h0] using h2
    · simp [RG.close]
theorem gWant (x : RG) (lay : Int) (g : Nat) (w : World) (h : GB w g x) :
    Calls Try.prog 20 #[.pointer (some ⟨g, 0, none⟩), .int .i64 lay] w fun e w' => e = .returned (.tuple #[]) ∧ GB w' g { x with aim := max lay 0 } ∧ w.grownBy w' (some g) := by
  obtain ⟨vid, pau, at_, aim, shu, tur⟩ := x
  obtain ⟨a, hB, ea0⟩ := h
  simp only at *
  by_cases h0 : 0 ≤ lay
  · refine (gWant1 vid _ a aim pau shu tur lay g w hB h0).mono fun e w' ⟨h1, h2, h3⟩ => ⟨h1, ⟨a, ?_, ea0⟩, h3⟩
    simpa [Blk, Int.max_eq_left h0] using h2
  · refine (gWant2 vid _ a aim pau shu tur lay g w hB (by omega)).mono fun e w' ⟨h1, h2, h3⟩ => ⟨h1, ⟨a, ?_, ea0⟩, h3⟩
    simpa [Blk, Int.max_eq_right (show lay ≤ 0 by omega)] using h2
theorem gPauseOff (x : RG) (g : Nat) (w : World) (h : GB w g x) :
    Calls Try.prog 30 #[.pointer (some ⟨g, 0, none⟩), .bool false] w fun e w' => e = .returned (.tuple #[]) ∧ GB w' g { x with pau := false } ∧ w.grownBy w' (some g) := by
  obtain ⟨vid, pau, at_, aim, shu, tur⟩ := x
  obtain ⟨a, hB, ea0⟩ := h
  exact (gPause0 vid _ a aim pau shu tur g w hB).mono fun e w' ⟨h1, h2, h3⟩ => ⟨h1, ⟨a, h2, ea0⟩, h3⟩
theorem gPauseOn (x : RG) (g : Nat) (w : World) (h : GB w g x) (ho : x.ok) :
    Calls Try.prog 30 #[.pointer (some ⟨g, 0, none⟩), .bool true] w fun e w' => e = .returned (.tuple #[]) ∧ GB w' g { x.close with pau := true } ∧ w.grownBy w' (some g) := by
  have H := hide (gClose x g w h ho)
  clear h
  go_enter Try.func30, Try.ntmps30
  go_wp2_with (go_at_call 50; refine H.out.mono ?_; rintro e w1 ⟨rfl, ⟨a, hB, ea⟩, hg⟩; obtain ⟨hf, hlt, c0, c1, c2, c3, c4, c5, c6⟩ := Blk.f7 hB; have HB := hide hB; have HG := hide hg; have HE := hide ea; clear hB hg ea)
  go_end0
  refine ⟨rfl, ⟨a, ?_, HE.out⟩, g_set HG.out _ _⟩
  have hb := HB.out
  unfold Blk at hb
  simp only [Blk, heap_set_self, heap_drewN, heap_drew, setIn_cells, Option.map_some, List.setIfInBounds_toArray, List.set_cons_zero, List.set_cons_succ, hb]
theorem gAims (x : RG) (g : Nat) (w : World) (h : GB w g x) :
    Calls Try.prog 18 #[.pointer (some ⟨g, 0, none⟩)] w fun e w' => e = .returned (.int .i64 x.aim) ∧ w = w' := by
  obtain ⟨a, hB, ea0⟩ := h
  exact gAim _ _ _ _ _ _ _ g w hB
theorem gPauseds (x : RG) (g : Nat) (w : World) (h : GB w g x) :
    Calls Try.prog 31 #[.pointer (some ⟨g, 0, none⟩)] w fun e w' => e = .returned (.bool x.pau) ∧ w = w' := by
  obtain ⟨a, hB, ea0⟩ := h
  exact gPaused _ _ _ _ _ _ _ g w hB
/-- what Open answers -/
theorem gOpens (x : RG) (g : Nat) (w : World) (h : GB w g x) :
    Calls Try.prog 21 #[.pointer (some ⟨g, 0, none⟩)] w fun e w' => e = .returned (.tuple #[.int .i64 (if 0 ≤ x.at_ then x.at_ else 0), .bool (decide (0 ≤ x.at_))]) ∧ w = w' := by
  obtain ⟨vid, pau, at_, aim, shu, tur⟩ := x
  obtain ⟨a, hB, ea0⟩ := h
  simp only at *
  by_cases h0 : 0 ≤ at_
  · simp only [h0, decide_true, if_true] at hB ⊢
    rw [← ea0 h0]
    exact gOpen2 _ _ _ _ _ _ g w hB
  · simp only [h0, decide_false, if_false] at hB ⊢
    exact gOpen1 _ _ _ _ _ _ g w hB
/-- what Needs answers -/
def RG.need (x : RG) : Bool := x.vid && !x.pau && !(x.at_ == x.aim)
theorem gNeeds (x : RG) (ha : 0 ≤ x.aim) (g : Nat) (w : World) (h : GB w g x) :
    Calls Try.prog 23 #[.pointer (some ⟨g, 0, none⟩)] w fun e w' => e = .returned (.tuple #[.int .i64 (if x.need then x.aim else 0), .bool x.need]) ∧ GB w' g x ∧ w.grownBy w' (some g) := by
  obtain ⟨vid, pau, at_, aim, shu, tur⟩ := x
  obtain ⟨a, hB, ea0⟩ := h
  simp only at *
  cases vid
  · exact (gNeeds1 _ a aim pau shu tur g w hB).mono fun e w' ⟨h1, h2, h3⟩ => ⟨by simpa [RG.need] using h1, ⟨a, h2, ea0⟩, h3⟩
  cases pau
  · by_cases h0 : 0 ≤ at_
    · have ea := ea0 h0
      subst ea
      have hB' := hB
      simp only [h0, decide_true] at hB'
      by_cases he : a = aim
      · exact (gNeeds5 a aim shu tur g w hB' (by simp [he])).mono fun e w' ⟨h1, h2, h3⟩ => ⟨by simpa [RG.need, he] using h1, ⟨a, by simpa [Blk, h0] using h2, ea0⟩, h3⟩
      · have he2 : (a == aim) = false := by simp [he]
        exact (gNeeds4 a aim shu tur g w hB' (by simp [he])).mono fun e w' ⟨h1, h2, h3⟩ => ⟨by simpa [RG.need, he2] using h1, ⟨a, by simpa [Blk, h0] using h2, ea0⟩, h3⟩
    · have hB' := hB
      simp only [h0, decide_false] at hB'
      have hne : (at_ == aim) = false := by simp; omega
      exact (gNeeds3 a aim shu tur g w hB').mono fun e w' ⟨h1, h2, h3⟩ => ⟨by simpa [RG.need, hne] using h1, ⟨a, by simpa [Blk, h0] using h2, ea0⟩, h3⟩
  · exact (gNeeds2 _ a aim shu tur g w hB).mono fun e w' ⟨h1, h2, h3⟩ => ⟨by simpa [RG.need] using h1, ⟨a, h2, ea0⟩, h3⟩

/-! the reference -/
theorem rPass (x : RG) (lay : Int) (key : Bool) (w : World) (ho : x.ok) :
    Calls Try.prog 49 #[.agg x.vals, .int .i64 lay, .bool key] w fun e w' => e = .returned (.tuple #[.agg (x.pass lay key).1.vals, .bool (x.pass lay key).2]) ∧ Below w.heap.size w w' := by
  obtain ⟨vid, pau, at_, aim, shu, tur⟩ := x
  obtain ⟨o1, o2, o3, o4⟩ := ho
  simp only at o1 o2 o3 o4
  cases pau
  · cases vid
    · simpa [RG.pass, RG.vals] using rPass2 at_ aim shu tur lay key w
    · by_cases hk : lay = aim
      · subst hk
        cases key
        · by_cases h0 : 0 ≤ at_
          · simpa [RG.pass, RG.vals, h0] using rPass11 at_ lay shu tur w h0
          · simpa [RG.pass, RG.vals, h0] using rPass10 at_ lay shu tur w (by simpa using h0)
        · by_cases h0 : 0 ≤ at_
          · by_cases hne : at_ = lay
            · simpa [RG.pass, RG.vals, h0, hne] using rPass5 at_ lay shu tur w h0 (by simp [hne])
            · simpa [RG.pass, RG.vals, h0, hne] using rPass4 at_ lay shu tur w ⟨o3, o4⟩ h0 (by simp [hne])
          · simpa [RG.pass, RG.vals, h0] using rPass3 at_ lay shu tur w (by omega)
      · have hk2 : (lay == aim) = false := by simp [hk]
        by_cases h0 : 0 ≤ at_
        · cases key
          · simpa [RG.pass, RG.vals, h0, hk] using rPass9 at_ aim shu tur lay w hk2 h0
          · simpa [RG.pass, RG.vals, h0, hk] using rPass7 at_ aim shu tur lay w hk2 h0
        · cases key
          · simpa [RG.pass, RG.vals, h0, hk] using rPass8 at_ aim shu tur lay w hk2 (by simpa using h0)
          · simpa [RG.pass, RG.vals, h0, hk] using rPass6 at_ aim shu tur lay w hk2 (by simpa using h0)
  · simpa [RG.pass, RG.vals] using rPass1 vid at_ aim shu tur lay key w
theorem rClose (x : RG) (w : World) (ho : x.ok) :
    Calls Try.prog 51 #[.agg x.vals] w fun e w' => e = .returned (.agg x.close.vals) ∧ Below w.heap.size w w' := by
  obtain ⟨vid, pau, at_, aim, shu, tur⟩ := x
  obtain ⟨o1, o2, o3, o4⟩ := ho
  simp only at o1 o2 o3 o4
  by_cases h0 : 0 ≤ at_
  · simpa [RG.close, RG.vals, h0] using rClose2 vid pau at_ aim shu tur w ⟨o1, o2⟩ h0
  · simpa [RG.close, RG.vals, h0] using rClose1 vid pau at_ aim shu tur w (by omega)
end Go.Proofs.Ytdjbdlfdknfcaaa
