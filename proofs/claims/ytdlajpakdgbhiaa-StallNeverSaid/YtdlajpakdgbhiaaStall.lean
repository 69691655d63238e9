/-
  Package stall and its reference, each function by a contract.
-/
import Derived.Test.YtdlajpakdgbhiaaRows
import Derived.Test.YtdlajpakdgbhiaaMem
import Derived.Deep.QuietTactic
import Derived.BigQuiet
import Derived.Outline
namespace Go.Proofs.Ytdlajpakdgbhiaa
open Go.RowKit

structure Dog where
  after : Int
  rest : Int
  since : Int
  waits : Bool
  susp : Bool
  til : Int
  times : Int
  deriving DecidableEq

def Dog.cells (d : Dog) : Array Value := #[.int .i64 d.after, .int .i64 d.rest, .int .i64 d.since, .bool d.waits, .bool d.susp, .int .i64 d.til, .int .i64 d.times]

abbrev Dog.ok (d : Dog) : Prop := 1 ≤ d.after ∧ d.after ≤ 1099511627776 ∧ 0 ≤ d.rest ∧ d.rest ≤ 1099511627776 ∧ -1125899906842624 ≤ d.since ∧ d.since ≤ 1125899906842624 ∧ -1125899906842624 ≤ d.til ∧ d.til ≤ 1125899906842624 ∧ 0 ≤ d.times ∧ d.times ≤ 1125899906842624

def Dog.tick (d : Dog) (now : Int) (w s : Bool) : Dog × Int :=
  if d.susp then (if now < d.til then (d, 0) else ({ d with susp := false, waits := false }, 2))
  else
    let d1 := if !w || s then { d with waits := false } else d
    if !w then (d1, 0) else
    let d2 := if !d1.waits then { d1 with waits := true, since := now } else d1
    if now - d2.since < d2.after then (d2, 0) else ({ d2 with susp := true, til := now + d2.rest, waits := false, times := d2.times + 1 }, 1)

theorem stallCheck_ok (a r : Int) (w : World) (h : 1 ≤ a ∧ a ≤ 1099511627776 ∧ 1 ≤ r ∧ r ≤ 1099511627776) :
    Calls Try.prog 42 #[.agg #[.int .i64 a, .int .i64 r]] w fun e w' => e = .returned (.int .i64 0) ∧ Below w.heap.size w w' := by
  obtain ⟨h1, h2, h3, h4⟩ := h
  go_enter Try.func42, Try.ntmps42
  go_wp2
  go_ret
  exact ⟨rfl, (Below.refl _ _).alloc (Nat.le_refl _) _⟩
theorem stallCheck_no (a r : Int) (w : World) (h : ¬ (1 ≤ a ∧ a ≤ 1099511627776 ∧ 1 ≤ r ∧ r ≤ 1099511627776)) :
    Calls Try.prog 42 #[.agg #[.int .i64 a, .int .i64 r]] w fun e w' => e = .returned (.int .i64 5) ∧ Below w.heap.size w w' := by
  go_enter Try.func42, Try.ntmps42
  go_wp2
  all_goals go_ret
  all_goals first | exact ⟨rfl, (Below.refl _ _).alloc (Nat.le_refl _) _⟩ | (exfalso; simp at *; omega)

theorem stallNew_ok (a r : Int) (w : World) (h : 1 ≤ a ∧ a ≤ 1099511627776 ∧ 1 ≤ r ∧ r ≤ 1099511627776) :
    Calls Try.prog 30 #[.agg #[.int .i64 a, .int .i64 r]] w fun e w' => ∃ g, e = .returned (.tuple #[.pointer (some ⟨g, 0, none⟩), .int .i64 0]) ∧ Below w.heap.size w w' ∧ w.heap.size ≤ g ∧ Blk w' g 91 (Dog.cells ⟨a, r, 0, false, false, 0, 0⟩) := by
  go_enter Try.func30, Try.ntmps30
  go_wp2_with (go_at_call 42; refine (stallCheck_ok _ _ _ h).mono ?_; rintro e w' ⟨rfl, hb⟩; obtain ⟨hc, hf, hz⟩ := bcell hb)
  go_ret2
  exact ⟨_, rfl, (b_below ((Below.refl _ _).alloc (Nat.le_refl _) _) hb (by simp)).alloc (by simp at hz; omega) _, by simp at hz; omega, Blk.new _ _ _⟩
theorem stallNew_no (a r : Int) (w : World) (h : ¬ (1 ≤ a ∧ a ≤ 1099511627776 ∧ 1 ≤ r ∧ r ≤ 1099511627776)) :
    Calls Try.prog 30 #[.agg #[.int .i64 a, .int .i64 r]] w fun e w' => e = .returned (.tuple #[.pointer none, .int .i64 5]) ∧ Below w.heap.size w w' := by
  go_enter Try.func30, Try.ntmps30
  go_wp2_with (go_at_call 42; refine (stallCheck_no _ _ _ h).mono ?_; rintro e w' ⟨rfl, hb⟩)
  go_ret2
  exact ⟨rfl, b_below ((Below.refl _ _).alloc (Nat.le_refl _) _) hb (by simp)⟩

set_option maxHeartbeats 1000000 in
theorem dogTick1 (af rs si ti tm : Int) (wa st : Bool) (g : Nat) (now : Int) (w : World) (hB : w.heap[g]? = some (.cells #[.int .i64 af, .int .i64 rs, .int .i64 si, .bool wa, .bool false, .int .i64 (ti), .int .i64 (tm)] 91 (0, 0)))
    (hd : Dog.ok ⟨af, rs, si, wa, false, ti, tm⟩) (hn : 0 ≤ now ∧ now ≤ 1125899906842624)  :
    Calls Try.prog 32 #[.pointer (some ⟨g, 0, none⟩), .int .i64 now, .bool false, .bool st] w fun e w' =>
      e = .returned (.int .i64 0) ∧ w'.heap[g]? = some (.cells #[.int .i64 af, .int .i64 rs, .int .i64 si, .bool false, .bool false, .int .i64 (ti), .int .i64 (tm)] 91 (0, 0)) ∧ w.grownBy w' (some g) := by
  obtain ⟨k1, k2, k3, k4, k5, k6, k7, k8, k9, k10⟩ := hd
  simp only at k1 k2 k3 k4 k5 k6 k7 k8 k9 k10
  obtain ⟨hf, hlt, c0, c1, c2, c3, c4, c5, c6⟩ := Blk.f7 hB
  have HB := hide hB
  clear hB
  go_enter Try.func32, Try.ntmps32
  go_wp2_with (go_quiet (fail))
  go_ret
  exact ⟨rfl, by simp only [Blk, heap_set_self, heap_drewN, heap_drew, setIn_cells, Option.map_some, List.setIfInBounds_toArray, List.set_cons_zero, List.set_cons_succ, HB.out], (by repeat (first | with_reducible exact g_refl _ _ | with_reducible refine g_set ?_ _ _ | with_reducible refine g_drewN ?_ _ | with_reducible refine g_drew ?_))⟩
set_option maxHeartbeats 1000000 in
theorem dogTick2 (af rs si ti tm : Int) (g : Nat) (now : Int) (w : World) (hB : w.heap[g]? = some (.cells #[.int .i64 af, .int .i64 rs, .int .i64 si, .bool true, .bool false, .int .i64 (ti), .int .i64 (tm)] 91 (0, 0)))
    (hd : Dog.ok ⟨af, rs, si, true, false, ti, tm⟩) (hn : 0 ≤ now ∧ now ≤ 1125899906842624) (h : now - si < af) :
    Calls Try.prog 32 #[.pointer (some ⟨g, 0, none⟩), .int .i64 now, .bool true, .bool false] w fun e w' =>
      e = .returned (.int .i64 0) ∧ w'.heap[g]? = some (.cells #[.int .i64 af, .int .i64 rs, .int .i64 si, .bool true, .bool false, .int .i64 (ti), .int .i64 (tm)] 91 (0, 0)) ∧ w.grownBy w' (some g) := by
  obtain ⟨k1, k2, k3, k4, k5, k6, k7, k8, k9, k10⟩ := hd
  simp only at k1 k2 k3 k4 k5 k6 k7 k8 k9 k10
  obtain ⟨hf, hlt, c0, c1, c2, c3, c4, c5, c6⟩ := Blk.f7 hB
  have HB := hide hB
  clear hB
  go_enter Try.func32, Try.ntmps32
  go_wp2_with (go_quiet (fail))
  go_ret
  exact ⟨rfl, by simp only [Blk, heap_set_self, heap_drewN, heap_drew, setIn_cells, Option.map_some, List.setIfInBounds_toArray, List.set_cons_zero, List.set_cons_succ, HB.out], (by repeat (first | with_reducible exact g_refl _ _ | with_reducible refine g_set ?_ _ _ | with_reducible refine g_drewN ?_ _ | with_reducible refine g_drew ?_))⟩
set_option maxHeartbeats 1000000 in
theorem dogTick3 (af rs si ti tm : Int) (g : Nat) (now : Int) (w : World) (hB : w.heap[g]? = some (.cells #[.int .i64 af, .int .i64 rs, .int .i64 si, .bool true, .bool false, .int .i64 (ti), .int .i64 (tm)] 91 (0, 0)))
    (hd : Dog.ok ⟨af, rs, si, true, false, ti, tm⟩) (hn : 0 ≤ now ∧ now ≤ 1125899906842624) (h : af ≤ now - si) :
    Calls Try.prog 32 #[.pointer (some ⟨g, 0, none⟩), .int .i64 now, .bool true, .bool false] w fun e w' =>
      e = .returned (.int .i64 1) ∧ w'.heap[g]? = some (.cells #[.int .i64 af, .int .i64 rs, .int .i64 si, .bool false, .bool true, .int .i64 (now + rs), .int .i64 (tm + 1)] 91 (0, 0)) ∧ w.grownBy w' (some g) := by
  obtain ⟨k1, k2, k3, k4, k5, k6, k7, k8, k9, k10⟩ := hd
  simp only at k1 k2 k3 k4 k5 k6 k7 k8 k9 k10
  obtain ⟨hf, hlt, c0, c1, c2, c3, c4, c5, c6⟩ := Blk.f7 hB
  have HB := hide hB
  clear hB
  go_enter Try.func32, Try.ntmps32
  go_wp2_with (go_quiet (fail))
  go_ret
  exact ⟨rfl, by simp only [Blk, heap_set_self, heap_drewN, heap_drew, setIn_cells, Option.map_some, List.setIfInBounds_toArray, List.set_cons_zero, List.set_cons_succ, HB.out], (by repeat (first | with_reducible exact g_refl _ _ | with_reducible refine g_set ?_ _ _ | with_reducible refine g_drewN ?_ _ | with_reducible refine g_drew ?_))⟩
set_option maxHeartbeats 1000000 in
theorem dogTick4 (af rs si ti tm : Int) (g : Nat) (now : Int) (w : World) (hB : w.heap[g]? = some (.cells #[.int .i64 af, .int .i64 rs, .int .i64 si, .bool true, .bool false, .int .i64 (ti), .int .i64 (tm)] 91 (0, 0)))
    (hd : Dog.ok ⟨af, rs, si, true, false, ti, tm⟩) (hn : 0 ≤ now ∧ now ≤ 1125899906842624)  :
    Calls Try.prog 32 #[.pointer (some ⟨g, 0, none⟩), .int .i64 now, .bool true, .bool true] w fun e w' =>
      e = .returned (.int .i64 0) ∧ w'.heap[g]? = some (.cells #[.int .i64 af, .int .i64 rs, .int .i64 now, .bool true, .bool false, .int .i64 (ti), .int .i64 (tm)] 91 (0, 0)) ∧ w.grownBy w' (some g) := by
  obtain ⟨k1, k2, k3, k4, k5, k6, k7, k8, k9, k10⟩ := hd
  simp only at k1 k2 k3 k4 k5 k6 k7 k8 k9 k10
  obtain ⟨hf, hlt, c0, c1, c2, c3, c4, c5, c6⟩ := Blk.f7 hB
  have HB := hide hB
  clear hB
  go_enter Try.func32, Try.ntmps32
  go_wp2_with (go_quiet (fail))
  go_ret
  exact ⟨rfl, by simp only [Blk, heap_set_self, heap_drewN, heap_drew, setIn_cells, Option.map_some, List.setIfInBounds_toArray, List.set_cons_zero, List.set_cons_succ, HB.out], (by repeat (first | with_reducible exact g_refl _ _ | with_reducible refine g_set ?_ _ _ | with_reducible refine g_drewN ?_ _ | with_reducible refine g_drew ?_))⟩
set_option maxHeartbeats 1000000 in
theorem dogTick5 (af rs si ti tm : Int) (g : Nat) (now : Int) (w : World) (hB : w.heap[g]? = some (.cells #[.int .i64 af, .int .i64 rs, .int .i64 si, .bool false, .bool false, .int .i64 (ti), .int .i64 (tm)] 91 (0, 0)))
    (hd : Dog.ok ⟨af, rs, si, false, false, ti, tm⟩) (hn : 0 ≤ now ∧ now ≤ 1125899906842624)  :
    Calls Try.prog 32 #[.pointer (some ⟨g, 0, none⟩), .int .i64 now, .bool true, .bool false] w fun e w' =>
      e = .returned (.int .i64 0) ∧ w'.heap[g]? = some (.cells #[.int .i64 af, .int .i64 rs, .int .i64 now, .bool true, .bool false, .int .i64 (ti), .int .i64 (tm)] 91 (0, 0)) ∧ w.grownBy w' (some g) := by
  obtain ⟨k1, k2, k3, k4, k5, k6, k7, k8, k9, k10⟩ := hd
  simp only at k1 k2 k3 k4 k5 k6 k7 k8 k9 k10
  obtain ⟨hf, hlt, c0, c1, c2, c3, c4, c5, c6⟩ := Blk.f7 hB
  have HB := hide hB
  clear hB
  go_enter Try.func32, Try.ntmps32
  go_wp2_with (go_quiet (fail))
  go_ret
  exact ⟨rfl, by simp only [Blk, heap_set_self, heap_drewN, heap_drew, setIn_cells, Option.map_some, List.setIfInBounds_toArray, List.set_cons_zero, List.set_cons_succ, HB.out], (by repeat (first | with_reducible exact g_refl _ _ | with_reducible refine g_set ?_ _ _ | with_reducible refine g_drewN ?_ _ | with_reducible refine g_drew ?_))⟩
set_option maxHeartbeats 1000000 in
theorem dogTick6 (af rs si ti tm : Int) (g : Nat) (now : Int) (w : World) (hB : w.heap[g]? = some (.cells #[.int .i64 af, .int .i64 rs, .int .i64 si, .bool false, .bool false, .int .i64 (ti), .int .i64 (tm)] 91 (0, 0)))
    (hd : Dog.ok ⟨af, rs, si, false, false, ti, tm⟩) (hn : 0 ≤ now ∧ now ≤ 1125899906842624)  :
    Calls Try.prog 32 #[.pointer (some ⟨g, 0, none⟩), .int .i64 now, .bool true, .bool true] w fun e w' =>
      e = .returned (.int .i64 0) ∧ w'.heap[g]? = some (.cells #[.int .i64 af, .int .i64 rs, .int .i64 now, .bool true, .bool false, .int .i64 (ti), .int .i64 (tm)] 91 (0, 0)) ∧ w.grownBy w' (some g) := by
  obtain ⟨k1, k2, k3, k4, k5, k6, k7, k8, k9, k10⟩ := hd
  simp only at k1 k2 k3 k4 k5 k6 k7 k8 k9 k10
  obtain ⟨hf, hlt, c0, c1, c2, c3, c4, c5, c6⟩ := Blk.f7 hB
  have HB := hide hB
  clear hB
  go_enter Try.func32, Try.ntmps32
  go_wp2_with (go_quiet (fail))
  go_ret
  exact ⟨rfl, by simp only [Blk, heap_set_self, heap_drewN, heap_drew, setIn_cells, Option.map_some, List.setIfInBounds_toArray, List.set_cons_zero, List.set_cons_succ, HB.out], (by repeat (first | with_reducible exact g_refl _ _ | with_reducible refine g_set ?_ _ _ | with_reducible refine g_drewN ?_ _ | with_reducible refine g_drew ?_))⟩
set_option maxHeartbeats 1000000 in
theorem dogTick7 (af rs si ti tm : Int) (wa wt st : Bool) (g : Nat) (now : Int) (w : World) (hB : w.heap[g]? = some (.cells #[.int .i64 af, .int .i64 rs, .int .i64 si, .bool wa, .bool true, .int .i64 (ti), .int .i64 (tm)] 91 (0, 0)))
    (hd : Dog.ok ⟨af, rs, si, wa, true, ti, tm⟩) (hn : 0 ≤ now ∧ now ≤ 1125899906842624) (h : now < ti) :
    Calls Try.prog 32 #[.pointer (some ⟨g, 0, none⟩), .int .i64 now, .bool wt, .bool st] w fun e w' =>
      e = .returned (.int .i64 0) ∧ w'.heap[g]? = some (.cells #[.int .i64 af, .int .i64 rs, .int .i64 si, .bool wa, .bool true, .int .i64 (ti), .int .i64 (tm)] 91 (0, 0)) ∧ w.grownBy w' (some g) := by
  obtain ⟨k1, k2, k3, k4, k5, k6, k7, k8, k9, k10⟩ := hd
  simp only at k1 k2 k3 k4 k5 k6 k7 k8 k9 k10
  obtain ⟨hf, hlt, c0, c1, c2, c3, c4, c5, c6⟩ := Blk.f7 hB
  have HB := hide hB
  clear hB
  go_enter Try.func32, Try.ntmps32
  go_wp2_with (go_quiet (fail))
  go_ret
  exact ⟨rfl, by simp only [Blk, heap_set_self, heap_drewN, heap_drew, setIn_cells, Option.map_some, List.setIfInBounds_toArray, List.set_cons_zero, List.set_cons_succ, HB.out], (by repeat (first | with_reducible exact g_refl _ _ | with_reducible refine g_set ?_ _ _ | with_reducible refine g_drewN ?_ _ | with_reducible refine g_drew ?_))⟩
set_option maxHeartbeats 1000000 in
theorem dogTick8 (af rs si ti tm : Int) (wa wt st : Bool) (g : Nat) (now : Int) (w : World) (hB : w.heap[g]? = some (.cells #[.int .i64 af, .int .i64 rs, .int .i64 si, .bool wa, .bool true, .int .i64 (ti), .int .i64 (tm)] 91 (0, 0)))
    (hd : Dog.ok ⟨af, rs, si, wa, true, ti, tm⟩) (hn : 0 ≤ now ∧ now ≤ 1125899906842624) (h : ti ≤ now) :
    Calls Try.prog 32 #[.pointer (some ⟨g, 0, none⟩), .int .i64 now, .bool wt, .bool st] w fun e w' =>
      e = .returned (.int .i64 2) ∧ w'.heap[g]? = some (.cells #[.int .i64 af, .int .i64 rs, .int .i64 si, .bool false, .bool false, .int .i64 (ti), .int .i64 (tm)] 91 (0, 0)) ∧ w.grownBy w' (some g) := by
  obtain ⟨k1, k2, k3, k4, k5, k6, k7, k8, k9, k10⟩ := hd
  simp only at k1 k2 k3 k4 k5 k6 k7 k8 k9 k10
  obtain ⟨hf, hlt, c0, c1, c2, c3, c4, c5, c6⟩ := Blk.f7 hB
  have HB := hide hB
  clear hB
  go_enter Try.func32, Try.ntmps32
  go_wp2_with (go_quiet (fail))
  go_ret
  exact ⟨rfl, by simp only [Blk, heap_set_self, heap_drewN, heap_drew, setIn_cells, Option.map_some, List.setIfInBounds_toArray, List.set_cons_zero, List.set_cons_succ, HB.out], (by repeat (first | with_reducible exact g_refl _ _ | with_reducible refine g_set ?_ _ _ | with_reducible refine g_drewN ?_ _ | with_reducible refine g_drew ?_))⟩

theorem dogTick (d : Dog) (g : Nat) (now : Int) (wt st : Bool) (w : World) (hB : Blk w g 91 d.cells) (hd : d.ok) (hn : 0 ≤ now ∧ now ≤ 1125899906842624) :
    Calls Try.prog 32 #[.pointer (some ⟨g, 0, none⟩), .int .i64 now, .bool wt, .bool st] w fun e w' =>
      e = .returned (.int .i64 (d.tick now wt st).2) ∧ Blk w' g 91 (d.tick now wt st).1.cells ∧ w.grownBy w' (some g) := by
  obtain ⟨af, rs, si, wa, su, ti, tm⟩ := d
  have ha : 0 < af := hd.1
  cases su
  · cases wt
    · have h := dogTick1 af rs si ti tm wa st g now w hB hd hn
      cases st <;> cases wa <;> simpa [Dog.tick, Dog.cells, Blk] using h
    · cases wa
      · cases st
        · simpa [Dog.tick, Dog.cells, Blk, ha] using dogTick5 af rs si ti tm g now w hB hd hn
        · simpa [Dog.tick, Dog.cells, Blk, ha] using dogTick6 af rs si ti tm g now w hB hd hn
      · cases st
        · by_cases h : now - si < af
          · simpa [Dog.tick, Dog.cells, Blk, h] using dogTick2 af rs si ti tm g now w hB hd hn h
          · simpa [Dog.tick, Dog.cells, Blk, h] using dogTick3 af rs si ti tm g now w hB hd hn (by omega)
        · simpa [Dog.tick, Dog.cells, Blk, ha] using dogTick4 af rs si ti tm g now w hB hd hn
  · by_cases h : now < ti
    · simpa [Dog.tick, Dog.cells, Blk, h] using dogTick7 af rs si ti tm wa wt st g now w hB hd hn h
    · simpa [Dog.tick, Dog.cells, Blk, h] using dogTick8 af rs si ti tm wa wt st g now w hB hd hn (by omega)

theorem dogSusp (d : Dog) (g : Nat) (w : World) (hB : Blk w g 91 d.cells) :
    Calls Try.prog 34 #[.pointer (some ⟨g, 0, none⟩)] w fun e w' => e = .returned (.bool d.susp) ∧ w = w' := by
  obtain ⟨af, rs, si, wa, su, ti, tm⟩ := d
  obtain ⟨hf, hlt, c0, c1, c2, c3, c4, c5, c6⟩ := Blk.f7 hB
  clear hB
  go_enter Try.func34, Try.ntmps34
  go_wp2
  go_ret
  exact ⟨rfl, rfl⟩
theorem dogTimes (d : Dog) (g : Nat) (w : World) (hB : Blk w g 91 d.cells) :
    Calls Try.prog 35 #[.pointer (some ⟨g, 0, none⟩)] w fun e w' => e = .returned (.int .i64 d.times) ∧ w = w' := by
  obtain ⟨af, rs, si, wa, su, ti, tm⟩ := d
  obtain ⟨hf, hlt, c0, c1, c2, c3, c4, c5, c6⟩ := Blk.f7 hB
  clear hB
  go_enter Try.func35, Try.ntmps35
  go_wp2
  go_ret
  exact ⟨rfl, rfl⟩

/-! awake -/
def aw (k : Nat) : Dog := match k with
  | 0 => ⟨3, 5, 0, false, false, 0, 0⟩
  | 1 => ⟨3, 5, 0, true, false, 0, 0⟩
  | 2 => ⟨3, 5, 0, true, false, 0, 0⟩
  | 3 => ⟨3, 5, 0, true, false, 0, 0⟩
  | 4 => ⟨3, 5, 0, false, true, 8, 1⟩
  | 5 => ⟨3, 5, 0, false, true, 8, 1⟩
  | 6 => ⟨3, 5, 0, false, true, 8, 1⟩
  | 7 => ⟨3, 5, 0, false, true, 8, 1⟩
  | 8 => ⟨3, 5, 0, false, true, 8, 1⟩
  | _ => ⟨3, 5, 0, false, false, 8, 1⟩
theorem aw_step (k : Nat) (h : k < 9) : (aw k).ok ∧ (aw k).tick k true false = (aw (k + 1), if k = 3 then 1 else if k = 8 then 2 else 0) := by
  match k, h with
  | 0, _ => decide
  | 1, _ => decide
  | 2, _ => decide
  | 3, _ => decide
  | 4, _ => decide
  | 5, _ => decide
  | 6, _ => decide
  | 7, _ => decide
  | 8, _ => decide
end Go.Proofs.Ytdlajpakdgbhiaa
