/-
  Package gate and its reference: each function by a contract, one theorem a way through. (Written by wip/gen/gate.py.)
-/
import Derived.Test.YtdjbdlfdknfcaaaRows
import Derived.Test.YtdjbdlfdknfcaaaMem
import Derived.Deep.QuietTactic
import Derived.BigQuiet
import Derived.RegionTactic
import Derived.BigRegion
import Derived.Outline
namespace Go.Proofs.Ytdjbdlfdknfcaaa
set_option linter.unusedSimpArgs false
set_option linter.unusedVariables false
open Go.RowKit

set_option maxHeartbeats 400000 in
theorem gPass1 (vid : Bool) (opn : Bool) (at_ : Int) (aim : Int) (shu : Int) (tur : Int) (lay : Int) (key : Bool) (g : Nat) (w : World) (hB : w.heap[g]? = some (.cells #[.bool vid, .bool opn, .int .i64 (at_), .int .i64 (aim), .bool true, .int .i64 (shu), .int .i64 (tur)] 101 (0, 0)))  :
    Calls Try.prog 19 #[.pointer (some ⟨g, 0, none⟩), .int .i64 (lay), .bool key] w fun e w' => e = .returned (.bool false) ∧ w'.heap[g]? = some (.cells #[.bool vid, .bool opn, .int .i64 (at_), .int .i64 (aim), .bool true, .int .i64 (shu), .int .i64 (tur)] 101 (0, 0)) ∧ w.grownBy w' (some g) := by
  obtain ⟨hf, hlt, c0, c1, c2, c3, c4, c5, c6⟩ := Blk.f7 hB
  have HB := hide hB
  clear hB
  go_enter Try.func19, Try.ntmps19
  go_wp2_with (go_quiet (fail))
  go_ret
  exact ⟨rfl, by simp only [Blk, heap_set_self, heap_drewN, heap_drew, setIn_cells, Option.map_some, List.setIfInBounds_toArray, List.set_cons_zero, List.set_cons_succ, HB.out], (by repeat (first | with_reducible exact g_refl _ _ | with_reducible refine g_set ?_ _ _ | with_reducible refine g_drewN ?_ _ | with_reducible refine g_drew ?_))⟩


set_option maxHeartbeats 400000 in
theorem gPass2 (opn : Bool) (at_ : Int) (aim : Int) (shu : Int) (tur : Int) (lay : Int) (key : Bool) (g : Nat) (w : World) (hB : w.heap[g]? = some (.cells #[.bool false, .bool opn, .int .i64 (at_), .int .i64 (aim), .bool false, .int .i64 (shu), .int .i64 (tur)] 101 (0, 0)))  :
    Calls Try.prog 19 #[.pointer (some ⟨g, 0, none⟩), .int .i64 (lay), .bool key] w fun e w' => e = .returned (.bool true) ∧ w'.heap[g]? = some (.cells #[.bool false, .bool true, .int .i64 (lay), .int .i64 (aim), .bool false, .int .i64 (shu), .int .i64 (tur)] 101 (0, 0)) ∧ w.grownBy w' (some g) := by
  obtain ⟨hf, hlt, c0, c1, c2, c3, c4, c5, c6⟩ := Blk.f7 hB
  have HB := hide hB
  clear hB
  go_enter Try.func19, Try.ntmps19
  go_wp2_with (go_quiet (fail))
  go_ret
  exact ⟨rfl, by simp only [Blk, heap_set_self, heap_drewN, heap_drew, setIn_cells, Option.map_some, List.setIfInBounds_toArray, List.set_cons_zero, List.set_cons_succ, HB.out], (by repeat (first | with_reducible exact g_refl _ _ | with_reducible refine g_set ?_ _ _ | with_reducible refine g_drewN ?_ _ | with_reducible refine g_drew ?_))⟩


set_option maxHeartbeats 400000 in
theorem gPass3 (at_ : Int) (aim : Int) (shu : Int) (tur : Int) (g : Nat) (w : World) (hB : w.heap[g]? = some (.cells #[.bool true, .bool false, .int .i64 (at_), .int .i64 (aim), .bool false, .int .i64 (shu), .int .i64 (tur)] 101 (0, 0)))  :
    Calls Try.prog 19 #[.pointer (some ⟨g, 0, none⟩), .int .i64 (aim), .bool true] w fun e w' => e = .returned (.bool true) ∧ w'.heap[g]? = some (.cells #[.bool true, .bool true, .int .i64 (aim), .int .i64 (aim), .bool false, .int .i64 (shu), .int .i64 (tur)] 101 (0, 0)) ∧ w.grownBy w' (some g) := by
  obtain ⟨hf, hlt, c0, c1, c2, c3, c4, c5, c6⟩ := Blk.f7 hB
  have HB := hide hB
  clear hB
  go_enter Try.func19, Try.ntmps19
  go_wp2_with (go_quiet (fail))
  go_ret
  exact ⟨rfl, by simp only [Blk, heap_set_self, heap_drewN, heap_drew, setIn_cells, Option.map_some, List.setIfInBounds_toArray, List.set_cons_zero, List.set_cons_succ, HB.out], (by repeat (first | with_reducible exact g_refl _ _ | with_reducible refine g_set ?_ _ _ | with_reducible refine g_drewN ?_ _ | with_reducible refine g_drew ?_))⟩


set_option maxHeartbeats 400000 in
theorem gPass4 (at_ : Int) (aim : Int) (shu : Int) (tur : Int) (g : Nat) (w : World) (hB : w.heap[g]? = some (.cells #[.bool true, .bool true, .int .i64 (at_), .int .i64 (aim), .bool false, .int .i64 (shu), .int .i64 (tur)] 101 (0, 0))) (hs : 0 ≤ tur ∧ tur ≤ 1000000) (h : (at_ != aim) = true) :
    Calls Try.prog 19 #[.pointer (some ⟨g, 0, none⟩), .int .i64 (aim), .bool true] w fun e w' => e = .returned (.bool true) ∧ w'.heap[g]? = some (.cells #[.bool true, .bool true, .int .i64 (aim), .int .i64 (aim), .bool false, .int .i64 (shu), .int .i64 (tur + 1)] 101 (0, 0)) ∧ w.grownBy w' (some g) := by
  obtain ⟨hf, hlt, c0, c1, c2, c3, c4, c5, c6⟩ := Blk.f7 hB
  have HB := hide hB
  clear hB
  go_enter Try.func19, Try.ntmps19
  go_wp2_with (go_quiet (fail))
  go_ret
  exact ⟨rfl, by simp only [Blk, heap_set_self, heap_drewN, heap_drew, setIn_cells, Option.map_some, List.setIfInBounds_toArray, List.set_cons_zero, List.set_cons_succ, HB.out], (by repeat (first | with_reducible exact g_refl _ _ | with_reducible refine g_set ?_ _ _ | with_reducible refine g_drewN ?_ _ | with_reducible refine g_drew ?_))⟩


set_option maxHeartbeats 400000 in
theorem gPass5 (at_ : Int) (aim : Int) (shu : Int) (tur : Int) (g : Nat) (w : World) (hB : w.heap[g]? = some (.cells #[.bool true, .bool true, .int .i64 (at_), .int .i64 (aim), .bool false, .int .i64 (shu), .int .i64 (tur)] 101 (0, 0))) (h : (at_ != aim) = false) :
    Calls Try.prog 19 #[.pointer (some ⟨g, 0, none⟩), .int .i64 (aim), .bool true] w fun e w' => e = .returned (.bool true) ∧ w'.heap[g]? = some (.cells #[.bool true, .bool true, .int .i64 (aim), .int .i64 (aim), .bool false, .int .i64 (shu), .int .i64 (tur)] 101 (0, 0)) ∧ w.grownBy w' (some g) := by
  obtain ⟨hf, hlt, c0, c1, c2, c3, c4, c5, c6⟩ := Blk.f7 hB
  have HB := hide hB
  clear hB
  go_enter Try.func19, Try.ntmps19
  go_wp2_with (go_quiet (fail))
  go_ret
  exact ⟨rfl, by simp only [Blk, heap_set_self, heap_drewN, heap_drew, setIn_cells, Option.map_some, List.setIfInBounds_toArray, List.set_cons_zero, List.set_cons_succ, HB.out], (by repeat (first | with_reducible exact g_refl _ _ | with_reducible refine g_set ?_ _ _ | with_reducible refine g_drewN ?_ _ | with_reducible refine g_drew ?_))⟩


set_option maxHeartbeats 400000 in
theorem gPass6 (at_ : Int) (aim : Int) (shu : Int) (tur : Int) (lay : Int) (g : Nat) (w : World) (hB : w.heap[g]? = some (.cells #[.bool true, .bool false, .int .i64 (at_), .int .i64 (aim), .bool false, .int .i64 (shu), .int .i64 (tur)] 101 (0, 0))) (h : (lay == aim) = false) :
    Calls Try.prog 19 #[.pointer (some ⟨g, 0, none⟩), .int .i64 (lay), .bool true] w fun e w' => e = .returned (.bool false) ∧ w'.heap[g]? = some (.cells #[.bool true, .bool false, .int .i64 (at_), .int .i64 (aim), .bool false, .int .i64 (shu), .int .i64 (tur)] 101 (0, 0)) ∧ w.grownBy w' (some g) := by
  obtain ⟨hf, hlt, c0, c1, c2, c3, c4, c5, c6⟩ := Blk.f7 hB
  have HB := hide hB
  clear hB
  go_enter Try.func19, Try.ntmps19
  go_wp2_with (go_quiet (fail))
  go_ret
  exact ⟨rfl, by simp only [Blk, heap_set_self, heap_drewN, heap_drew, setIn_cells, Option.map_some, List.setIfInBounds_toArray, List.set_cons_zero, List.set_cons_succ, HB.out], (by repeat (first | with_reducible exact g_refl _ _ | with_reducible refine g_set ?_ _ _ | with_reducible refine g_drewN ?_ _ | with_reducible refine g_drew ?_))⟩


set_option maxHeartbeats 400000 in
theorem gPass7 (at_ : Int) (aim : Int) (shu : Int) (tur : Int) (lay : Int) (g : Nat) (w : World) (hB : w.heap[g]? = some (.cells #[.bool true, .bool true, .int .i64 (at_), .int .i64 (aim), .bool false, .int .i64 (shu), .int .i64 (tur)] 101 (0, 0))) (h : (lay == aim) = false) :
    Calls Try.prog 19 #[.pointer (some ⟨g, 0, none⟩), .int .i64 (lay), .bool true] w fun e w' => e = .returned (.bool (lay == at_)) ∧ w'.heap[g]? = some (.cells #[.bool true, .bool true, .int .i64 (at_), .int .i64 (aim), .bool false, .int .i64 (shu), .int .i64 (tur)] 101 (0, 0)) ∧ w.grownBy w' (some g) := by
  obtain ⟨hf, hlt, c0, c1, c2, c3, c4, c5, c6⟩ := Blk.f7 hB
  have HB := hide hB
  clear hB
  go_enter Try.func19, Try.ntmps19
  go_wp2_with (go_quiet (fail))
  go_ret
  exact ⟨rfl, by simp only [Blk, heap_set_self, heap_drewN, heap_drew, setIn_cells, Option.map_some, List.setIfInBounds_toArray, List.set_cons_zero, List.set_cons_succ, HB.out], (by repeat (first | with_reducible exact g_refl _ _ | with_reducible refine g_set ?_ _ _ | with_reducible refine g_drewN ?_ _ | with_reducible refine g_drew ?_))⟩


set_option maxHeartbeats 400000 in
theorem gPass8 (at_ : Int) (aim : Int) (shu : Int) (tur : Int) (g : Nat) (w : World) (hB : w.heap[g]? = some (.cells #[.bool true, .bool false, .int .i64 (at_), .int .i64 (aim), .bool false, .int .i64 (shu), .int .i64 (tur)] 101 (0, 0)))  :
    Calls Try.prog 19 #[.pointer (some ⟨g, 0, none⟩), .int .i64 (aim), .bool false] w fun e w' => e = .returned (.bool false) ∧ w'.heap[g]? = some (.cells #[.bool true, .bool false, .int .i64 (at_), .int .i64 (aim), .bool false, .int .i64 (shu), .int .i64 (tur)] 101 (0, 0)) ∧ w.grownBy w' (some g) := by
  obtain ⟨hf, hlt, c0, c1, c2, c3, c4, c5, c6⟩ := Blk.f7 hB
  have HB := hide hB
  clear hB
  go_enter Try.func19, Try.ntmps19
  go_wp2_with (go_quiet (fail))
  go_ret
  exact ⟨rfl, by simp only [Blk, heap_set_self, heap_drewN, heap_drew, setIn_cells, Option.map_some, List.setIfInBounds_toArray, List.set_cons_zero, List.set_cons_succ, HB.out], (by repeat (first | with_reducible exact g_refl _ _ | with_reducible refine g_set ?_ _ _ | with_reducible refine g_drewN ?_ _ | with_reducible refine g_drew ?_))⟩


set_option maxHeartbeats 400000 in
theorem gPass8b (at_ : Int) (aim : Int) (shu : Int) (tur : Int) (lay : Int) (g : Nat) (w : World) (hB : w.heap[g]? = some (.cells #[.bool true, .bool false, .int .i64 (at_), .int .i64 (aim), .bool false, .int .i64 (shu), .int .i64 (tur)] 101 (0, 0))) (h : (lay == aim) = false) :
    Calls Try.prog 19 #[.pointer (some ⟨g, 0, none⟩), .int .i64 (lay), .bool false] w fun e w' => e = .returned (.bool false) ∧ w'.heap[g]? = some (.cells #[.bool true, .bool false, .int .i64 (at_), .int .i64 (aim), .bool false, .int .i64 (shu), .int .i64 (tur)] 101 (0, 0)) ∧ w.grownBy w' (some g) := by
  obtain ⟨hf, hlt, c0, c1, c2, c3, c4, c5, c6⟩ := Blk.f7 hB
  have HB := hide hB
  clear hB
  go_enter Try.func19, Try.ntmps19
  go_wp2_with (go_quiet (fail))
  go_ret
  exact ⟨rfl, by simp only [Blk, heap_set_self, heap_drewN, heap_drew, setIn_cells, Option.map_some, List.setIfInBounds_toArray, List.set_cons_zero, List.set_cons_succ, HB.out], (by repeat (first | with_reducible exact g_refl _ _ | with_reducible refine g_set ?_ _ _ | with_reducible refine g_drewN ?_ _ | with_reducible refine g_drew ?_))⟩


set_option maxHeartbeats 400000 in
theorem gPass9 (at_ : Int) (aim : Int) (shu : Int) (tur : Int) (g : Nat) (w : World) (hB : w.heap[g]? = some (.cells #[.bool true, .bool true, .int .i64 (at_), .int .i64 (aim), .bool false, .int .i64 (shu), .int .i64 (tur)] 101 (0, 0)))  :
    Calls Try.prog 19 #[.pointer (some ⟨g, 0, none⟩), .int .i64 (aim), .bool false] w fun e w' => e = .returned (.bool (aim == at_)) ∧ w'.heap[g]? = some (.cells #[.bool true, .bool true, .int .i64 (at_), .int .i64 (aim), .bool false, .int .i64 (shu), .int .i64 (tur)] 101 (0, 0)) ∧ w.grownBy w' (some g) := by
  obtain ⟨hf, hlt, c0, c1, c2, c3, c4, c5, c6⟩ := Blk.f7 hB
  have HB := hide hB
  clear hB
  go_enter Try.func19, Try.ntmps19
  go_wp2_with (go_quiet (fail))
  go_ret
  exact ⟨rfl, by simp only [Blk, heap_set_self, heap_drewN, heap_drew, setIn_cells, Option.map_some, List.setIfInBounds_toArray, List.set_cons_zero, List.set_cons_succ, HB.out], (by repeat (first | with_reducible exact g_refl _ _ | with_reducible refine g_set ?_ _ _ | with_reducible refine g_drewN ?_ _ | with_reducible refine g_drew ?_))⟩


set_option maxHeartbeats 400000 in
theorem gPass9b (at_ : Int) (aim : Int) (shu : Int) (tur : Int) (lay : Int) (g : Nat) (w : World) (hB : w.heap[g]? = some (.cells #[.bool true, .bool true, .int .i64 (at_), .int .i64 (aim), .bool false, .int .i64 (shu), .int .i64 (tur)] 101 (0, 0))) (h : (lay == aim) = false) :
    Calls Try.prog 19 #[.pointer (some ⟨g, 0, none⟩), .int .i64 (lay), .bool false] w fun e w' => e = .returned (.bool (lay == at_)) ∧ w'.heap[g]? = some (.cells #[.bool true, .bool true, .int .i64 (at_), .int .i64 (aim), .bool false, .int .i64 (shu), .int .i64 (tur)] 101 (0, 0)) ∧ w.grownBy w' (some g) := by
  obtain ⟨hf, hlt, c0, c1, c2, c3, c4, c5, c6⟩ := Blk.f7 hB
  have HB := hide hB
  clear hB
  go_enter Try.func19, Try.ntmps19
  go_wp2_with (go_quiet (fail))
  go_ret
  exact ⟨rfl, by simp only [Blk, heap_set_self, heap_drewN, heap_drew, setIn_cells, Option.map_some, List.setIfInBounds_toArray, List.set_cons_zero, List.set_cons_succ, HB.out], (by repeat (first | with_reducible exact g_refl _ _ | with_reducible refine g_set ?_ _ _ | with_reducible refine g_drewN ?_ _ | with_reducible refine g_drew ?_))⟩


set_option maxHeartbeats 400000 in
theorem gAim (vid : Bool) (opn : Bool) (at_ : Int) (aim : Int) (pau : Bool) (shu : Int) (tur : Int) (g : Nat) (w : World) (hB : w.heap[g]? = some (.cells #[.bool vid, .bool opn, .int .i64 (at_), .int .i64 (aim), .bool pau, .int .i64 (shu), .int .i64 (tur)] 101 (0, 0)))  :
    Calls Try.prog 18 #[.pointer (some ⟨g, 0, none⟩)] w fun e w' => e = .returned (.int .i64 (aim)) ∧ w = w' := by
  obtain ⟨hf, hlt, c0, c1, c2, c3, c4, c5, c6⟩ := Blk.f7 hB
  have HB := hide hB
  clear hB
  go_enter Try.func18, Try.ntmps18
  go_wp2_with (go_quiet (fail))
  go_ret
  exact ⟨rfl, rfl⟩


set_option maxHeartbeats 400000 in
theorem gPaused (vid : Bool) (opn : Bool) (at_ : Int) (aim : Int) (pau : Bool) (shu : Int) (tur : Int) (g : Nat) (w : World) (hB : w.heap[g]? = some (.cells #[.bool vid, .bool opn, .int .i64 (at_), .int .i64 (aim), .bool pau, .int .i64 (shu), .int .i64 (tur)] 101 (0, 0)))  :
    Calls Try.prog 31 #[.pointer (some ⟨g, 0, none⟩)] w fun e w' => e = .returned (.bool pau) ∧ w = w' := by
  obtain ⟨hf, hlt, c0, c1, c2, c3, c4, c5, c6⟩ := Blk.f7 hB
  have HB := hide hB
  clear hB
  go_enter Try.func31, Try.ntmps31
  go_wp2_with (go_quiet (fail))
  go_ret
  exact ⟨rfl, rfl⟩


set_option maxHeartbeats 400000 in
theorem gWant1 (vid : Bool) (opn : Bool) (at_ : Int) (aim : Int) (pau : Bool) (shu : Int) (tur : Int) (lay : Int) (g : Nat) (w : World) (hB : w.heap[g]? = some (.cells #[.bool vid, .bool opn, .int .i64 (at_), .int .i64 (aim), .bool pau, .int .i64 (shu), .int .i64 (tur)] 101 (0, 0))) (h : 0 ≤ lay) :
    Calls Try.prog 20 #[.pointer (some ⟨g, 0, none⟩), .int .i64 (lay)] w fun e w' => e = .returned (.tuple #[]) ∧ w'.heap[g]? = some (.cells #[.bool vid, .bool opn, .int .i64 (at_), .int .i64 (lay), .bool pau, .int .i64 (shu), .int .i64 (tur)] 101 (0, 0)) ∧ w.grownBy w' (some g) := by
  obtain ⟨hf, hlt, c0, c1, c2, c3, c4, c5, c6⟩ := Blk.f7 hB
  have HB := hide hB
  clear hB
  go_enter Try.func20, Try.ntmps20
  go_wp2_with (go_quiet (fail))
  go_end0
  exact ⟨rfl, by simp only [Blk, heap_set_self, heap_drewN, heap_drew, setIn_cells, Option.map_some, List.setIfInBounds_toArray, List.set_cons_zero, List.set_cons_succ, HB.out], (by repeat (first | with_reducible exact g_refl _ _ | with_reducible refine g_set ?_ _ _ | with_reducible refine g_drewN ?_ _ | with_reducible refine g_drew ?_))⟩


set_option maxHeartbeats 400000 in
theorem gWant2 (vid : Bool) (opn : Bool) (at_ : Int) (aim : Int) (pau : Bool) (shu : Int) (tur : Int) (lay : Int) (g : Nat) (w : World) (hB : w.heap[g]? = some (.cells #[.bool vid, .bool opn, .int .i64 (at_), .int .i64 (aim), .bool pau, .int .i64 (shu), .int .i64 (tur)] 101 (0, 0))) (h : lay < 0) :
    Calls Try.prog 20 #[.pointer (some ⟨g, 0, none⟩), .int .i64 (lay)] w fun e w' => e = .returned (.tuple #[]) ∧ w'.heap[g]? = some (.cells #[.bool vid, .bool opn, .int .i64 (at_), .int .i64 (0), .bool pau, .int .i64 (shu), .int .i64 (tur)] 101 (0, 0)) ∧ w.grownBy w' (some g) := by
  obtain ⟨hf, hlt, c0, c1, c2, c3, c4, c5, c6⟩ := Blk.f7 hB
  have HB := hide hB
  clear hB
  go_enter Try.func20, Try.ntmps20
  go_wp2_with (go_quiet (fail))
  go_end0
  exact ⟨rfl, by simp only [Blk, heap_set_self, heap_drewN, heap_drew, setIn_cells, Option.map_some, List.setIfInBounds_toArray, List.set_cons_zero, List.set_cons_succ, HB.out], (by repeat (first | with_reducible exact g_refl _ _ | with_reducible refine g_set ?_ _ _ | with_reducible refine g_drewN ?_ _ | with_reducible refine g_drew ?_))⟩


set_option maxHeartbeats 400000 in
theorem gOpen1 (vid : Bool) (at_ : Int) (aim : Int) (pau : Bool) (shu : Int) (tur : Int) (g : Nat) (w : World) (hB : w.heap[g]? = some (.cells #[.bool vid, .bool false, .int .i64 (at_), .int .i64 (aim), .bool pau, .int .i64 (shu), .int .i64 (tur)] 101 (0, 0)))  :
    Calls Try.prog 21 #[.pointer (some ⟨g, 0, none⟩)] w fun e w' => e = .returned (.tuple #[.int .i64 (0), .bool false]) ∧ w = w' := by
  obtain ⟨hf, hlt, c0, c1, c2, c3, c4, c5, c6⟩ := Blk.f7 hB
  have HB := hide hB
  clear hB
  go_enter Try.func21, Try.ntmps21
  go_wp2_with (go_quiet (fail))
  go_ret2
  exact ⟨rfl, rfl⟩


set_option maxHeartbeats 400000 in
theorem gOpen2 (vid : Bool) (at_ : Int) (aim : Int) (pau : Bool) (shu : Int) (tur : Int) (g : Nat) (w : World) (hB : w.heap[g]? = some (.cells #[.bool vid, .bool true, .int .i64 (at_), .int .i64 (aim), .bool pau, .int .i64 (shu), .int .i64 (tur)] 101 (0, 0)))  :
    Calls Try.prog 21 #[.pointer (some ⟨g, 0, none⟩)] w fun e w' => e = .returned (.tuple #[.int .i64 (at_), .bool true]) ∧ w = w' := by
  obtain ⟨hf, hlt, c0, c1, c2, c3, c4, c5, c6⟩ := Blk.f7 hB
  have HB := hide hB
  clear hB
  go_enter Try.func21, Try.ntmps21
  go_wp2_with (go_quiet (fail))
  go_ret2
  exact ⟨rfl, rfl⟩


set_option maxHeartbeats 400000 in
theorem gCounts (vid : Bool) (opn : Bool) (at_ : Int) (aim : Int) (pau : Bool) (shu : Int) (tur : Int) (g : Nat) (w : World) (hB : w.heap[g]? = some (.cells #[.bool vid, .bool opn, .int .i64 (at_), .int .i64 (aim), .bool pau, .int .i64 (shu), .int .i64 (tur)] 101 (0, 0)))  :
    Calls Try.prog 22 #[.pointer (some ⟨g, 0, none⟩)] w fun e w' => e = .returned (.tuple #[.int .i64 (shu), .int .i64 (tur)]) ∧ w'.heap[g]? = some (.cells #[.bool vid, .bool opn, .int .i64 (at_), .int .i64 (aim), .bool pau, .int .i64 (shu), .int .i64 (tur)] 101 (0, 0)) ∧ w.grownBy w' (some g) := by
  obtain ⟨hf, hlt, c0, c1, c2, c3, c4, c5, c6⟩ := Blk.f7 hB
  have HB := hide hB
  clear hB
  go_enter Try.func22, Try.ntmps22
  go_wp2_with (go_quiet (fail))
  go_ret2
  exact ⟨rfl, by simp only [Blk, heap_set_self, heap_drewN, heap_drew, setIn_cells, Option.map_some, List.setIfInBounds_toArray, List.set_cons_zero, List.set_cons_succ, HB.out], (by repeat (first | with_reducible exact g_refl _ _ | with_reducible refine g_set ?_ _ _ | with_reducible refine g_drewN ?_ _ | with_reducible refine g_drew ?_))⟩


set_option maxHeartbeats 400000 in
theorem gNeeds1 (opn : Bool) (at_ : Int) (aim : Int) (pau : Bool) (shu : Int) (tur : Int) (g : Nat) (w : World) (hB : w.heap[g]? = some (.cells #[.bool false, .bool opn, .int .i64 (at_), .int .i64 (aim), .bool pau, .int .i64 (shu), .int .i64 (tur)] 101 (0, 0)))  :
    Calls Try.prog 23 #[.pointer (some ⟨g, 0, none⟩)] w fun e w' => e = .returned (.tuple #[.int .i64 (0), .bool false]) ∧ w'.heap[g]? = some (.cells #[.bool false, .bool opn, .int .i64 (at_), .int .i64 (aim), .bool pau, .int .i64 (shu), .int .i64 (tur)] 101 (0, 0)) ∧ w.grownBy w' (some g) := by
  obtain ⟨hf, hlt, c0, c1, c2, c3, c4, c5, c6⟩ := Blk.f7 hB
  have HB := hide hB
  clear hB
  go_enter Try.func23, Try.ntmps23
  go_wp2_with (go_quiet (fail))
  go_ret2
  exact ⟨rfl, by simp only [Blk, heap_set_self, heap_drewN, heap_drew, setIn_cells, Option.map_some, List.setIfInBounds_toArray, List.set_cons_zero, List.set_cons_succ, HB.out], (by repeat (first | with_reducible exact g_refl _ _ | with_reducible refine g_set ?_ _ _ | with_reducible refine g_drewN ?_ _ | with_reducible refine g_drew ?_))⟩


set_option maxHeartbeats 400000 in
theorem gNeeds2 (opn : Bool) (at_ : Int) (aim : Int) (shu : Int) (tur : Int) (g : Nat) (w : World) (hB : w.heap[g]? = some (.cells #[.bool true, .bool opn, .int .i64 (at_), .int .i64 (aim), .bool true, .int .i64 (shu), .int .i64 (tur)] 101 (0, 0)))  :
    Calls Try.prog 23 #[.pointer (some ⟨g, 0, none⟩)] w fun e w' => e = .returned (.tuple #[.int .i64 (0), .bool false]) ∧ w'.heap[g]? = some (.cells #[.bool true, .bool opn, .int .i64 (at_), .int .i64 (aim), .bool true, .int .i64 (shu), .int .i64 (tur)] 101 (0, 0)) ∧ w.grownBy w' (some g) := by
  obtain ⟨hf, hlt, c0, c1, c2, c3, c4, c5, c6⟩ := Blk.f7 hB
  have HB := hide hB
  clear hB
  go_enter Try.func23, Try.ntmps23
  go_wp2_with (go_quiet (fail))
  go_ret2
  exact ⟨rfl, by simp only [Blk, heap_set_self, heap_drewN, heap_drew, setIn_cells, Option.map_some, List.setIfInBounds_toArray, List.set_cons_zero, List.set_cons_succ, HB.out], (by repeat (first | with_reducible exact g_refl _ _ | with_reducible refine g_set ?_ _ _ | with_reducible refine g_drewN ?_ _ | with_reducible refine g_drew ?_))⟩


set_option maxHeartbeats 400000 in
theorem gNeeds3 (at_ : Int) (aim : Int) (shu : Int) (tur : Int) (g : Nat) (w : World) (hB : w.heap[g]? = some (.cells #[.bool true, .bool false, .int .i64 (at_), .int .i64 (aim), .bool false, .int .i64 (shu), .int .i64 (tur)] 101 (0, 0)))  :
    Calls Try.prog 23 #[.pointer (some ⟨g, 0, none⟩)] w fun e w' => e = .returned (.tuple #[.int .i64 (aim), .bool true]) ∧ w'.heap[g]? = some (.cells #[.bool true, .bool false, .int .i64 (at_), .int .i64 (aim), .bool false, .int .i64 (shu), .int .i64 (tur)] 101 (0, 0)) ∧ w.grownBy w' (some g) := by
  obtain ⟨hf, hlt, c0, c1, c2, c3, c4, c5, c6⟩ := Blk.f7 hB
  have HB := hide hB
  clear hB
  go_enter Try.func23, Try.ntmps23
  go_wp2_with (go_quiet (fail))
  go_ret2
  exact ⟨rfl, by simp only [Blk, heap_set_self, heap_drewN, heap_drew, setIn_cells, Option.map_some, List.setIfInBounds_toArray, List.set_cons_zero, List.set_cons_succ, HB.out], (by repeat (first | with_reducible exact g_refl _ _ | with_reducible refine g_set ?_ _ _ | with_reducible refine g_drewN ?_ _ | with_reducible refine g_drew ?_))⟩


set_option maxHeartbeats 400000 in
theorem gNeeds4 (at_ : Int) (aim : Int) (shu : Int) (tur : Int) (g : Nat) (w : World) (hB : w.heap[g]? = some (.cells #[.bool true, .bool true, .int .i64 (at_), .int .i64 (aim), .bool false, .int .i64 (shu), .int .i64 (tur)] 101 (0, 0))) (h : (at_ != aim) = true) :
    Calls Try.prog 23 #[.pointer (some ⟨g, 0, none⟩)] w fun e w' => e = .returned (.tuple #[.int .i64 (aim), .bool true]) ∧ w'.heap[g]? = some (.cells #[.bool true, .bool true, .int .i64 (at_), .int .i64 (aim), .bool false, .int .i64 (shu), .int .i64 (tur)] 101 (0, 0)) ∧ w.grownBy w' (some g) := by
  obtain ⟨hf, hlt, c0, c1, c2, c3, c4, c5, c6⟩ := Blk.f7 hB
  have HB := hide hB
  clear hB
  go_enter Try.func23, Try.ntmps23
  go_wp2_with (go_quiet (fail))
  go_ret2
  exact ⟨rfl, by simp only [Blk, heap_set_self, heap_drewN, heap_drew, setIn_cells, Option.map_some, List.setIfInBounds_toArray, List.set_cons_zero, List.set_cons_succ, HB.out], (by repeat (first | with_reducible exact g_refl _ _ | with_reducible refine g_set ?_ _ _ | with_reducible refine g_drewN ?_ _ | with_reducible refine g_drew ?_))⟩


set_option maxHeartbeats 400000 in
theorem gNeeds5 (at_ : Int) (aim : Int) (shu : Int) (tur : Int) (g : Nat) (w : World) (hB : w.heap[g]? = some (.cells #[.bool true, .bool true, .int .i64 (at_), .int .i64 (aim), .bool false, .int .i64 (shu), .int .i64 (tur)] 101 (0, 0))) (h : (at_ != aim) = false) :
    Calls Try.prog 23 #[.pointer (some ⟨g, 0, none⟩)] w fun e w' => e = .returned (.tuple #[.int .i64 (0), .bool false]) ∧ w'.heap[g]? = some (.cells #[.bool true, .bool true, .int .i64 (at_), .int .i64 (aim), .bool false, .int .i64 (shu), .int .i64 (tur)] 101 (0, 0)) ∧ w.grownBy w' (some g) := by
  obtain ⟨hf, hlt, c0, c1, c2, c3, c4, c5, c6⟩ := Blk.f7 hB
  have HB := hide hB
  clear hB
  go_enter Try.func23, Try.ntmps23
  go_wp2_with (go_quiet (fail))
  go_ret2
  exact ⟨rfl, by simp only [Blk, heap_set_self, heap_drewN, heap_drew, setIn_cells, Option.map_some, List.setIfInBounds_toArray, List.set_cons_zero, List.set_cons_succ, HB.out], (by repeat (first | with_reducible exact g_refl _ _ | with_reducible refine g_set ?_ _ _ | with_reducible refine g_drewN ?_ _ | with_reducible refine g_drew ?_))⟩


set_option maxHeartbeats 400000 in
theorem gShut1 (vid : Bool) (at_ : Int) (aim : Int) (pau : Bool) (shu : Int) (tur : Int) (g : Nat) (w : World) (hB : w.heap[g]? = some (.cells #[.bool vid, .bool false, .int .i64 (at_), .int .i64 (aim), .bool pau, .int .i64 (shu), .int .i64 (tur)] 101 (0, 0)))  :
    Calls Try.prog 50 #[.pointer (some ⟨g, 0, none⟩)] w fun e w' => e = .returned (.tuple #[]) ∧ w'.heap[g]? = some (.cells #[.bool vid, .bool false, .int .i64 (at_), .int .i64 (aim), .bool pau, .int .i64 (shu), .int .i64 (tur)] 101 (0, 0)) ∧ w.grownBy w' (some g) := by
  obtain ⟨hf, hlt, c0, c1, c2, c3, c4, c5, c6⟩ := Blk.f7 hB
  have HB := hide hB
  clear hB
  go_enter Try.func50, Try.ntmps50
  go_wp2_with (go_quiet (fail))
  go_end0
  exact ⟨rfl, by simp only [Blk, heap_set_self, heap_drewN, heap_drew, setIn_cells, Option.map_some, List.setIfInBounds_toArray, List.set_cons_zero, List.set_cons_succ, HB.out], (by repeat (first | with_reducible exact g_refl _ _ | with_reducible refine g_set ?_ _ _ | with_reducible refine g_drewN ?_ _ | with_reducible refine g_drew ?_))⟩


set_option maxHeartbeats 400000 in
theorem gShut2 (vid : Bool) (at_ : Int) (aim : Int) (pau : Bool) (shu : Int) (tur : Int) (g : Nat) (w : World) (hB : w.heap[g]? = some (.cells #[.bool vid, .bool true, .int .i64 (at_), .int .i64 (aim), .bool pau, .int .i64 (shu), .int .i64 (tur)] 101 (0, 0))) (hs : 0 ≤ shu ∧ shu ≤ 1000000) :
    Calls Try.prog 50 #[.pointer (some ⟨g, 0, none⟩)] w fun e w' => e = .returned (.tuple #[]) ∧ w'.heap[g]? = some (.cells #[.bool vid, .bool false, .int .i64 (at_), .int .i64 (aim), .bool pau, .int .i64 (shu + 1), .int .i64 (tur)] 101 (0, 0)) ∧ w.grownBy w' (some g) := by
  obtain ⟨hf, hlt, c0, c1, c2, c3, c4, c5, c6⟩ := Blk.f7 hB
  have HB := hide hB
  clear hB
  go_enter Try.func50, Try.ntmps50
  go_wp2_with (go_quiet (fail))
  go_end0
  exact ⟨rfl, by simp only [Blk, heap_set_self, heap_drewN, heap_drew, setIn_cells, Option.map_some, List.setIfInBounds_toArray, List.set_cons_zero, List.set_cons_succ, HB.out], (by repeat (first | with_reducible exact g_refl _ _ | with_reducible refine g_set ?_ _ _ | with_reducible refine g_drewN ?_ _ | with_reducible refine g_drew ?_))⟩


set_option maxHeartbeats 400000 in
theorem gPause0 (vid : Bool) (opn : Bool) (at_ : Int) (aim : Int) (pau : Bool) (shu : Int) (tur : Int) (g : Nat) (w : World) (hB : w.heap[g]? = some (.cells #[.bool vid, .bool opn, .int .i64 (at_), .int .i64 (aim), .bool pau, .int .i64 (shu), .int .i64 (tur)] 101 (0, 0)))  :
    Calls Try.prog 30 #[.pointer (some ⟨g, 0, none⟩), .bool false] w fun e w' => e = .returned (.tuple #[]) ∧ w'.heap[g]? = some (.cells #[.bool vid, .bool opn, .int .i64 (at_), .int .i64 (aim), .bool false, .int .i64 (shu), .int .i64 (tur)] 101 (0, 0)) ∧ w.grownBy w' (some g) := by
  obtain ⟨hf, hlt, c0, c1, c2, c3, c4, c5, c6⟩ := Blk.f7 hB
  have HB := hide hB
  clear hB
  go_enter Try.func30, Try.ntmps30
  go_wp2_with (go_quiet (fail))
  go_end0
  exact ⟨rfl, by simp only [Blk, heap_set_self, heap_drewN, heap_drew, setIn_cells, Option.map_some, List.setIfInBounds_toArray, List.set_cons_zero, List.set_cons_succ, HB.out], (by repeat (first | with_reducible exact g_refl _ _ | with_reducible refine g_set ?_ _ _ | with_reducible refine g_drewN ?_ _ | with_reducible refine g_drew ?_))⟩


set_option maxHeartbeats 400000 in
theorem rPass1 (vid : Bool) (at_ : Int) (aim : Int) (shu : Int) (tur : Int) (lay : Int) (key : Bool) (w : World)  :
    Calls Try.prog 49 #[.agg #[.bool vid, .bool true, .int .i64 (at_), .int .i64 (aim), .int .i64 (shu), .int .i64 (tur)], .int .i64 (lay), .bool key] w fun e w' => e = .returned (.tuple #[.agg #[.bool vid, .bool true, .int .i64 (at_), .int .i64 (aim), .int .i64 (shu), .int .i64 (tur)], .bool false]) ∧ Below w.heap.size w w' := by
  go_enter Try.func49, Try.ntmps49
  go_wp2_with (go_quiet (fail))
  exact bodyPost_ret (v := .tuple #[.agg #[.bool vid, .bool true, .int .i64 (at_), .int .i64 (aim), .int .i64 (shu), .int .i64 (tur)], .bool false]) (by simp [results, Try.results49, go_sem]) rfl ⟨rfl, (by repeat (first | with_reducible exact Below.refl _ _ | with_reducible assumption | with_reducible refine Below.setCell ?_ (by simp) _ | with_reducible refine Below.alloc ?_ (by simp) _ | with_reducible refine Below.drew ?_ | with_reducible refine b_drewN ?_ _))⟩


set_option maxHeartbeats 400000 in
theorem rPass2 (at_ : Int) (aim : Int) (shu : Int) (tur : Int) (lay : Int) (key : Bool) (w : World)  :
    Calls Try.prog 49 #[.agg #[.bool false, .bool false, .int .i64 (at_), .int .i64 (aim), .int .i64 (shu), .int .i64 (tur)], .int .i64 (lay), .bool key] w fun e w' => e = .returned (.tuple #[.agg #[.bool false, .bool false, .int .i64 (lay), .int .i64 (aim), .int .i64 (shu), .int .i64 (tur)], .bool true]) ∧ Below w.heap.size w w' := by
  go_enter Try.func49, Try.ntmps49
  go_wp2_with (go_quiet (fail))
  exact bodyPost_ret (v := .tuple #[.agg #[.bool false, .bool false, .int .i64 (lay), .int .i64 (aim), .int .i64 (shu), .int .i64 (tur)], .bool true]) (by simp [results, Try.results49, go_sem]) rfl ⟨rfl, (by repeat (first | with_reducible exact Below.refl _ _ | with_reducible assumption | with_reducible refine Below.setCell ?_ (by simp) _ | with_reducible refine Below.alloc ?_ (by simp) _ | with_reducible refine Below.drew ?_ | with_reducible refine b_drewN ?_ _))⟩


set_option maxHeartbeats 400000 in
theorem rPass3 (at_ : Int) (aim : Int) (shu : Int) (tur : Int) (w : World) (h : at_ < 0) :
    Calls Try.prog 49 #[.agg #[.bool true, .bool false, .int .i64 (at_), .int .i64 (aim), .int .i64 (shu), .int .i64 (tur)], .int .i64 (aim), .bool true] w fun e w' => e = .returned (.tuple #[.agg #[.bool true, .bool false, .int .i64 (aim), .int .i64 (aim), .int .i64 (shu), .int .i64 (tur)], .bool true]) ∧ Below w.heap.size w w' := by
  go_enter Try.func49, Try.ntmps49
  go_wp2_with (go_quiet (fail))
  exact bodyPost_ret (v := .tuple #[.agg #[.bool true, .bool false, .int .i64 (aim), .int .i64 (aim), .int .i64 (shu), .int .i64 (tur)], .bool true]) (by simp [results, Try.results49, go_sem]) rfl ⟨rfl, (by repeat (first | with_reducible exact Below.refl _ _ | with_reducible assumption | with_reducible refine Below.setCell ?_ (by simp) _ | with_reducible refine Below.alloc ?_ (by simp) _ | with_reducible refine Below.drew ?_ | with_reducible refine b_drewN ?_ _))⟩


set_option maxHeartbeats 400000 in
theorem rPass4 (at_ : Int) (aim : Int) (shu : Int) (tur : Int) (w : World) (hs : 0 ≤ tur ∧ tur ≤ 1000000) (h : 0 ≤ at_) (h2 : (at_ != aim) = true) :
    Calls Try.prog 49 #[.agg #[.bool true, .bool false, .int .i64 (at_), .int .i64 (aim), .int .i64 (shu), .int .i64 (tur)], .int .i64 (aim), .bool true] w fun e w' => e = .returned (.tuple #[.agg #[.bool true, .bool false, .int .i64 (aim), .int .i64 (aim), .int .i64 (shu), .int .i64 (tur + 1)], .bool true]) ∧ Below w.heap.size w w' := by
  go_enter Try.func49, Try.ntmps49
  go_wp2_with (go_quiet (fail))
  exact bodyPost_ret (v := .tuple #[.agg #[.bool true, .bool false, .int .i64 (aim), .int .i64 (aim), .int .i64 (shu), .int .i64 (tur + 1)], .bool true]) (by simp [results, Try.results49, go_sem]) rfl ⟨rfl, (by repeat (first | with_reducible exact Below.refl _ _ | with_reducible assumption | with_reducible refine Below.setCell ?_ (by simp) _ | with_reducible refine Below.alloc ?_ (by simp) _ | with_reducible refine Below.drew ?_ | with_reducible refine b_drewN ?_ _))⟩


set_option maxHeartbeats 400000 in
theorem rPass5 (at_ : Int) (aim : Int) (shu : Int) (tur : Int) (w : World) (h : 0 ≤ at_) (h2 : (at_ != aim) = false) :
    Calls Try.prog 49 #[.agg #[.bool true, .bool false, .int .i64 (at_), .int .i64 (aim), .int .i64 (shu), .int .i64 (tur)], .int .i64 (aim), .bool true] w fun e w' => e = .returned (.tuple #[.agg #[.bool true, .bool false, .int .i64 (aim), .int .i64 (aim), .int .i64 (shu), .int .i64 (tur)], .bool true]) ∧ Below w.heap.size w w' := by
  go_enter Try.func49, Try.ntmps49
  go_wp2_with (go_quiet (fail))
  exact bodyPost_ret (v := .tuple #[.agg #[.bool true, .bool false, .int .i64 (aim), .int .i64 (aim), .int .i64 (shu), .int .i64 (tur)], .bool true]) (by simp [results, Try.results49, go_sem]) rfl ⟨rfl, (by repeat (first | with_reducible exact Below.refl _ _ | with_reducible assumption | with_reducible refine Below.setCell ?_ (by simp) _ | with_reducible refine Below.alloc ?_ (by simp) _ | with_reducible refine Below.drew ?_ | with_reducible refine b_drewN ?_ _))⟩


set_option maxHeartbeats 400000 in
theorem rPass6 (at_ : Int) (aim : Int) (shu : Int) (tur : Int) (lay : Int) (w : World) (h : (lay == aim) = false) (h2 : decide (0 ≤ at_) = false) :
    Calls Try.prog 49 #[.agg #[.bool true, .bool false, .int .i64 (at_), .int .i64 (aim), .int .i64 (shu), .int .i64 (tur)], .int .i64 (lay), .bool true] w fun e w' => e = .returned (.tuple #[.agg #[.bool true, .bool false, .int .i64 (at_), .int .i64 (aim), .int .i64 (shu), .int .i64 (tur)], .bool false]) ∧ Below w.heap.size w w' := by
  go_enter Try.func49, Try.ntmps49
  go_wp2
  go_region
  go_wp2
  exact bodyPost_ret (v := .tuple #[.agg #[.bool true, .bool false, .int .i64 (at_), .int .i64 (aim), .int .i64 (shu), .int .i64 (tur)], .bool false]) (by simp [results, Try.results49, go_sem]) rfl ⟨rfl, (by repeat (first | with_reducible exact Below.refl _ _ | with_reducible assumption | with_reducible refine Below.setCell ?_ (by simp) _ | with_reducible refine Below.alloc ?_ (by simp) _ | with_reducible refine Below.drew ?_ | with_reducible refine b_drewN ?_ _))⟩


set_option maxHeartbeats 400000 in
theorem rPass7 (at_ : Int) (aim : Int) (shu : Int) (tur : Int) (lay : Int) (w : World) (h : (lay == aim) = false) (h2 : 0 ≤ at_) :
    Calls Try.prog 49 #[.agg #[.bool true, .bool false, .int .i64 (at_), .int .i64 (aim), .int .i64 (shu), .int .i64 (tur)], .int .i64 (lay), .bool true] w fun e w' => e = .returned (.tuple #[.agg #[.bool true, .bool false, .int .i64 (at_), .int .i64 (aim), .int .i64 (shu), .int .i64 (tur)], .bool (at_ == lay)]) ∧ Below w.heap.size w w' := by
  go_enter Try.func49, Try.ntmps49
  go_wp2
  go_region
  go_wp2
  exact bodyPost_ret (v := .tuple #[.agg #[.bool true, .bool false, .int .i64 (at_), .int .i64 (aim), .int .i64 (shu), .int .i64 (tur)], .bool (at_ == lay)]) (by simp [results, Try.results49, go_sem]) rfl ⟨rfl, (by repeat (first | with_reducible exact Below.refl _ _ | with_reducible assumption | with_reducible refine Below.setCell ?_ (by simp) _ | with_reducible refine Below.alloc ?_ (by simp) _ | with_reducible refine Below.drew ?_ | with_reducible refine b_drewN ?_ _))⟩


set_option maxHeartbeats 400000 in
theorem rPass8 (at_ : Int) (aim : Int) (shu : Int) (tur : Int) (lay : Int) (w : World) (h : (lay == aim) = false) (h2 : decide (0 ≤ at_) = false) :
    Calls Try.prog 49 #[.agg #[.bool true, .bool false, .int .i64 (at_), .int .i64 (aim), .int .i64 (shu), .int .i64 (tur)], .int .i64 (lay), .bool false] w fun e w' => e = .returned (.tuple #[.agg #[.bool true, .bool false, .int .i64 (at_), .int .i64 (aim), .int .i64 (shu), .int .i64 (tur)], .bool false]) ∧ Below w.heap.size w w' := by
  go_enter Try.func49, Try.ntmps49
  go_wp2
  go_region
  go_wp2
  exact bodyPost_ret (v := .tuple #[.agg #[.bool true, .bool false, .int .i64 (at_), .int .i64 (aim), .int .i64 (shu), .int .i64 (tur)], .bool false]) (by simp [results, Try.results49, go_sem]) rfl ⟨rfl, (by repeat (first | with_reducible exact Below.refl _ _ | with_reducible assumption | with_reducible refine Below.setCell ?_ (by simp) _ | with_reducible refine Below.alloc ?_ (by simp) _ | with_reducible refine Below.drew ?_ | with_reducible refine b_drewN ?_ _))⟩


set_option maxHeartbeats 400000 in
theorem rPass9 (at_ : Int) (aim : Int) (shu : Int) (tur : Int) (lay : Int) (w : World) (h : (lay == aim) = false) (h2 : 0 ≤ at_) :
    Calls Try.prog 49 #[.agg #[.bool true, .bool false, .int .i64 (at_), .int .i64 (aim), .int .i64 (shu), .int .i64 (tur)], .int .i64 (lay), .bool false] w fun e w' => e = .returned (.tuple #[.agg #[.bool true, .bool false, .int .i64 (at_), .int .i64 (aim), .int .i64 (shu), .int .i64 (tur)], .bool (at_ == lay)]) ∧ Below w.heap.size w w' := by
  go_enter Try.func49, Try.ntmps49
  go_wp2
  go_region
  go_wp2
  exact bodyPost_ret (v := .tuple #[.agg #[.bool true, .bool false, .int .i64 (at_), .int .i64 (aim), .int .i64 (shu), .int .i64 (tur)], .bool (at_ == lay)]) (by simp [results, Try.results49, go_sem]) rfl ⟨rfl, (by repeat (first | with_reducible exact Below.refl _ _ | with_reducible assumption | with_reducible refine Below.setCell ?_ (by simp) _ | with_reducible refine Below.alloc ?_ (by simp) _ | with_reducible refine Below.drew ?_ | with_reducible refine b_drewN ?_ _))⟩


set_option maxHeartbeats 400000 in
theorem rPass10 (at_ : Int) (aim : Int) (shu : Int) (tur : Int) (w : World) (h2 : decide (0 ≤ at_) = false) :
    Calls Try.prog 49 #[.agg #[.bool true, .bool false, .int .i64 (at_), .int .i64 (aim), .int .i64 (shu), .int .i64 (tur)], .int .i64 (aim), .bool false] w fun e w' => e = .returned (.tuple #[.agg #[.bool true, .bool false, .int .i64 (at_), .int .i64 (aim), .int .i64 (shu), .int .i64 (tur)], .bool false]) ∧ Below w.heap.size w w' := by
  go_enter Try.func49, Try.ntmps49
  go_wp2
  go_region
  go_wp2
  exact bodyPost_ret (v := .tuple #[.agg #[.bool true, .bool false, .int .i64 (at_), .int .i64 (aim), .int .i64 (shu), .int .i64 (tur)], .bool false]) (by simp [results, Try.results49, go_sem]) rfl ⟨rfl, (by repeat (first | with_reducible exact Below.refl _ _ | with_reducible assumption | with_reducible refine Below.setCell ?_ (by simp) _ | with_reducible refine Below.alloc ?_ (by simp) _ | with_reducible refine Below.drew ?_ | with_reducible refine b_drewN ?_ _))⟩


set_option maxHeartbeats 400000 in
theorem rPass11 (at_ : Int) (aim : Int) (shu : Int) (tur : Int) (w : World) (h2 : 0 ≤ at_) :
    Calls Try.prog 49 #[.agg #[.bool true, .bool false, .int .i64 (at_), .int .i64 (aim), .int .i64 (shu), .int .i64 (tur)], .int .i64 (aim), .bool false] w fun e w' => e = .returned (.tuple #[.agg #[.bool true, .bool false, .int .i64 (at_), .int .i64 (aim), .int .i64 (shu), .int .i64 (tur)], .bool (at_ == aim)]) ∧ Below w.heap.size w w' := by
  go_enter Try.func49, Try.ntmps49
  go_wp2
  go_region
  go_wp2
  exact bodyPost_ret (v := .tuple #[.agg #[.bool true, .bool false, .int .i64 (at_), .int .i64 (aim), .int .i64 (shu), .int .i64 (tur)], .bool (at_ == aim)]) (by simp [results, Try.results49, go_sem]) rfl ⟨rfl, (by repeat (first | with_reducible exact Below.refl _ _ | with_reducible assumption | with_reducible refine Below.setCell ?_ (by simp) _ | with_reducible refine Below.alloc ?_ (by simp) _ | with_reducible refine Below.drew ?_ | with_reducible refine b_drewN ?_ _))⟩


set_option maxHeartbeats 400000 in
theorem rClose1 (vid : Bool) (pau : Bool) (at_ : Int) (aim : Int) (shu : Int) (tur : Int) (w : World) (h : at_ < 0) :
    Calls Try.prog 51 #[.agg #[.bool vid, .bool pau, .int .i64 (at_), .int .i64 (aim), .int .i64 (shu), .int .i64 (tur)]] w fun e w' => e = .returned (.agg #[.bool vid, .bool pau, .int .i64 (-1), .int .i64 (aim), .int .i64 (shu), .int .i64 (tur)]) ∧ Below w.heap.size w w' := by
  go_enter Try.func51, Try.ntmps51
  go_wp2_with (go_quiet (fail))
  exact bodyPost_ret (v := .agg #[.bool vid, .bool pau, .int .i64 (-1), .int .i64 (aim), .int .i64 (shu), .int .i64 (tur)]) (by simp [results, Try.results51, go_sem]) rfl ⟨rfl, (by repeat (first | with_reducible exact Below.refl _ _ | with_reducible assumption | with_reducible refine Below.setCell ?_ (by simp) _ | with_reducible refine Below.alloc ?_ (by simp) _ | with_reducible refine Below.drew ?_ | with_reducible refine b_drewN ?_ _))⟩


set_option maxHeartbeats 400000 in
theorem rClose2 (vid : Bool) (pau : Bool) (at_ : Int) (aim : Int) (shu : Int) (tur : Int) (w : World) (hs : 0 ≤ shu ∧ shu ≤ 1000000) (h : 0 ≤ at_) :
    Calls Try.prog 51 #[.agg #[.bool vid, .bool pau, .int .i64 (at_), .int .i64 (aim), .int .i64 (shu), .int .i64 (tur)]] w fun e w' => e = .returned (.agg #[.bool vid, .bool pau, .int .i64 (-1), .int .i64 (aim), .int .i64 (shu + 1), .int .i64 (tur)]) ∧ Below w.heap.size w w' := by
  go_enter Try.func51, Try.ntmps51
  go_wp2_with (go_quiet (fail))
  exact bodyPost_ret (v := .agg #[.bool vid, .bool pau, .int .i64 (-1), .int .i64 (aim), .int .i64 (shu + 1), .int .i64 (tur)]) (by simp [results, Try.results51, go_sem]) rfl ⟨rfl, (by repeat (first | with_reducible exact Below.refl _ _ | with_reducible assumption | with_reducible refine Below.setCell ?_ (by simp) _ | with_reducible refine Below.alloc ?_ (by simp) _ | with_reducible refine Below.drew ?_ | with_reducible refine b_drewN ?_ _))⟩


end Go.Proofs.Ytdjbdlfdknfcaaa