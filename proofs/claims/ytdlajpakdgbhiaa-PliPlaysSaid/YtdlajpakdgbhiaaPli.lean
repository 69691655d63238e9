/-
  Package pli: each function by a contract. (Written by wip/gen/pli.py.)
-/
import Derived.Test.YtdlajpakdgbhiaaRows
import Derived.Test.YtdlajpakdgbhiaaMem
import Derived.Test.YtdlajpakdgbhiaaMem2
import Derived.Deep.QuietTactic
import Derived.BigQuiet
import Derived.RegionTactic
import Derived.BigRegion
import Derived.Outline
namespace Go.Proofs.Ytdlajpakdgbhiaa
set_option linter.unusedSimpArgs false
set_option linter.unusedVariables false
open Go.RowKit

set_option maxHeartbeats 400000 in
theorem aTick1 (fi : Int) (mo : Int) (due : Int) (wai : Int) (sen : Int) (now : Int) (g : Nat) (w : World) (hB : w.heap[g]? = some (.cells #[.int .i64 (fi), .int .i64 (mo), .bool false, .int .i64 (due), .int .i64 (wai), .int .i64 (sen)] 89 (0, 0)))  :
    Calls Try.prog 24 #[.pointer (some ⟨g, 0, none⟩), .int .i64 (now)] w fun e w' => e = .returned (.bool false) ∧ w'.heap[g]? = some (.cells #[.int .i64 (fi), .int .i64 (mo), .bool false, .int .i64 (due), .int .i64 (wai), .int .i64 (sen)] 89 (0, 0)) ∧ w.grownBy w' (some g) := by
  obtain ⟨hf, hlt, c0, c1, c2, c3, c4, c5⟩ := Blk.f6 hB
  have HB := hide hB
  clear hB
  go_enter Try.func24, Try.ntmps24
  go_wp2_with (go_quiet (fail))
  go_ret
  exact ⟨rfl, by simp only [Blk, heap_set_self, heap_drewN, heap_drew, setIn_cells, Option.map_some, List.setIfInBounds_toArray, List.set_cons_zero, List.set_cons_succ, HB.out], (by repeat (first | with_reducible exact g_refl _ _ | with_reducible refine g_set ?_ _ _ | with_reducible refine g_drewN ?_ _ | with_reducible refine g_drew ?_))⟩


set_option maxHeartbeats 400000 in
theorem aTick2 (fi : Int) (mo : Int) (due : Int) (wai : Int) (sen : Int) (now : Int) (g : Nat) (w : World) (hB : w.heap[g]? = some (.cells #[.int .i64 (fi), .int .i64 (mo), .bool true, .int .i64 (due), .int .i64 (wai), .int .i64 (sen)] 89 (0, 0))) (h : now < due) :
    Calls Try.prog 24 #[.pointer (some ⟨g, 0, none⟩), .int .i64 (now)] w fun e w' => e = .returned (.bool false) ∧ w'.heap[g]? = some (.cells #[.int .i64 (fi), .int .i64 (mo), .bool true, .int .i64 (due), .int .i64 (wai), .int .i64 (sen)] 89 (0, 0)) ∧ w.grownBy w' (some g) := by
  obtain ⟨hf, hlt, c0, c1, c2, c3, c4, c5⟩ := Blk.f6 hB
  have HB := hide hB
  clear hB
  go_enter Try.func24, Try.ntmps24
  go_wp2_with (go_quiet (fail))
  go_ret
  exact ⟨rfl, by simp only [Blk, heap_set_self, heap_drewN, heap_drew, setIn_cells, Option.map_some, List.setIfInBounds_toArray, List.set_cons_zero, List.set_cons_succ, HB.out], (by repeat (first | with_reducible exact g_refl _ _ | with_reducible refine g_set ?_ _ _ | with_reducible refine g_drewN ?_ _ | with_reducible refine g_drew ?_))⟩


set_option maxHeartbeats 400000 in
theorem aTick3 (fi : Int) (mo : Int) (due : Int) (wai : Int) (sen : Int) (now : Int) (g : Nat) (w : World) (hB : w.heap[g]? = some (.cells #[.int .i64 (fi), .int .i64 (mo), .bool true, .int .i64 (due), .int .i64 (wai), .int .i64 (sen)] 89 (0, 0))) (hs : 0 ≤ sen ∧ sen ≤ 1000000 ∧ 0 ≤ wai ∧ wai ≤ 2147483648 ∧ 0 ≤ mo ∧ mo ≤ 1073741824 ∧ 0 ≤ fi ∧ fi ≤ 1073741824 ∧ 0 ≤ now ∧ now ≤ 1099511627776) (h : due ≤ now) (h2 : 2 * wai ≤ mo) :
    Calls Try.prog 24 #[.pointer (some ⟨g, 0, none⟩), .int .i64 (now)] w fun e w' => e = .returned (.bool true) ∧ w'.heap[g]? = some (.cells #[.int .i64 (fi), .int .i64 (mo), .bool true, .int .i64 (now + 2 * wai), .int .i64 (2 * wai), .int .i64 (sen + 1)] 89 (0, 0)) ∧ w.grownBy w' (some g) := by
  obtain ⟨hf, hlt, c0, c1, c2, c3, c4, c5⟩ := Blk.f6 hB
  have HB := hide hB
  clear hB
  go_enter Try.func24, Try.ntmps24
  go_wp2_with (first | go_quiet (fail) | go_region)
  go_ret
  exact ⟨rfl, by simp only [Blk, heap_set_self, heap_drewN, heap_drew, setIn_cells, Option.map_some, List.setIfInBounds_toArray, List.set_cons_zero, List.set_cons_succ, HB.out], (by repeat (first | with_reducible exact g_refl _ _ | with_reducible refine g_set ?_ _ _ | with_reducible refine g_drewN ?_ _ | with_reducible refine g_drew ?_))⟩


set_option maxHeartbeats 400000 in
theorem aTick4 (fi : Int) (mo : Int) (due : Int) (wai : Int) (sen : Int) (now : Int) (g : Nat) (w : World) (hB : w.heap[g]? = some (.cells #[.int .i64 (fi), .int .i64 (mo), .bool true, .int .i64 (due), .int .i64 (wai), .int .i64 (sen)] 89 (0, 0))) (hs : 0 ≤ sen ∧ sen ≤ 1000000 ∧ 0 ≤ wai ∧ wai ≤ 2147483648 ∧ 0 ≤ mo ∧ mo ≤ 1073741824 ∧ 0 ≤ fi ∧ fi ≤ 1073741824 ∧ 0 ≤ now ∧ now ≤ 1099511627776) (h : due ≤ now) (h2 : mo < 2 * wai) :
    Calls Try.prog 24 #[.pointer (some ⟨g, 0, none⟩), .int .i64 (now)] w fun e w' => e = .returned (.bool true) ∧ w'.heap[g]? = some (.cells #[.int .i64 (fi), .int .i64 (mo), .bool true, .int .i64 (now + mo), .int .i64 (mo), .int .i64 (sen + 1)] 89 (0, 0)) ∧ w.grownBy w' (some g) := by
  obtain ⟨hf, hlt, c0, c1, c2, c3, c4, c5⟩ := Blk.f6 hB
  have HB := hide hB
  clear hB
  go_enter Try.func24, Try.ntmps24
  go_wp2_with (first | go_quiet (fail) | go_region)
  go_ret
  exact ⟨rfl, by simp only [Blk, heap_set_self, heap_drewN, heap_drew, setIn_cells, Option.map_some, List.setIfInBounds_toArray, List.set_cons_zero, List.set_cons_succ, HB.out], (by repeat (first | with_reducible exact g_refl _ _ | with_reducible refine g_set ?_ _ _ | with_reducible refine g_drewN ?_ _ | with_reducible refine g_drew ?_))⟩


set_option maxHeartbeats 400000 in
theorem aWant1 (fi : Int) (mo : Int) (wan : Bool) (due : Int) (wai : Int) (sen : Int) (now : Int) (g : Nat) (w : World) (hB : w.heap[g]? = some (.cells #[.int .i64 (fi), .int .i64 (mo), .bool wan, .int .i64 (due), .int .i64 (wai), .int .i64 (sen)] 89 (0, 0)))  :
    Calls Try.prog 22 #[.pointer (some ⟨g, 0, none⟩), .bool false, .int .i64 (now)] w fun e w' => e = .returned (.bool false) ∧ w'.heap[g]? = some (.cells #[.int .i64 (fi), .int .i64 (mo), .bool false, .int .i64 (0), .int .i64 (0), .int .i64 (sen)] 89 (0, 0)) ∧ w.grownBy w' (some g) := by
  obtain ⟨hf, hlt, c0, c1, c2, c3, c4, c5⟩ := Blk.f6 hB
  have HB := hide hB
  clear hB
  go_enter Try.func22, Try.ntmps22
  go_wp2_with (go_quiet (fail))
  go_ret
  exact ⟨rfl, by simp only [Blk, heap_set_self, heap_drewN, heap_drew, setIn_cells, Option.map_some, List.setIfInBounds_toArray, List.set_cons_zero, List.set_cons_succ, HB.out], (by repeat (first | with_reducible exact g_refl _ _ | with_reducible refine g_set ?_ _ _ | with_reducible refine g_drewN ?_ _ | with_reducible refine g_drew ?_))⟩


set_option maxHeartbeats 400000 in
theorem aWant3 (fi : Int) (mo : Int) (due : Int) (wai : Int) (sen : Int) (now : Int) (g : Nat) (w : World) (hB : w.heap[g]? = some (.cells #[.int .i64 (fi), .int .i64 (mo), .bool false, .int .i64 (due), .int .i64 (wai), .int .i64 (sen)] 89 (0, 0))) (hs : 0 ≤ sen ∧ sen ≤ 1000000 ∧ 0 ≤ wai ∧ wai ≤ 2147483648 ∧ 0 ≤ mo ∧ mo ≤ 1073741824 ∧ 0 ≤ fi ∧ fi ≤ 1073741824 ∧ 0 ≤ now ∧ now ≤ 1099511627776)  :
    Calls Try.prog 22 #[.pointer (some ⟨g, 0, none⟩), .bool true, .int .i64 (now)] w fun e w' => e = .returned (.bool true) ∧ w'.heap[g]? = some (.cells #[.int .i64 (fi), .int .i64 (mo), .bool true, .int .i64 (now + fi), .int .i64 (fi), .int .i64 (sen + 1)] 89 (0, 0)) ∧ w.grownBy w' (some g) := by
  obtain ⟨hf, hlt, c0, c1, c2, c3, c4, c5⟩ := Blk.f6 hB
  have HB := hide hB
  clear hB
  go_enter Try.func22, Try.ntmps22
  go_wp2_with (go_quiet (fail))
  go_ret
  exact ⟨rfl, by simp only [Blk, heap_set_self, heap_drewN, heap_drew, setIn_cells, Option.map_some, List.setIfInBounds_toArray, List.set_cons_zero, List.set_cons_succ, HB.out], (by repeat (first | with_reducible exact g_refl _ _ | with_reducible refine g_set ?_ _ _ | with_reducible refine g_drewN ?_ _ | with_reducible refine g_drew ?_))⟩


set_option maxHeartbeats 400000 in
theorem aWanted (fi : Int) (mo : Int) (wan : Bool) (due : Int) (wai : Int) (sen : Int) (g : Nat) (w : World) (hB : w.heap[g]? = some (.cells #[.int .i64 (fi), .int .i64 (mo), .bool wan, .int .i64 (due), .int .i64 (wai), .int .i64 (sen)] 89 (0, 0)))  :
    Calls Try.prog 23 #[.pointer (some ⟨g, 0, none⟩)] w fun e w' => e = .returned (.bool wan) ∧ w = w' := by
  obtain ⟨hf, hlt, c0, c1, c2, c3, c4, c5⟩ := Blk.f6 hB
  have HB := hide hB
  clear hB
  go_enter Try.func23, Try.ntmps23
  go_wp2_with (go_quiet (fail))
  go_ret
  exact ⟨rfl, rfl⟩


set_option maxHeartbeats 400000 in
theorem aSent (fi : Int) (mo : Int) (wan : Bool) (due : Int) (wai : Int) (sen : Int) (g : Nat) (w : World) (hB : w.heap[g]? = some (.cells #[.int .i64 (fi), .int .i64 (mo), .bool wan, .int .i64 (due), .int .i64 (wai), .int .i64 (sen)] 89 (0, 0)))  :
    Calls Try.prog 28 #[.pointer (some ⟨g, 0, none⟩)] w fun e w' => e = .returned (.int .i64 (sen)) ∧ w = w' := by
  obtain ⟨hf, hlt, c0, c1, c2, c3, c4, c5⟩ := Blk.f6 hB
  have HB := hide hB
  clear hB
  go_enter Try.func28, Try.ntmps28
  go_wp2_with (go_quiet (fail))
  go_ret
  exact ⟨rfl, rfl⟩


set_option maxHeartbeats 400000 in
theorem aDue (fi : Int) (mo : Int) (wan : Bool) (due : Int) (wai : Int) (sen : Int) (g : Nat) (w : World) (hB : w.heap[g]? = some (.cells #[.int .i64 (fi), .int .i64 (mo), .bool wan, .int .i64 (due), .int .i64 (wai), .int .i64 (sen)] 89 (0, 0)))  :
    Calls Try.prog 27 #[.pointer (some ⟨g, 0, none⟩)] w fun e w' => e = .returned (.tuple #[.int .i64 (due), .bool wan]) ∧ w'.heap[g]? = some (.cells #[.int .i64 (fi), .int .i64 (mo), .bool wan, .int .i64 (due), .int .i64 (wai), .int .i64 (sen)] 89 (0, 0)) ∧ w.grownBy w' (some g) := by
  obtain ⟨hf, hlt, c0, c1, c2, c3, c4, c5⟩ := Blk.f6 hB
  have HB := hide hB
  clear hB
  go_enter Try.func27, Try.ntmps27
  go_wp2_with (go_quiet (fail))
  go_ret2
  exact ⟨rfl, by simp only [Blk, heap_set_self, heap_drewN, heap_drew, setIn_cells, Option.map_some, List.setIfInBounds_toArray, List.set_cons_zero, List.set_cons_succ, HB.out], (by repeat (first | with_reducible exact g_refl _ _ | with_reducible refine g_set ?_ _ _ | with_reducible refine g_drewN ?_ _ | with_reducible refine g_drew ?_))⟩



structure Ask where
  fi : Int
  mo : Int
  wan : Bool
  due : Int
  wai : Int
  sen : Int
  deriving DecidableEq
def Ask.cells (a : Ask) : Array Value := #[.int .i64 a.fi, .int .i64 a.mo, .bool a.wan, .int .i64 a.due, .int .i64 a.wai, .int .i64 a.sen]
def Ask.tick (a : Ask) (now : Int) : Ask × Bool :=
  if !a.wan || decide (now < a.due) then (a, false)
  else ({ a with wai := min (2 * a.wai) a.mo, due := now + min (2 * a.wai) a.mo, sen := a.sen + 1 }, true)
def Ask.want (a : Ask) (on : Bool) (now : Int) : Ask × Bool :=
  if !on then ({ a with wan := false, due := 0, wai := 0 }, false)
  else if a.wan then a.tick now
  else ({ a with wan := true, wai := a.fi, due := now + a.fi, sen := a.sen + 1 }, true)
abbrev Ask.ok (a : Ask) : Prop := 0 ≤ a.sen ∧ a.sen ≤ 1000000 ∧ 0 ≤ a.wai ∧ a.wai ≤ 2147483648 ∧ 0 ≤ a.mo ∧ a.mo ≤ 1073741824 ∧ 0 ≤ a.fi ∧ a.fi ≤ 1073741824

theorem askTick (a : Ask) (now : Int) (g : Nat) (w : World) (hB : Blk w g 89 a.cells) (ho : a.ok) (hn : 0 ≤ now ∧ now ≤ 1099511627776) :
    Calls Try.prog 24 #[.pointer (some ⟨g, 0, none⟩), .int .i64 now] w fun e w' => e = .returned (.bool (a.tick now).2) ∧ Blk w' g 89 (a.tick now).1.cells ∧ w.grownBy w' (some g) := by
  obtain ⟨fi, mo, wan, due, wai, sen⟩ := a
  obtain ⟨o1, o2, o3, o4, o5, o6, o7, o8⟩ := ho
  simp only at o1 o2 o3 o4 o5 o6 o7 o8
  cases wan
  · simpa [Ask.tick, Ask.cells, Blk] using aTick1 fi mo due wai sen now g w hB
  · by_cases h : now < due
    · simpa [Ask.tick, Ask.cells, Blk, h] using aTick2 fi mo due wai sen now g w hB h
    · by_cases h2 : 2 * wai ≤ mo
      · simpa [Ask.tick, Ask.cells, Blk, h, Int.min_eq_left h2] using aTick3 fi mo due wai sen now g w hB (by omega) (by omega) h2
      · simpa [Ask.tick, Ask.cells, Blk, h, Int.min_eq_right (show mo ≤ 2 * wai by omega)] using aTick4 fi mo due wai sen now g w hB (by omega) (by omega) (by omega)
theorem askTickV (a b : Ask) (r : Bool) (now : Int) (h : a.tick now = (b, r)) (g : Nat) (w : World) (hB : Blk w g 89 a.cells) (ho : a.ok) (hn : 0 ≤ now ∧ now ≤ 1099511627776) :
    Calls Try.prog 24 #[.pointer (some ⟨g, 0, none⟩), .int .i64 now] w fun e w' => e = .returned (.bool r) ∧ Blk w' g 89 b.cells ∧ w.grownBy w' (some g) := by
  have := askTick a now g w hB ho hn
  rwa [h] at this
theorem askWantOn (a : Ask) (hw : a.wan = true) (now : Int) (g : Nat) (w : World) (hB : Blk w g 89 a.cells) (ho : a.ok) (hn : 0 ≤ now ∧ now ≤ 1099511627776) :
    Calls Try.prog 22 #[.pointer (some ⟨g, 0, none⟩), .bool true, .int .i64 now] w fun e w' => e = .returned (.bool (a.tick now).2) ∧ Blk w' g 89 (a.tick now).1.cells ∧ w.grownBy w' (some g) := by
  obtain ⟨b, r, hb⟩ : ∃ b r, a.tick now = (b, r) := ⟨_, _, rfl⟩
  rw [hb]
  have H := hide (askTickV a b r now hb g w hB ho hn)
  clear hb
  obtain ⟨fi, mo, wan, due, wai, sen⟩ := a
  simp only at hw
  subst hw
  obtain ⟨hf, hlt, c0, c1, c2, c3, c4, c5⟩ := Blk.f6 hB
  clear hB
  go_enter Try.func22, Try.ntmps22
  go_wp2_with (go_at_call 24; refine H.out.mono ?_; rintro e w1 ⟨rfl, hB, hg⟩; have HB := hide hB; have HG := hide hg; clear hB hg)
  go_ret
  exact ⟨rfl, HB.out, HG.out⟩
theorem askWant (a : Ask) (on : Bool) (now : Int) (g : Nat) (w : World) (hB : Blk w g 89 a.cells) (ho : a.ok) (hn : 0 ≤ now ∧ now ≤ 1099511627776) :
    Calls Try.prog 22 #[.pointer (some ⟨g, 0, none⟩), .bool on, .int .i64 now] w fun e w' => e = .returned (.bool (a.want on now).2) ∧ Blk w' g 89 (a.want on now).1.cells ∧ w.grownBy w' (some g) := by
  cases on
  · obtain ⟨fi, mo, wan, due, wai, sen⟩ := a
    simpa [Ask.want, Ask.cells, Blk] using aWant1 fi mo wan due wai sen now g w hB
  · by_cases hw : a.wan = true
    · have := askWantOn a hw now g w hB ho hn
      simpa [Ask.want, hw] using this
    · obtain ⟨fi, mo, wan, due, wai, sen⟩ := a
      obtain ⟨o1, o2, o3, o4, o5, o6, o7, o8⟩ := ho
      simp only at o1 o2 o3 o4 o5 o6 o7 o8
      have hw' : wan = false := by simpa using hw
      subst hw'
      simpa [Ask.want, Ask.cells, Blk] using aWant3 fi mo due wai sen now g w hB (by omega)
theorem askWantV (a b : Ask) (on r : Bool) (now : Int) (h : a.want on now = (b, r)) (g : Nat) (w : World) (hB : Blk w g 89 a.cells) (ho : a.ok) (hn : 0 ≤ now ∧ now ≤ 1099511627776) :
    Calls Try.prog 22 #[.pointer (some ⟨g, 0, none⟩), .bool on, .int .i64 now] w fun e w' => e = .returned (.bool r) ∧ Blk w' g 89 b.cells ∧ w.grownBy w' (some g) := by
  have := askWant a on now g w hB ho hn
  rwa [h] at this
theorem askWantedV (a : Ask) (b : Bool) (h : a.wan = b) (g : Nat) (w : World) (hB : Blk w g 89 a.cells) :
    Calls Try.prog 23 #[.pointer (some ⟨g, 0, none⟩)] w fun e w' => e = .returned (.bool b) ∧ w = w' := by
  subst h; exact aWanted _ _ _ _ _ _ g w hB
theorem askSentV (a : Ask) (n : Int) (h : a.sen = n) (g : Nat) (w : World) (hB : Blk w g 89 a.cells) :
    Calls Try.prog 28 #[.pointer (some ⟨g, 0, none⟩)] w fun e w' => e = .returned (.int .i64 n) ∧ w = w' := by
  subst h; exact aSent _ _ _ _ _ _ g w hB
theorem askDueV (a : Ask) (n : Int) (b : Bool) (h : a.due = n) (hb : a.wan = b) (g : Nat) (w : World) (hB : Blk w g 89 a.cells) :
    Calls Try.prog 27 #[.pointer (some ⟨g, 0, none⟩)] w fun e w' => e = .returned (.tuple #[.int .i64 n, .bool b]) ∧ Blk w' g 89 a.cells ∧ w.grownBy w' (some g) := by
  subst h; subst hb; exact aDue _ _ _ _ _ _ g w hB

theorem pliCheck_ok (a r : Int) (w : World) (h : 1 ≤ a ∧ a ≤ r ∧ r ≤ 1073741824) :
    Calls Try.prog 41 #[.agg #[.int .i64 a, .int .i64 r]] w fun e w' => e = .returned (.int .i64 0) ∧ Below w.heap.size w w' := by
  obtain ⟨h1, h2, h3⟩ := h
  go_enter Try.func41, Try.ntmps41
  go_wp2_with (go_quiet (fail))
  go_ret
  exact ⟨rfl, (by repeat (first | with_reducible exact Below.refl _ _ | with_reducible assumption | with_reducible refine Below.setCell ?_ (by simp) _ | with_reducible refine Below.alloc ?_ (by simp) _ | with_reducible refine Below.drew ?_ | with_reducible refine b_drewN ?_ _))⟩
theorem pliCheck_no (a r : Int) (w : World) (h : ¬ (1 ≤ a ∧ a ≤ r ∧ r ≤ 1073741824)) :
    Calls Try.prog 41 #[.agg #[.int .i64 a, .int .i64 r]] w fun e w' => e = .returned (.int .i64 5) ∧ Below w.heap.size w w' := by
  by_cases h1 : a < 1
  · go_enter Try.func41, Try.ntmps41
    go_wp2_with (go_quiet (fail))
    go_ret
    exact ⟨rfl, (by repeat (first | with_reducible exact Below.refl _ _ | with_reducible assumption | with_reducible refine Below.setCell ?_ (by simp) _ | with_reducible refine Below.alloc ?_ (by simp) _ | with_reducible refine Below.drew ?_ | with_reducible refine b_drewN ?_ _))⟩
  have d1 : decide (a < 1) = false := by simp; omega
  by_cases h2 : r < a
  · clear h
    go_enter Try.func41, Try.ntmps41
    go_wp2_with (go_quiet (fail))
    go_ret
    exact ⟨rfl, (by repeat (first | with_reducible exact Below.refl _ _ | with_reducible assumption | with_reducible refine Below.setCell ?_ (by simp) _ | with_reducible refine Below.alloc ?_ (by simp) _ | with_reducible refine Below.drew ?_ | with_reducible refine b_drewN ?_ _))⟩
  have d2 : decide (r < a) = false := by simp; omega
  have h3 : 1073741824 < r := by omega
  clear h
  go_enter Try.func41, Try.ntmps41
  go_wp2_with (go_quiet (fail))
  go_ret
  exact ⟨rfl, (by repeat (first | with_reducible exact Below.refl _ _ | with_reducible assumption | with_reducible refine Below.setCell ?_ (by simp) _ | with_reducible refine Below.alloc ?_ (by simp) _ | with_reducible refine Below.drew ?_ | with_reducible refine b_drewN ?_ _))⟩
theorem pliNew_ok (a r : Int) (w : World) (h : 1 ≤ a ∧ a ≤ r ∧ r ≤ 1073741824) :
    Calls Try.prog 20 #[.agg #[.int .i64 a, .int .i64 r]] w fun e w' => ∃ g, e = .returned (.tuple #[.pointer (some ⟨g, 0, none⟩), .int .i64 0]) ∧ Below w.heap.size w w' ∧ w.heap.size ≤ g ∧ Blk w' g 89 (Ask.cells ⟨a, r, false, 0, 0, 0⟩) := by
  go_enter Try.func20, Try.ntmps20
  go_wp2_with (go_at_call 41; refine (pliCheck_ok _ _ _ h).mono ?_; rintro e w' ⟨rfl, hb⟩; obtain ⟨hc, hf, hz⟩ := bcell hb)
  go_ret2
  exact ⟨_, rfl, (b_below ((Below.refl _ _).alloc (Nat.le_refl _) _) hb (by simp)).alloc (by simp at hz; omega) _, by simp at hz; omega, Blk.new _ _ _⟩
theorem pliNew_no (a r : Int) (w : World) (h : ¬ (1 ≤ a ∧ a ≤ r ∧ r ≤ 1073741824)) :
    Calls Try.prog 20 #[.agg #[.int .i64 a, .int .i64 r]] w fun e w' => e = .returned (.tuple #[.pointer none, .int .i64 5]) ∧ Below w.heap.size w w' := by
  go_enter Try.func20, Try.ntmps20
  go_wp2_with (go_at_call 41; refine (pliCheck_no _ _ _ h).mono ?_; rintro e w' ⟨rfl, hb⟩)
  go_ret2
  exact ⟨rfl, b_below ((Below.refl _ _).alloc (Nat.le_refl _) _) hb (by simp)⟩

end Go.Proofs.Ytdlajpakdgbhiaa