/-
  StallPlays: the dog and the reference's answer the same.
-/
import Derived.Test.YtdlajpakdgbhiaaStallLaws
import Derived.Test.YtdlajpakdgbhiaaArgs
namespace Go.Proofs.Ytdlajpakdgbhiaa
open Go.RowKit

/-- the reference's dog -/
structure RDog where
  after : Int
  rest : Int
  since : Int
  til : Int
  times : Int
def RDog.vals (d : RDog) : Array Value := #[.int .i64 d.after, .int .i64 d.rest, .int .i64 d.since, .int .i64 d.til, .int .i64 d.times]
def RDog.tick (d : RDog) (now : Int) (w s : Bool) : RDog × Int :=
  if 0 ≤ d.til then (if now < d.til then (d, 0) else ({ d with til := -1, since := -1 }, 2))
  else if !w then ({ d with since := -1 }, 0)
  else
    let d1 := if s || decide (d.since < 0) then { d with since := now } else d
    if now - d1.since < d1.after then (d1, 0) else ({ d1 with til := now + d1.rest, since := -1, times := d1.times + 1 }, 1)

structure Sim (d : Dog) (x : RDog) (now : Int) (k : Nat) : Prop where
  after : d.after = x.after
  rest : d.rest = x.rest
  a1 : 1 ≤ d.after
  a2 : d.after ≤ 100
  r1 : 1 ≤ d.rest
  r2 : d.rest ≤ 100
  susp : d.susp = decide (0 ≤ x.til)
  times : d.times = x.times
  til : d.susp = true → d.til = x.til
  waits : d.susp = false → d.waits = decide (0 ≤ x.since)
  since : d.susp = false → d.waits = true → d.since = x.since
  b1 : 0 ≤ now ∧ now ≤ 7 * k
  b2 : 0 ≤ d.since ∧ d.since ≤ now
  b3 : 0 ≤ d.til ∧ d.til ≤ now + 100
  b4 : 0 ≤ d.times ∧ d.times ≤ k
  b5 : -1 ≤ x.since ∧ x.since ≤ now
  b6 : -1 ≤ x.til ∧ x.til ≤ now + 100

theorem Sim.ok {d : Dog} {x : RDog} {now : Int} {k : Nat} (h : Sim d x now k) (hk : k ≤ 1000) : d.ok := by
  have := h.a1; have := h.a2; have := h.r1; have := h.r2; have := h.b1; have := h.b2; have := h.b3; have := h.b4
  unfold Dog.ok; omega

theorem sim_step {d : Dog} {x : RDog} {now : Int} {k : Nat} (h : Sim d x now k) (n : Int) (hn : 0 ≤ n ∧ n ≤ 7) (w s : Bool) :
    ∃ d2 x2 r, d.tick (now + n) w s = (d2, r) ∧ x.tick (now + n) w s = (x2, r) ∧ Sim d2 x2 (now + n) (k + 1) := by
  obtain ⟨af, rs, si, wa, su, ti, tm⟩ := d
  obtain ⟨xa, xr, xs, xt, xm⟩ := x
  obtain ⟨h1, h2, a1, a2, r1, r2, h3, h4, h5, h6, h7, b1, b2, b3, b4, b5, b6⟩ := h
  simp only at *
  subst h1; subst h2; subst h4
  by_cases ht : 0 ≤ xt
  · have h3' : su = true := by rw [h3]; simp [ht]
    subst h3'
    have h5' := h5 rfl
    subst h5'
    clear h5 h6 h7
    by_cases hlt : now + n < ti
    · refine ⟨⟨af, rs, si, wa, true, ti, tm⟩, ⟨af, rs, xs, ti, tm⟩, 0, by simp [Dog.tick, hlt], by simp [RDog.tick, ht, hlt], ?_⟩
      constructor <;> intros <;> first | rfl | omega | assumption | contradiction | (simp; omega) | (simp only [decide_eq_true_eq]; omega)
    · refine ⟨⟨af, rs, si, false, false, ti, tm⟩, ⟨af, rs, -1, -1, tm⟩, 2, by simp [Dog.tick, hlt], by simp [RDog.tick, ht, hlt], ?_⟩
      constructor <;> intros <;> first | rfl | omega | assumption | contradiction | (simp; omega) | (simp only [decide_eq_true_eq]; omega)
  · have h3' : su = false := by rw [h3]; simp; omega
    subst h3'
    have h6' := h6 rfl
    have h7' := h7 rfl
    clear h5 h6 h7
    cases w
    · refine ⟨⟨af, rs, si, false, false, ti, tm⟩, ⟨af, rs, -1, xt, tm⟩, 0, by simp [Dog.tick], by simp [RDog.tick, ht], ?_⟩
      constructor <;> intros <;> first | rfl | omega | assumption | contradiction | (simp; omega) | (simp only [decide_eq_true_eq]; omega)
    · have a3 : 0 < af := by omega
      by_cases hc : s = true ∨ xs < 0
      · have e1 : (Dog.tick ⟨af, rs, si, wa, false, ti, tm⟩ (now + n) true s) = (⟨af, rs, now + n, true, false, ti, tm⟩, 0) := by
          cases s
          · have hx : xs < 0 := by simpa using hc
            have hw : wa = false := by rw [h6']; simp; omega
            subst hw
            simp [Dog.tick, a3]
          · simp [Dog.tick, a3]
        have e2 : (RDog.tick ⟨af, rs, xs, xt, tm⟩ (now + n) true s) = (⟨af, rs, now + n, xt, tm⟩, 0) := by
          cases s
          · have hx : xs < 0 := by simpa using hc
            simp [RDog.tick, ht, hx, a3]
          · simp [RDog.tick, ht, a3]
        refine ⟨_, _, 0, e1, e2, ?_⟩
        constructor <;> intros <;> first | rfl | omega | assumption | contradiction | (simp; omega) | (simp only [decide_eq_true_eq]; omega)
      · have hs : s = false := by cases s <;> simp_all
        subst hs
        have hxs : 0 ≤ xs := by simp at hc; omega
        have hwa : wa = true := by rw [h6']; simp [hxs]
        subst hwa
        have h8 := h7' rfl
        subst h8
        have hx0 : ¬ si < 0 := by omega
        by_cases hlt : now + n - si < af
        · refine ⟨⟨af, rs, si, true, false, ti, tm⟩, ⟨af, rs, si, xt, tm⟩, 0, by simp [Dog.tick, hlt], by simp [RDog.tick, ht, hlt, hx0], ?_⟩
          constructor <;> intros <;> first | rfl | omega | assumption | contradiction | (simp; omega) | (simp only [decide_eq_true_eq]; omega)
        · refine ⟨⟨af, rs, si, false, true, now + n + rs, tm + 1⟩, ⟨af, rs, -1, now + n + rs, tm + 1⟩, 1, by simp [Dog.tick, hlt], by simp [RDog.tick, ht, hlt, hx0], ?_⟩
          constructor <;> intros <;> first | rfl | omega | assumption | contradiction | (simp; omega) | (simp only [decide_eq_true_eq]; omega)

set_option maxHeartbeats 1000000 in
theorem rdogTick (d : RDog) (now : Int) (wt st : Bool) (w : World) (ha : 0 < d.after) (hd : -1 ≤ d.since ∧ d.since ≤ 100000 ∧ 0 ≤ d.rest ∧ d.rest ≤ 100 ∧ 0 ≤ d.times ∧ d.times ≤ 100000) (hn : 0 ≤ now ∧ now ≤ 100000) :
    Calls Try.prog 33 #[.agg d.vals, .int .i64 now, .bool wt, .bool st] w fun e w' =>
      e = .returned (.tuple #[.agg (d.tick now wt st).1.vals, .int .i64 (d.tick now wt st).2]) ∧ Below w.heap.size w w' := by
  obtain ⟨af, rs, si, ti, tm⟩ := d
  obtain ⟨k1, k2, k3, k4, k5, k6⟩ := hd
  simp only at k1 k2 k3 k4 k5 k6 ha
  by_cases ht : 0 ≤ ti
  · by_cases hlt : now < ti
    · have E : RDog.tick ⟨af, rs, si, ti, tm⟩ now wt st = (⟨af, rs, si, ti, tm⟩, 0) := by simp [RDog.tick, ht, hlt]
      rw [E]
      clear E
      simp only [RDog.vals]
      go_enter Try.func33, Try.ntmps33
      go_wp2_with (go_quiet (fail))
      exact bodyPost_ret (v := .tuple #[.agg #[.int .i64 (af), .int .i64 (rs), .int .i64 (si), .int .i64 (ti), .int .i64 (tm)], .int .i64 0]) (by simp [results, Try.results33, go_sem]) rfl ⟨rfl, (by repeat (first | with_reducible exact Below.refl _ _ | with_reducible assumption | with_reducible refine Below.setCell ?_ (by simp) _ | with_reducible refine Below.alloc ?_ (by simp) _ | with_reducible refine Below.drew ?_ | with_reducible refine b_drewN ?_ _))⟩
    · have E : RDog.tick ⟨af, rs, si, ti, tm⟩ now wt st = (⟨af, rs, -1, -1, tm⟩, 2) := by simp [RDog.tick, ht, hlt]
      rw [E]
      clear E
      simp only [RDog.vals]
      go_enter Try.func33, Try.ntmps33
      go_wp2_with (go_quiet (fail))
      exact bodyPost_ret (v := .tuple #[.agg #[.int .i64 (af), .int .i64 (rs), .int .i64 (-1), .int .i64 (-1), .int .i64 (tm)], .int .i64 2]) (by simp [results, Try.results33, go_sem]) rfl ⟨rfl, (by repeat (first | with_reducible exact Below.refl _ _ | with_reducible assumption | with_reducible refine Below.setCell ?_ (by simp) _ | with_reducible refine Below.alloc ?_ (by simp) _ | with_reducible refine Below.drew ?_ | with_reducible refine b_drewN ?_ _))⟩
  · cases wt
    · have E : RDog.tick ⟨af, rs, si, ti, tm⟩ now false st = (⟨af, rs, -1, ti, tm⟩, 0) := by simp [RDog.tick, ht]
      rw [E]
      clear E
      simp only [RDog.vals]
      go_enter Try.func33, Try.ntmps33
      go_wp2_with (go_quiet (fail))
      exact bodyPost_ret (v := .tuple #[.agg #[.int .i64 (af), .int .i64 (rs), .int .i64 (-1), .int .i64 (ti), .int .i64 (tm)], .int .i64 0]) (by simp [results, Try.results33, go_sem]) rfl ⟨rfl, (by repeat (first | with_reducible exact Below.refl _ _ | with_reducible assumption | with_reducible refine Below.setCell ?_ (by simp) _ | with_reducible refine Below.alloc ?_ (by simp) _ | with_reducible refine Below.drew ?_ | with_reducible refine b_drewN ?_ _))⟩
    · by_cases hc : st = true ∨ si < 0
      · cases st
        · have hs : si < 0 := by simpa using hc
          clear hc
          have E : RDog.tick ⟨af, rs, si, ti, tm⟩ now true false = (⟨af, rs, now, ti, tm⟩, 0) := by simp [RDog.tick, ht, ha, hs]
          rw [E]
          clear E
          simp only [RDog.vals]
          go_enter Try.func33, Try.ntmps33
          go_wp2_with (go_quiet (fail))
          exact bodyPost_ret (v := .tuple #[.agg #[.int .i64 (af), .int .i64 (rs), .int .i64 (now), .int .i64 (ti), .int .i64 (tm)], .int .i64 0]) (by simp [results, Try.results33, go_sem]) rfl ⟨rfl, (by repeat (first | with_reducible exact Below.refl _ _ | with_reducible assumption | with_reducible refine Below.setCell ?_ (by simp) _ | with_reducible refine Below.alloc ?_ (by simp) _ | with_reducible refine Below.drew ?_ | with_reducible refine b_drewN ?_ _))⟩
        · clear hc
          have E : RDog.tick ⟨af, rs, si, ti, tm⟩ now true true = (⟨af, rs, now, ti, tm⟩, 0) := by simp [RDog.tick, ht, ha]
          rw [E]
          clear E
          simp only [RDog.vals]
          go_enter Try.func33, Try.ntmps33
          go_wp2_with (go_quiet (fail))
          exact bodyPost_ret (v := .tuple #[.agg #[.int .i64 (af), .int .i64 (rs), .int .i64 (now), .int .i64 (ti), .int .i64 (tm)], .int .i64 0]) (by simp [results, Try.results33, go_sem]) rfl ⟨rfl, (by repeat (first | with_reducible exact Below.refl _ _ | with_reducible assumption | with_reducible refine Below.setCell ?_ (by simp) _ | with_reducible refine Below.alloc ?_ (by simp) _ | with_reducible refine Below.drew ?_ | with_reducible refine b_drewN ?_ _))⟩
      · have hs : st = false := by cases st <;> simp_all
        subst hs
        have hsi : ¬ si < 0 := by simp at hc; omega
        clear hc
        by_cases hlt : now - si < af
        · have E : RDog.tick ⟨af, rs, si, ti, tm⟩ now true false = (⟨af, rs, si, ti, tm⟩, 0) := by simp [RDog.tick, ht, hsi, hlt]
          rw [E]
          clear E
          simp only [RDog.vals]
          go_enter Try.func33, Try.ntmps33
          go_wp2_with (go_quiet (fail))
          exact bodyPost_ret (v := .tuple #[.agg #[.int .i64 (af), .int .i64 (rs), .int .i64 (si), .int .i64 (ti), .int .i64 (tm)], .int .i64 0]) (by simp [results, Try.results33, go_sem]) rfl ⟨rfl, (by repeat (first | with_reducible exact Below.refl _ _ | with_reducible assumption | with_reducible refine Below.setCell ?_ (by simp) _ | with_reducible refine Below.alloc ?_ (by simp) _ | with_reducible refine Below.drew ?_ | with_reducible refine b_drewN ?_ _))⟩
        · have E : RDog.tick ⟨af, rs, si, ti, tm⟩ now true false = (⟨af, rs, -1, now + rs, tm + 1⟩, 1) := by simp [RDog.tick, ht, hsi, hlt]
          rw [E]
          clear E
          simp only [RDog.vals]
          go_enter Try.func33, Try.ntmps33
          go_wp2_with (go_quiet (fail))
          exact bodyPost_ret (v := .tuple #[.agg #[.int .i64 (af), .int .i64 (rs), .int .i64 (-1), .int .i64 (now + rs), .int .i64 (tm + 1)], .int .i64 1]) (by simp [results, Try.results33, go_sem]) rfl ⟨rfl, (by repeat (first | with_reducible exact Below.refl _ _ | with_reducible assumption | with_reducible refine Below.setCell ?_ (by simp) _ | with_reducible refine Below.alloc ?_ (by simp) _ | with_reducible refine Below.drew ?_ | with_reducible refine b_drewN ?_ _))⟩
end Go.Proofs.Ytdlajpakdgbhiaa
