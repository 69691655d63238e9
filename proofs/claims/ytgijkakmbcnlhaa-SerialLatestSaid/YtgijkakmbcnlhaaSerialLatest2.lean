/-
  SerialLatest: the walk.
-/
import Derived.Test.YtgijkakmbcnlhaaSerialLatest
namespace Go.Proofs.Ytgijkakmbcnlhaa
set_option linter.unusedSimpArgs false
set_option linter.unusedVariables false
open Go.RowKit

set_option maxHeartbeats 2000000 in
theorem serialLatest_walk (f : Int) (hf : 0 ≤ f ∧ f ≤ 65535) (A : Option Addr) (n c : Nat) (V : Nat → Nat → Value) {w : World} (hV : Rws [.int .i64] w A n c V) :
    Calls Try.prog 7 #[.int .u16 f, .slice A n c] w fun e w' => e = .returned (.bool true) ∧ Below w.heap.size w w' := by
  have HV := hide hV
  obtain ⟨hnc, hcm, _, _⟩ := hV
  unfold maxLen at hcm
  go_enter Try.func7, Try.ntmps7
  go_wp2_with (go_at_call 14; refine (awake1 _).mono ?_; rintro e w' ⟨rfl, rfl⟩)
  obtain ⟨i0, hi, hz0, hz1, hz2⟩ := info_parts info_u16
  have hown0 : (w.alloc (.cells #[] 22)).ownsRow w.heap.size 22 1 (.slice (some ⟨w.heap.size, 0, none⟩) 0 0) 0 [] :=
    ⟨rfl, .inr ⟨w.heap.size, 0, #[], rfl, Nat.le_refl _, heap_alloc_new w _, Nat.le_refl _, by simp [maxLen], rfl, rfl⟩⟩
  have HO0 := hide hown0
  have HW0 : Below w.heap.size w (w.alloc (.cells #[] 22)) := (Below.refl _ _).alloc (Nat.le_refl _) _
  clear hown0
  go_loopw [5, 6, 7] (fun sv bv i wr => ∃ (k : Nat) (l : List Int), k ≤ n ∧ k ≤ 30 ∧ l.length = k ∧ i = .int .i64 k ∧ bv = .int .i64 (l.foldl max 0) ∧ Hid (∀ b ∈ l, 0 ≤ b ∧ b < 16384) ∧ Hid (wr.ownsRow w.heap.size 22 1 sv k ((ups f l).map (Value.int .u16))) ∧ Below w.heap.size w wr) (fun _ _ i _ => 30 - (intOf i).toNat)
  case atStart => exact ⟨0, [], by omega, by omega, rfl, rfl, rfl, hide (by simp), HO0, HW0⟩
  case round =>
    obtain ⟨k, l, hk, hk2, hl, rfl, rfl, hb, hown, hb'⟩ := hrel
    have HL := hide hl
    clear hl
    by_cases hlt : k < n ∧ k < 30
    · obtain ⟨hlt, hlt2⟩ := hlt
      obtain ⟨bl, o, rfl, hbl, ⟨nn, f0, _⟩, c0⟩ := (HV.out.below hb').at1 hlt
      rw [f0] at c0
      clear f0
      have b3 := and_16383 nn
      go_wp2_with (first
        | (go_at_call 22; refine (add16 _ _ (by omega) (by omega) _).mono ?_; rintro e w' ⟨rfl, rfl⟩)
        | (at_builtin; go_loud (refine wpList_append_own _ rfl _ _ 40 rfl w.heap.size 22 i0 (.int .u16 0) 1 2 Try.underlying40 hi hz0 hz1 hz2 rfl (by decide) _ k _ rfl (hown.out.alloc _) ⟨wr.heap.size, 0, none⟩ 1 1 [.int .u16 ((f + nn % 16384) % 65536)] rfl rfl ?c1 ?c2 ?c3 ?c4 ?c5 ?_)))
      case c1 =>
        intro j u hj
        rcases j with _ | j
        · simp at hj
          subst hj
          exact (Blk.new wr 22 #[.int .u16 ((f + nn % 16384) % 65536)]).cell 0
        · simp at hj
      case c2 => intro u hu; simp at hu; subst hu; rfl
      case c3 => simp [maxLen]; omega
      case c4 => omega
      case c5 => have := hb'.size; simp; omega
      intro v' w' hown2 hgrow _
      have HO2 := hide hown2
      have HG2 := hide hgrow
      clear hown2 hgrow
      go_wp2
      go_roundw
      case rel =>
        refine ⟨k + 1, l ++ [nn % 16384], by omega, by omega, by simp [HL.out], by go_num, ?_, hide ?_, hide ?_, ?_⟩
        · rw [List.foldl_append]
          show _ = Value.int IntKind.i64 (max (List.foldl max 0 l) (nn % 16384))
          congr 1
          split <;> omega
        · intro b hm
          rcases List.mem_append.1 hm with h | h
          · exact hb.out b h
          · simp at h; omega
        · have h := HO2.out
          simpa [ups] using h
        · refine (hb'.alloc hb'.size _).grown HG2.out (by have := hb'.size; simp; omega) ?_
          intro g hg
          rcases hown.out.2 with ⟨rfl, _⟩ | ⟨g', cap, cur, rfl, hbase, _⟩
          · simp [Value.ownBlock] at hg
          · simp [Value.ownBlock] at hg; omega
      case measure => simp [intOf]; omega
    · have hend : k = n ∨ (k = 30 ∧ k < n) := by omega
      obtain ⟨m, hm0, hm1, hm2, hm3⟩ := lat_ups f (by omega) l hb.out
      have hlu : (ups f l).length = k := by simp [ups, HL.out]
      have hcells : ∀ i, i < (ups f l).length → ∃ g cap, u5 = .slice (some ⟨g, 0, none⟩) k cap ∧ wr.cell? ⟨g, 0 + i, none⟩ = some (.int .u16 ((ups f l).getD i 0)) := by
        intro i hi'
        rcases hown.out.2 with ⟨_, h0⟩ | ⟨g, cap, cur, h1, _, h3, h4, _, h6, h7⟩
        · omega
        · refine ⟨g, cap, h1, ?_⟩
          have hx : (cur.toList.take (k * 1))[i]? = some (Value.int .u16 ((ups f l).getD i 0)) := by
            rw [h7, List.getElem?_map, List.getElem?_eq_getElem hi', getD_lt _ _ hi']; rfl
          rw [List.getElem?_take_of_lt (by omega)] at hx
          rw [Nat.zero_add]
          have := (show Blk wr g 22 cur from h3).cell i
          rw [this, ← hx]; simp
      have hform : ∃ A' c', u5 = .slice A' k c' := by
        rcases hown.out.2 with ⟨h1, h0⟩ | ⟨g, cap, cur, h1, _⟩
        · exact ⟨none, 0, by rw [h1, h0]⟩
        · exact ⟨_, cap, h1⟩
      obtain ⟨A', c', hu⟩ := hform
      have H1 : Hid (Calls Try.prog 25 #[.int .u16 f, .slice A' k c'] wr fun e w' => e = .returned (.int .u16 ((f + m) % 65536)) ∧ wr = w') := hide (by
        have := latest16 f (ups f l) (by omega) (by intro b hb2; simp only [ups, List.mem_map] at hb2; obtain ⟨q, _, rfl⟩ := hb2; omega) (by omega) A' c' wr (by
          intro i hi'
          obtain ⟨g, cap, h1, h2⟩ := hcells i hi'
          rw [hu] at h1
          injection h1 with h1
          exact ⟨g, 0, h1, h2⟩)
        rwa [hlu, hm3] at this)
      have H2 : Hid (∀ W, Calls Try.prog 25 #[.int .u16 f, .slice none 0 0] W fun e w' => e = .returned (.int .u16 f) ∧ W = w') := hide (fun W => latest16 f [] (by omega) (by simp) (by simp) none 0 W (by simp))
      rw [← hm2]
      clear hcells hlu hm3 hm2 hown hb
      subst hu
      rcases hend with rfl | ⟨rfl, hkn⟩
      all_goals
        go_wp2_with fail
        refine H1.out.mono ?_
        rintro e w2 ⟨rfl, rfl⟩
        go_wp2_with (go_at_call 22; refine (add16 _ _ (by omega) (by omega) _).mono ?_; rintro e w' ⟨rfl, rfl⟩)
        refine (H2.out _).mono ?_
        rintro e w3 ⟨rfl, rfl⟩
        go_wp2_with fail
        go_ret
        exact ⟨rfl, hb'⟩
end Go.Proofs.Ytgijkakmbcnlhaa
