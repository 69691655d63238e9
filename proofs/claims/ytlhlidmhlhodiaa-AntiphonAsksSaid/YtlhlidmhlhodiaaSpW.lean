/-
  Drawn regions with classes: operations that only read their class need no order among themselves.
-/
import Derived.Test.YtlhlidmhlhodiaaSpQ
namespace Go.Proofs.Ytlhlidmhlhodiaa
set_option linter.unusedSimpArgs false
set_option linter.unusedVariables false
open Go.RowKit

theorem updL_self : ∀ (cs : List Nat) (m : Nat → List It), updL m cs (cs.map m) = m
  | [], _ => rfl
  | c :: cs, m => by
    show updL (upd m c (m c)) cs (cs.map m) = m
    have e : upd m c (m c) = m := by
      funext d
      by_cases h : d = c
      · subst h; exact upd_self ..
      · exact upd_ne m (m c) (fun e => h e.symm)
    rw [e]; exact updL_self cs m
def Rdr (tbl : Nat → List (List It) → Value → List (List It) → Prop) (k : Nat) : Prop := ∀ L v Ms, tbl k L v Ms → Ms = L
section
variable {P : Program} {E : Env} {B0 : List It} {ro : List Ro} {ops : Array Oper} {cls : Nat → List Nat} {tbl : Nat → List (List It) → Value → List (List It) → Prop} {md : Region.Mode}
theorem out_rdr {i : Nat} {oi : Oper} {a : Act} {m m' : Nat → List It} {v : Value} (hr : Rdr tbl i) (h : outM P E B0 ro ops cls tbl i oi a m v m') : m' = m := by
  unfold outM at h
  split at h
  · split at h
    · exact h.2
    · obtain ⟨Ms, h1, _, rfl⟩ := h
      rw [hr _ _ _ h1]; exact updL_self _ _
  · exact h.2
theorem rOp_swapR {i j : Nat} {oi oj : Oper} {a : Act} {m : Nat → List It} {K : Act → (Nat → List It) → Prop} (hi : ops[i]? = some oi) (hj : ops[j]? = some oj) (hap : oi.apart ops oj = true) (ri : Rdr tbl i) (rj : Rdr tbl j) (hsi : ∀ cs b, oi.op ≠ .select cs b) (hsj : ∀ cs b, oj.op ≠ .select cs b)
    (H : rOpM P E B0 ro ops cls tbl i (rOpM P E B0 ro ops cls tbl j K) a m) : rOpM P E B0 ro ops cls tbl j (rOpM P E B0 ro ops cls tbl i K) a m := by
  obtain ⟨h1, h2, h3⟩ := Oper.apart_spec hap
  obtain ⟨Hs, Ho⟩ := H oi hi
  intro o ho
  obtain rfl : oj = o := by rw [hj] at ho; exact Option.some.inj ho
  refine ⟨?_, fun u m1 hu o ho => ?_⟩
  · obtain ⟨v, m1, hv⟩ := safe_outM Hs
    have := (Ho v m1 hv oj hj).1
    rw [safe_putM hsj h1, out_rdr ri hv] at this
    exact this
  · obtain rfl : oi = o := by rw [hi] at ho; exact Option.some.inj ho
    obtain rfl := out_rdr rj hu
    refine ⟨?_, fun v m2 hv => ?_⟩
    · rw [safe_putM hsi h3]
      exact Hs
    · rw [out_putM hsi h3] at hv
      obtain rfl := out_rdr ri hv
      have := (Ho v _ hv oj hj).2 u _ (by rw [out_putM hsj h1]; exact hu)
      rw [← Act.put_comm a v u h2]
      exact this
theorem wpAnyM_firstR {Q : Act → (Nat → List It) → Prop} {i : Nat} {oi : Oper} (hi : ops[i]? = some oi) (hsel : ∀ (j : Nat) (o : Oper) cs b, ops[j]? = some o → o.op ≠ .select cs b)
    (hcls : ∀ (j : Nat) (listed : Array Bool), j ≠ i → Closed md ops listed → (∀ k, k < i → listed.getD k true = true) → listed.getD i true = false → j ∈ Region.ready md ops listed → (∀ d ∈ cls j, d ∉ cls i) ∨ (Rdr tbl i ∧ Rdr tbl j)) :
    ∀ (fuel : Nat) (listed : Array Bool) (a : Act) (m : Nat → List It), Closed md ops listed → (∀ k, k < i → listed.getD k true = true) →
      (∀ j oj, ops[j]? = some oj → j ≠ i → listed.getD j true = false → (∀ e ∈ oj.after, Region.binds md e = true → e.on ≠ i) → oi.apart ops oj = true) →
      i ∈ Region.ready md ops listed → rOpM P E B0 ro ops cls tbl i (wpAnyM P E B0 ro ops cls tbl md Q fuel (listed.setIfInBounds i true)) a m → wpAnyM P E B0 ro ops cls tbl md Q (fuel + 1) listed a m := by
  intro fuel
  induction fuel with
  | zero =>
    intro listed a m _ _ _ hr H
    refine ⟨fun h => (by rw [h] at hr; cases hr), fun j hj => ?_⟩
    by_cases hji : j = i
    · subst hji; exact H
    · have := ready_mono hj hji
      obtain ⟨hs, ho⟩ := H oi hi
      obtain ⟨v, m', hv⟩ := safe_outM hs
      rw [(ho v m' hv).1] at this
      cases this
  | succ fuel ih =>
    intro listed a m hcl hpre hfree hr H
    refine ⟨fun h => (by rw [h] at hr; cases hr), fun j hj => ?_⟩
    by_cases hji : j = i
    · subst hji; exact H
    · obtain ⟨hjun, oj, hoj, hall⟩ := mem_ready.1 hj
      have hnot : ∀ e ∈ oj.after, Region.binds md e = true → e.on ≠ i := fun e he hb heq => by
        have h1 := hall e he hb
        have h0 := (mem_ready.1 hr).1
        rw [heq] at h1
        rcases Nat.lt_or_ge i listed.size with h' | h'
        · simp [h'] at h0 h1; rw [h0] at h1; cases h1
        · simp [Array.getElem?_eq_none h'] at h1
      have h1 := rOpM_mono (fun a' m' h => h.2 j (ready_mono hj hji)) H
      have f1 := hfree j oj hoj hji hjun hnot
      have f2 := hcls j listed hji hcl hpre (mem_ready.1 hr).1 hj
      have h2 := f2.elim (fun f2 => rOp_swapM hi hoj f1 f2 (fun cs b => hsel i oi cs b hi) (fun cs b => hsel j oj cs b hoj) h1) (fun f2 => rOp_swapR hi hoj f1 f2.1 f2.2 (fun cs b => hsel i oi cs b hi) (fun cs b => hsel j oj cs b hoj) h1)
      refine rOpM_mono (fun a' m' h3 => ih (listed.setIfInBounds j true) a' m' (hcl.set hj) (fun k hk => ?_) (fun k ok hk hki hun hno => ?_) (ready_mono hr (Ne.symm hji)) ?_) h2
      · by_cases hjk : j = k
        · subst hjk
          rcases Nat.lt_or_ge j listed.size with h2 | h2
          · simp [h2]
          · simp [h2]
        · rw [getD_set_ne true hjk]; exact hpre k hk
      · refine hfree k ok hk hki ?_ hno
        by_cases hjk : j = k
        · subst hjk; exact hjun
        · rw [getD_set_ne true hjk] at hun; exact hun
      · rw [Array.setIfInBounds_comm _ _ hji]
        exact h3
def clsR (md : Region.Mode) (ops : Array Oper) (cls : Nat → List Nat) (rd : List Nat) : Bool :=
  (List.range ops.size).all fun j => (List.range j).all fun i => ((cls j).all fun d => !(cls i).contains d) || (rd.contains i && rd.contains j) || reachB md ops i ops.size j
theorem clsR_spec {rd : List Nat} (h : clsR md ops cls rd = true) {i j : Nat} {oj : Oper} (hj : ops[j]? = some oj) (hij : i < j) : (∀ d ∈ cls j, d ∉ cls i) ∨ (i ∈ rd ∧ j ∈ rd) ∨ reachB md ops i ops.size j = true := by
  unfold clsR at h
  rw [List.all_eq_true] at h
  have h1 := h j (by have := (Array.getElem?_eq_some_iff.1 hj).1; simpa using this)
  rw [List.all_eq_true] at h1
  have h2 := h1 i (by simpa using hij)
  rw [Bool.or_eq_true, Bool.or_eq_true, Bool.and_eq_true] at h2
  rcases h2 with (h2 | ⟨h2, h3⟩) | h2
  · refine .inl fun d hd hd' => ?_
    rw [List.all_eq_true] at h2
    have := h2 d hd
    simp [hd'] at this
  · exact .inr (.inl ⟨by simpa using h2, by simpa using h3⟩)
  · exact .inr (.inr h2)
theorem wpAnyM_lexR {Q : Act → (Nat → List It) → Prop} {rd : List Nat} (hs : Region.noSelect ops = true) (hcl : clsR md ops cls rd = true) (hrd : ∀ k ∈ rd, Rdr tbl k) : ∀ (l : List Oper) (k : Nat) (listed : Array Bool) (a : Act) (m : Nat → List It), Closed md ops listed → ops.size = listed.size → (∀ j, l[j]? = ops[k + j]?) → (∀ j, j < k → listed.getD j true = true) →
    Region.lexFrom md ops l.length k listed = true → wpM P E B0 ro ops cls tbl Q l k a m → wpAnyM P E B0 ro ops cls tbl md Q l.length listed a m
  | [], _, _, _, _, _, _, _, _, hB, h => ⟨by simpa [Region.lexFrom] using hB, h⟩
  | o :: l, k, listed, a, m, hC, hz, hl, hk, hB, h => by
    have h0 : ops[k]? = some o := by simpa using (hl 0).symm
    simp only [List.length_cons, Region.lexFrom, Bool.and_eq_true] at hB
    obtain ⟨⟨hr, hf⟩, hB'⟩ := hB
    have hr' : k ∈ Region.ready md ops listed := by simpa using hr
    refine wpAnyM_firstR h0 (Region.noSelect_spec hs) (fun j ld hjk hCl hpre hun hj => ?_) l.length listed a m hC hk (fun j oj hj hjk hun hno => Region.free_spec h0 hf j oj hj hjk hun hno) hr' ?_
    · obtain ⟨hjun, oj, hoj, hall⟩ := mem_ready.1 hj
      have hle := lex_lt hpre hjun
      have hks : k < ld.size := by
        rcases Nat.lt_or_ge k ld.size with h' | h'
        · exact h'
        · simp [Array.getD, Nat.not_lt.2 h'] at hun
      rcases clsR_spec hcl hoj (show k < j by omega) with h1 | ⟨h1, h2⟩ | h1
      · exact .inl h1
      · exact .inr ⟨hrd _ h1, hrd _ h2⟩
      · exfalso
        obtain ⟨o2, h2, e, he, hb, hne⟩ := reach_not hCl hun hks _ _ h1
        rw [hoj] at h2
        obtain rfl := Option.some.inj h2
        rw [hall e he hb] at hne; cases hne
    · refine rOpM_mono (fun a' m' h' => wpAnyM_lexR hs hcl hrd l (k + 1) _ a' m' (hC.set hr') (by simpa using hz) (fun j => by have := hl (j + 1); simpa [Nat.add_assoc, Nat.add_comm 1 j] using this) (fun j hj => ?_) hB' h') h
      rcases Nat.lt_or_ge j k with h1 | h1
      · rw [getD_set_ne true (show k ≠ j by omega)]; exact hk j h1
      · obtain rfl : j = k := by omega
        rcases Nat.lt_or_ge j listed.size with h2 | h2
        · simp [h2]
        · simp [h2]
theorem wc_regR {N : Nat} {fr : List (Nat × Value)} {hp : List It} {Kn Kr : St → Prop} {Kx : List (Nat × (St → Prop))} {id : Nat} {l : List Oper} (rd all : List Nat) (cls : Nat → List Nat) (tbl : Nat → List (List It) → Value → List (List It) → Prop) (B0 : List It) (m0 : Nat → List It)
    (hm : P.follows .mixedOrders = true) (hB : Region.lexB .any l.toArray = true) (hcl : clsR .any l.toArray cls rd = true) (hrd : ∀ k ∈ rd, Rdr tbl k) (hn : all.Nodup) (hcs : ∀ i, (cls i).Nodup ∧ ∀ c ∈ cls i, c ∈ all) (hperm : hp.Perm (Hp B0 all m0))
    (h : HdM P N E B0 ro l.toArray cls tbl (fun fr m => ∀ H, H = Hp B0 all m → Kn ⟨fr, H, ro⟩) 0 l fr m0) : WC P N E (.region id l.toArray true) ⟨fr, hp, ro⟩ Kn Kx Kr := fun a w ok => by
  simp only [Region.lexB, Bool.and_eq_true] at hB
  have hw : Sat E.B E.S E.T (Hp B0 all m0) ro _ := (ok.s.drawn (w.drawn + 1)).perm hperm
  refine wp_region_any hm (wpAny_of_M (ro := ro) (tbl := tbl) (Q := fun a m => ∃ fr', Kn ⟨fr', Hp B0 all m, ro⟩ ∧ Holds N fr' a) hn hcs (fun a m w' hs ⟨fr', hk, ha⟩ => ⟨_, hk, ha, hs⟩) _ _ a m0 _ hw ?_)
  have := wpAnyM_lexR (P := P) (E := E) (B0 := B0) (ro := ro) (tbl := tbl) (md := .any) hB.1 hcl hrd l 0 (Array.replicate l.toArray.size false) a m0 closed0 (by simp) (by simp) (fun j hj => by omega) (by simpa using hB.2)
    (h.sound (Q := fun a m => ∃ fr', Kn ⟨fr', Hp B0 all m, ro⟩ ∧ Holds N fr' a) ⟨_, _, hw⟩ (fun fr a m hk ha => ⟨fr, hk _ rfl, ha⟩) (fun j _ => by simp) a ok.h)
  simpa using this
end
end Go.Proofs.Ytlhlidmhlhodiaa
