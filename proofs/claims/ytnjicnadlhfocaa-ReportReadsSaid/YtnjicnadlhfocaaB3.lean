/-
  Texts of this proof, laid together (part 3 of 4).
-/
import Derived.Test.YtnjicnadlhfocaaB2
import Derived.MapKept
import Derived.Carry
/-
  Drawn regions with classes: operations that only read their class need no order among themselves.
-/
namespace Go.Proofs.Ytnjicnadlhfocaa
set_option linter.unusedSimpArgs false
set_option linter.unusedVariables false
open Go.RowKit

theorem updL_self : ∀ (cs : List Nat) (m : Nat → List It), updL m cs (cs.map m) = m
  | [], _ => rfl
  | c :: cs, m => by
    show updL (upd m c (m c)) cs (cs.map m) = m
    have e : upd m c (m c) = m := by
      funext d
      by_cases h : d = c
      · subst h; exact upd_self ..
      · exact upd_ne m (m c) (fun e => h e.symm)
    rw [e]; exact updL_self cs m
def Rdr (tbl : Nat → List (List It) → Value → List (List It) → Prop) (k : Nat) : Prop := ∀ L v Ms, tbl k L v Ms → Ms = L
section
variable {P : Program} {E : Env} {B0 : List It} {ro : List Ro} {ops : Array Oper} {cls : Nat → List Nat} {tbl : Nat → List (List It) → Value → List (List It) → Prop} {md : Region.Mode}
theorem out_rdr {i : Nat} {oi : Oper} {a : Act} {m m' : Nat → List It} {v : Value} (hr : Rdr tbl i) (h : outM P E B0 ro ops cls tbl i oi a m v m') : m' = m := by
  unfold outM at h
  split at h
  · split at h
    · exact h.2
    · obtain ⟨Ms, h1, _, rfl⟩ := h
      rw [hr _ _ _ h1]; exact updL_self _ _
  · exact h.2
theorem rOp_swapR {i j : Nat} {oi oj : Oper} {a : Act} {m : Nat → List It} {K : Act → (Nat → List It) → Prop} (hi : ops[i]? = some oi) (hj : ops[j]? = some oj) (hap : oi.apart ops oj = true) (ri : Rdr tbl i) (rj : Rdr tbl j) (hsi : ∀ cs b, oi.op ≠ .select cs b) (hsj : ∀ cs b, oj.op ≠ .select cs b)
    (H : rOpM P E B0 ro ops cls tbl i (rOpM P E B0 ro ops cls tbl j K) a m) : rOpM P E B0 ro ops cls tbl j (rOpM P E B0 ro ops cls tbl i K) a m := by
  obtain ⟨h1, h2, h3⟩ := Oper.apart_spec hap
  obtain ⟨Hs, Ho⟩ := H oi hi
  intro o ho
  obtain rfl : oj = o := by rw [hj] at ho; exact Option.some.inj ho
  refine ⟨?_, fun u m1 hu o ho => ?_⟩
  · obtain ⟨v, m1, hv⟩ := safe_outM Hs
    have := (Ho v m1 hv oj hj).1
    rw [safe_putM hsj h1, out_rdr ri hv] at this
    exact this
  · obtain rfl : oi = o := by rw [hi] at ho; exact Option.some.inj ho
    obtain rfl := out_rdr rj hu
    refine ⟨?_, fun v m2 hv => ?_⟩
    · rw [safe_putM hsi h3]
      exact Hs
    · rw [out_putM hsi h3] at hv
      obtain rfl := out_rdr ri hv
      have := (Ho v _ hv oj hj).2 u _ (by rw [out_putM hsj h1]; exact hu)
      rw [← Act.put_comm a v u h2]
      exact this
theorem wpAnyM_firstR {Q : Act → (Nat → List It) → Prop} {i : Nat} {oi : Oper} (hi : ops[i]? = some oi) (hsel : ∀ (j : Nat) (o : Oper) cs b, ops[j]? = some o → o.op ≠ .select cs b)
    (hcls : ∀ (j : Nat) (listed : Array Bool), j ≠ i → Closed md ops listed → (∀ k, k < i → listed.getD k true = true) → listed.getD i true = false → j ∈ Region.ready md ops listed → (∀ d ∈ cls j, d ∉ cls i) ∨ (Rdr tbl i ∧ Rdr tbl j)) :
    ∀ (fuel : Nat) (listed : Array Bool) (a : Act) (m : Nat → List It), Closed md ops listed → (∀ k, k < i → listed.getD k true = true) →
      (∀ j oj, ops[j]? = some oj → j ≠ i → listed.getD j true = false → (∀ e ∈ oj.after, Region.binds md e = true → e.on ≠ i) → oi.apart ops oj = true) →
      i ∈ Region.ready md ops listed → rOpM P E B0 ro ops cls tbl i (wpAnyM P E B0 ro ops cls tbl md Q fuel (listed.setIfInBounds i true)) a m → wpAnyM P E B0 ro ops cls tbl md Q (fuel + 1) listed a m := by
  intro fuel
  induction fuel with
  | zero =>
    intro listed a m _ _ _ hr H
    refine ⟨fun h => (by rw [h] at hr; cases hr), fun j hj => ?_⟩
    by_cases hji : j = i
    · subst hji; exact H
    · have := ready_mono hj hji
      obtain ⟨hs, ho⟩ := H oi hi
      obtain ⟨v, m', hv⟩ := safe_outM hs
      rw [(ho v m' hv).1] at this
      cases this
  | succ fuel ih =>
    intro listed a m hcl hpre hfree hr H
    refine ⟨fun h => (by rw [h] at hr; cases hr), fun j hj => ?_⟩
    by_cases hji : j = i
    · subst hji; exact H
    · obtain ⟨hjun, oj, hoj, hall⟩ := mem_ready.1 hj
      have hnot : ∀ e ∈ oj.after, Region.binds md e = true → e.on ≠ i := fun e he hb heq => by
        have h1 := hall e he hb
        have h0 := (mem_ready.1 hr).1
        rw [heq] at h1
        rcases Nat.lt_or_ge i listed.size with h' | h'
        · simp [h'] at h0 h1; rw [h0] at h1; cases h1
        · simp [Array.getElem?_eq_none h'] at h1
      have h1 := rOpM_mono (fun a' m' h => h.2 j (ready_mono hj hji)) H
      have f1 := hfree j oj hoj hji hjun hnot
      have f2 := hcls j listed hji hcl hpre (mem_ready.1 hr).1 hj
      have h2 := f2.elim (fun f2 => rOp_swapM hi hoj f1 f2 (fun cs b => hsel i oi cs b hi) (fun cs b => hsel j oj cs b hoj) h1) (fun f2 => rOp_swapR hi hoj f1 f2.1 f2.2 (fun cs b => hsel i oi cs b hi) (fun cs b => hsel j oj cs b hoj) h1)
      refine rOpM_mono (fun a' m' h3 => ih (listed.setIfInBounds j true) a' m' (hcl.set hj) (fun k hk => ?_) (fun k ok hk hki hun hno => ?_) (ready_mono hr (Ne.symm hji)) ?_) h2
      · by_cases hjk : j = k
        · subst hjk
          rcases Nat.lt_or_ge j listed.size with h2 | h2
          · simp [h2]
          · simp [h2]
        · rw [getD_set_ne true hjk]; exact hpre k hk
      · refine hfree k ok hk hki ?_ hno
        by_cases hjk : j = k
        · subst hjk; exact hjun
        · rw [getD_set_ne true hjk] at hun; exact hun
      · rw [Array.setIfInBounds_comm _ _ hji]
        exact h3
def clsR (md : Region.Mode) (ops : Array Oper) (cls : Nat → List Nat) (rd : List Nat) : Bool :=
  (List.range ops.size).all fun j => (List.range j).all fun i => ((cls j).all fun d => !(cls i).contains d) || (rd.contains i && rd.contains j) || reachB md ops i ops.size j
theorem clsR_spec {rd : List Nat} (h : clsR md ops cls rd = true) {i j : Nat} {oj : Oper} (hj : ops[j]? = some oj) (hij : i < j) : (∀ d ∈ cls j, d ∉ cls i) ∨ (i ∈ rd ∧ j ∈ rd) ∨ reachB md ops i ops.size j = true := by
  unfold clsR at h
  rw [List.all_eq_true] at h
  have h1 := h j (by have := (Array.getElem?_eq_some_iff.1 hj).1; simpa using this)
  rw [List.all_eq_true] at h1
  have h2 := h1 i (by simpa using hij)
  rw [Bool.or_eq_true, Bool.or_eq_true, Bool.and_eq_true] at h2
  rcases h2 with (h2 | ⟨h2, h3⟩) | h2
  · refine .inl fun d hd hd' => ?_
    rw [List.all_eq_true] at h2
    have := h2 d hd
    simp [hd'] at this
  · exact .inr (.inl ⟨by simpa using h2, by simpa using h3⟩)
  · exact .inr (.inr h2)
theorem wpAnyM_lexR {Q : Act → (Nat → List It) → Prop} {rd : List Nat} (hs : Region.noSelect ops = true) (hcl : clsR md ops cls rd = true) (hrd : ∀ k ∈ rd, Rdr tbl k) : ∀ (l : List Oper) (k : Nat) (listed : Array Bool) (a : Act) (m : Nat → List It), Closed md ops listed → ops.size = listed.size → (∀ j, l[j]? = ops[k + j]?) → (∀ j, j < k → listed.getD j true = true) →
    Region.lexFrom md ops l.length k listed = true → wpM P E B0 ro ops cls tbl Q l k a m → wpAnyM P E B0 ro ops cls tbl md Q l.length listed a m
  | [], _, _, _, _, _, _, _, _, hB, h => ⟨by simpa [Region.lexFrom] using hB, h⟩
  | o :: l, k, listed, a, m, hC, hz, hl, hk, hB, h => by
    have h0 : ops[k]? = some o := by simpa using (hl 0).symm
    simp only [List.length_cons, Region.lexFrom, Bool.and_eq_true] at hB
    obtain ⟨⟨hr, hf⟩, hB'⟩ := hB
    have hr' : k ∈ Region.ready md ops listed := by simpa using hr
    refine wpAnyM_firstR h0 (Region.noSelect_spec hs) (fun j ld hjk hCl hpre hun hj => ?_) l.length listed a m hC hk (fun j oj hj hjk hun hno => Region.free_spec h0 hf j oj hj hjk hun hno) hr' ?_
    · obtain ⟨hjun, oj, hoj, hall⟩ := mem_ready.1 hj
      have hle := lex_lt hpre hjun
      have hks : k < ld.size := by
        rcases Nat.lt_or_ge k ld.size with h' | h'
        · exact h'
        · simp [Array.getD, Nat.not_lt.2 h'] at hun
      rcases clsR_spec hcl hoj (show k < j by omega) with h1 | ⟨h1, h2⟩ | h1
      · exact .inl h1
      · exact .inr ⟨hrd _ h1, hrd _ h2⟩
      · exfalso
        obtain ⟨o2, h2, e, he, hb, hne⟩ := reach_not hCl hun hks _ _ h1
        rw [hoj] at h2
        obtain rfl := Option.some.inj h2
        rw [hall e he hb] at hne; cases hne
    · refine rOpM_mono (fun a' m' h' => wpAnyM_lexR hs hcl hrd l (k + 1) _ a' m' (hC.set hr') (by simpa using hz) (fun j => by have := hl (j + 1); simpa [Nat.add_assoc, Nat.add_comm 1 j] using this) (fun j hj => ?_) hB' h') h
      rcases Nat.lt_or_ge j k with h1 | h1
      · rw [getD_set_ne true (show k ≠ j by omega)]; exact hk j h1
      · obtain rfl : j = k := by omega
        rcases Nat.lt_or_ge j listed.size with h2 | h2
        · simp [h2]
        · simp [h2]
theorem wc_regR {N : Nat} {fr : List (Nat × Value)} {hp : List It} {Kn Kr : St → Prop} {Kx : List (Nat × (St → Prop))} {id : Nat} {l : List Oper} (rd all : List Nat) (cls : Nat → List Nat) (tbl : Nat → List (List It) → Value → List (List It) → Prop) (B0 : List It) (m0 : Nat → List It)
    (hm : P.follows .mixedOrders = true) (hB : Region.lexB .any l.toArray = true) (hcl : clsR .any l.toArray cls rd = true) (hrd : ∀ k ∈ rd, Rdr tbl k) (hn : all.Nodup) (hcs : ∀ i, (cls i).Nodup ∧ ∀ c ∈ cls i, c ∈ all) (hperm : hp.Perm (Hp B0 all m0))
    (h : HdM P N E B0 ro l.toArray cls tbl (fun fr m => ∀ H, H = Hp B0 all m → Kn ⟨fr, H, ro⟩) 0 l fr m0) : WC P N E (.region id l.toArray true) ⟨fr, hp, ro⟩ Kn Kx Kr := fun a w ok => by
  simp only [Region.lexB, Bool.and_eq_true] at hB
  have hw : Sat E.B E.S E.T (Hp B0 all m0) ro _ := (ok.s.drawn (w.drawn + 1)).perm hperm
  refine wp_region_any hm (wpAny_of_M (ro := ro) (tbl := tbl) (Q := fun a m => ∃ fr', Kn ⟨fr', Hp B0 all m, ro⟩ ∧ Holds N fr' a) hn hcs (fun a m w' hs ⟨fr', hk, ha⟩ => ⟨_, hk, ha, hs⟩) _ _ a m0 _ hw ?_)
  have := wpAnyM_lexR (P := P) (E := E) (B0 := B0) (ro := ro) (tbl := tbl) (md := .any) hB.1 hcl hrd l 0 (Array.replicate l.toArray.size false) a m0 closed0 (by simp) (by simp) (fun j hj => by omega) (by simpa using hB.2)
    (h.sound (Q := fun a m => ∃ fr', Kn ⟨fr', Hp B0 all m, ro⟩ ∧ Holds N fr' a) ⟨_, _, hw⟩ (fun fr a m hk ha => ⟨fr, hk _ rfl, ha⟩) (fun j _ => by simp) a ok.h)
  simpa using this
end
end Go.Proofs.Ytnjicnadlhfocaa

/-
  Sparse frames: maps with whole-number keys, known whole. No program in sight.
-/
namespace Go.Proofs.Ytnjicnadlhfocaa
set_option linter.unusedSimpArgs false
set_option linter.unusedVariables false
open Go.RowKit

def mEnt (k : IntKind) : Nat → List (Int × Value) → List MapEntry
  | _, [] => []
  | n, (a, v) :: l => ⟨.int k a, v, n⟩ :: mEnt k (n + 1) l
abbrev mob (k : IntKind) (l : List (Int × Value)) : Obj := .map (mEnt k 0 l).toArray l.length
def alook : List (Int × Value) → Int → Option Value
  | [], _ => none
  | (a, v) :: l, x => if x = a then some v else alook l x
def aidx : List (Int × Value) → Int → Nat
  | [], _ => 0
  | (a, _) :: l, x => if x = a then 0 else aidx l x + 1
def aset : List (Int × Value) → Int → Value → List (Int × Value)
  | [], x, v => [(x, v)]
  | (a, u) :: l, x, v => if x = a then (a, v) :: l else (a, u) :: aset l x v
theorem mEnt_len (k : IntKind) : ∀ (l : List (Int × Value)) (n : Nat), (mEnt k n l).length = l.length
  | [], _ => rfl
  | _ :: l, n => by simp [mEnt, mEnt_len k l]
theorem alook_set (l : List (Int × Value)) (x : Int) (v : Value) (y : Int) : alook (aset l x v) y = if y = x then some v else alook l y := by
  induction l with
  | nil => simp [aset, alook]
  | cons p l ih =>
    obtain ⟨a, u⟩ := p
    unfold aset
    by_cases h : x = a
    · subst h; simp only [if_true, alook]
      by_cases h2 : y = x <;> simp [h2]
    · simp only [if_neg h, alook, ih]
      by_cases h2 : y = a
      · subst h2; simp [Ne.symm h]
      · simp [h2]
theorem aidx_lt {l : List (Int × Value)} {x : Int} {v : Value} (h : alook l x = some v) : aidx l x < l.length := by
  induction l with
  | nil => cases h
  | cons p l ih =>
    obtain ⟨a, u⟩ := p
    unfold alook at h
    unfold aidx
    by_cases h2 : x = a
    · simp [h2]
    · rw [if_neg h2] at h ⊢
      have := ih h
      simp; omega
theorem aidx_le (l : List (Int × Value)) (x : Int) : aidx l x ≤ l.length := by
  induction l with
  | nil => simp [aidx]
  | cons p l ih =>
    obtain ⟨a, u⟩ := p
    unfold aidx
    by_cases h2 : x = a
    · simp [h2]
    · rw [if_neg h2]; simp; omega
theorem aidx_none {l : List (Int × Value)} {x : Int} (h : alook l x = none) : aidx l x = l.length := by
  induction l with
  | nil => rfl
  | cons p l ih =>
    obtain ⟨a, u⟩ := p
    unfold alook at h
    unfold aidx
    by_cases h2 : x = a
    · rw [if_pos h2] at h; cases h
    · rw [if_neg h2] at h ⊢
      rw [ih h]; simp
theorem aset_none {l : List (Int × Value)} {x : Int} (v : Value) (h : alook l x = none) : aset l x v = l ++ [(x, v)] := by
  induction l with
  | nil => rfl
  | cons p l ih =>
    obtain ⟨a, u⟩ := p
    unfold alook at h
    unfold aset
    by_cases h2 : x = a
    · rw [if_pos h2] at h; cases h
    · rw [if_neg h2] at h ⊢
      rw [ih h]; rfl
theorem aset_same {l : List (Int × Value)} {x : Int} {v : Value} (h : alook l x = some v) : aset l x v = l := by
  induction l with
  | nil => cases h
  | cons p l ih =>
    obtain ⟨a, u⟩ := p
    unfold alook at h
    unfold aset
    by_cases h2 : x = a
    · rw [if_pos h2] at h ⊢; cases h; rfl
    · rw [if_neg h2] at h ⊢
      rw [ih h]
theorem aset_len_some {l : List (Int × Value)} {x : Int} {u : Value} (v : Value) (h : alook l x = some u) : (aset l x v).length = l.length := by
  induction l with
  | nil => cases h
  | cons p l ih =>
    obtain ⟨a, u⟩ := p
    unfold alook at h
    unfold aset
    by_cases h2 : x = a
    · rw [if_pos h2]; rfl
    · rw [if_neg h2] at h ⊢
      simp [ih h]
theorem aset_len_none {l : List (Int × Value)} {x : Int} (v : Value) (h : alook l x = none) : (aset l x v).length = l.length + 1 := by
  rw [aset_none v h]; simp
theorem aset_len_le (l : List (Int × Value)) (x : Int) (v : Value) : (aset l x v).length ≤ l.length + 1 := by
  cases h : alook l x with
  | none => rw [aset_len_none v h]; omega
  | some u => rw [aset_len_some v h]; omega
theorem aset_aset (l : List (Int × Value)) (x : Int) (u v : Value) : aset (aset l x u) x v = aset l x v := by
  induction l with
  | nil => simp [aset]
  | cons p l ih =>
    obtain ⟨a, z⟩ := p
    by_cases h2 : x = a
    · subst h2; simp [aset]
    · simp [aset, h2, ih]
theorem aidx_set (l : List (Int × Value)) (x : Int) (v : Value) : aidx (aset l x v) x = aidx l x := by
  induction l with
  | nil => simp [aset, aidx]
  | cons p l ih =>
    obtain ⟨a, z⟩ := p
    by_cases h2 : x = a
    · subst h2; simp [aset, aidx]
    · simp [aset, aidx, h2, ih]
theorem findNow_m (k : IntKind) (x : Int) : ∀ (l : List (Int × Value)) (n i : Nat), Instr.findNow (.int k) (.int k x) (mEnt k n l) i = some ((alook l x).map fun v => (i + aidx l x, v))
  | [], _, _ => rfl
  | (a, v) :: l, n, i => by
    have e : Instr.sameNow (.int k) (.int k x) (.int k a) = some (x == a) := by simp [Instr.sameNow]
    unfold mEnt Instr.findNow
    rw [e]
    by_cases h : x = a
    · subst h; simp [alook, aidx]
    · have hb : (x == a) = false := by simpa using h
      rw [hb]
      simp only [findNow_m k x l (n + 1) (i + 1), alook, aidx, if_neg h]
      cases alook l x <;> simp; omega
theorem mEnt_modify (k : IntKind) (x : Int) (v : Value) : ∀ (l : List (Int × Value)) (n : Nat) {u : Value}, alook l x = some u → (mEnt k n l).modify (aidx l x) (fun e => { e with key := .int k x, val := v }) = mEnt k n (aset l x v)
  | [], _, _, h => by cases h
  | (a, z) :: l, n, u, h => by
    unfold alook at h
    by_cases h2 : x = a
    · subst h2; simp [aset, aidx, mEnt]
    · rw [if_neg h2] at h
      simp only [aset, aidx, if_neg h2, mEnt, List.modify_succ_cons, mEnt_modify k x v l (n + 1) h]
theorem mEnt_modify' (k : IntKind) (x : Int) : ∀ (l : List (Int × Value)) (n : Nat) {u : Value}, alook l x = some u → (mEnt k n l).modify (aidx l x) (fun e => { e with key := .int k x }) = mEnt k n l
  | [], _, _, h => by cases h
  | (a, z) :: l, n, u, h => by
    unfold alook at h
    by_cases h2 : x = a
    · subst h2; simp [aidx, mEnt]
    · rw [if_neg h2] at h
      simp only [aidx, if_neg h2, mEnt, List.modify_succ_cons, mEnt_modify' k x l (n + 1) h]
theorem mEnt_modv (k : IntKind) (x : Int) (v : Value) : ∀ (l : List (Int × Value)) (n : Nat) {u : Value}, alook l x = some u → (mEnt k n l).modify (aidx l x) (fun e => { e with val := v }) = mEnt k n (aset l x v)
  | [], _, _, h => by cases h
  | (a, z) :: l, n, u, h => by
    unfold alook at h
    by_cases h2 : x = a
    · subst h2; simp [aset, aidx, mEnt]
    · rw [if_neg h2] at h
      simp only [aset, aidx, if_neg h2, mEnt, List.modify_succ_cons, mEnt_modv k x v l (n + 1) h]
theorem mEnt_at (k : IntKind) (x : Int) : ∀ (l : List (Int × Value)) (n : Nat) {u : Value}, alook l x = some u → (mEnt k n l)[aidx l x]? = some ⟨.int k x, u, n + aidx l x⟩
  | [], _, _, h => by cases h
  | (a, z) :: l, n, u, h => by
    unfold alook at h
    by_cases h2 : x = a
    · subst h2
      rw [if_pos rfl] at h; cases h
      simp [aidx, mEnt]
    · rw [if_neg h2] at h
      simp only [aidx, if_neg h2, mEnt, List.getElem?_cons_succ, mEnt_at k x l (n + 1) h]
      simp; omega
theorem mEnt_push (k : IntKind) (x : Int) (v : Value) : ∀ (l : List (Int × Value)) (n : Nat), mEnt k n l ++ [⟨.int k x, v, n + l.length⟩] = mEnt k n (l ++ [(x, v)])
  | [], _ => rfl
  | (a, z) :: l, n => by
    have := mEnt_push k x v l (n + 1)
    simp only [mEnt, List.cons_append, List.length_cons, List.cons.injEq, true_and]
    rw [← this]
    have e : n + (l.length + 1) = n + 1 + l.length := by omega
    rw [e]
theorem mEnt_find (k : IntKind) : ∀ (l : List (Int × Value)) (n j : Nat), j < l.length → (mEnt k n l).findIdx? (fun e => (e.born : Int) == ((n + j : Nat) : Int)) = some j
  | [], _, _, h => by simp at h
  | (a, z) :: l, n, 0, h => by simp [mEnt, List.findIdx?_cons]
  | (a, z) :: l, n, j + 1, h => by
    have h' := mEnt_find k l (n + 1) j (by simpa using h)
    have e : n + 1 + j = n + (j + 1) := by omega
    rw [e] at h'
    unfold mEnt
    rw [List.findIdx?_cons]
    have hb : (((n : Nat) : Int) == ((n + (j + 1) : Nat) : Int)) = false := by simp; omega
    simp only [hb]
    rw [h']; rfl
/-! contracts of the older kind turned into these -/
section
variable {P : Program} {f : FuncId} {args : Array Value} {g : Nat} {T : TypeId} {cs : Array Value}
theorem sat_none {w w' : World} (h : Below w.heap.size w w') : Sat w (feet []) (blks []) [] [] w' :=
  ⟨⟨h.os, h.tape, h.output, h.size, fun k hk _ => h.block k hk⟩, (by intro x hx; cases hx), (by intro x hx; cases hx), .nil, (by intro r hr; cases hr), (by intro r hr; cases hr), (by intro r hr; cases hr)⟩
theorem fn_pure {v : Value} (h : ∀ w, Calls P f args w fun e w' => e = .returned v ∧ Below w.heap.size w w') : Fn P f args [] [] (fun u L' R' => u = v ∧ L' = [] ∧ R' = []) :=
  fun w _ => (h w).mono fun _ _ ⟨h1, h2⟩ => ⟨v, [], [], h1, ⟨rfl, rfl, rfl⟩, sat_none h2⟩
theorem fn_blk {Q : Value → Array Value → Prop} (h : ∀ w, Blk w g T cs → Calls P f args w fun e w' => ∃ v cs', e = .returned v ∧ Q v cs' ∧ Blk w' g T cs' ∧ w.grownBy w' (some g)) :
    Fn P f args [.ob g (.cells cs T (0, 0))] [] (fun u L' R' => ∃ cs', Q u cs' ∧ L' = [.ob g (.cells cs' T (0, 0))] ∧ R' = []) :=
  fun w hw => (h w (hw.sat _ (.head _))).mono fun _ _ ⟨v, cs', h1, h2, h3, h4⟩ => ⟨v, _, [], h1, ⟨cs', h2, rfl, rfl⟩, Sat.relay (by simpa using Frm.grown h4) h3⟩
theorem fn_read {v : Value} (h : ∀ w, Blk w g T cs → Calls P f args w fun e w' => e = .returned v ∧ w = w') :
    Fn P f args [.ob g (.cells cs T (0, 0))] [] (fun u L' R' => u = v ∧ L' = [.ob g (.cells cs T (0, 0))] ∧ R' = []) :=
  fun w hw => (h w (hw.sat _ (.head _))).mono fun _ _ ⟨h1, h2⟩ => ⟨v, _, [], h1, ⟨rfl, rfl, rfl⟩, by subst h2; exact hw⟩
theorem fn_new {Q : Array Value → Prop} (h : ∀ w, Calls P f args w fun e w' => ∃ g cs, e = .returned (.pointer (some ⟨g, 0, none⟩)) ∧ Q cs ∧ Blk w' g T cs ∧ w.heap.size ≤ g ∧ Below w.heap.size w w') :
    Fn P f args [] [] (fun u L' R' => ∃ g cs, u = .pointer (some ⟨g, 0, none⟩) ∧ Q cs ∧ L' = [.ob g (.cells cs T (0, 0))] ∧ R' = []) :=
  fun w _ => (h w).mono fun _ w' ⟨g, cs, h1, h2, h3, h4, h5⟩ => ⟨_, _, [], h1, ⟨g, cs, rfl, h2, rfl, rfl⟩, Sat.one (L := []) ⟨h5.os, h5.tape, h5.output, h5.size, fun k hk _ => h5.block k hk⟩ h3 (fun b hb => by
    simp only [It.foot, Option.some.injEq] at hb; subst hb; exact .inr h4)⟩
end
section
variable {P : Program} {N : Nat} {E : Env} {fr : List (Nat × Value)} {hp : List It} {ro : List Ro} {Kn Kr : St → Prop} {ops : Array Oper} {rest : List Oper} {dst : Option Tmp} {ty t : TypeId} {pos : String} {af : Array Edge} {F : List It} {x y z : Operand} {k : IntKind} {b : Nat} {l : List (Int × Value)} {a : Int} {v : Value} {kt e : TypeId}
theorem pv_mlook {zv : Value} [ht : TMap P t kt e] [hk : TInt P kt k] [hz : TZV P e zv] (hx : opd fr x = some (.map (some b))) (hy : opd fr y = some (.int k a)) (hs : hp.Perm (.ob b (mob k l) :: F)) :
    Pv P ⟨fr, hp, ro⟩ (.lookup t x y true) (.tuple #[(alook l a).getD zv, .bool (alook l a).isSome]) := fun N E ac w dst ty pos af g ok => by
  have hb : w.heap[b]? = some (mob k l) := ok.s.get hs
  simp only [execOp, ok.h.eval hx, ok.h.eval hy]
  have h1 := findNow_m k a l 0 0
  have hf := MapKept.run_findKey (P := P) (w := w) hk.h h1
  have hc : ∀ em, (Instr.checkKey em 10000 kt (.int k a)).run P w = .ok () w := fun em => MapKept.run_checkKey hk.h (by simp [MapKept.IsKey]) em 9999
  cases h : alook l a with
  | none => rw [h] at hf; simp [Instr.lookup, run_underlying ht.h, MapKept.run_getObj_map hb, hc, hf, Result.andThen, run_zeroV (P := P) (T := e)]
  | some u => rw [h] at hf; simp [Instr.lookup, run_underlying ht.h, MapKept.run_getObj_map hb, hc, hf, Result.andThen]
theorem pv_mlook1 {zv : Value} [ht : TMap P t kt e] [hk : TInt P kt k] [hz : TZV P e zv] (hx : opd fr x = some (.map (some b))) (hy : opd fr y = some (.int k a)) (hs : hp.Perm (.ob b (mob k l) :: F)) :
    Pv P ⟨fr, hp, ro⟩ (.lookup t x y false) ((alook l a).getD zv) := fun N E ac w dst ty pos af g ok => by
  have hb : w.heap[b]? = some (mob k l) := ok.s.get hs
  simp only [execOp, ok.h.eval hx, ok.h.eval hy]
  have h1 := findNow_m k a l 0 0
  have hf := MapKept.run_findKey (P := P) (w := w) hk.h h1
  have hc : ∀ em, (Instr.checkKey em 10000 kt (.int k a)).run P w = .ok () w := fun em => MapKept.run_checkKey hk.h (by simp [MapKept.IsKey]) em 9999
  cases h : alook l a with
  | none => rw [h] at hf; simp [Instr.lookup, run_underlying ht.h, MapKept.run_getObj_map hb, hc, hf, Result.andThen, run_zeroV (P := P) (T := e)]
  | some u => rw [h] at hf; simp [Instr.lookup, run_underlying ht.h, MapKept.run_getObj_map hb, hc, hf, Result.andThen]
theorem pv_min3 {k : IntKind} {a b c : Int} {ats : Array TypeId} (hx : opd fr x = some (.int k a)) (hy : opd fr y = some (.int k b)) (hz : opd fr z = some (.int k c)) : Pv P ⟨fr, hp, ro⟩ (.call ⟨.builtin .min, #[x, y, z], ats⟩) (.int k (min (min a b) c)) := fun N E ac w dst ty pos af g ok => by
  have e : (if b < a then b else a) = min a b := by omega
  have e2 : (if c < min a b then c else min a b) = min (min a b) c := by omega
  simp only [execOp, resolve, List.map_toArray, List.map_cons, List.map_nil, ok.h.eval hx, ok.h.eval hy, ok.h.eval hz]; simp [invoke, builtin, Builtin.min_, Builtin.min2, e, e2, go_sem]
/-! rows of strings that came in -/
def sseg (S : Nat → ByteArray) (n : Nat) : List (List Value) := (List.range n).map fun i => [.string (S i)]
theorem sseg_at {S : Nat → ByteArray} {n i : Nat} (h : i < n) : (sseg S n)[i]? = some [.string (S i)] := by simp [sseg, h]
theorem rws_s {w : World} {A : Option Addr} {n c : Nat} {V : Nat → Nat → Value} (h : Rws [.string] w A n c V) :
    ∃ (S : Nat → ByteArray) (R : List Ro), (∀ r ∈ R, r.sat w) ∧ (∀ i, i < n → (S i).size ≤ maxLen) ∧ (0 < n → ∃ b o, A = some ⟨b, o, none⟩ ∧ ⟨b, o, 1, sseg S n⟩ ∈ R) ∧ n ≤ 9223372036854775807 := by
  obtain ⟨R, hR, h0⟩ := rws_ro h (by simp)
  obtain ⟨h1, h2, _, h4⟩ := h
  refine ⟨fun i => match V i 0 with | .string z => z | _ => ByteArray.empty, R, hR, fun i hi => ?_, fun hn => ?_, by unfold maxLen at h2; omega⟩
  · obtain ⟨z, hz, hw⟩ := h4 i 0 _ hi rfl
    simp only [hz]
    exact hw
  · obtain ⟨b, o, hA, hm⟩ := h0 hn
    refine ⟨b, o, hA, ?_⟩
    have e : rowsOf [.string] V n = sseg (fun i => match V i 0 with | .string z => z | _ => ByteArray.empty) n := by
      unfold rowsOf sseg
      refine List.map_congr_left fun i hi => ?_
      obtain ⟨z, hz, _⟩ := h4 i 0 _ (List.mem_range.1 hi) rfl
      simp [hz]
    rw [← e]; exact hm
theorem g_lk {c : Bool} (h : Pv P ⟨fr, hp, ro⟩ (.lookup t x y c) v) : Pv P ⟨fr, hp, ro⟩ (.lookup t x y c) v := h
theorem pv_mlk_s [ht : TMap P t kt e] [hk : TInt P kt k] {zv : Value} [hz : TZV P e zv] (hx : opd fr x = some (.map (some b))) (hy : opd fr y = some (.int k a)) (hs : hp.Perm (.ob b (mob k l) :: F)) (hl : alook l a = some v) : Pv P ⟨fr, hp, ro⟩ (.lookup t x y false) v := by
  have := pv_mlook1 (P := P) (ro := ro) hx hy hs (t := t); rwa [hl] at this
theorem pv_mlk_n [ht : TMap P t kt e] [hk : TInt P kt k] {zv : Value} [hz : TZV P e zv] (hx : opd fr x = some (.map (some b))) (hy : opd fr y = some (.int k a)) (hs : hp.Perm (.ob b (mob k l) :: F)) (hl : alook l a = none) : Pv P ⟨fr, hp, ro⟩ (.lookup t x y false) zv := by
  have := pv_mlook1 (P := P) (ro := ro) hx hy hs (t := t); rwa [hl] at this
theorem pv_mlko_s [ht : TMap P t kt e] [hk : TInt P kt k] {zv : Value} [hz : TZV P e zv] (hx : opd fr x = some (.map (some b))) (hy : opd fr y = some (.int k a)) (hs : hp.Perm (.ob b (mob k l) :: F)) (hl : alook l a = some v) : Pv P ⟨fr, hp, ro⟩ (.lookup t x y true) (.tuple #[v, .bool true]) := by
  have := pv_mlook (P := P) (ro := ro) hx hy hs (t := t); rwa [hl] at this
theorem pv_mlko_n [ht : TMap P t kt e] [hk : TInt P kt k] {zv : Value} [hz : TZV P e zv] (hx : opd fr x = some (.map (some b))) (hy : opd fr y = some (.int k a)) (hs : hp.Perm (.ob b (mob k l) :: F)) (hl : alook l a = none) : Pv P ⟨fr, hp, ro⟩ (.lookup t x y true) (.tuple #[zv, .bool false]) := by
  have := pv_mlook (P := P) (ro := ro) hx hy hs (t := t); rwa [hl] at this
theorem pv_mlen [ht : TMap P t kt e] (hx : opd fr x = some (.map (some b))) (hs : hp.Perm (.ob b (mob k l) :: F)) : Pv P ⟨fr, hp, ro⟩ (.call ⟨.builtin .len, #[x], #[t]⟩) (.int .i64 l.length) := fun N E ac w dst ty pos af g ok => by
  have hb : w.heap[b]? = some (mob k l) := ok.s.get hs
  simp only [execOp, resolve, List.map_toArray, List.map_cons, List.map_nil, ok.h.eval hx]; simp [invoke, builtin, Builtin.len_, run_underlying ht.h, MapKept.run_getObj_map hb, Result.andThen, goInt, mEnt_len, go_sem]
theorem wo_mmake {d : Nat} (k : IntKind) (hd : Nat.ble (d + 1) N = true)
    (h : ∀ b, WO P N E ops rest ⟨(d, .map (some b)) :: fr, .ob b (mob k []) :: hp, ro⟩ Kn) : WO P N E ops (⟨some d, .makeMap t none, ty, pos, af, none⟩ :: rest) ⟨fr, hp, ro⟩ Kn :=
  wo_eff (L := []) (.refl _) hd fun a w ok => ⟨.map (some w.heap.size), _, w.alloc (.map #[] 0), by simp only [execOp, Option.map_none, Sem.run_bind, run_makeMap, Result.andThen_ok]; rfl, Sat.fresh _, h _⟩
theorem set_frm {w : World} {b : Nat} {o o' : Obj} (hb : w.heap[b]? = some o) : Frm [b] w { w with heap := w.heap.setIfInBounds b o' } ∧ ({ w with heap := w.heap.setIfInBounds b o' } : World).heap[b]? = some o' :=
  ⟨⟨rfl, rfl, rfl, by simp, fun k _ hn => (MapKept.heap_set hb).2 k (by simpa using hn)⟩, (MapKept.heap_set hb).1⟩
theorem run_mput {w : World} [ht : TMap P t kt e] [hk : TInt P kt k] (hb : w.heap[b]? = some (mob k l)) :
    (Instr.mapUpdate t (.map (some b)) (.int k a) v).run P w = .ok () { w with heap := w.heap.setIfInBounds b (mob k (aset l a v)) } := by
  have h1 := findNow_m k a l 0 0
  have hf := MapKept.run_findKey (P := P) (w := w) hk.h h1
  have hc : (Instr.checkKey false 10000 kt (.int k a)).run P w = .ok () w := MapKept.run_checkKey hk.h (by simp [MapKept.IsKey]) false 9999
  cases h : alook l a with
  | none =>
    rw [h] at hf
    have e1 := mEnt_push k a v l 0
    rw [Nat.zero_add] at e1
    simp [Instr.mapUpdate, run_underlying ht.h, MapKept.run_getObj_map hb, hc, hf, MapKept.run_setObj_map _ hb, Result.andThen, mob, aset_none v h, e1]
  | some u =>
    rw [h] at hf
    have e1 := mEnt_modify k a v l 0 h
    have e2 := mEnt_at k a l 0 h
    have hks : (Instr.keyThatStays (.int k a) (.int k a)).run P w = .ok (.int k a) w := MapKept.run_keyThatStays (d := .int k) (by simp [MapKept.IsKey])
    simp [Instr.mapUpdate, run_underlying ht.h, MapKept.run_getObj_map hb, hc, hf, MapKept.run_setObj_map _ hb, Result.andThen, mob, aset_len_some v h, e1, e2, hks]
theorem wo_mput [ht : TMap P t kt e] [hk : TInt P kt k] (hx : opd fr x = some (.map (some b))) (hy : opd fr y = some (.int k a)) (hz : opd fr z = some v) (hs : hp.Perm (.ob b (mob k l) :: F)) (hd : dstOk dst N = true)
    (h : WO P N E ops rest ⟨putF dst undef fr, .ob b (mob k (aset l a v)) :: F, ro⟩ Kn) : WO P N E ops (⟨dst, .mapUpdate t x y z, ty, pos, af, none⟩ :: rest) ⟨fr, hp, ro⟩ Kn :=
  wo_eff_skip (L := [_]) hs hd fun ac w ok => by
    have hb : w.heap[b]? = some (mob k l) := ok.s.get hs
    refine ⟨_, _, ?_, Sat.relay (set_frm hb).1 (set_frm (o' := mob k (aset l a v)) hb).2, by simpa using h⟩
    simp only [execOp, ok.h.eval hx, ok.h.eval hy, ok.h.eval hz, Sem.run_bind, run_mput hb]; rfl
theorem wo_mentry {d : Nat} {zv : Value} [ht : TMap P t kt e] [hk : TInt P kt k] [hzv : TZV P e zv] (hx : opd fr x = some (.map (some b))) (hy : opd fr y = some (.int k a)) (hs : hp.Perm (.ob b (mob k l) :: F)) (hd : Nat.ble (d + 1) N = true)
    (h : WO P N E ops rest ⟨(d, .tuple #[(alook l a).getD zv, .int .i64 (aidx l a)]) :: fr, .ob b (mob k (aset l a ((alook l a).getD zv))) :: F, ro⟩ Kn) : WO P N E ops (⟨some d, .mapEntry t x y, ty, pos, af, none⟩ :: rest) ⟨fr, hp, ro⟩ Kn :=
  wo_eff (L := [_]) hs hd fun ac w ok => by
    have hb : w.heap[b]? = some (mob k l) := ok.s.get hs
    refine ⟨_, _, _, ?_, Sat.relay (set_frm hb).1 (set_frm (o' := mob k (aset l a ((alook l a).getD zv))) hb).2, by simpa [putF] using h⟩
    have h1 := findNow_m k a l 0 0
    have hf := MapKept.run_findKey (P := P) (w := w) hk.h h1
    have hc : (Instr.checkKey false 10000 kt (.int k a)).run P w = .ok () w := MapKept.run_checkKey hk.h (by simp [MapKept.IsKey]) false 9999
    simp only [execOp, ok.h.eval hx, ok.h.eval hy]
    cases h : alook l a with
    | none =>
      rw [h] at hf
      have e1 := mEnt_push k a zv l 0
      rw [Nat.zero_add] at e1
      simp [Instr.mapEntry, run_underlying ht.h, MapKept.run_getObj_map hb, hc, hf, MapKept.run_setObj_map _ hb, Result.andThen, mob, aset_none _ h, e1, run_zeroV (P := P) (T := e), goInt, aidx_none h]
    | some u =>
      rw [h] at hf
      have e1 := mEnt_modify' k a l 0 h
      have e2 := mEnt_at k a l 0 h
      have hks : (Instr.keyThatStays (.int k a) (.int k a)).run P w = .ok (.int k a) w := MapKept.run_keyThatStays (d := .int k) (by simp [MapKept.IsKey])
      simp [Instr.mapEntry, run_underlying ht.h, MapKept.run_getObj_map hb, hc, hf, MapKept.run_setObj_map _ hb, Result.andThen, mob, aset_same h, e1, e2, hks, goInt]
theorem wo_mstore {j : Nat} [ht : TMap P t kt e] (hx : opd fr x = some (.map (some b))) (hy : opd fr y = some (.int .i64 j)) (hz : opd fr z = some v) (hs : hp.Perm (.ob b (mob k l) :: F)) {u : Value} (hl : alook l a = some u) (hj : aidx l a = j) (hd : dstOk dst N = true)
    (h : WO P N E ops rest ⟨putF dst undef fr, .ob b (mob k (aset l a v)) :: F, ro⟩ Kn) : WO P N E ops (⟨dst, .entryStore t x y z, ty, pos, af, none⟩ :: rest) ⟨fr, hp, ro⟩ Kn :=
  wo_eff_skip (L := [_]) hs hd fun ac w ok => by
    have hb : w.heap[b]? = some (mob k l) := ok.s.get hs
    refine ⟨_, _, ?_, Sat.relay (set_frm hb).1 (set_frm (o' := mob k (aset l a v)) hb).2, by simpa using h⟩
    have e1 := mEnt_modv k a v l 0 hl
    have e2 := mEnt_find k l 0 (aidx l a) (aidx_lt hl)
    rw [Nat.zero_add] at e2
    subst hj
    simp only [execOp, ok.h.eval hx, ok.h.eval hy, ok.h.eval hz, Sem.run_bind]
    simp [Instr.entryStore, MapKept.run_getObj_map hb, MapKept.run_setObj_map _ hb, Result.andThen, asInt, asIntOf, e2, mob, e1, aset_len_some v hl, go_sem]
end
end Go.Proofs.Ytnjicnadlhfocaa

/-
  Packets of rtcp as values.
-/
namespace Go.Proofs.Ytnjicnadlhfocaa
set_option linter.unusedSimpArgs false
set_option linter.unusedVariables false
open Go.RowKit

structure Bk where
  ss : Int
  lo : Int
  tt : Int
  la : Int
  ji : Int
  ls : Int
  dl : Int
def Bk.ok (b : Bk) : Prop := (0 ≤ b.ss ∧ b.ss ≤ 4294967295) ∧ (0 ≤ b.lo ∧ b.lo ≤ 255) ∧ (0 ≤ b.tt ∧ b.tt ≤ 4294967295) ∧ (0 ≤ b.la ∧ b.la ≤ 4294967295) ∧ (0 ≤ b.ji ∧ b.ji ≤ 4294967295) ∧ (0 ≤ b.ls ∧ b.ls ≤ 4294967295) ∧ (0 ≤ b.dl ∧ b.dl ≤ 4294967295)
def c16 (l : List Int) : List (List Value) := l.map fun z => [.int .u16 z]
def c32 (l : List Int) : List (List Value) := l.map fun z => [.int .u32 z]
def pairV (l : List (Int × Int)) : List (List Value) := l.map fun x => [.int .u16 x.1, .int .u16 x.2]
def ordV (l : List (Int × Int)) : List (List Value) := l.map fun x => [.int .u32 x.1, .int .u8 x.2]
def itmV (l : List (Int × ByteArray)) : List (List Value) := l.map fun x => [.int .u8 x.1, .string x.2]
def blkV (l : List Bk) : List (List Value) := l.map fun b => [.int .u32 b.ss, .int .u8 b.lo, .int .u32 b.tt, .int .u32 b.la, .int .u32 b.ji, .int .u32 b.ls, .int .u32 b.dl]
theorem c16_at {l : List Int} {i : Nat} {z : Int} (h : l[i]? = some z) : (c16 l)[i]? = some [.int .u16 z] := by simp [c16, h]
theorem c32_at {l : List Int} {i : Nat} {z : Int} (h : l[i]? = some z) : (c32 l)[i]? = some [.int .u32 z] := by simp [c32, h]
theorem pairV_at {l : List (Int × Int)} {i : Nat} {x : Int × Int} (h : l[i]? = some x) : (pairV l)[i]? = some [.int .u16 x.1, .int .u16 x.2] := by simp [pairV, h]
theorem ordV_at {l : List (Int × Int)} {i : Nat} {x : Int × Int} (h : l[i]? = some x) : (ordV l)[i]? = some [.int .u32 x.1, .int .u8 x.2] := by simp [ordV, h]
theorem itmV_at {l : List (Int × ByteArray)} {i : Nat} {x : Int × ByteArray} (h : l[i]? = some x) : (itmV l)[i]? = some [.int .u8 x.1, .string x.2] := by simp [itmV, h]
theorem blkV_at {l : List Bk} {i : Nat} {b : Bk} (h : l[i]? = some b) : (blkV l)[i]? = some [.int .u32 b.ss, .int .u8 b.lo, .int .u32 b.tt, .int .u32 b.la, .int .u32 b.ji, .int .u32 b.ls, .int .u32 b.dl] := by simp [blkV, h]
theorem c16_app (a b : List Int) : c16 (a ++ b) = c16 a ++ c16 b := by simp [c16]
theorem c16_len (a : List Int) : (c16 a).length = a.length := by simp [c16]
theorem c32_len (a : List Int) : (c32 a).length = a.length := by simp [c32]
theorem pairV_len (a : List (Int × Int)) : (pairV a).length = a.length := by simp [pairV]
theorem ordV_len (a : List (Int × Int)) : (ordV a).length = a.length := by simp [ordV]
theorem itmV_len (a : List (Int × ByteArray)) : (itmV a).length = a.length := by simp [itmV]
theorem blkV_len (a : List Bk) : (blkV a).length = a.length := by simp [blkV]
inductive Pkt where
  | sender (ss ntp t pk oc : Int) (bl : List Bk)
  | receiver (ss : Int) (bl : List Bk)
  | sdes (ch : List (Int × List (Int × ByteArray)))
  | bye (ss : List Int) (rs : ByteArray)
  | nack (fm to : Int) (ps : List (Int × Int))
  | pli (fm to : Int)
  | fir (fm : Int) (os : List (Int × Int))
  | remb (fm rt : Int) (ss : List Int)
  | other (kd ct : Int) (bd : ByteArray)
def ChV (R : List Ro) (c : Int × List (Int × ByteArray)) (row : List Value) : Prop := ∃ A n k, row = [.int .u32 c.1, .slice A n k] ∧ SQ R 2 A n k (itmV c.2)
def ChsV (R : List Ro) (l : List (Int × List (Int × ByteArray))) (rows : List (List Value)) : Prop := rows.length = l.length ∧ ∀ (i : Nat) c, l[i]? = some c → ∃ row, rows[i]? = some row ∧ ChV R c row
theorem ChV.mono {R R' : List Ro} (hR : ∀ r ∈ R, r ∈ R') {c : Int × List (Int × ByteArray)} {row : List Value} (h : ChV R c row) : ChV R' c row := by
  obtain ⟨A, n, k, h1, h2⟩ := h; exact ⟨A, n, k, h1, h2.mono hR⟩
theorem ChsV.mono {R R' : List Ro} (hR : ∀ r ∈ R, r ∈ R') {l : List (Int × List (Int × ByteArray))} {rows : List (List Value)} (h : ChsV R l rows) : ChsV R' l rows :=
  ⟨h.1, fun i c hc => by obtain ⟨row, h1, h2⟩ := h.2 i c hc; exact ⟨row, h1, h2.mono hR⟩⟩
/-- a packet's value -/
def PkV (R : List Ro) : Pkt → Value → Prop
  | .sender ss ntp t pk oc bl, v => ∃ A n c, v = .iface 53 (.agg #[.int .u32 ss, .int .u64 ntp, .int .u32 t, .int .u32 pk, .int .u32 oc, .slice A n c]) ∧ SQ R 7 A n c (blkV bl)
  | .receiver ss bl, v => ∃ A n c, v = .iface 186 (.agg #[.int .u32 ss, .slice A n c]) ∧ SQ R 7 A n c (blkV bl)
  | .sdes ch, v => ∃ A n c rows, v = .iface 197 (.agg #[.slice A n c]) ∧ SQ R 2 A n c rows ∧ ChsV R ch rows
  | .bye ss rs, v => ∃ A n c, v = .iface 77 (.agg #[.slice A n c, .string rs]) ∧ SQ R 1 A n c (c32 ss)
  | .nack fm to ps, v => ∃ A n c, v = .iface 66 (.agg #[.int .u32 fm, .int .u32 to, .slice A n c]) ∧ SQ R 2 A n c (pairV ps)
  | .pli fm to, v => v = .iface 68 (.agg #[.int .u32 fm, .int .u32 to])
  | .fir fm os, v => ∃ A n c, v = .iface 73 (.agg #[.int .u32 fm, .slice A n c]) ∧ SQ R 2 A n c (ordV os)
  | .remb fm rt ss, v => ∃ A n c, v = .iface 75 (.agg #[.int .u32 fm, .int .u64 rt, .slice A n c]) ∧ SQ R 1 A n c (c32 ss)
  | .other kd ct bd, v => v = .iface 143 (.agg #[.int .u8 kd, .int .u8 ct, .string bd])
theorem PkV.mono {R R' : List Ro} (hR : ∀ r ∈ R, r ∈ R') : ∀ {p : Pkt} {v : Value}, PkV R p v → PkV R' p v
  | .sender .., _, h => by obtain ⟨A, n, c, h1, h2⟩ := h; exact ⟨A, n, c, h1, h2.mono hR⟩
  | .receiver .., _, h => by obtain ⟨A, n, c, h1, h2⟩ := h; exact ⟨A, n, c, h1, h2.mono hR⟩
  | .sdes .., _, h => by obtain ⟨A, n, c, rows, h1, h2, h3⟩ := h; exact ⟨A, n, c, rows, h1, h2.mono hR, h3.mono hR⟩
  | .bye .., _, h => by obtain ⟨A, n, c, h1, h2⟩ := h; exact ⟨A, n, c, h1, h2.mono hR⟩
  | .nack .., _, h => by obtain ⟨A, n, c, h1, h2⟩ := h; exact ⟨A, n, c, h1, h2.mono hR⟩
  | .pli .., _, h => h
  | .fir .., _, h => by obtain ⟨A, n, c, h1, h2⟩ := h; exact ⟨A, n, c, h1, h2.mono hR⟩
  | .remb .., _, h => by obtain ⟨A, n, c, h1, h2⟩ := h; exact ⟨A, n, c, h1, h2.mono hR⟩
  | .other .., _, h => h
theorem PkV.one {R : List Ro} : ∀ {p : Pkt} {v : Value}, PkV R p v → v.oneCell' = true
  | .sender .., _, h => by obtain ⟨A, n, c, rfl, h2⟩ := h; rfl
  | .receiver .., _, h => by obtain ⟨A, n, c, rfl, h2⟩ := h; rfl
  | .sdes .., _, h => by obtain ⟨A, n, c, rows, rfl, h2, h3⟩ := h; rfl
  | .bye .., _, h => by obtain ⟨A, n, c, rfl, h2⟩ := h; rfl
  | .nack .., _, h => by obtain ⟨A, n, c, rfl, h2⟩ := h; rfl
  | .pli .., _, h => by obtain rfl := h; rfl
  | .fir .., _, h => by obtain ⟨A, n, c, rfl, h2⟩ := h; rfl
  | .remb .., _, h => by obtain ⟨A, n, c, rfl, h2⟩ := h; rfl
  | .other .., _, h => by obtain rfl := h; rfl
/-- a packet's numbers lie in their ranges, its lists are not too long -/
def in8 (x : Int) : Prop := 0 ≤ x ∧ x ≤ 255
def in16 (x : Int) : Prop := 0 ≤ x ∧ x ≤ 65535
def in32 (x : Int) : Prop := 0 ≤ x ∧ x ≤ 4294967295
def in64 (x : Int) : Prop := 0 ≤ x ∧ x ≤ 18446744073709551615
def Pkt.ok (m : Nat) : Pkt → Prop
  | .sender ss ntp t pk oc bl => in32 ss ∧ in64 ntp ∧ in32 t ∧ in32 pk ∧ in32 oc ∧ (∀ b ∈ bl, b.ok) ∧ bl.length ≤ m
  | .receiver ss bl => in32 ss ∧ (∀ b ∈ bl, b.ok) ∧ bl.length ≤ m
  | .sdes ch => (∀ c ∈ ch, in32 c.1 ∧ c.2.length ≤ m ∧ ∀ x ∈ c.2, in8 x.1 ∧ x.2.size ≤ m) ∧ ch.length ≤ m
  | .bye ss rs => (∀ x ∈ ss, in32 x) ∧ ss.length ≤ m ∧ rs.size ≤ m
  | .nack fm to ps => in32 fm ∧ in32 to ∧ (∀ x ∈ ps, in16 x.1 ∧ in16 x.2) ∧ ps.length ≤ m
  | .pli fm to => in32 fm ∧ in32 to
  | .fir fm os => in32 fm ∧ (∀ x ∈ os, in32 x.1 ∧ in8 x.2) ∧ os.length ≤ m
  | .remb fm rt ss => in32 fm ∧ in64 rt ∧ (∀ x ∈ ss, in32 x) ∧ ss.length ≤ m
  | .other kd ct bd => in8 kd ∧ in8 ct ∧ bd.size ≤ m
/-- packets in a slice: interface values -/
def PksV (R : List Ro) (l : List Pkt) (vs : List Value) : Prop := vs.length = l.length ∧ ∀ (i : Nat) p, l[i]? = some p → ∃ v, vs[i]? = some v ∧ PkV R p v
def one1 (vs : List Value) : List (List Value) := vs.map fun v => [v]
theorem one1_at {vs : List Value} {i : Nat} {v : Value} (h : vs[i]? = some v) : (one1 vs)[i]? = some [v] := by simp [one1, h]
theorem one1_len (vs : List Value) : (one1 vs).length = vs.length := by simp [one1]
theorem one1_app (a b : List Value) : one1 (a ++ b) = one1 a ++ one1 b := by simp [one1]
theorem PksV.mono {R R' : List Ro} (hR : ∀ r ∈ R, r ∈ R') {l : List Pkt} {vs : List Value} (h : PksV R l vs) : PksV R' l vs :=
  ⟨h.1, fun i p hp => by obtain ⟨v, h1, h2⟩ := h.2 i p hp; exact ⟨v, h1, h2.mono hR⟩⟩
theorem PksV.nil (R : List Ro) : PksV R [] [] := ⟨rfl, fun i p h => by simp at h⟩
theorem PksV.snoc {R : List Ro} {l : List Pkt} {vs : List Value} {p : Pkt} {v : Value} (h : PksV R l vs) (hp : PkV R p v) : PksV R (l ++ [p]) (vs ++ [v]) := by
  refine ⟨by simp [h.1], fun i q hq => ?_⟩
  by_cases hi : i < l.length
  · rw [List.getElem?_append_left hi] at hq
    obtain ⟨u, h1, h2⟩ := h.2 i q hq
    exact ⟨u, by rw [List.getElem?_append_left (by rw [h.1]; exact hi)]; exact h1, h2⟩
  · rw [List.getElem?_append_right (by omega)] at hq
    have : i - l.length = 0 := by
      rcases Nat.eq_zero_or_pos (i - l.length) with h0 | h0
      · exact h0
      · rw [List.getElem?_eq_none (by simp; omega)] at hq; cases hq
    rw [this] at hq
    simp only [List.getElem?_cons_zero, Option.some.injEq] at hq
    subst hq
    exact ⟨v, by rw [List.getElem?_append_right (by rw [h.1]; omega), h.1, this]; rfl, hp⟩
end Go.Proofs.Ytnjicnadlhfocaa

/-
  The laws' Cut of strings.
-/
namespace Go.Proofs.Ytnjicnadlhfocaa
set_option linter.unusedSimpArgs false
set_option linter.unusedVariables false
open Go.RowKit
attribute [local irreducible] Pv WO WC Fn
set_option maxRecDepth 100000
def cutS (s : ByteArray) (n : Nat) : ByteArray := if n < s.size then s.extract 0 n else s
theorem cutS_size (s : ByteArray) (n : Nat) : (cutS s n).size ≤ n := by
  unfold cutS
  split
  · simp only [ByteArray.size_extract]; omega
  · omega
theorem lCut (s : ByteArray) (n : Nat) : Fn Try.prog 23 #[.string s, .int .i64 n] [] [] (fun v L' R' => v = .string (cutS s n) ∧ L' = [] ∧ R' = []) := by
  by_cases h : n < s.size
  · rw [show cutS s n = s.extract 0 n from if_pos h]
    refine fn_intro Try.func23 rfl Try.ntmps23 rfl (fun E => ?_)
    (repeat (first | ((first | (apply wo_v; rfl) ); (· first | (apply pv_ev; rfl) | (apply g_bi; first | (apply pv_len_str; rfl) ) | (apply pv_cs_hi; rfl; rfl; omega) )) | apply wo_nil | apply wc_seq | apply wc_region | apply wc_ret | (apply wc_true; rfl) | (apply wc_false; rfl) | (apply a_dec_t; rfl; (· first | assumption | omega)) ))
    exact retv rfl (by (repeat (first | apply RV.nil | (apply RV.tmp; rfl) )); done) (⟨by simp [outV], rfl, rfl⟩) (by (repeat (first | apply sub_nil )); done) (by first | exact fun _ h => h | (intro r hr; cases hr; done) | (simp; done) | exact fun _ h => List.mem_append_left _ h | (intro r hr; simp [hr]; done))
  · rw [show cutS s n = s from if_neg h]
    refine fn_intro Try.func23 rfl Try.ntmps23 rfl (fun E => ?_)
    (repeat (first | ((first | (apply wo_v; rfl) ); (· first | (apply pv_ev; rfl) | (apply g_bi; first | (apply pv_len_str; rfl) ) )) | apply wo_nil | apply wc_seq | apply wc_region | apply wc_skip | apply wc_ret | (apply wc_true; rfl) | (apply wc_false; rfl) | (apply a_dec_t; rfl; (· first | assumption | omega)) | (apply a_dec_f; rfl; (· first | assumption | omega)) ))
    exact retv rfl (by (repeat (first | apply RV.nil | (apply RV.tmp; rfl) )); done) (⟨rfl, rfl, rfl⟩) (by (repeat (first | apply sub_nil )); done) (by first | exact fun _ h => h | (intro r hr; cases hr; done) | (simp; done) | exact fun _ h => List.mem_append_left _ h | (intro r hr; simp [hr]; done))
end Go.Proofs.Ytnjicnadlhfocaa

/-
  Layer 5's statements, for layer 17: what made packets are of.
-/
namespace Go.Proofs.Ytnjicnadlhfocaa
set_option linter.unusedSimpArgs false
set_option linter.unusedVariables false
open Go.RowKit
abbrev Ck5 := Int × List (Int × ByteArray)
abbrev E0 : ByteArray := ⟨#[]⟩
abbrev bkB (b : Nat) (x1 x2 x3 x4 x5 x6 x7 : Int) : It := .ob b (.cells #[.int .u32 x1, .int .u8 x2, .int .u32 x3, .int .u32 x4, .int .u32 x5, .int .u32 x6, .int .u32 x7] 216 (0, 0))
abbrev itB (b : Nat) (k : Int) (s : ByteArray) : It := .ob b (.cells #[.int .u8 k, .string s] 219 (0, 0))
theorem u8_all {p : Int → Prop} (h : ∀ n : Fin 256, p ((n.val : Nat) : Int)) {a : Int} (ha : 0 ≤ a ∧ a ≤ 255) : p a := by
  have := h ⟨a.toNat, by omega⟩
  rwa [show (((⟨a.toNat, by omega⟩ : Fin 256).val : Nat) : Int) = a by simp; omega] at this
theorem and8_1 {a : Int} : 0 ≤ a ∧ a ≤ 255 → bits .and .u8 a 1 = a % 2 := u8_all (p := fun a => bits .and .u8 a 1 = a % 2) (by decide +kernel)
theorem c32_snoc (l : List Int) (x : Int) : c32 (l ++ [x]) = c32 l ++ [[.int .u32 x]] := by simp [c32]
theorem pairV_snoc (l : List (Int × Int)) (x : Int × Int) : pairV (l ++ [x]) = pairV l ++ [[.int .u16 x.1, .int .u16 x.2]] := by simp [pairV]
theorem ordV_snoc (l : List (Int × Int)) (x : Int × Int) : ordV (l ++ [x]) = ordV l ++ [[.int .u32 x.1, .int .u8 x.2]] := by simp [ordV]
theorem itmV_snoc (l : List (Int × ByteArray)) (x : Int × ByteArray) : itmV (l ++ [x]) = itmV l ++ [[.int .u8 x.1, .string x.2]] := by simp [itmV]
theorem blkV_snoc (l : List Bk) (b : Bk) : blkV (l ++ [b]) = blkV l ++ [[.int .u32 b.ss, .int .u8 b.lo, .int .u32 b.tt, .int .u32 b.la, .int .u32 b.ji, .int .u32 b.ls, .int .u32 b.dl]] := by simp [blkV]
abbrev c32O (ao : Option Addr) (n c : Nat) (l : List Int) : It := .own 22 1 ao n c (c32 l)
abbrev c32O' (ao : Option Addr) (n c : Nat) (xs : List (List Value)) : It := .own 22 1 ao n c xs
theorem ChsV.nil (R : List Ro) : ChsV R [] [] := ⟨rfl, fun i c h => by simp at h⟩
theorem ChsV.snoc {R : List Ro} {l : List (Int × List (Int × ByteArray))} {rows : List (List Value)} {x : Int × List (Int × ByteArray)} {row : List Value} (h : ChsV R l rows) (hx : ChV R x row) : ChsV R (l ++ [x]) (rows ++ [row]) := by
  refine ⟨by simp [h.1], fun i q hq => ?_⟩
  by_cases hi : i < l.length
  · rw [List.getElem?_append_left hi] at hq
    obtain ⟨u, h1, h2⟩ := h.2 i q hq
    exact ⟨u, by rw [List.getElem?_append_left (by rw [h.1]; exact hi)]; exact h1, h2⟩
  · rw [List.getElem?_append_right (by omega)] at hq
    have : i - l.length = 0 := by
      rcases Nat.eq_zero_or_pos (i - l.length) with h0 | h0
      · exact h0
      · rw [List.getElem?_eq_none (by simp; omega)] at hq; cases hq
    rw [this] at hq
    simp only [List.getElem?_cons_zero, Option.some.injEq] at hq
    subst hq
    exact ⟨row, by rw [List.getElem?_append_right (by rw [h.1]; omega), h.1, this]; rfl, hx⟩
end Go.Proofs.Ytnjicnadlhfocaa

/-
  Layer 5's statements: what packets are made of: parts.
-/
namespace Go.Proofs.Ytnjicnadlhfocaa
set_option linter.unusedSimpArgs false
set_option linter.unusedVariables false
open Go.RowKit
attribute [local irreducible] Pv WO WC Fn
set_option maxRecDepth 100000
attribute [local irreducible] ByteArray.extract

structure Md where
  so : Int
  a : Int
  b : Int
  wide : Int
  nums : List Int
  tx : List ByteArray
  sm : Int
  ct : Int
  kd : Int
def Md.ok (m : Md) : Prop := in32 m.a ∧ in32 m.b ∧ in64 m.wide ∧ (∀ x ∈ m.nums, in32 x) ∧ in8 m.sm ∧ in8 m.ct ∧ in8 m.kd ∧ m.nums.length ≤ 9223372036854775807 ∧ m.tx.length ≤ 9223372036854775807
def cST (l : List ByteArray) : List (List Value) := l.map fun s => [.string s]
theorem cST_len (l : List ByteArray) : (cST l).length = l.length := by simp [cST]
theorem cST_at {l : List ByteArray} {i : Nat} {s : ByteArray} (h : l[i]? = some s) : (cST l)[i]? = some [.string s] := by simp [cST, h]
abbrev mdL (so a b wide : Int) (vn vt : Value) (sm ct kd : Int) : List Value := [.int .i64 so, .int .u32 a, .int .u32 b, .int .u64 wide, vn, vt, .int .u8 sm, .int .u8 ct, .int .u8 kd]
abbrev mdB (g : Nat) (so a b wide : Int) (vn vt : Value) (sm ct kd : Int) : It := .ob g (.cells (mdL so a b wide vn vt sm ct kd).toArray 43 (0, 0))
theorem ySsrcs (so a b wide : Int) (nums : List Int) (A : Option Addr) (n c : Nat) (vt : Value) (hvt : vt.oneCell' = true) (sm ct kd : Int) (R : List Ro) (hS : SQ R 1 A n c (c32 nums)) (hc : n ≤ c) (hn : n ≤ 9223372036854775807) :
    Fn Try.prog 43 #[.agg (mdL so a b wide (.slice A n c) vt sm ct kd).toArray] [] R (fun v L' R' => v = .slice A (min n 40) c ∧ L' = [] ∧ R' = []) := by
  by_cases h : 40 < n
  · obtain ⟨b0, o0, rfl, hmem⟩ := hS.pos (by omega)
    rw [Nat.min_eq_right (by omega)]
    refine fn_intro Try.func43 rfl Try.ntmps43 rfl (fun E => ?_)
    (repeat (first | ((first | (apply wo_v; rfl) ); (· first | (apply pv_ev; rfl) | (apply pv_fld; rfl) | (apply g_load; first | (apply pv_ld; rfl; (· (repeat (first | apply sel_here ))); rfl) ) | (apply g_bi; first | (apply pv_len_sl; rfl) ) )) | apply wo_nil | apply wc_seq | apply wc_region | (apply wc_true; rfl) | (apply wc_false; rfl) | (apply a_dec_t; rfl; (· first | assumption | omega)) | (apply wo_box1; rfl; rfl; rfl; intro bx) | (apply wo_boxa; rfl; rfl; intro bx) ))
    refine wo_cut_ro (l := 0) (h := 40) (m := c) rfl hmem (.hi rfl rfl (by omega)) (by omega) rfl (fun o3 ho3 => ?_)
    have e : o3 = o0 := by rw [ho3 (by omega)]; simp [elt]
    subst e
    (repeat (first | ((first | (apply wo_v; rfl) ); (· first | (apply pv_ev; rfl) )) | apply wo_nil | apply wc_ret ))
    exact ret1 rfl rfl ⟨rfl, rfl, rfl⟩ ((by (repeat (first | apply sub_nil )); done) : List.Perm _ ([] ++ _)) (by first | exact fun _ h => h | (intro r hr; cases hr; done) | (simp; done) | exact fun _ h => List.mem_append_left _ h | (intro r hr; simp [hr]; done))
  · rw [Nat.min_eq_left (by omega)]
    refine fn_intro Try.func43 rfl Try.ntmps43 rfl (fun E => ?_)
    (repeat (first | ((first | (apply wo_v; rfl) ); (· first | (apply pv_ev; rfl) | (apply pv_fld; rfl) | (apply g_load; first | (apply pv_ld; rfl; (· (repeat (first | apply sel_here ))); rfl) ) | (apply g_bi; first | (apply pv_len_sl; rfl) ) )) | apply wo_nil | apply wc_seq | apply wc_region | apply wc_skip | apply wc_ret | (apply wc_true; rfl) | (apply wc_false; rfl) | (apply a_dec_t; rfl; (· first | assumption | omega)) | (apply a_dec_f; rfl; (· first | assumption | omega)) | (apply wo_box1; rfl; rfl; rfl; intro bx) | (apply wo_boxa; rfl; rfl; intro bx) ))
    exact ret1 rfl rfl ⟨rfl, rfl, rfl⟩ ((by (repeat (first | apply sub_nil )); done) : List.Perm _ ([] ++ _)) (by first | exact fun _ h => h | (intro r hr; cases hr; done) | (simp; done) | exact fun _ h => List.mem_append_left _ h | (intro r hr; simp [hr]; done))
def fsM (tx : List ByteArray) (k : Nat) : ByteArray := match tx with
  | [] => E0
  | s :: _ => cutS s k
theorem yFirst (so a b wide : Int) (tx : List ByteArray) (vn : Value) (hvn : vn.oneCell' = true) (A : Option Addr) (n c : Nat) (sm ct kd : Int) (k : Nat) (R : List Ro) (hS : SQ R 1 A n c (cST tx)) :
    Fn Try.prog 44 #[.agg (mdL so a b wide vn (.slice A n c) sm ct kd).toArray, .int .i64 k] [] R (fun v L' R' => v = .string (fsM tx k) ∧ L' = [] ∧ R' = []) := by
  have hn : n = tx.length := by rw [← hS.len, cST_len]
  subst hn
  cases tx with
  | nil =>
    refine fn_intro Try.func44 rfl Try.ntmps44 rfl (fun E => ?_)
    (repeat (first | ((first | (apply wo_v; rfl) ); (· first | (apply pv_ev; rfl) | (apply pv_fld; rfl) | (apply g_load; first | (apply pv_ld; rfl; (· (repeat (first | apply sel_here ))); rfl) ) | (apply g_bi; first | (apply pv_len_sl; rfl) ) )) | apply wo_nil | apply wc_seq | apply wc_region | apply wc_ret | (apply wc_true; rfl) | (apply wo_box1; rfl; rfl; rfl; intro bx) | (apply wo_boxa; rfl; rfl; intro bx) ))
    exact ret1 rfl rfl ⟨rfl, rfl, rfl⟩ ((by (repeat (first | apply sub_nil )); done) : List.Perm _ ([] ++ _)) (by first | exact fun _ h => h | (intro r hr; cases hr; done) | (simp; done) | exact fun _ h => List.mem_append_left _ h | (intro r hr; simp [hr]; done))
  | cons s l =>
    have hC := lCut s k
    have hr : (cST (s :: l))[0]? = some [.string s] := rfl
    obtain ⟨b0, o0, rfl, hmem⟩ := hS.pos (by simp)
    have hlen : ¬ ((s :: l).length : Int) = 0 := by simp only [List.length_cons]; omega
    generalize hL : s :: l = L at *
    have hpos : 0 < L.length := by rw [← hL]; simp
    have e : fsM L k = cutS s k := by rw [← hL]; rfl
    rw [e]
    refine fn_intro Try.func44 rfl Try.ntmps44 rfl (fun E => ?_)
    (repeat (first | ((first | (apply wo_v; rfl) ); (· first | (apply pv_ev; rfl) | (apply pv_fld; rfl) | (apply g_load; first | (apply pv_ld; rfl; (· (repeat (first | apply sel_here | apply sel_there))); rfl) | (apply pv_ld_ownf; rfl; (· (repeat (first | fail ))); (· assumption); rfl) | (apply pv_ld_own1; rfl; (· (repeat (first | apply sel_there))); (· assumption)) | (apply pv_ld_rof; rfl; (· (first | assumption )); (· assumption); rfl) | (apply pv_ld_ro1; rfl; (· (first | assumption )); (· assumption)) ) | (apply g_bi; first | (apply pv_len_sl; rfl) ) | (apply g_idx; first | (apply pv_idx; rfl; rfl; omega) ) )) | apply wo_nil | apply wc_seq | apply wc_region | apply wc_skip | (apply wc_true; rfl) | (apply wc_false; rfl) | (apply a_dec_t; rfl; (· first | assumption | omega)) | (apply a_dec_f; rfl; (· first | assumption | omega)) | (apply wo_box1; rfl; rfl; rfl; intro bx) | (apply wo_boxa; rfl; rfl; intro bx) ))
    (refine wo_call (hC) rfl (by (repeat (first | apply sub_nil )); done) (by first | exact fun _ h => h | (intro r hr; cases hr; done) | (simp; done) | exact fun _ h => List.mem_append_left _ h | (intro r hr; simp [hr]; done)) rfl ?_; rintro v L' R' ⟨rfl, rfl, rfl⟩ H' hH RR hR; simp only [List.cons_append, List.nil_append] at hH hR; subst hH; have hR := hR.symm; subst hR)
    (repeat (first | ((first | (apply wo_v; rfl) ); (· first | (apply pv_ev; rfl) )) | apply wo_nil | apply wc_ret ))
    exact ret1 rfl rfl ⟨rfl, rfl, rfl⟩ ((by (repeat (first | apply sub_nil )); done) : List.Perm _ ([] ++ _)) (by first | exact fun _ h => h | (intro r hr; cases hr; done) | (simp; done) | exact fun _ h => List.mem_append_left _ h | (intro r hr; simp [hr]; done))
def bkM (sm a b n : Int) : Bk := ⟨n, sm, b, a, n / 2, 7, a⟩
def bksM (sm a b : Int) (nums : List Int) : List Bk := (nums.take 33).map (bkM sm a b)
def tblMb (x1 x2 x3 x4 x5 x7 : Int) : Nat → List (List It) → Value → List (List It) → Prop := fun k Ls v Ms => match k, Ls with
  | 20, _ => ∃ b, v = .pointer (some ⟨b, 0, none⟩) ∧ Ms = [[bkB b 0 0 0 0 0 0 0]]
  | 21, [[.ob b _]] => v = undef ∧ Ms = [[bkB b x1 x2 x3 x4 x5 7 x7]]
  | _, _ => False
abbrev bkOl (ao : Option Addr) (n c : Nat) (l : List Bk) : It := .own 216 7 ao n c (blkV l)
abbrev rkOl (ao : Option Addr) (n c : Nat) (l : List Bk) : It := .own 217 7 ao n c (blkV l)
theorem bkOl_snoc (ao : Option Addr) (n c : Nat) (l : List Bk) (b : Bk) : bkOl ao n c (l ++ [b]) = It.own 216 7 ao n c (blkV l ++ [[.int .u32 b.ss, .int .u8 b.lo, .int .u32 b.tt, .int .u32 b.la, .int .u32 b.ji, .int .u32 b.ls, .int .u32 b.dl]]) := by rw [bkOl, blkV_snoc]
theorem rkOl_snoc (ao : Option Addr) (n c : Nat) (l : List Bk) (b : Bk) : rkOl ao n c (l ++ [b]) = It.own 217 7 ao n c (blkV l ++ [[.int .u32 b.ss, .int .u8 b.lo, .int .u32 b.tt, .int .u32 b.la, .int .u32 b.ji, .int .u32 b.ls, .int .u32 b.dl]]) := by rw [rkOl, blkV_snoc]
set_option maxHeartbeats 8000000 in
theorem yBlocks (so a b wide : Int) (nums : List Int) (A : Option Addr) (n c : Nat) (vt : Value) (hvt : vt.oneCell' = true) (sm ct kd : Int) (R : List Ro) (hS : SQ R 1 A n c (c32 nums)) (hb : ∀ x ∈ nums, in32 x) (hn9 : n ≤ 9223372036854775807) :
    Fn Try.prog 70 #[.agg (mdL so a b wide (.slice A n c) vt sm ct kd).toArray] [] R (fun v L' R' => ∃ a1 c1 a2 c2, v = .tuple #[.slice a1 (bksM sm a b nums).length c1, .slice a2 (bksM sm a b nums).length c2] ∧ L' = [bkOl a1 (bksM sm a b nums).length c1 (bksM sm a b nums), rkOl a2 (bksM sm a b nums).length c2 (bksM sm a b nums)] ∧ R' = []) := by
  have hn : n = nums.length := by rw [← hS.len, c32_len]
  subst hn
  refine fn_intro Try.func70 rfl Try.ntmps70 rfl (fun E => ?_)
  (repeat (first | ((first | (apply wo_v; rfl) ); (· first | (apply pv_ev; rfl) )) | apply wo_nil | apply wc_seq | apply wc_region | (apply wo_box1; rfl; rfl; rfl; intro bx) | (apply wo_boxa; rfl; rfl; intro bx) ))
  obtain ⟨bm, hbm⟩ : ∃ g, g = bx := ⟨_, rfl⟩
  subst hbm
  refine wc_own0 216 7 ?_
  refine wc_own0 217 7 ?_
  refine wc_block ?_
  refine wc_loop' (fun q st => ∃ (i : Nat) (l : List Bk) (a1 a2 : Option Addr) (c1 c2 : Nat), q = 33 - i ∧ i ≤ 33 ∧ i ≤ nums.length ∧ l = (nums.take i).map (bkM sm a b) ∧ l.length = i ∧ st = ⟨[(1, .pointer (some ⟨bm, 0, none⟩)), (4, .slice a1 i c1), (5, .slice a2 i c2), (6, .int .i64 i)], [mdB bm so a b wide (.slice A nums.length c) vt sm ct kd, bkOl a1 i c1 l, rkOl a2 i c2 l], R⟩) ⟨0, [], none, none, 0, 0, rfl, by omega, by omega, by simp, rfl, rfl⟩ (wk_mk (by (repeat (first | apply wkf_nil | (apply wkf_cons; rfl))); done) (by (repeat (first | apply sub_nil | (apply sub_cons; (· (repeat (first | apply sel_here | apply sel_there)))))); done) (by first | exact fun _ h => h | (intro r hr; cases hr; done) | (simp; done) | exact fun _ h => List.mem_append_left _ h | (intro r hr; simp [hr]; done))) ?_
  rintro q st ⟨i, l, a1, a2, c1, c2, rfl, hi, hin, hl, hli, rfl⟩
  by_cases hlt : i < nums.length ∧ i < 33
  · obtain ⟨h1, h2⟩ := hlt
    obtain ⟨x, hx⟩ : ∃ x, nums[i]? = some x := ⟨_, List.getElem?_eq_getElem h1⟩
    have hr := c32_at hx
    have hxb : 0 ≤ x ∧ x ≤ 4294967295 := hb x (List.mem_of_getElem? hx)
    have hnx : (nums.take (i + 1)).map (bkM sm a b) = l ++ [⟨x, sm, b, a, x / 2, 7, a⟩] := by rw [List.take_add_one, hx, List.map_append, hl]; rfl
    obtain ⟨b0, o0, rfl, hmem⟩ := hS.pos (by omega)
    (repeat (first | ((first | (apply wo_v; rfl) ); (· first | (apply pv_ev; rfl) | (apply pv_fld; rfl) | (apply g_load; first | (apply pv_ld; rfl; (· (repeat (first | apply sel_here ))); rfl) ) | (apply g_pick; first | (apply pv_pick_t; rfl; rfl) ) | (apply g_bi; first | (apply pv_len_sl; rfl) ) )) | apply wo_nil | apply wc_seq | apply wc_region | apply wc_skip | (apply wc_true; rfl) | (apply wc_false; rfl) | (apply a_dec_t; rfl; (· first | assumption | omega)) | (apply wo_run; rfl; rfl) | (apply wo_skip; rfl; rfl; rfl; rfl) | (apply wo_skip_u; rfl; rfl; rfl) | (apply a_gt; rfl; rfl; (· first | assumption | omega)) ))
    refine wc_block ?_
    (repeat (first | apply wc_seq ))
    (refine wc_regM [0] (aslL [(20, [0]), (21, [0])]) (tblMb x sm b a (x / 2) a) ([mdB bm so a b wide (.slice (some ⟨b0, o0, none⟩) nums.length c) vt sm ct kd, bkOl a1 i c1 l, rkOl a2 i c2 l]) (fm [(0, [])]) mixed (by kernel_rfl) (by kernel_rfl) (by decide) (aslL_ok (by decide)) (by (repeat (first | (apply prm_cons; (· (repeat (first | apply sel_here )))) | apply List.Perm.nil )); done) ?_; (repeat (first | (apply HdM.val; rfl; rfl; (· first | apply gok_none ); (· first | (apply pv_ev; rfl) | (apply pv_fld; rfl) | (apply g_load; first | (apply pv_ld; rfl; (· (repeat (first | apply sel_here | apply sel_there))); rfl) | (apply pv_ld_ownf; rfl; (· (repeat (first | fail ))); (· assumption); rfl) | (apply pv_ld_own1; rfl; (· (repeat (first | apply sel_there))); (· assumption)) | (apply pv_ld_rof; rfl; (· (first | assumption )); (· assumption); rfl) | (apply pv_ld_ro1; rfl; (· (first | assumption )); (· assumption)) ) | (apply g_bin; first | (apply a_quo; rfl; rfl; infer_instance; omega) ) | (apply g_idx; first | (apply pv_idx; rfl; rfl; omega) ) | (apply g_build; apply pv_build; (· (repeat (first | apply Bld.nil | (apply Bld.one; rfl; rfl; (· (repeat (first | apply SetAt.here | apply SetAt.there)))) )))) )) )))
    (refine hm_eff (cs := [0]) rfl (by decide) rfl rfl (by first | exact gok_none | exact gok_run rfl rfl) (fun a ha => outc_mono (outc_alloc a ha) (fun v M h => Exists.elim h fun b h => ⟨[M], Exists.intro b (And.intro h.1 (congrArg (fun x => [x]) h.2)), rfl, by simp⟩)) (⟨_, _, Exists.intro 0 (And.intro rfl rfl), rfl⟩) ?_; rintro v Ms ⟨bk, rfl, rfl⟩ _; simp only [setls, setl, reduceIte, Nat.reduceEqDiff]; (repeat (first | fail )))
    (refine hm_eff (cs := [0]) rfl (by decide) rfl rfl (by first | exact gok_none | exact gok_run rfl rfl) (fun a ha => outc_mono (outc_sta rfl rfl rfl rfl (by (repeat (first | apply LayAt.nil | apply LayAt.here )); done) a ha) (fun v M h => ⟨[M], And.intro h.1 (congrArg (fun x => [x]) h.2), rfl, by simp⟩)) (⟨_, _, And.intro rfl rfl, rfl⟩) ?_; rintro v Ms ⟨rfl, rfl⟩ _; simp only [setls, setl, reduceIte, Nat.reduceEqDiff]; (repeat (first | fail )))
    (refine HdM.nil ?_; intro H hH; simp only [Hp, fm, look, setl, List.flatMap_cons, List.flatMap_nil, reduceIte, Nat.reduceEqDiff, Option.getD_some, List.append_nil, List.cons_append, List.nil_append] at hH; subst hH)
    (repeat (first | ((first | (apply wo_v; rfl) ); (· first | (apply pv_ev; rfl) | (apply g_load; first | (apply pv_lda; rfl; (· (repeat (first | apply sel_here | apply sel_there))); (· (repeat (first | apply Cut.here0 | apply Cut.here )))) ) | (apply g_bi; first | fail ) )) | apply wc_seq | apply wc_region | (apply wo_bsl; (· (repeat (first | apply Rws'.nil | (apply Rws'.one; rfl; rfl; rfl) | (apply Rws'.agg; rfl; rfl; rfl)))); rfl; rfl; rfl; rfl; intro bx) ))
    refine wo_app (ao := a1) (n := i) (m := 1) rfl rfl (by (repeat (first | apply sel_here | apply sel_there)); done) (by (repeat (first | apply sel_here )); done) (by unfold maxLen; omega) (by omega) rfl (fun a3 c3 => ?_)
    (repeat (first | ((first | (apply wo_v; rfl) ); (· first | (apply pv_ev; rfl) | (apply g_load; first | (apply pv_lda; rfl; (· (repeat (first | apply sel_here | apply sel_there))); (· (repeat (first | apply Cut.here0 | apply Cut.here )))) ) | (apply g_bi; first | fail ) )) | apply wo_nil | apply wc_region | (apply wo_bsl; (· (repeat (first | apply Rws'.nil | (apply Rws'.one; rfl; rfl; rfl) | (apply Rws'.agg; rfl; rfl; rfl)))); rfl; rfl; rfl; rfl; intro bx) ))
    rename_i bz
    refine wo_app (ao := a2) (n := i) (m := 1) rfl rfl (by (repeat (first | apply sel_here | apply sel_there)); done) (by (repeat (first | apply sel_here )); done) (by unfold maxLen; omega) (by omega) rfl (fun a4 c4 => ?_)
    (repeat (first | ((first | (apply wo_v; rfl) ); (· first | (apply pv_ev; rfl) | (apply g_bin; first | (apply a_add; rfl; rfl; infer_instance; omega) ) )) | apply wo_nil | apply wc_region ))
    exact loop_end ⟨i + 1, l ++ [⟨x, sm, b, a, x / 2, 7, a⟩], a3, a4, c3, c4, rfl, by omega, by omega, hnx.symm, by rw [List.length_append, List.length_singleton, hli], by rw [bkOl_snoc, rkOl_snoc]⟩ (by omega) (wk_mk (by (repeat (first | apply wkf_nil | (apply wkf_cons; rfl))); done) (by (repeat (first | apply sub_nil | (apply sub_cons; (· (repeat (first | apply sel_here | apply sel_there)))))); done) (by first | exact fun _ h => h | (intro r hr; cases hr; done) | (simp; done) | exact fun _ h => List.mem_append_left _ h | (intro r hr; simp [hr]; done)))
  · have hk : l = bksM sm a b nums ∧ i = (bksM sm a b nums).length := by
      have hi2 : i = min 33 nums.length := by omega
      have : l = bksM sm a b nums := by
        rw [hl, hi2]; unfold bksM
        congr 1
        rcases Nat.le_total 33 nums.length with h | h
        · rw [Nat.min_eq_left h]
        · rw [Nat.min_eq_right h, List.take_length, List.take_of_length_le h]
      exact ⟨this, by rw [← this, hli]⟩
    obtain ⟨rfl, hi3⟩ := hk
    rw [hi3] at hlt ⊢
    generalize (bksM sm a b nums).length = m at *
    have hc : ¬ m < nums.length ∨ (m < nums.length ∧ ¬ m < 33) := by omega
    rcases hc with h1 | ⟨h1, h2⟩
    all_goals
      (repeat (first | ((first | (apply wo_v; rfl) ); (· first | (apply pv_ev; rfl) | (apply pv_fld; rfl) | (apply g_load; first | (apply pv_ld; rfl; (· (repeat (first | apply sel_here ))); rfl) ) | (apply g_pick; first | (apply pv_pick_t; rfl; rfl) | (apply pv_pick_f; rfl; rfl)) | (apply g_bi; first | (apply pv_len_sl; rfl) ) )) | apply wo_nil | apply wc_seq | apply wc_region | (apply wc_exit; rfl) | apply wc_ret | (apply wc_true; rfl) | (apply wc_false; rfl) | (apply a_dec_t; rfl; (· first | assumption | omega)) | (apply a_dec_f; rfl; (· first | assumption | omega)) | (apply wo_run; rfl; rfl) | (apply wo_skip; rfl; rfl; rfl; rfl) | (apply wo_skip_u; rfl; rfl; rfl) | (apply a_gt; rfl; rfl; (· first | assumption | omega)) | (apply a_gf; rfl; rfl; (· first | assumption | omega)) ))
      exact ret2 rfl rfl rfl ⟨a1, c1, a2, c2, rfl, rfl, rfl⟩ ((by (repeat (first | apply sub_nil | (apply sub_cons; (· (repeat (first | apply sel_here | apply sel_there)))))); done) : List.Perm _ ([_, _] ++ _)) (by first | exact fun _ h => h | (intro r hr; cases hr; done) | (simp; done) | exact fun _ h => List.mem_append_left _ h | (intro r hr; simp [hr]; done))
def itM5 (sm : Int) : Nat → List ByteArray → List (Int × ByteArray)
  | _, [] => []
  | i, t :: l => (((i : Int) + sm % 2) % 256, cutS t 257) :: itM5 sm (i + 1) l
theorem itM5_app (sm : Int) : ∀ (i : Nat) (a b : List ByteArray), itM5 sm i (a ++ b) = itM5 sm i a ++ itM5 sm (i + a.length) b
  | i, [], b => rfl
  | i, t :: a, b => by
    show _ :: itM5 sm (i + 1) (a ++ b) = _ :: (itM5 sm (i + 1) a ++ itM5 sm (i + (a.length + 1)) b)
    rw [itM5_app sm (i + 1) a b, show i + 1 + a.length = i + (a.length + 1) by omega]
theorem itM5_len (sm : Int) : ∀ (i : Nat) (a : List ByteArray), (itM5 sm i a).length = a.length
  | i, [] => rfl
  | i, t :: a => congrArg (· + 1) (itM5_len sm (i + 1) a)
theorem itM5_take (sm : Int) {tx : List ByteArray} {i : Nat} {t : ByteArray} (h : tx[i]? = some t) : itM5 sm 0 (tx.take (i + 1)) = itM5 sm 0 (tx.take i) ++ [(((i : Int) + sm % 2) % 256, cutS t 257)] := by
  have hi : i < tx.length := by
    rcases Nat.lt_or_ge i tx.length with h1 | h1
    · exact h1
    · rw [List.getElem?_eq_none h1] at h; cases h
  rw [List.take_add_one, h, itM5_app, List.length_take, Nat.min_eq_left (by omega), Nat.zero_add]; rfl
def chM (sm : Int) (tx : List ByteArray) : List (Int × ByteArray) := itM5 sm 0 (tx.take 4)
def tblMc (a : Int) : Nat → List (List It) → Value → List (List It) → Prop := fun k Ls v Ms => match k, Ls with
  | 6, _ => ∃ b, v = .pointer (some ⟨b, 0, none⟩) ∧ Ms = [[.ob b (.cells #[.int .u32 0, .slice none 0 0] 189 (0, 0))]]
  | 7, _ => ∃ b, v = .pointer (some ⟨b, 0, none⟩) ∧ Ms = [[.ob b (.cells #[.int .u32 0, .slice none 0 0] 192 (0, 0))]]
  | 8, [[.ob b _]] => v = undef ∧ Ms = [[.ob b (.cells #[.int .u32 a, .slice none 0 0] 189 (0, 0))]]
  | 9, [[.ob b _]] => v = undef ∧ Ms = [[.ob b (.cells #[.int .u32 a, .slice none 0 0] 192 (0, 0))]]
  | _, _ => False
def tblMd (x : Int) (s : ByteArray) : Nat → List (List It) → Value → List (List It) → Prop := fun k Ls v Ms => match k, Ls with
  | 11, _ => v = .string s ∧ Ms = [[]]
  | 13, _ => ∃ b, v = .pointer (some ⟨b, 0, none⟩) ∧ Ms = [[itB b 0 E0]]
  | 14, [[.ob b _]] => v = undef ∧ Ms = [[itB b x s]]
  | _, _ => False
def tblMe (a : Int) (v1 v2 : Value) : Nat → List (List It) → Value → List (List It) → Prop := fun k Ls v Ms => match k, Ls with
  | 2, [[.ob b _]] => v = undef ∧ Ms = [[.ob b (.cells #[.int .u32 a, v1] 189 (0, 0))]]
  | 3, [[.ob b _]] => v = undef ∧ Ms = [[.ob b (.cells #[.int .u32 a, v2] 192 (0, 0))]]
  | _, _ => False
abbrev cA (b : Nat) (a : Int) (v : Value) : It := .ob b (.cells #[.int .u32 a, v] 189 (0, 0))
abbrev cB (b : Nat) (a : Int) (v : Value) : It := .ob b (.cells #[.int .u32 a, v] 192 (0, 0))
abbrev iOl (ao : Option Addr) (n c : Nat) (l : List (Int × ByteArray)) : It := .own 219 2 ao n c (itmV l)
abbrev jOl (ao : Option Addr) (n c : Nat) (l : List (Int × ByteArray)) : It := .own 220 2 ao n c (itmV l)
theorem iOl_snoc (ao : Option Addr) (n c : Nat) (l : List (Int × ByteArray)) (x : Int × ByteArray) : iOl ao n c (l ++ [x]) = It.own 219 2 ao n c (itmV l ++ [[.int .u8 x.1, .string x.2]]) := by rw [iOl, itmV_snoc]
theorem jOl_snoc (ao : Option Addr) (n c : Nat) (l : List (Int × ByteArray)) (x : Int × ByteArray) : jOl ao n c (l ++ [x]) = It.own 220 2 ao n c (itmV l ++ [[.int .u8 x.1, .string x.2]]) := by rw [jOl, itmV_snoc]
set_option maxHeartbeats 16000000 in
theorem yChunk (so a b wide : Int) (tx : List ByteArray) (vn : Value) (hvn : vn.oneCell' = true) (A : Option Addr) (n c : Nat) (sm ct kd : Int) (R : List Ro) (hS : SQ R 1 A n c (cST tx)) (hsm : 0 ≤ sm ∧ sm ≤ 255) (hn9 : n ≤ 9223372036854775807) :
    Fn Try.prog 71 #[.agg (mdL so a b wide vn (.slice A n c) sm ct kd).toArray] [] R (fun v L' R' => ∃ a1 c1 a2 c2, v = .tuple #[.agg #[.int .u32 a, .slice a1 (chM sm tx).length c1], .agg #[.int .u32 a, .slice a2 (chM sm tx).length c2]] ∧ L' = [iOl a1 (chM sm tx).length c1 (chM sm tx), jOl a2 (chM sm tx).length c2 (chM sm tx)] ∧ R' = []) := by
  have hn : n = tx.length := by rw [← hS.len, cST_len]
  subst hn
  refine fn_intro Try.func71 rfl Try.ntmps71 rfl (fun E => ?_)
  (repeat (first | ((first | (apply wo_v; rfl) ); (· first | (apply pv_ev; rfl) )) | apply wo_nil | apply wc_seq | apply wc_region | (apply wo_box1; rfl; rfl; rfl; intro bx) | (apply wo_boxa; rfl; rfl; intro bx) | (apply wo_alloc; rfl; intro bx) ))
  rename_i bm b2
  obtain ⟨b3, hb3⟩ : ∃ g, g = bx := ⟨_, rfl⟩
  subst hb3
  (refine wc_regM [0, 1] (aslL [(6, [0]), (7, [1]), (8, [0]), (9, [1])]) (tblMc a) ([cB b3 0 (.slice none 0 0), cA b2 0 (.slice none 0 0), mdB bm so a b wide vn (.slice A tx.length c) sm ct kd]) (fm [(0, []), (1, [])]) mixed (by kernel_rfl) (by kernel_rfl) (by decide) (aslL_ok (by decide)) (by (repeat (first | (apply prm_cons; (· (repeat (first | apply sel_here )))) | apply List.Perm.nil )); done) ?_; (repeat (first | (apply HdM.val; rfl; rfl; (· first | apply gok_none ); (· first | (apply pv_ev; rfl) | (apply pv_fld; rfl) | (apply g_load; first | (apply pv_ld; rfl; (· (repeat (first | apply sel_here | apply sel_there))); rfl) ) | (apply g_build; apply pv_build; (· (repeat (first | apply Bld.nil | (apply Bld.one; rfl; rfl; (· (repeat (first | apply SetAt.here )))) )))) )) )))
  (refine hm_eff (cs := [0]) rfl (by decide) rfl rfl (by first | exact gok_none | exact gok_run rfl rfl) (fun a ha => outc_mono (outc_alloc a ha) (fun v M h => Exists.elim h fun b h => ⟨[M], Exists.intro b (And.intro h.1 (congrArg (fun x => [x]) h.2)), rfl, by simp⟩)) (⟨_, _, Exists.intro 0 (And.intro rfl rfl), rfl⟩) ?_; rintro v Ms ⟨b4, rfl, rfl⟩ _; simp only [setls, setl, reduceIte, Nat.reduceEqDiff]; (repeat (first | (apply HdM.val; rfl; rfl; (· first | fail ); (· first | fail )) )))
  (refine hm_eff (cs := [1]) rfl (by decide) rfl rfl (by first | exact gok_none | exact gok_run rfl rfl) (fun a ha => outc_mono (outc_alloc a ha) (fun v M h => Exists.elim h fun b h => ⟨[M], Exists.intro b (And.intro h.1 (congrArg (fun x => [x]) h.2)), rfl, by simp⟩)) (⟨_, _, Exists.intro 0 (And.intro rfl rfl), rfl⟩) ?_; rintro v Ms ⟨b5, rfl, rfl⟩ _; simp only [setls, setl, reduceIte, Nat.reduceEqDiff]; (repeat (first | fail )))
  (refine hm_eff (cs := [0]) rfl (by decide) rfl rfl (by first | exact gok_none | exact gok_run rfl rfl) (fun a ha => outc_mono (outc_sta rfl rfl rfl rfl (by (repeat (first | apply LayAt.nil | apply LayAt.here )); done) a ha) (fun v M h => ⟨[M], And.intro h.1 (congrArg (fun x => [x]) h.2), rfl, by simp⟩)) (⟨_, _, And.intro rfl rfl, rfl⟩) ?_; rintro v Ms ⟨rfl, rfl⟩ _; simp only [setls, setl, reduceIte, Nat.reduceEqDiff]; (repeat (first | fail )))
  (refine hm_eff (cs := [1]) rfl (by decide) rfl rfl (by first | exact gok_none | exact gok_run rfl rfl) (fun a ha => outc_mono (outc_sta rfl rfl rfl rfl (by (repeat (first | apply LayAt.nil | apply LayAt.here )); done) a ha) (fun v M h => ⟨[M], And.intro h.1 (congrArg (fun x => [x]) h.2), rfl, by simp⟩)) (⟨_, _, And.intro rfl rfl, rfl⟩) ?_; rintro v Ms ⟨rfl, rfl⟩ _; simp only [setls, setl, reduceIte, Nat.reduceEqDiff]; (repeat (first | fail )))
  (refine HdM.nil ?_; intro H hH; simp only [Hp, fm, look, setl, List.flatMap_cons, List.flatMap_nil, reduceIte, Nat.reduceEqDiff, Option.getD_some, List.append_nil, List.cons_append, List.nil_append] at hH; subst hH)
  (repeat (first | ((first | (apply wo_v; rfl) ); (· first | (apply pv_ev; rfl) )) | apply wo_nil | apply wc_seq | apply wc_region ))
  refine wc_own0 219 2 ?_
  refine wc_own0 220 2 ?_
  refine wc_join0 (fun st => ∃ (a1 a2 : Option Addr) (c1 c2 : Nat), st = ⟨[(2, .pointer (some ⟨b2, 0, none⟩)), (3, .pointer (some ⟨b3, 0, none⟩)), (4, .pointer (some ⟨b4, 0, none⟩)), (5, .pointer (some ⟨b5, 0, none⟩))], [cA b2 0 (.slice none 0 0), cB b3 0 (.slice none 0 0), cA b4 a (.slice a1 (chM sm tx).length c1), cB b5 a (.slice a2 (chM sm tx).length c2), iOl a1 (chM sm tx).length c1 (chM sm tx), jOl a2 (chM sm tx).length c2 (chM sm tx)], R⟩) ?_ ?_
  · refine wc_block ?_
    refine wc_loop' (fun q st => ∃ (i : Nat) (l : List (Int × ByteArray)) (a1 a2 : Option Addr) (c1 c2 : Nat), q = 4 - i ∧ i ≤ 4 ∧ i ≤ tx.length ∧ l = itM5 sm 0 (tx.take i) ∧ l.length = i ∧ st = ⟨[(1, .pointer (some ⟨bm, 0, none⟩)), (2, .pointer (some ⟨b2, 0, none⟩)), (3, .pointer (some ⟨b3, 0, none⟩)), (4, .pointer (some ⟨b4, 0, none⟩)), (5, .pointer (some ⟨b5, 0, none⟩)), (6, .int .i64 i)], [mdB bm so a b wide vn (.slice A tx.length c) sm ct kd, cA b2 0 (.slice none 0 0), cB b3 0 (.slice none 0 0), cA b4 a (.slice a1 i c1), cB b5 a (.slice a2 i c2), iOl a1 i c1 l, jOl a2 i c2 l], R⟩) ⟨0, [], none, none, 0, 0, rfl, by omega, by omega, rfl, rfl, rfl⟩ (wk_mk (by (repeat (first | apply wkf_nil | (apply wkf_cons; rfl))); done) (by (repeat (first | apply sub_nil | (apply sub_cons; (· (repeat (first | apply sel_here | apply sel_there)))))); done) (by first | exact fun _ h => h | (intro r hr; cases hr; done) | (simp; done) | exact fun _ h => List.mem_append_left _ h | (intro r hr; simp [hr]; done))) ?_
    rintro q st ⟨i, l, a1, a2, c1, c2, rfl, hi, hin, hl, hli, rfl⟩
    by_cases hlt : i < tx.length ∧ i < 4
    · obtain ⟨h1, h2⟩ := hlt
      obtain ⟨s, hx⟩ : ∃ s, tx[i]? = some s := ⟨_, List.getElem?_eq_getElem h1⟩
      have hr := cST_at hx
      have hnx := itM5_take sm hx
      rw [← hl] at hnx
      have q1 := lCut s 257
      have x1 := and8_1 hsm
      rw [← x1] at hnx
      generalize cutS s 257 = s2 at *
      obtain ⟨b0, o0, rfl, hmem⟩ := hS.pos (by omega)
      have hbit : 0 ≤ bits .and .u8 sm 1 ∧ bits .and .u8 sm 1 ≤ 1 := by rw [x1]; omega
      (repeat (first | ((first | (apply wo_v; rfl) ); (· first | (apply pv_ev; rfl) | (apply pv_fld; rfl) | (apply g_load; first | (apply pv_ld; rfl; (· (repeat (first | apply sel_here ))); rfl) ) | (apply g_pick; first | (apply pv_pick_t; rfl; rfl) ) | (apply g_bi; first | (apply pv_len_sl; rfl) ) )) | apply wo_nil | apply wc_seq | apply wc_region | apply wc_skip | (apply wc_true; rfl) | (apply wc_false; rfl) | (apply a_dec_t; rfl; (· first | assumption | omega)) | (apply wo_run; rfl; rfl) | (apply wo_skip; rfl; rfl; rfl; rfl) | (apply wo_skip_u; rfl; rfl; rfl) | (apply a_gt; rfl; rfl; (· first | assumption | omega)) ))
      refine wc_block ?_
      (repeat (first | apply wc_seq ))
      (refine wc_regM [0, 1] (aslL [(11, [1]), (13, [0]), (14, [0])]) (tblMd (i + bits .and .u8 sm 1) s2) ([mdB bm so a b wide vn (.slice (some ⟨b0, o0, none⟩) tx.length c) sm ct kd, cA b2 0 (.slice none 0 0), cB b3 0 (.slice none 0 0), cA b4 a (.slice a1 i c1), cB b5 a (.slice a2 i c2), iOl a1 i c1 l, jOl a2 i c2 l]) (fm [(0, []), (1, [])]) mixed (by kernel_rfl) (by kernel_rfl) (by decide) (aslL_ok (by decide)) (by (repeat (first | (apply prm_cons; (· (repeat (first | apply sel_here )))) | apply List.Perm.nil )); done) ?_; (repeat (first | (apply HdM.val; rfl; rfl; (· first | apply gok_none ); (· first | (apply pv_ev; rfl) | (apply pv_fld; rfl) | (apply g_load; first | (apply pv_ld; rfl; (· (repeat (first | apply sel_here | apply sel_there))); rfl) | (apply pv_ld_ownf; rfl; (· (repeat (first | fail ))); (· assumption); rfl) | (apply pv_ld_own1; rfl; (· (repeat (first | apply sel_there))); (· assumption)) | (apply pv_ld_rof; rfl; (· (first | assumption )); (· assumption); rfl) | (apply pv_ld_ro1; rfl; (· (first | assumption )); (· assumption)) ) | (apply g_bin; first | (apply a_add; rfl; rfl; infer_instance; omega) | (apply pv_and; rfl; rfl) ) | (apply g_conv; first | (apply a_conv; rfl; infer_instance; infer_instance; infer_instance; omega) ) | (apply g_idx; first | (apply pv_idx; rfl; rfl; omega) ) )) )))
      (refine hm_eff (cs := [1]) rfl (by decide) rfl rfl (by first | exact gok_none | exact gok_run rfl rfl) (fun a ha => outc_mono (outc_call (F1 := _) (T := fun v M => v = .string s2 ∧ M = []) (q1) rfl (by (repeat (first | apply sub_nil )); done) (by first | exact fun _ h => h | (intro r hr; cases hr; done) | (simp; done) | exact fun _ h => List.mem_append_left _ h | (intro r hr; simp [hr]; done)) (by rintro v L' R' ⟨rfl, rfl, _⟩; exact ⟨_, ⟨rfl, rfl⟩, (by (repeat (first | (apply prm_cons; (· (repeat (first | apply sel_here )))) | apply List.Perm.nil )); done)⟩) a ha) (fun v M h => ⟨[[]], And.intro h.1 rfl, rfl, h.2⟩)) ⟨_, _, And.intro rfl rfl, rfl⟩ ?_; rintro v Ms ⟨rfl, rfl⟩ _; simp only [setls, setl, reduceIte, Nat.reduceEqDiff]; (repeat (first | (apply HdM.val; rfl; rfl; (· first | apply gok_none ); (· first | (apply pv_ev; rfl) | (apply g_build; apply pv_build; (· (repeat (first | apply Bld.nil | (apply Bld.one; rfl; rfl; (· (repeat (first | apply SetAt.here | apply SetAt.there)))) )))) )) )))
      (refine hm_eff (cs := [0]) rfl (by decide) rfl rfl (by first | exact gok_none | exact gok_run rfl rfl) (fun a ha => outc_mono (outc_alloc a ha) (fun v M h => Exists.elim h fun b h => ⟨[M], Exists.intro b (And.intro h.1 (congrArg (fun x => [x]) h.2)), rfl, by simp⟩)) (⟨_, _, Exists.intro 0 (And.intro rfl rfl), rfl⟩) ?_; rintro v Ms ⟨bi, rfl, rfl⟩ _; simp only [setls, setl, reduceIte, Nat.reduceEqDiff]; (repeat (first | fail )))
      (refine hm_eff (cs := [0]) rfl (by decide) rfl rfl (by first | exact gok_none | exact gok_run rfl rfl) (fun a ha => outc_mono (outc_sta rfl rfl rfl rfl (by (repeat (first | apply LayAt.nil | apply LayAt.here )); done) a ha) (fun v M h => ⟨[M], And.intro h.1 (congrArg (fun x => [x]) h.2), rfl, by simp⟩)) (⟨_, _, And.intro rfl rfl, rfl⟩) ?_; rintro v Ms ⟨rfl, rfl⟩ _; simp only [setls, setl, reduceIte, Nat.reduceEqDiff]; (repeat (first | fail )))
      (refine HdM.nil ?_; intro H hH; simp only [Hp, fm, look, setl, List.flatMap_cons, List.flatMap_nil, reduceIte, Nat.reduceEqDiff, Option.getD_some, List.append_nil, List.cons_append, List.nil_append] at hH; subst hH)
      rw [Int.emod_eq_of_lt (by omega) (by omega)] at hnx
      generalize (i : Int) + bits .and .u8 sm 1 = k at *
      (repeat (first | ((first | (apply wo_v; rfl) ); (· first | (apply pv_ev; rfl) | (apply pv_fld; rfl) | (apply g_load; first | (apply pv_ld; rfl; (· (repeat (first | apply sel_here | apply sel_there))); rfl) | (apply pv_lda; rfl; (· (repeat (first | apply sel_here | apply sel_there))); (· (repeat (first | apply Cut.here0 | apply Cut.here )))) ) | (apply g_bi; first | fail ) )) | apply wc_seq | apply wc_region | (apply wo_bsl; (· (repeat (first | apply Rws'.nil | (apply Rws'.one; rfl; rfl; rfl) | (apply Rws'.agg; rfl; rfl; rfl)))); rfl; rfl; rfl; rfl; intro bx) ))
      refine wo_app (ao := a1) (n := i) (m := 1) rfl rfl (by (repeat (first | apply sel_here | apply sel_there)); done) (by (repeat (first | apply sel_here )); done) (by unfold maxLen; omega) (by omega) rfl (fun a3 c3 => ?_)
      (repeat (first | ((first | (apply wo_v; rfl) ); (· first | (apply pv_ev; rfl) | (apply pv_fld; rfl) | (apply g_load; first | (apply pv_ld; rfl; (· (repeat (first | apply sel_here | apply sel_there))); rfl) | (apply pv_lda; rfl; (· (repeat (first | apply sel_here | apply sel_there))); (· (repeat (first | apply Cut.here0 | apply Cut.here )))) ) | (apply g_bi; first | fail ) )) | apply wo_nil | apply wc_region | (apply wo_st; rfl; rfl; rfl; (· (repeat (first | apply sel_here | apply sel_there))); (· (repeat (first | apply SetAt.here | apply SetAt.there))); rfl) | (apply wo_bsl; (· (repeat (first | apply Rws'.nil | (apply Rws'.one; rfl; rfl; rfl) | (apply Rws'.agg; rfl; rfl; rfl)))); rfl; rfl; rfl; rfl; intro bx) ))
      refine wo_app (ao := a2) (n := i) (m := 1) rfl rfl (by (repeat (first | apply sel_here | apply sel_there)); done) (by (repeat (first | apply sel_here )); done) (by unfold maxLen; omega) (by omega) rfl (fun a4 c4 => ?_)
      (repeat (first | ((first | (apply wo_v; rfl) ); (· first | (apply pv_ev; rfl) | (apply pv_fld; rfl) | (apply g_bin; first | (apply a_add; rfl; rfl; infer_instance; omega) ) )) | apply wo_nil | apply wc_region | (apply wo_st; rfl; rfl; rfl; (· (repeat (first | apply sel_here | apply sel_there))); (· (repeat (first | apply SetAt.here | apply SetAt.there))); rfl) ))
      exact loop_end ⟨i + 1, l ++ [(k, s2)], a3, a4, c3, c4, rfl, by omega, by omega, hnx.symm, by rw [List.length_append, List.length_singleton, hli], by rw [iOl_snoc, jOl_snoc]⟩ (by omega) (wk_mk (by (repeat (first | apply wkf_nil | (apply wkf_cons; rfl))); done) (by (repeat (first | apply sub_nil | (apply sub_cons; (· (repeat (first | apply sel_here | apply sel_there)))))); done) (by first | exact fun _ h => h | (intro r hr; cases hr; done) | (simp; done) | exact fun _ h => List.mem_append_left _ h | (intro r hr; simp [hr]; done)))
    · have hk : l = chM sm tx ∧ i = (chM sm tx).length := by
        have hi2 : i = min 4 tx.length := by omega
        have : l = chM sm tx := by
          rw [hl, hi2]; unfold chM
          congr 1
          rcases Nat.le_total 4 tx.length with h | h
          · rw [Nat.min_eq_left h]
          · rw [Nat.min_eq_right h, List.take_length, List.take_of_length_le h]
        exact ⟨this, by rw [← this, hli]⟩
      obtain ⟨rfl, hi3⟩ := hk
      rw [hi3] at hlt ⊢
      generalize (chM sm tx).length = m at *
      have hc : ¬ m < tx.length ∨ (m < tx.length ∧ ¬ m < 4) := by omega
      rcases hc with h1 | ⟨h1, h2⟩
      all_goals
        (repeat (first | ((first | (apply wo_v; rfl) ); (· first | (apply pv_ev; rfl) | (apply pv_fld; rfl) | (apply g_load; first | (apply pv_ld; rfl; (· (repeat (first | apply sel_here ))); rfl) ) | (apply g_pick; first | (apply pv_pick_t; rfl; rfl) | (apply pv_pick_f; rfl; rfl)) | (apply g_bi; first | (apply pv_len_sl; rfl) ) )) | apply wo_nil | apply wc_seq | apply wc_region | (apply wc_exit; rfl) | (apply wc_true; rfl) | (apply wc_false; rfl) | (apply a_dec_t; rfl; (· first | assumption | omega)) | (apply a_dec_f; rfl; (· first | assumption | omega)) | (apply wo_run; rfl; rfl) | (apply wo_skip; rfl; rfl; rfl; rfl) | (apply wo_skip_u; rfl; rfl; rfl) | (apply a_gt; rfl; rfl; (· first | assumption | omega)) | (apply a_gf; rfl; rfl; (· first | assumption | omega)) ))
        exact cut_end ⟨a1, a2, c1, c2, rfl⟩ (wk_mk (by (repeat (first | apply wkf_nil | (apply wkf_cons; rfl))); done) (by (repeat (first | apply sub_nil | (apply sub_cons; (· (repeat (first | apply sel_here | apply sel_there)))))); done) (by first | exact fun _ h => h | (intro r hr; cases hr; done) | (simp; done) | exact fun _ h => List.mem_append_left _ h | (intro r hr; simp [hr]; done)))
  rintro st ⟨a1, a2, c1, c2, rfl⟩
  generalize hL : chM sm tx = l at *
  (repeat (first | apply wc_seq ))
  (refine wc_regM [0, 1] (aslL [(2, [0]), (3, [1])]) (tblMe a (.slice a1 l.length c1) (.slice a2 l.length c2)) ([cA b4 a (.slice a1 l.length c1), cB b5 a (.slice a2 l.length c2), iOl a1 l.length c1 l, jOl a2 l.length c2 l]) (fm [(0, [cA b2 0 (.slice none 0 0)]), (1, [cB b3 0 (.slice none 0 0)])]) mixed (by kernel_rfl) (by kernel_rfl) (by decide) (aslL_ok (by decide)) (by (repeat (first | (apply prm_cons; (· (repeat (first | apply sel_here | apply sel_there)))) | apply List.Perm.nil )); done) ?_; (repeat (first | (apply HdM.val; rfl; rfl; (· first | apply gok_none ); (· first | (apply pv_ev; rfl) | (apply g_load; first | (apply pv_lda; rfl; (· (repeat (first | apply sel_here | apply sel_there))); (· (repeat (first | apply Cut.here0 | apply Cut.here )))) ) )) )))
  (refine hm_eff (cs := [0]) rfl (by decide) rfl rfl (by first | exact gok_none | exact gok_run rfl rfl) (fun a ha => outc_mono (outc_sta rfl rfl rfl rfl (by (repeat (first | apply LayAt.nil | apply LayAt.here )); done) a ha) (fun v M h => ⟨[M], And.intro h.1 (congrArg (fun x => [x]) h.2), rfl, by simp⟩)) (⟨_, _, And.intro rfl rfl, rfl⟩) ?_; rintro v Ms ⟨rfl, rfl⟩ _; simp only [setls, setl, reduceIte, Nat.reduceEqDiff]; (repeat (first | fail )))
  (refine hm_eff (cs := [1]) rfl (by decide) rfl rfl (by first | exact gok_none | exact gok_run rfl rfl) (fun a ha => outc_mono (outc_sta rfl rfl rfl rfl (by (repeat (first | apply LayAt.nil | apply LayAt.here )); done) a ha) (fun v M h => ⟨[M], And.intro h.1 (congrArg (fun x => [x]) h.2), rfl, by simp⟩)) (⟨_, _, And.intro rfl rfl, rfl⟩) ?_; rintro v Ms ⟨rfl, rfl⟩ _; simp only [setls, setl, reduceIte, Nat.reduceEqDiff]; (repeat (first | fail )))
  (refine HdM.nil ?_; intro H hH; simp only [Hp, fm, look, setl, List.flatMap_cons, List.flatMap_nil, reduceIte, Nat.reduceEqDiff, Option.getD_some, List.append_nil, List.cons_append, List.nil_append] at hH; subst hH)
  (repeat (first | apply wc_ret ))
  exact retv rfl (by (repeat (first | apply RV.nil | (apply RV.agg; rfl; (· (repeat (first | apply sel_here | apply sel_there))); infer_instance; (· (repeat (first | apply Cut.here0 | apply Cut.here )))) )); done) (⟨a1, c1, a2, c2, rfl, rfl, rfl⟩) (by (repeat (first | apply sub_nil | (apply sub_cons; (· (repeat (first | apply sel_here | apply sel_there)))))); done) (by first | exact fun _ h => h | (intro r hr; cases hr; done) | (simp; done) | exact fun _ h => List.mem_append_left _ h | (intro r hr; simp [hr]; done))
end Go.Proofs.Ytnjicnadlhfocaa

/-
  Layer 5's statements: made packets: reports.
-/
namespace Go.Proofs.Ytnjicnadlhfocaa
set_option linter.unusedSimpArgs false
set_option linter.unusedVariables false
open Go.RowKit
attribute [local irreducible] Pv WO WC Fn
set_option maxRecDepth 100000
attribute [local irreducible] ByteArray.extract

abbrev nilS : Value := .slice none 0 0
abbrev rfL (kd ct ss to ntp t pk oc : Int) (bl ch sr : Value) (tx : ByteArray) (ps os : Value) (rt : Int) : List Value := [.int .u8 kd, .int .u8 ct, .int .u32 ss, .int .u32 to, .int .u64 ntp, .int .u32 t, .int .u32 pk, .int .u32 oc, bl, ch, sr, .string tx, ps, os, .int .u64 rt]
abbrev rfA (l : List Value) : Value := .agg l.toArray
abbrev rfO (b : Nat) (l : List Value) : It := .ob b (.cells l.toArray 38 (0, 0))
abbrev rfZ : List Value := rfL 0 0 0 0 0 0 0 0 nilS nilS nilS E0 nilS nilS 0
/-- the document's record of a packet -/
def RefV (R : List Ro) : Pkt → Value → Prop
  | .sender ss ntp t pk oc bl, v => ∃ A n c, v = rfA (rfL 200 bl.length ss 0 ntp t pk oc (.slice A n c) nilS nilS E0 nilS nilS 0) ∧ SQ R 7 A n c (blkV bl)
  | .receiver ss bl, v => ∃ A n c, v = rfA (rfL 201 bl.length ss 0 0 0 0 0 (.slice A n c) nilS nilS E0 nilS nilS 0) ∧ SQ R 7 A n c (blkV bl)
  | .sdes ch, v => ∃ A n c rows, v = rfA (rfL 202 ch.length 0 0 0 0 0 0 nilS (.slice A n c) nilS E0 nilS nilS 0) ∧ SQ R 2 A n c rows ∧ ChsV R ch rows
  | .bye ss rs, v => ∃ A n c, v = rfA (rfL 203 ss.length 0 0 0 0 0 0 nilS nilS (.slice A n c) rs nilS nilS 0) ∧ SQ R 1 A n c (c32 ss)
  | .nack fm to ps, v => ∃ A n c, v = rfA (rfL 205 1 fm to 0 0 0 0 nilS nilS nilS E0 (.slice A n c) nilS 0) ∧ SQ R 2 A n c (pairV ps)
  | .pli fm to, v => v = rfA (rfL 206 1 fm to 0 0 0 0 nilS nilS nilS E0 nilS nilS 0)
  | .fir fm os, v => ∃ A n c, v = rfA (rfL 206 4 fm 0 0 0 0 0 nilS nilS nilS E0 nilS (.slice A n c) 0) ∧ SQ R 2 A n c (ordV os)
  | .remb fm rt ss, v => ∃ A n c, v = rfA (rfL 206 15 fm 0 0 0 0 0 nilS nilS (.slice A n c) E0 nilS nilS rt) ∧ SQ R 1 A n c (c32 ss)
  | .other kd ct bd, v => v = rfA (rfL kd ct 0 0 0 0 0 0 nilS nilS nilS bd nilS nilS 0)
def srt (so : Int) : Int := (bits .and .i64 so 255).tmod 9
def tblRf (row : List Value) : Nat → List (List It) → Value → List (List It) → Prop := fun k Ls v Ms => match Ls with
  | [[.ob b _]] => v = undef ∧ Ms = [[rfO b row]]
  | _ => False
abbrev PkR (R : List Ro) (p : Pkt) (v : Value) (L' : List It) (R' : List Ro) : Prop := ∃ u w, v = .tuple #[u, w] ∧ PkV R' p u ∧ RefV R' p w ∧ L' = []
abbrev RepC (R : List Ro) (row : List Value) (p : Pkt) : Prop := Fn Try.prog 45 #[.agg row.toArray] [] R (PkR R p)
set_option maxHeartbeats 16000000 in
theorem yRep0 (so a b wide : Int) (nums : List Int) (A : Option Addr) (n c : Nat) (vt : Value) (hvt : vt.oneCell' = true) (sm ct kd : Int) (R : List Ro) (hS : SQ R 1 A n c (c32 nums)) (hb : ∀ x ∈ nums, in32 x) (hn9 : n ≤ 9223372036854775807) (ht : (bits .and .i64 so 255).tmod 9 = 0) :
    RepC R (mdL so a b wide (.slice A n c) vt sm ct kd) (.sender a wide b 3 a (bksM sm a b nums)) := by
  have q1 := yBlocks so a b wide nums A n c vt hvt sm ct kd R hS hb hn9
  have hlen : (bksM sm a b nums).length ≤ 33 := by unfold bksM; rw [List.length_map, List.length_take]; omega
  generalize bksM sm a b nums = bl at *
  refine fn_intro Try.func45 rfl Try.ntmps45 rfl (fun E => ?_)
  (repeat (first | ((first | (apply wo_v; rfl) ); (· first | (apply pv_ev; rfl) | (apply g_load; first | (apply pv_lda; rfl; (· (repeat (first | apply sel_here | apply sel_there))); (· (repeat (first | apply Cut.here0 | apply Cut.here )))) ) )) | apply wo_nil | apply wc_seq | apply wc_region | (apply wo_box1; rfl; rfl; rfl; intro bx) | (apply wo_boxa; rfl; rfl; intro bx) | (apply wo_alloc; rfl; intro bx) ))
  (refine wo_call (q1) rfl (by (repeat (first | apply sub_nil )); done) (by first | exact fun _ h => h | (intro r hr; cases hr; done) | (simp; done) | exact fun _ h => List.mem_append_left _ h | (intro r hr; simp [hr]; done)) rfl ?_; rintro v L' R' ⟨a1, c1, a2, c2, rfl, rfl, rfl⟩ H' hH RR hR; simp only [List.cons_append, List.nil_append] at hH hR; subst hH; have hR := hR.symm; subst hR)
  refine wo_still (ao := a1) (n := bl.length) (c := c1) (sz := 7) (by (repeat (first | apply sel_here )); done) (fun R1 hS1 => ?_)
  refine wo_still (ao := a2) (n := bl.length) (c := c2) (sz := 7) (by (repeat (first | apply sel_here )); done) (fun R2 hS2 => ?_)
  rename_i bm
  obtain ⟨b3, hb3⟩ : ∃ g, g = bx := ⟨_, rfl⟩
  subst hb3
  (repeat (first | ((first | (apply wo_v; rfl) ); (· first | (apply pv_ev; rfl) | (apply pv_fld; rfl) | (apply g_load; first | (apply pv_ld; rfl; (· (repeat (first | apply sel_here | apply sel_there))); rfl) ) | (apply g_bin; first | (apply pv_rem; rfl; rfl; omega) | (apply pv_rem_t; rfl; rfl; omega) | (apply pv_and; rfl; rfl) ) )) | apply wo_nil | apply wc_seq | apply wc_region ))
  rw [ht]
  (repeat (first | ((first | (apply wo_v; rfl) ); (· first | (apply pv_ev; rfl) )) | apply wo_nil | apply wc_seq | apply wc_region | apply wc_block | (apply wc_true; rfl) ))
  (refine wc_regM [0] (aslL [(25, [0])]) (tblRf (rfL 200 bl.length a 0 wide b 3 a (.slice a2 bl.length c2) nilS nilS E0 nilS nilS 0)) ([mdB bm so a b wide (.slice A n c) vt sm ct kd]) (fm [(0, [rfO b3 rfZ])]) mixed (by kernel_rfl) (by kernel_rfl) (by decide) (aslL_ok (by decide)) (by (repeat (first | (apply prm_cons; (· (repeat (first | apply sel_here | apply sel_there)))) | apply List.Perm.nil )); done) ?_; (repeat (first | (apply HdM.val; rfl; rfl; (· first | apply gok_none ); (· first | (apply pv_ev; rfl) | (apply pv_fld; rfl) | (apply g_load; first | (apply pv_ld; rfl; (· (repeat (first | apply sel_here ))); rfl) ) | (apply g_bi; first | (apply pv_len_sl; rfl) ) | (apply g_conv; first | (apply a_conv; rfl; infer_instance; infer_instance; infer_instance; omega) ) | (apply g_build; apply pv_build; (· (repeat (first | apply Bld.nil | (apply Bld.one; rfl; rfl; (· (repeat (first | apply SetAt.here | apply SetAt.there)))) )))) | (apply pv_mki; rfl; infer_instance) )) )))
  (refine hm_eff (cs := [0]) rfl (by decide) rfl rfl (by first | exact gok_none | exact gok_run rfl rfl) (fun a ha => outc_mono (outc_sta rfl rfl rfl rfl (by (repeat (first | apply LayAt.nil | apply LayAt.here )); done) a ha) (fun v M h => ⟨[M], And.intro h.1 (congrArg (fun x => [x]) h.2), rfl, by simp⟩)) (⟨_, _, And.intro rfl rfl, rfl⟩) ?_; rintro v Ms ⟨rfl, rfl⟩ _; simp only [setls, setl, reduceIte, Nat.reduceEqDiff]; (repeat (first | fail )))
  (refine HdM.nil ?_; intro H hH; simp only [Hp, fm, look, setl, List.flatMap_cons, List.flatMap_nil, reduceIte, Nat.reduceEqDiff, Option.getD_some, List.append_nil, List.cons_append, List.nil_append] at hH; subst hH)
  (repeat (first | apply wc_ret ))
  exact retv rfl (by (repeat (first | apply RV.nil | (apply RV.tmp; rfl) | (apply RV.agg; rfl; (· (repeat (first | apply sel_here | apply sel_there))); infer_instance; (· (repeat (first | apply Cut.here0 | apply Cut.here )))) )); done) (⟨_, _, rfl, ⟨a1, _, c1, rfl, (hS1.sq).mono (fun r hr => List.mem_append_right _ hr)⟩, ⟨a2, _, c2, rfl, hS2.sq⟩, rfl⟩) (by (repeat (first | apply sub_nil )); done) (by first | exact fun _ h => h | (intro r hr; cases hr; done) | (simp; done) | exact fun _ h => List.mem_append_left _ h | (intro r hr; simp [hr]; done))
set_option maxHeartbeats 16000000 in
theorem yRep1 (so a b wide : Int) (nums : List Int) (A : Option Addr) (n c : Nat) (vt : Value) (hvt : vt.oneCell' = true) (sm ct kd : Int) (R : List Ro) (hS : SQ R 1 A n c (c32 nums)) (hb : ∀ x ∈ nums, in32 x) (hn9 : n ≤ 9223372036854775807) (ht : (bits .and .i64 so 255).tmod 9 = 1) :
    RepC R (mdL so a b wide (.slice A n c) vt sm ct kd) (.receiver a (bksM sm a b nums)) := by
  have q1 := yBlocks so a b wide nums A n c vt hvt sm ct kd R hS hb hn9
  have hlen : (bksM sm a b nums).length ≤ 33 := by unfold bksM; rw [List.length_map, List.length_take]; omega
  generalize bksM sm a b nums = bl at *
  refine fn_intro Try.func45 rfl Try.ntmps45 rfl (fun E => ?_)
  (repeat (first | ((first | (apply wo_v; rfl) ); (· first | (apply pv_ev; rfl) | (apply g_load; first | (apply pv_lda; rfl; (· (repeat (first | apply sel_here | apply sel_there))); (· (repeat (first | apply Cut.here0 | apply Cut.here )))) ) )) | apply wo_nil | apply wc_seq | apply wc_region | (apply wo_box1; rfl; rfl; rfl; intro bx) | (apply wo_boxa; rfl; rfl; intro bx) | (apply wo_alloc; rfl; intro bx) ))
  (refine wo_call (q1) rfl (by (repeat (first | apply sub_nil )); done) (by first | exact fun _ h => h | (intro r hr; cases hr; done) | (simp; done) | exact fun _ h => List.mem_append_left _ h | (intro r hr; simp [hr]; done)) rfl ?_; rintro v L' R' ⟨a1, c1, a2, c2, rfl, rfl, rfl⟩ H' hH RR hR; simp only [List.cons_append, List.nil_append] at hH hR; subst hH; have hR := hR.symm; subst hR)
  refine wo_still (ao := a1) (n := bl.length) (c := c1) (sz := 7) (by (repeat (first | apply sel_here )); done) (fun R1 hS1 => ?_)
  refine wo_still (ao := a2) (n := bl.length) (c := c2) (sz := 7) (by (repeat (first | apply sel_here )); done) (fun R2 hS2 => ?_)
  rename_i bm
  obtain ⟨b3, hb3⟩ : ∃ g, g = bx := ⟨_, rfl⟩
  subst hb3
  (repeat (first | ((first | (apply wo_v; rfl) ); (· first | (apply pv_ev; rfl) | (apply pv_fld; rfl) | (apply g_load; first | (apply pv_ld; rfl; (· (repeat (first | apply sel_here | apply sel_there))); rfl) ) | (apply g_bin; first | (apply pv_rem; rfl; rfl; omega) | (apply pv_rem_t; rfl; rfl; omega) | (apply pv_and; rfl; rfl) ) )) | apply wo_nil | apply wc_seq | apply wc_region ))
  rw [ht]
  (repeat (first | ((first | (apply wo_v; rfl) ); (· first | (apply pv_ev; rfl) )) | apply wo_nil | apply wc_seq | apply wc_region | apply wc_block | (apply wc_true; rfl) | (apply wc_false; rfl) ))
  (refine wc_regM [0] (aslL [(13, [0])]) (tblRf (rfL 201 bl.length a 0 0 0 0 0 (.slice a2 bl.length c2) nilS nilS E0 nilS nilS 0)) ([mdB bm so a b wide (.slice A n c) vt sm ct kd]) (fm [(0, [rfO b3 rfZ])]) mixed (by kernel_rfl) (by kernel_rfl) (by decide) (aslL_ok (by decide)) (by (repeat (first | (apply prm_cons; (· (repeat (first | apply sel_here | apply sel_there)))) | apply List.Perm.nil )); done) ?_; (repeat (first | (apply HdM.val; rfl; rfl; (· first | apply gok_none ); (· first | (apply pv_ev; rfl) | (apply pv_fld; rfl) | (apply g_load; first | (apply pv_ld; rfl; (· (repeat (first | apply sel_here ))); rfl) ) | (apply g_bi; first | (apply pv_len_sl; rfl) ) | (apply g_conv; first | (apply a_conv; rfl; infer_instance; infer_instance; infer_instance; omega) ) | (apply g_build; apply pv_build; (· (repeat (first | apply Bld.nil | (apply Bld.one; rfl; rfl; (· (repeat (first | apply SetAt.here | apply SetAt.there)))) )))) | (apply pv_mki; rfl; infer_instance) )) )))
  (refine hm_eff (cs := [0]) rfl (by decide) rfl rfl (by first | exact gok_none | exact gok_run rfl rfl) (fun a ha => outc_mono (outc_sta rfl rfl rfl rfl (by (repeat (first | apply LayAt.nil | apply LayAt.here )); done) a ha) (fun v M h => ⟨[M], And.intro h.1 (congrArg (fun x => [x]) h.2), rfl, by simp⟩)) (⟨_, _, And.intro rfl rfl, rfl⟩) ?_; rintro v Ms ⟨rfl, rfl⟩ _; simp only [setls, setl, reduceIte, Nat.reduceEqDiff]; (repeat (first | fail )))
  (refine HdM.nil ?_; intro H hH; simp only [Hp, fm, look, setl, List.flatMap_cons, List.flatMap_nil, reduceIte, Nat.reduceEqDiff, Option.getD_some, List.append_nil, List.cons_append, List.nil_append] at hH; subst hH)
  (repeat (first | apply wc_ret ))
  exact retv rfl (by (repeat (first | apply RV.nil | (apply RV.tmp; rfl) | (apply RV.agg; rfl; (· (repeat (first | apply sel_here | apply sel_there))); infer_instance; (· (repeat (first | apply Cut.here0 | apply Cut.here )))) )); done) (⟨_, _, rfl, ⟨a1, _, c1, rfl, (hS1.sq).mono (fun r hr => List.mem_append_right _ hr)⟩, ⟨a2, _, c2, rfl, hS2.sq⟩, rfl⟩) (by (repeat (first | apply sub_nil )); done) (by first | exact fun _ h => h | (intro r hr; cases hr; done) | (simp; done) | exact fun _ h => List.mem_append_left _ h | (intro r hr; simp [hr]; done))
def tblR2 (v1 v2 : List Value) : Nat → List (List It) → Value → List (List It) → Prop := fun k Ls v Ms => match k, Ls with
  | 2, _ => ∃ b, v = .slice (some ⟨b, 0, none⟩) 2 2 ∧ Ms = [[.own 189 2 (some ⟨b, 0, none⟩) 2 2 [v1, v1]]]
  | 7, _ => ∃ b, v = .slice (some ⟨b, 0, none⟩) 2 2 ∧ Ms = [[.own 192 2 (some ⟨b, 0, none⟩) 2 2 [v2, v2]]]
  | 10, [[.own T2 sz ao n2 c2 xs], [.ob b _]] => v = undef ∧ Ms = [[.own T2 sz ao n2 c2 xs], [rfO b (rfL 202 2 0 0 0 0 0 0 nilS (.slice ao n2 c2) nilS E0 nilS nilS 0)]]
  | _, _ => False
abbrev ckR (b : Nat) (v : List Value) : It := .own 192 2 (some ⟨b, 0, none⟩) 2 2 [v, v]
set_option maxHeartbeats 16000000 in
theorem yRep2 (so aa b wide : Int) (nums : List Int) (tx : List ByteArray) (A : Option Addr) (n c : Nat) (A2 : Option Addr) (n2 c2 : Nat) (sm ct kd : Int) (R : List Ro) (hS : SQ R 1 A n c (c32 nums)) (hb : ∀ x ∈ nums, in32 x) (hn9 : n ≤ 9223372036854775807) (hT : SQ R 1 A2 n2 c2 (cST tx)) (hn9t : n2 ≤ 9223372036854775807) (hsm : in8 sm) (ht : (bits .and .i64 so 255).tmod 9 = 2) :
    RepC R (mdL so aa b wide (.slice A n c) (.slice A2 n2 c2) sm ct kd) (.sdes [(aa, chM sm tx), (aa, chM sm tx)]) := by
  have q1 := yBlocks so aa b wide nums A n c (.slice A2 n2 c2) rfl sm ct kd R hS hb hn9
  have q2 := fun R' hT => yChunk so aa b wide tx (.slice A n c) rfl A2 n2 c2 sm ct kd R' hT hsm hn9t
  generalize bksM sm aa b nums = bl at *
  generalize chM sm tx = l at *
  refine fn_intro Try.func45 rfl Try.ntmps45 rfl (fun E => ?_)
  (repeat (first | ((first | (apply wo_v; rfl) ); (· first | (apply pv_ev; rfl) | (apply g_load; first | (apply pv_lda; rfl; (· (repeat (first | apply sel_here | apply sel_there))); (· (repeat (first | apply Cut.here0 | apply Cut.here )))) ) )) | apply wo_nil | apply wc_seq | apply wc_region | (apply wo_box1; rfl; rfl; rfl; intro bx) | (apply wo_boxa; rfl; rfl; intro bx) | (apply wo_alloc; rfl; intro bx) ))
  (refine wo_call (q1) rfl (by (repeat (first | apply sub_nil )); done) (by first | exact fun _ h => h | (intro r hr; cases hr; done) | (simp; done) | exact fun _ h => List.mem_append_left _ h | (intro r hr; simp [hr]; done)) rfl ?_; rintro v L' R' ⟨a1, c1, a3, c3, rfl, rfl, rfl⟩ H' hH RR hR; simp only [List.cons_append, List.nil_append] at hH hR; subst hH; have hR := hR.symm; subst hR)
  rename_i bm
  obtain ⟨b3, hb3⟩ : ∃ g, g = bx := ⟨_, rfl⟩
  subst hb3
  (repeat (first | ((first | (apply wo_v; rfl) ); (· first | (apply pv_ev; rfl) | (apply pv_fld; rfl) | (apply g_load; first | (apply pv_ld; rfl; (· (repeat (first | apply sel_here | apply sel_there))); rfl) ) | (apply g_bin; first | (apply pv_rem; rfl; rfl; omega) | (apply pv_rem_t; rfl; rfl; omega) | (apply pv_and; rfl; rfl) ) )) | apply wo_nil | apply wc_seq | apply wc_region ))
  rw [ht]
  (repeat (first | ((first | (apply wo_v; rfl) ); (· first | (apply pv_ev; rfl) | (apply g_load; first | (apply pv_lda; rfl; (· (repeat (first | apply sel_here | apply sel_there))); (· (repeat (first | apply Cut.here0 | apply Cut.here )))) ) )) | apply wo_nil | apply wc_seq | apply wc_region | apply wc_block | (apply wc_true; rfl) | (apply wc_false; rfl) ))
  (refine wo_call (q2 _ hT) rfl (by (repeat (first | apply sub_nil )); done) (by first | exact fun _ h => h | (intro r hr; cases hr; done) | (simp; done) | exact fun _ h => List.mem_append_left _ h | (intro r hr; simp [hr]; done)) rfl ?_; rintro v L' R' ⟨i1, d1, i2, d2, rfl, rfl, rfl⟩ H' hH RR hR; simp only [List.cons_append, List.nil_append] at hH hR; subst hH; have hR := hR.symm; subst hR)
  refine wo_still (ao := i1) (n := l.length) (c := d1) (sz := 2) (by (repeat (first | apply sel_here )); done) (fun R1 hS1 => ?_)
  refine wo_still (ao := i2) (n := l.length) (c := d2) (sz := 2) (by (repeat (first | apply sel_here )); done) (fun R2 hS2 => ?_)
  (repeat (first | ((first | (apply wo_v; rfl) ); (· first | (apply pv_ev; rfl) )) | apply wo_nil | apply wc_seq | (apply wo_alloc; rfl; intro bx) | (apply wo_sta; rfl; rfl; rfl; rfl; (· (repeat (first | apply sel_here | apply sel_there))); (· (repeat (first | apply LayAt.nil | apply LayAt.here ))); rfl) ))
  rename_i b6
  obtain ⟨b7, hb7⟩ : ∃ g, g = bx := ⟨_, rfl⟩
  subst hb7
  (refine wc_regM [0, 1, 2] (aslL [(2, [1]), (7, [2]), (10, [2, 0])]) (tblR2 [.int .u32 aa, .slice i1 l.length d1] [.int .u32 aa, .slice i2 l.length d2]) ([cA b6 aa (.slice i1 l.length d1), cB b7 aa (.slice i2 l.length d2), mdB bm so aa b wide (.slice A n c) (.slice A2 n2 c2) sm ct kd, bkOl a1 bl.length c1 bl, rkOl a3 bl.length c3 bl]) (fm [(0, [rfO b3 rfZ]), (1, []), (2, [])]) mixed (by kernel_rfl) (by kernel_rfl) (by decide) (aslL_ok (by decide)) (by (repeat (first | (apply prm_cons; (· (repeat (first | apply sel_here | apply sel_there)))) | apply List.Perm.nil )); done) ?_; (repeat (first | (apply HdM.val; rfl; rfl; (· first | apply gok_none ); (· first | (apply pv_ev; rfl) | (apply g_load; first | (apply pv_lda; rfl; (· (repeat (first | apply sel_here ))); (· (repeat (first | apply Cut.here0 | apply Cut.here )))) ) )) )))
  (refine hm_eff (cs := [1]) rfl (by decide) rfl rfl (by first | exact gok_none | exact gok_run rfl rfl) (fun a ha => outc_mono (outc_bsl (by (repeat (first | apply Rws'.nil | (apply Rws'.agg; rfl; rfl; rfl))); done) rfl rfl rfl a ha) (fun v M h => Exists.elim h fun b h => ⟨[M], Exists.intro b (And.intro h.1 (congrArg (fun x => [x]) h.2)), rfl, by simp⟩)) (⟨_, _, Exists.intro 0 (And.intro rfl rfl), rfl⟩) ?_; rintro v Ms ⟨b8, rfl, rfl⟩ _; simp only [setls, setl, reduceIte, Nat.reduceEqDiff]; (repeat (first | (apply HdM.val; rfl; rfl; (· first | apply gok_none ); (· first | (apply pv_ev; rfl) | (apply g_load; first | (apply pv_lda; rfl; (· (repeat (first | apply sel_here | apply sel_there))); (· (repeat (first | apply Cut.here0 | apply Cut.here )))) ) | (apply g_build; apply pv_build; (· (repeat (first | apply Bld.nil | (apply Bld.one; rfl; rfl; (· (repeat (first | apply SetAt.here )))) )))) | (apply pv_mki; rfl; infer_instance) )) )))
  (refine hm_eff (cs := [2]) rfl (by decide) rfl rfl (by first | exact gok_none | exact gok_run rfl rfl) (fun a ha => outc_mono (outc_bsl (by (repeat (first | apply Rws'.nil | (apply Rws'.agg; rfl; rfl; rfl))); done) rfl rfl rfl a ha) (fun v M h => Exists.elim h fun b h => ⟨[M], Exists.intro b (And.intro h.1 (congrArg (fun x => [x]) h.2)), rfl, by simp⟩)) (⟨_, _, Exists.intro 0 (And.intro rfl rfl), rfl⟩) ?_; rintro v Ms ⟨b9, rfl, rfl⟩ _; simp only [setls, setl, reduceIte, Nat.reduceEqDiff]; (repeat (first | (apply HdM.val; rfl; rfl; (· first | apply gok_none ); (· first | (apply pv_ev; rfl) | (apply g_build; apply pv_build; (· (repeat (first | apply Bld.nil | (apply Bld.one; rfl; rfl; (· (repeat (first | apply SetAt.here | apply SetAt.there)))) )))) )) )))
  (refine hm_eff (cs := [2, 0]) rfl (by decide) rfl rfl (by first | exact gok_none | exact gok_run rfl rfl) (fun a ha => outc_mono (outc_frA (X := [ckR b9 [.int .u32 aa, .slice i2 l.length d2]]) (L := [rfO b3 rfZ]) (outc_sta rfl rfl rfl rfl (by (repeat (first | apply LayAt.nil | apply LayAt.here )); done)) a ha) (fun v M h => by obtain ⟨M0, ⟨h1, h2⟩, h3⟩ := h; exact ⟨[[_], [_]], ⟨h1, rfl⟩, rfl, by rw [h3, h2]; rfl⟩)) (⟨_, _, And.intro rfl rfl, rfl⟩) ?_; rintro v Ms ⟨rfl, rfl⟩ _; simp only [setls, setl, reduceIte, Nat.reduceEqDiff]; (repeat (first | fail )))
  (refine HdM.nil ?_; intro H hH; simp only [Hp, fm, look, setl, List.flatMap_cons, List.flatMap_nil, reduceIte, Nat.reduceEqDiff, Option.getD_some, List.append_nil, List.cons_append, List.nil_append] at hH; subst hH)
  refine wc_still (ao := some ⟨b8, 0, none⟩) (n := 2) (c := 2) (sz := 2) (by (repeat (first | apply sel_here | apply sel_there)); done) (fun R3 hS3 => ?_)
  refine wc_still (ao := some ⟨b9, 0, none⟩) (n := 2) (c := 2) (sz := 2) (by (repeat (first | apply sel_here | apply sel_there)); done) (fun R4 hS4 => ?_)
  have g1 := hS1.sq.mono (R' := R4 ++ (R3 ++ (R2 ++ (R1 ++ R)))) (fun r hr => List.mem_append_right _ (List.mem_append_right _ (List.mem_append_right _ hr)))
  have g2 := hS2.sq.mono (R' := R4 ++ (R3 ++ (R2 ++ (R1 ++ R)))) (fun r hr => List.mem_append_right _ (List.mem_append_right _ hr))
  have g3 := hS3.sq.mono (R' := R4 ++ (R3 ++ (R2 ++ (R1 ++ R)))) (fun r hr => List.mem_append_right _ hr)
  have v1 := ((ChsV.nil _).snoc (x := (aa, l)) ⟨i1, _, d1, rfl, g1⟩).snoc (x := (aa, l)) ⟨i1, _, d1, rfl, g1⟩
  have v2 := ((ChsV.nil _).snoc (x := (aa, l)) ⟨i2, _, d2, rfl, g2⟩).snoc (x := (aa, l)) ⟨i2, _, d2, rfl, g2⟩
  (repeat (first | apply wc_ret ))
  exact retv rfl (by (repeat (first | apply RV.nil | (apply RV.tmp; rfl) | (apply RV.agg; rfl; (· (repeat (first | apply sel_here | apply sel_there))); infer_instance; (· (repeat (first | apply Cut.here0 | apply Cut.here )))) )); done) (⟨_, _, rfl, ⟨_, _, _, _, rfl, g3, v1⟩, ⟨_, _, _, _, rfl, hS4.sq, v2⟩, rfl⟩) (by (repeat (first | apply sub_nil )); done) (by first | exact fun _ h => h | (intro r hr; cases hr; done) | (simp; done) | exact fun _ h => List.mem_append_left _ h | (intro r hr; simp [hr]; done))
def tblR3 (vs : Value) (tx : ByteArray) (row : List Value) : Nat → List (List It) → Value → List (List It) → Prop := fun k Ls v Ms => match k, Ls with
  | 1, _ => v = vs ∧ Ms = [[]]
  | 3, _ => v = .string tx ∧ Ms = [[]]
  | 7, _ => v = vs ∧ Ms = [[]]
  | 11, _ => v = vs ∧ Ms = [[]]
  | 13, _ => v = .string tx ∧ Ms = [[]]
  | 16, [[.ob b _]] => v = undef ∧ Ms = [[rfO b row]]
  | _, _ => False
set_option maxHeartbeats 16000000 in
theorem yRep3 (so aa b wide : Int) (nums : List Int) (tx : List ByteArray) (A : Option Addr) (n c : Nat) (A2 : Option Addr) (n2 c2 : Nat) (sm ct kd : Int) (R : List Ro) (hS : SQ R 1 A n c (c32 nums)) (hb : ∀ x ∈ nums, in32 x) (hn9 : n ≤ 9223372036854775807) (hc : n ≤ c) (hS40 : SQ R 1 A (min n 40) c (c32 (nums.take 40))) (hT : SQ R 1 A2 n2 c2 (cST tx)) (h0 : (bits .and .i64 so 255).tmod 9 ≠ 0) (h1 : (bits .and .i64 so 255).tmod 9 ≠ 1) (h2 : (bits .and .i64 so 255).tmod 9 ≠ 2) :
    RepC R (mdL so aa b wide (.slice A n c) (.slice A2 n2 c2) sm ct kd) (.bye (nums.take 40) (fsM tx 257)) := by
  have q1 := yBlocks so aa b wide nums A n c (.slice A2 n2 c2) rfl sm ct kd R hS hb hn9
  have q2 := ySsrcs so aa b wide nums A n c (.slice A2 n2 c2) rfl sm ct kd R hS hc hn9
  have q3 := yFirst so aa b wide tx (.slice A n c) rfl A2 n2 c2 sm ct kd 257 R hT
  have hk : min n 40 = (nums.take 40).length := by rw [← hS40.len, c32_len]
  have hk2 : (nums.take 40).length ≤ 40 := by rw [List.length_take]; omega
  rw [hk] at q2 hS40
  generalize bksM sm aa b nums = bl at *
  generalize fsM tx 257 = tf at *
  generalize nums.take 40 = ss at *
  refine fn_intro Try.func45 rfl Try.ntmps45 rfl (fun E => ?_)
  (repeat (first | ((first | (apply wo_v; rfl) ); (· first | (apply pv_ev; rfl) | (apply g_load; first | (apply pv_lda; rfl; (· (repeat (first | apply sel_here | apply sel_there))); (· (repeat (first | apply Cut.here0 | apply Cut.here )))) ) )) | apply wo_nil | apply wc_seq | apply wc_region | (apply wo_box1; rfl; rfl; rfl; intro bx) | (apply wo_boxa; rfl; rfl; intro bx) | (apply wo_alloc; rfl; intro bx) ))
  (refine wo_call (q1) rfl (by (repeat (first | apply sub_nil )); done) (by first | exact fun _ h => h | (intro r hr; cases hr; done) | (simp; done) | exact fun _ h => List.mem_append_left _ h | (intro r hr; simp [hr]; done)) rfl ?_; rintro v L' R' ⟨a1, c1, a3, c3, rfl, rfl, rfl⟩ H' hH RR hR; simp only [List.cons_append, List.nil_append] at hH hR; subst hH; have hR := hR.symm; subst hR)
  rename_i bm
  obtain ⟨b3, hb3⟩ : ∃ g, g = bx := ⟨_, rfl⟩
  subst hb3
  (repeat (first | ((first | (apply wo_v; rfl) ); (· first | (apply pv_ev; rfl) | (apply pv_fld; rfl) | (apply g_load; first | (apply pv_ld; rfl; (· (repeat (first | apply sel_here | apply sel_there))); rfl) ) | (apply g_bin; first | (apply pv_rem; rfl; rfl; omega) | (apply pv_rem_t; rfl; rfl; omega) | (apply pv_and; rfl; rfl) ) )) | apply wo_nil | apply wc_seq | apply wc_region | apply wc_block | apply wc_skip | (apply wc_true; rfl) | (apply wc_false; rfl) | (apply a_dec_t; rfl; (· first | assumption | omega)) | (apply a_dec_f; rfl; (· first | assumption | omega)) ))
  (refine wc_regM [0, 1] (aslL [(1, [1]), (3, [1]), (7, [1]), (11, [1]), (13, [1]), (16, [0])]) (tblR3 (.slice A ss.length c) tf (rfL 203 ss.length 0 0 0 0 0 0 nilS nilS (.slice A ss.length c) tf nilS nilS 0)) ([mdB bm so aa b wide (.slice A n c) (.slice A2 n2 c2) sm ct kd, bkOl a1 bl.length c1 bl, rkOl a3 bl.length c3 bl]) (fm [(0, [rfO b3 rfZ]), (1, [])]) mixed (by kernel_rfl) (by kernel_rfl) (by decide) (aslL_ok (by decide)) (by (repeat (first | (apply prm_cons; (· (repeat (first | apply sel_here | apply sel_there)))) | apply List.Perm.nil )); done) ?_; (repeat (first | (apply HdM.val; rfl; rfl; (· first | apply gok_none ); (· first | (apply pv_ev; rfl) | (apply g_load; first | (apply pv_lda; rfl; (· (repeat (first | apply sel_here ))); (· (repeat (first | apply Cut.here0 | apply Cut.here )))) ) )) )))
  (refine hm_eff (cs := [1]) rfl (by decide) rfl rfl (by first | exact gok_none | exact gok_run rfl rfl) (fun a ha => outc_mono (outc_call (F1 := _) (T := fun v M => v = .slice A ss.length c ∧ M = []) (q2) rfl (by (repeat (first | apply sub_nil )); done) (by first | exact fun _ h => h | (intro r hr; cases hr; done) | (simp; done) | exact fun _ h => List.mem_append_left _ h | (intro r hr; simp [hr]; done)) (by rintro v L' R' ⟨rfl, rfl, _⟩; exact ⟨_, ⟨rfl, rfl⟩, (by (repeat (first | (apply prm_cons; (· (repeat (first | apply sel_here )))) | apply List.Perm.nil )); done)⟩) a ha) (fun v M h => ⟨[[]], And.intro h.1 rfl, rfl, h.2⟩)) ⟨_, _, And.intro rfl rfl, rfl⟩ ?_; rintro v Ms ⟨rfl, rfl⟩ _; simp only [setls, setl, reduceIte, Nat.reduceEqDiff]; (repeat (first | (apply HdM.val; rfl; rfl; (· first | apply gok_none ); (· first | (apply pv_ev; rfl) | (apply g_load; first | (apply pv_lda; rfl; (· (repeat (first | apply sel_here ))); (· (repeat (first | apply Cut.here0 | apply Cut.here )))) ) )) )))
  (refine hm_eff (cs := [1]) rfl (by decide) rfl rfl (by first | exact gok_none | exact gok_run rfl rfl) (fun a ha => outc_mono (outc_call (F1 := _) (T := fun v M => v = .string tf ∧ M = []) (q3) rfl (by (repeat (first | apply sub_nil )); done) (by first | exact fun _ h => h | (intro r hr; cases hr; done) | (simp; done) | exact fun _ h => List.mem_append_left _ h | (intro r hr; simp [hr]; done)) (by rintro v L' R' ⟨rfl, rfl, _⟩; exact ⟨_, ⟨rfl, rfl⟩, (by (repeat (first | (apply prm_cons; (· (repeat (first | apply sel_here )))) | apply List.Perm.nil )); done)⟩) a ha) (fun v M h => ⟨[[]], And.intro h.1 rfl, rfl, h.2⟩)) ⟨_, _, And.intro rfl rfl, rfl⟩ ?_; rintro v Ms ⟨rfl, rfl⟩ _; simp only [setls, setl, reduceIte, Nat.reduceEqDiff]; (repeat (first | (apply HdM.val; rfl; rfl; (· first | apply gok_none ); (· first | (apply pv_ev; rfl) | (apply g_load; first | (apply pv_lda; rfl; (· (repeat (first | apply sel_here ))); (· (repeat (first | apply Cut.here0 | apply Cut.here )))) ) | (apply g_build; apply pv_build; (· (repeat (first | apply Bld.nil | (apply Bld.one; rfl; rfl; (· (repeat (first | apply SetAt.here | apply SetAt.there)))) )))) | (apply pv_mki; rfl; infer_instance) )) )))
  (refine hm_eff (cs := [1]) rfl (by decide) rfl rfl (by first | exact gok_none | exact gok_run rfl rfl) (fun a ha => outc_mono (outc_call (F1 := _) (T := fun v M => v = .slice A ss.length c ∧ M = []) (q2) rfl (by (repeat (first | apply sub_nil )); done) (by first | exact fun _ h => h | (intro r hr; cases hr; done) | (simp; done) | exact fun _ h => List.mem_append_left _ h | (intro r hr; simp [hr]; done)) (by rintro v L' R' ⟨rfl, rfl, _⟩; exact ⟨_, ⟨rfl, rfl⟩, (by (repeat (first | (apply prm_cons; (· (repeat (first | apply sel_here )))) | apply List.Perm.nil )); done)⟩) a ha) (fun v M h => ⟨[[]], And.intro h.1 rfl, rfl, h.2⟩)) ⟨_, _, And.intro rfl rfl, rfl⟩ ?_; rintro v Ms ⟨rfl, rfl⟩ _; simp only [setls, setl, reduceIte, Nat.reduceEqDiff]; (repeat (first | (apply HdM.val; rfl; rfl; (· first | apply gok_none ); (· first | (apply pv_ev; rfl) | (apply g_load; first | (apply pv_lda; rfl; (· (repeat (first | apply sel_here ))); (· (repeat (first | apply Cut.here0 | apply Cut.here )))) ) | (apply g_bi; first | (apply pv_len_sl; rfl) ) | (apply g_conv; first | (apply a_conv; rfl; infer_instance; infer_instance; infer_instance; omega) ) )) )))
  (refine hm_eff (cs := [1]) rfl (by decide) rfl rfl (by first | exact gok_none | exact gok_run rfl rfl) (fun a ha => outc_mono (outc_call (F1 := _) (T := fun v M => v = .slice A ss.length c ∧ M = []) (q2) rfl (by (repeat (first | apply sub_nil )); done) (by first | exact fun _ h => h | (intro r hr; cases hr; done) | (simp; done) | exact fun _ h => List.mem_append_left _ h | (intro r hr; simp [hr]; done)) (by rintro v L' R' ⟨rfl, rfl, _⟩; exact ⟨_, ⟨rfl, rfl⟩, (by (repeat (first | (apply prm_cons; (· (repeat (first | apply sel_here )))) | apply List.Perm.nil )); done)⟩) a ha) (fun v M h => ⟨[[]], And.intro h.1 rfl, rfl, h.2⟩)) ⟨_, _, And.intro rfl rfl, rfl⟩ ?_; rintro v Ms ⟨rfl, rfl⟩ _; simp only [setls, setl, reduceIte, Nat.reduceEqDiff]; (repeat (first | (apply HdM.val; rfl; rfl; (· first | apply gok_none ); (· first | (apply pv_ev; rfl) | (apply g_load; first | (apply pv_lda; rfl; (· (repeat (first | apply sel_here ))); (· (repeat (first | apply Cut.here0 | apply Cut.here )))) ) )) )))
  (refine hm_eff (cs := [1]) rfl (by decide) rfl rfl (by first | exact gok_none | exact gok_run rfl rfl) (fun a ha => outc_mono (outc_call (F1 := _) (T := fun v M => v = .string tf ∧ M = []) (q3) rfl (by (repeat (first | apply sub_nil )); done) (by first | exact fun _ h => h | (intro r hr; cases hr; done) | (simp; done) | exact fun _ h => List.mem_append_left _ h | (intro r hr; simp [hr]; done)) (by rintro v L' R' ⟨rfl, rfl, _⟩; exact ⟨_, ⟨rfl, rfl⟩, (by (repeat (first | (apply prm_cons; (· (repeat (first | apply sel_here )))) | apply List.Perm.nil )); done)⟩) a ha) (fun v M h => ⟨[[]], And.intro h.1 rfl, rfl, h.2⟩)) ⟨_, _, And.intro rfl rfl, rfl⟩ ?_; rintro v Ms ⟨rfl, rfl⟩ _; simp only [setls, setl, reduceIte, Nat.reduceEqDiff]; (repeat (first | (apply HdM.val; rfl; rfl; (· first | apply gok_none ); (· first | (apply pv_ev; rfl) | (apply g_build; apply pv_build; (· (repeat (first | apply Bld.nil | (apply Bld.one; rfl; rfl; (· (repeat (first | apply SetAt.here | apply SetAt.there)))) )))) )) )))
  (refine hm_eff (cs := [0]) rfl (by decide) rfl rfl (by first | exact gok_none | exact gok_run rfl rfl) (fun a ha => outc_mono (outc_sta rfl rfl rfl rfl (by (repeat (first | apply LayAt.nil | apply LayAt.here )); done) a ha) (fun v M h => ⟨[M], And.intro h.1 (congrArg (fun x => [x]) h.2), rfl, by simp⟩)) (⟨_, _, And.intro rfl rfl, rfl⟩) ?_; rintro v Ms ⟨rfl, rfl⟩ _; simp only [setls, setl, reduceIte, Nat.reduceEqDiff]; (repeat (first | fail )))
  (refine HdM.nil ?_; intro H hH; simp only [Hp, fm, look, setl, List.flatMap_cons, List.flatMap_nil, reduceIte, Nat.reduceEqDiff, Option.getD_some, List.append_nil, List.cons_append, List.nil_append] at hH; subst hH)
  (repeat (first | apply wc_ret ))
  exact retv rfl (by (repeat (first | apply RV.nil | (apply RV.tmp; rfl) | (apply RV.agg; rfl; (· (repeat (first | apply sel_here | apply sel_there))); infer_instance; (· (repeat (first | apply Cut.here0 | apply Cut.here )))) )); done) (⟨_, _, rfl, ⟨_, _, _, rfl, hS40⟩, ⟨_, _, _, rfl, hS40⟩, rfl⟩) (by (repeat (first | apply sub_nil )); done) (by first | exact fun _ h => h | (intro r hr; cases hr; done) | (simp; done) | exact fun _ h => List.mem_append_left _ h | (intro r hr; simp [hr]; done))
end Go.Proofs.Ytnjicnadlhfocaa

/-
  Layer 5's statements: made packets: Make.
-/
namespace Go.Proofs.Ytnjicnadlhfocaa
set_option linter.unusedSimpArgs false
set_option linter.unusedVariables false
open Go.RowKit
attribute [local irreducible] Pv WO WC Fn
set_option maxRecDepth 100000
attribute [local irreducible] ByteArray.extract

abbrev MkC (R : List Ro) (row : List Value) (p : Pkt) : Prop := Fn Try.prog 12 #[.agg row.toArray] [] R (PkR R p)
def tblM1 (row : List Value) : Nat → List (List It) → Value → List (List It) → Prop := fun k Ls v Ms => match Ls with
  | [[.ob b _]] => v = undef ∧ Ms = [[rfO b row]]
  | _ => False
def tblM2 (vs : Value) (row : List Value) : Nat → List (List It) → Value → List (List It) → Prop := fun k Ls v Ms => match k, Ls with
  | 14, [[.ob b _]] => v = undef ∧ Ms = [[rfO b row]]
  | _, _ => v = vs ∧ Ms = [[]]
def tblM3 (vs : Value) (row : List Value) : Nat → List (List It) → Value → List (List It) → Prop := fun k Ls v Ms => match k, Ls with
  | 16, [[.ob b _]] => v = undef ∧ Ms = [[rfO b row]]
  | _, _ => v = vs ∧ Ms = [[]]
theorem yMk5 (so aa b wide : Int) (vn vt : Value) (hvn : vn.oneCell' = true) (hvt : vt.oneCell' = true) (sm ct kd : Int) (R : List Ro) (ht : (bits .and .i64 so 255).tmod 9 = 5) : MkC R (mdL so aa b wide vn vt sm ct kd) (.pli aa b) := by
  refine fn_intro Try.func12 rfl Try.ntmps12 rfl (fun E => ?_)
  (repeat (first | ((first | (apply wo_v; rfl) ); (· first | (apply pv_ev; rfl) | (apply pv_fld; rfl) | (apply g_load; first | (apply pv_ld; rfl; (· (repeat (first | apply sel_here | apply sel_there))); rfl) ) | (apply g_bin; first | (apply pv_rem; rfl; rfl; omega) | (apply pv_rem_t; rfl; rfl; omega) | (apply pv_and; rfl; rfl) ) )) | apply wo_nil | apply wc_seq | apply wc_region | (apply wo_box1; rfl; rfl; rfl; intro bx) | (apply wo_boxa; rfl; rfl; intro bx) | (apply wo_alloc; rfl; intro bx) ))
  rename_i bm
  obtain ⟨b3, hb3⟩ : ∃ g, g = bx := ⟨_, rfl⟩
  subst hb3
  rw [ht]
  (repeat (first | ((first | (apply wo_v; rfl) ); (· first | (apply pv_ev; rfl) )) | apply wo_nil | apply wc_seq | apply wc_region | apply wc_block | (apply wc_true; rfl) | (apply wc_false; rfl) ))
  (refine wc_regM [0] (aslL [(12, [0])]) (tblM1 (rfL 206 1 aa b 0 0 0 0 nilS nilS nilS E0 nilS nilS 0)) ([mdB bm so aa b wide vn vt sm ct kd]) (fm [(0, [rfO b3 rfZ])]) mixed (by kernel_rfl) (by kernel_rfl) (by decide) (aslL_ok (by decide)) (by (repeat (first | (apply prm_cons; (· (repeat (first | apply sel_here | apply sel_there)))) | apply List.Perm.nil )); done) ?_; (repeat (first | (apply HdM.val; rfl; rfl; (· first | apply gok_none ); (· first | (apply pv_ev; rfl) | (apply pv_fld; rfl) | (apply g_load; first | (apply pv_ld; rfl; (· (repeat (first | apply sel_here ))); rfl) ) | (apply g_build; apply pv_build; (· (repeat (first | apply Bld.nil | (apply Bld.one; rfl; rfl; (· (repeat (first | apply SetAt.here | apply SetAt.there)))) )))) | (apply pv_mki; rfl; infer_instance) )) )))
  (refine hm_eff (cs := [0]) rfl (by decide) rfl rfl (by first | exact gok_none | exact gok_run rfl rfl) (fun a ha => outc_mono (outc_sta rfl rfl rfl rfl (by (repeat (first | apply LayAt.nil | apply LayAt.here )); done) a ha) (fun v M h => ⟨[M], And.intro h.1 (congrArg (fun x => [x]) h.2), rfl, by simp⟩)) (⟨_, _, And.intro rfl rfl, rfl⟩) ?_; rintro v Ms ⟨rfl, rfl⟩ _; simp only [setls, setl, reduceIte, Nat.reduceEqDiff]; (repeat (first | fail )))
  (refine HdM.nil ?_; intro H hH; simp only [Hp, fm, look, setl, List.flatMap_cons, List.flatMap_nil, reduceIte, Nat.reduceEqDiff, Option.getD_some, List.append_nil, List.cons_append, List.nil_append] at hH; subst hH)
  (repeat (first | apply wc_ret ))
  exact retv rfl (by (repeat (first | apply RV.nil | (apply RV.tmp; rfl) | (apply RV.agg; rfl; (· (repeat (first | apply sel_here | apply sel_there))); infer_instance; (· (repeat (first | apply Cut.here0 | apply Cut.here )))) )); done) (⟨_, _, rfl, rfl, rfl, rfl⟩) (by (repeat (first | apply sub_nil )); done) (by first | exact fun _ h => h | (intro r hr; cases hr; done) | (simp; done) | exact fun _ h => List.mem_append_left _ h | (intro r hr; simp [hr]; done))
def rtM5 (wide sm : Int) : Int := wide.fdiv (2 ^ (min (bits .and .u8 sm 63).toNat IntKind.u64.bits))
set_option maxHeartbeats 8000000 in
theorem yMk7 (so aa b wide : Int) (nums : List Int) (A : Option Addr) (n c : Nat) (vt : Value) (hvt : vt.oneCell' = true) (sm ct kd : Int) (R : List Ro) (hS : SQ R 1 A n c (c32 nums)) (hn9 : n ≤ 9223372036854775807) (hc : n ≤ c) (hS40 : SQ R 1 A (min n 40) c (c32 (nums.take 40))) (hsm : 0 ≤ sm ∧ sm ≤ 255) (ht : (bits .and .i64 so 255).tmod 9 = 7) :
    MkC R (mdL so aa b wide (.slice A n c) vt sm ct kd) (.remb aa (rtM5 wide sm) (nums.take 40)) := by
  have q2 := ySsrcs so aa b wide nums A n c vt hvt sm ct kd R hS hc hn9
  have hk : min n 40 = (nums.take 40).length := by rw [← hS40.len, c32_len]
  rw [hk] at q2 hS40
  have x63 : 0 ≤ bits .and .u8 sm 63 ∧ bits .and .u8 sm 63 ≤ 63 := u8_all (p := fun a => 0 ≤ bits .and .u8 a 63 ∧ bits .and .u8 a 63 ≤ 63) (by decide +kernel) hsm
  obtain ⟨rt, hrt⟩ : ∃ rt, rtM5 wide sm = rt := ⟨_, rfl⟩
  rw [hrt]
  unfold rtM5 at hrt
  generalize nums.take 40 = ss at *
  refine fn_intro Try.func12 rfl Try.ntmps12 rfl (fun E => ?_)
  (repeat (first | ((first | (apply wo_v; rfl) ); (· first | (apply pv_ev; rfl) | (apply pv_fld; rfl) | (apply g_load; first | (apply pv_ld; rfl; (· (repeat (first | apply sel_here | apply sel_there))); rfl) ) | (apply g_bin; first | (apply pv_rem; rfl; rfl; omega) | (apply pv_rem_t; rfl; rfl; omega) | (apply pv_and; rfl; rfl) ) )) | apply wo_nil | apply wc_seq | apply wc_region | (apply wo_box1; rfl; rfl; rfl; intro bx) | (apply wo_boxa; rfl; rfl; intro bx) | (apply wo_alloc; rfl; intro bx) ))
  rename_i bm
  obtain ⟨b3, hb3⟩ : ∃ g, g = bx := ⟨_, rfl⟩
  subst hb3
  rw [ht]
  (repeat (first | ((first | (apply wo_v; rfl) ); (· first | (apply pv_ev; rfl) | (apply pv_fld; rfl) | (apply g_load; first | (apply pv_ld; rfl; (· (repeat (first | apply sel_here | apply sel_there))); rfl) ) | (apply g_bin; first | (apply pv_and; rfl; rfl) | (apply a_shr; rfl; rfl; rfl; omega; rfl) | (apply pv_shr; rfl; rfl; omega) ) )) | apply wo_nil | apply wc_seq | apply wc_region | apply wc_block | (apply wc_true; rfl) | (apply wc_false; rfl) ))
  rw [hrt]
  (refine wc_regM [0, 1] (aslL [(4, [1]), (11, [1]), (14, [0])]) (tblM2 (.slice A ss.length c) (rfL 206 15 aa 0 0 0 0 0 nilS nilS (.slice A ss.length c) E0 nilS nilS rt)) ([mdB bm so aa b wide (.slice A n c) vt sm ct kd]) (fm [(0, [rfO b3 rfZ]), (1, [])]) mixed (by kernel_rfl) (by kernel_rfl) (by decide) (aslL_ok (by decide)) (by (repeat (first | (apply prm_cons; (· (repeat (first | apply sel_here | apply sel_there)))) | apply List.Perm.nil )); done) ?_; (repeat (first | (apply HdM.val; rfl; rfl; (· first | apply gok_none ); (· first | (apply pv_ev; rfl) | (apply pv_fld; rfl) | (apply g_load; first | (apply pv_ld; rfl; (· (repeat (first | apply sel_here ))); rfl) | (apply pv_lda; rfl; (· (repeat (first | apply sel_here ))); (· (repeat (first | apply Cut.here0 | apply Cut.here )))) ) )) )))
  (refine hm_eff (cs := [1]) rfl (by decide) rfl rfl (by first | exact gok_none | exact gok_run rfl rfl) (fun a ha => outc_mono (outc_call (F1 := _) (T := fun v M => v = .slice A ss.length c ∧ M = []) (q2) rfl (by (repeat (first | apply sub_nil )); done) (by first | exact fun _ h => h | (intro r hr; cases hr; done) | (simp; done) | exact fun _ h => List.mem_append_left _ h | (intro r hr; simp [hr]; done)) (by rintro v L' R' ⟨rfl, rfl, _⟩; exact ⟨_, ⟨rfl, rfl⟩, (by (repeat (first | (apply prm_cons; (· (repeat (first | apply sel_here )))) | apply List.Perm.nil )); done)⟩) a ha) (fun v M h => ⟨[[]], And.intro h.1 rfl, rfl, h.2⟩)) ⟨_, _, And.intro rfl rfl, rfl⟩ ?_; rintro v Ms ⟨rfl, rfl⟩ _; simp only [setls, setl, reduceIte, Nat.reduceEqDiff]; (repeat (first | (apply HdM.val; rfl; rfl; (· first | apply gok_none ); (· first | (apply pv_ev; rfl) | (apply pv_fld; rfl) | (apply g_load; first | (apply pv_ld; rfl; (· (repeat (first | apply sel_here ))); rfl) | (apply pv_lda; rfl; (· (repeat (first | apply sel_here ))); (· (repeat (first | apply Cut.here0 | apply Cut.here )))) ) | (apply g_build; apply pv_build; (· (repeat (first | apply Bld.nil | (apply Bld.one; rfl; rfl; (· (repeat (first | apply SetAt.here | apply SetAt.there)))) )))) | (apply pv_mki; rfl; infer_instance) )) )))
  (refine hm_eff (cs := [1]) rfl (by decide) rfl rfl (by first | exact gok_none | exact gok_run rfl rfl) (fun a ha => outc_mono (outc_call (F1 := _) (T := fun v M => v = .slice A ss.length c ∧ M = []) (q2) rfl (by (repeat (first | apply sub_nil )); done) (by first | exact fun _ h => h | (intro r hr; cases hr; done) | (simp; done) | exact fun _ h => List.mem_append_left _ h | (intro r hr; simp [hr]; done)) (by rintro v L' R' ⟨rfl, rfl, _⟩; exact ⟨_, ⟨rfl, rfl⟩, (by (repeat (first | (apply prm_cons; (· (repeat (first | apply sel_here )))) | apply List.Perm.nil )); done)⟩) a ha) (fun v M h => ⟨[[]], And.intro h.1 rfl, rfl, h.2⟩)) ⟨_, _, And.intro rfl rfl, rfl⟩ ?_; rintro v Ms ⟨rfl, rfl⟩ _; simp only [setls, setl, reduceIte, Nat.reduceEqDiff]; (repeat (first | (apply HdM.val; rfl; rfl; (· first | apply gok_none ); (· first | (apply pv_ev; rfl) | (apply g_build; apply pv_build; (· (repeat (first | apply Bld.nil | (apply Bld.one; rfl; rfl; (· (repeat (first | apply SetAt.here | apply SetAt.there)))) )))) )) )))
  (refine hm_eff (cs := [0]) rfl (by decide) rfl rfl (by first | exact gok_none | exact gok_run rfl rfl) (fun a ha => outc_mono (outc_sta rfl rfl rfl rfl (by (repeat (first | apply LayAt.nil | apply LayAt.here )); done) a ha) (fun v M h => ⟨[M], And.intro h.1 (congrArg (fun x => [x]) h.2), rfl, by simp⟩)) (⟨_, _, And.intro rfl rfl, rfl⟩) ?_; rintro v Ms ⟨rfl, rfl⟩ _; simp only [setls, setl, reduceIte, Nat.reduceEqDiff]; (repeat (first | fail )))
  (refine HdM.nil ?_; intro H hH; simp only [Hp, fm, look, setl, List.flatMap_cons, List.flatMap_nil, reduceIte, Nat.reduceEqDiff, Option.getD_some, List.append_nil, List.cons_append, List.nil_append] at hH; subst hH)
  (repeat (first | apply wc_ret ))
  exact retv rfl (by (repeat (first | apply RV.nil | (apply RV.tmp; rfl) | (apply RV.agg; rfl; (· (repeat (first | apply sel_here | apply sel_there))); infer_instance; (· (repeat (first | apply Cut.here0 | apply Cut.here )))) )); done) (⟨_, _, rfl, ⟨_, _, _, rfl, hS40⟩, ⟨_, _, _, rfl, hS40⟩, rfl⟩) (by (repeat (first | apply sub_nil )); done) (by first | exact fun _ h => h | (intro r hr; cases hr; done) | (simp; done) | exact fun _ h => List.mem_append_left _ h | (intro r hr; simp [hr]; done))
set_option maxHeartbeats 8000000 in
theorem yMk8 (so aa b wide : Int) (tx : List ByteArray) (vn : Value) (hvn : vn.oneCell' = true) (A2 : Option Addr) (n2 c2 : Nat) (sm ct kd : Int) (R : List Ro) (hT : SQ R 1 A2 n2 c2 (cST tx)) (ht : (bits .and .i64 so 255).tmod 9 = 8) :
    MkC R (mdL so aa b wide vn (.slice A2 n2 c2) sm ct kd) (.other kd ct (fsM tx 60)) := by
  have q3 := yFirst so aa b wide tx vn hvn A2 n2 c2 sm ct kd 60 R hT
  generalize fsM tx 60 = tf at *
  refine fn_intro Try.func12 rfl Try.ntmps12 rfl (fun E => ?_)
  (repeat (first | ((first | (apply wo_v; rfl) ); (· first | (apply pv_ev; rfl) | (apply pv_fld; rfl) | (apply g_load; first | (apply pv_ld; rfl; (· (repeat (first | apply sel_here | apply sel_there))); rfl) ) | (apply g_bin; first | (apply pv_rem; rfl; rfl; omega) | (apply pv_rem_t; rfl; rfl; omega) | (apply pv_and; rfl; rfl) ) )) | apply wo_nil | apply wc_seq | apply wc_region | (apply wo_box1; rfl; rfl; rfl; intro bx) | (apply wo_boxa; rfl; rfl; intro bx) | (apply wo_alloc; rfl; intro bx) ))
  rename_i bm
  obtain ⟨b3, hb3⟩ : ∃ g, g = bx := ⟨_, rfl⟩
  subst hb3
  rw [ht]
  (repeat (first | ((first | (apply wo_v; rfl) ); (· first | (apply pv_ev; rfl) )) | apply wo_nil | apply wc_seq | apply wc_region | apply wc_block | (apply wc_true; rfl) | (apply wc_false; rfl) ))
  (refine wc_regM [0, 1] (aslL [(5, [1]), (13, [1]), (16, [0])]) (tblM3 (.string tf) (rfL kd ct 0 0 0 0 0 0 nilS nilS nilS tf nilS nilS 0)) ([mdB bm so aa b wide vn (.slice A2 n2 c2) sm ct kd]) (fm [(0, [rfO b3 rfZ]), (1, [])]) mixed (by kernel_rfl) (by kernel_rfl) (by decide) (aslL_ok (by decide)) (by (repeat (first | (apply prm_cons; (· (repeat (first | apply sel_here | apply sel_there)))) | apply List.Perm.nil )); done) ?_; (repeat (first | (apply HdM.val; rfl; rfl; (· first | apply gok_none ); (· first | (apply pv_ev; rfl) | (apply pv_fld; rfl) | (apply g_load; first | (apply pv_ld; rfl; (· (repeat (first | apply sel_here ))); rfl) | (apply pv_lda; rfl; (· (repeat (first | apply sel_here ))); (· (repeat (first | apply Cut.here0 | apply Cut.here )))) ) )) )))
  (refine hm_eff (cs := [1]) rfl (by decide) rfl rfl (by first | exact gok_none | exact gok_run rfl rfl) (fun a ha => outc_mono (outc_call (F1 := _) (T := fun v M => v = .string tf ∧ M = []) (q3) rfl (by (repeat (first | apply sub_nil )); done) (by first | exact fun _ h => h | (intro r hr; cases hr; done) | (simp; done) | exact fun _ h => List.mem_append_left _ h | (intro r hr; simp [hr]; done)) (by rintro v L' R' ⟨rfl, rfl, _⟩; exact ⟨_, ⟨rfl, rfl⟩, (by (repeat (first | (apply prm_cons; (· (repeat (first | apply sel_here )))) | apply List.Perm.nil )); done)⟩) a ha) (fun v M h => ⟨[[]], And.intro h.1 rfl, rfl, h.2⟩)) ⟨_, _, And.intro rfl rfl, rfl⟩ ?_; rintro v Ms ⟨rfl, rfl⟩ _; simp only [setls, setl, reduceIte, Nat.reduceEqDiff]; (repeat (first | (apply HdM.val; rfl; rfl; (· first | apply gok_none ); (· first | (apply pv_ev; rfl) | (apply pv_fld; rfl) | (apply g_load; first | (apply pv_ld; rfl; (· (repeat (first | apply sel_here ))); rfl) | (apply pv_lda; rfl; (· (repeat (first | apply sel_here ))); (· (repeat (first | apply Cut.here0 | apply Cut.here )))) ) | (apply g_build; apply pv_build; (· (repeat (first | apply Bld.nil | (apply Bld.one; rfl; rfl; (· (repeat (first | apply SetAt.here | apply SetAt.there)))) )))) | (apply pv_mki; rfl; infer_instance) )) )))
  (refine hm_eff (cs := [1]) rfl (by decide) rfl rfl (by first | exact gok_none | exact gok_run rfl rfl) (fun a ha => outc_mono (outc_call (F1 := _) (T := fun v M => v = .string tf ∧ M = []) (q3) rfl (by (repeat (first | apply sub_nil )); done) (by first | exact fun _ h => h | (intro r hr; cases hr; done) | (simp; done) | exact fun _ h => List.mem_append_left _ h | (intro r hr; simp [hr]; done)) (by rintro v L' R' ⟨rfl, rfl, _⟩; exact ⟨_, ⟨rfl, rfl⟩, (by (repeat (first | (apply prm_cons; (· (repeat (first | apply sel_here )))) | apply List.Perm.nil )); done)⟩) a ha) (fun v M h => ⟨[[]], And.intro h.1 rfl, rfl, h.2⟩)) ⟨_, _, And.intro rfl rfl, rfl⟩ ?_; rintro v Ms ⟨rfl, rfl⟩ _; simp only [setls, setl, reduceIte, Nat.reduceEqDiff]; (repeat (first | (apply HdM.val; rfl; rfl; (· first | apply gok_none ); (· first | (apply pv_ev; rfl) | (apply g_build; apply pv_build; (· (repeat (first | apply Bld.nil | (apply Bld.one; rfl; rfl; (· (repeat (first | apply SetAt.here | apply SetAt.there)))) )))) )) )))
  (refine hm_eff (cs := [0]) rfl (by decide) rfl rfl (by first | exact gok_none | exact gok_run rfl rfl) (fun a ha => outc_mono (outc_sta rfl rfl rfl rfl (by (repeat (first | apply LayAt.nil | apply LayAt.here )); done) a ha) (fun v M h => ⟨[M], And.intro h.1 (congrArg (fun x => [x]) h.2), rfl, by simp⟩)) (⟨_, _, And.intro rfl rfl, rfl⟩) ?_; rintro v Ms ⟨rfl, rfl⟩ _; simp only [setls, setl, reduceIte, Nat.reduceEqDiff]; (repeat (first | fail )))
  (refine HdM.nil ?_; intro H hH; simp only [Hp, fm, look, setl, List.flatMap_cons, List.flatMap_nil, reduceIte, Nat.reduceEqDiff, Option.getD_some, List.append_nil, List.cons_append, List.nil_append] at hH; subst hH)
  (repeat (first | apply wc_ret ))
  exact retv rfl (by (repeat (first | apply RV.nil | (apply RV.tmp; rfl) | (apply RV.agg; rfl; (· (repeat (first | apply sel_here | apply sel_there))); infer_instance; (· (repeat (first | apply Cut.here0 | apply Cut.here )))) )); done) (⟨_, _, rfl, rfl, rfl, rfl⟩) (by (repeat (first | apply sub_nil )); done) (by first | exact fun _ h => h | (intro r hr; cases hr; done) | (simp; done) | exact fun _ h => List.mem_append_left _ h | (intro r hr; simp [hr]; done))
def tblM4 (aa b : Int) : Nat → List (List It) → Value → List (List It) → Prop := fun k Ls v Ms => match k, Ls with
  | 10, _ => ∃ b, v = .pointer (some ⟨b, 0, none⟩) ∧ Ms = [[.ob b (.cells #[.int .u32 0, .int .u32 0, nilS] 66 (0, 0))]]
  | 11, _ => ∃ b, v = .pointer (some ⟨b, 0, none⟩) ∧ Ms = [[rfO b rfZ]]
  | 12, [[.ob g _]] => v = undef ∧ Ms = [[.ob g (.cells #[.int .u32 aa, .int .u32 b, nilS] 66 (0, 0))]]
  | 13, [[.ob g _]] => v = undef ∧ Ms = [[rfO g (rfL 205 1 aa b 0 0 0 0 nilS nilS nilS E0 nilS nilS 0)]]
  | _, _ => False
def prs5 (n : Int) : Int × Int := (n % 65536, n / 65536)
abbrev nkB (g : Nat) (fm to : Int) (v : Value) : It := .ob g (.cells #[.int .u32 fm, .int .u32 to, v] 66 (0, 0))
abbrev prA (ao : Option Addr) (n c : Nat) (l : List (Int × Int)) : It := .own 138 2 ao n c (pairV l)
abbrev prB (ao : Option Addr) (n c : Nat) (l : List (Int × Int)) : It := .own 139 2 ao n c (pairV l)
theorem prA_snoc (ao : Option Addr) (n c : Nat) (l : List (Int × Int)) (x : Int × Int) : prA ao n c (l ++ [x]) = It.own 138 2 ao n c (pairV l ++ [[.int .u16 x.1, .int .u16 x.2]]) := by rw [prA, pairV_snoc]
theorem prB_snoc (ao : Option Addr) (n c : Nat) (l : List (Int × Int)) (x : Int × Int) : prB ao n c (l ++ [x]) = It.own 139 2 ao n c (pairV l ++ [[.int .u16 x.1, .int .u16 x.2]]) := by rw [prB, pairV_snoc]
set_option maxHeartbeats 16000000 in
theorem yMk4 (so aa b wide : Int) (nums : List Int) (A : Option Addr) (n c : Nat) (vt : Value) (hvt : vt.oneCell' = true) (sm ct kd : Int) (R : List Ro) (hS : SQ R 1 A n c (c32 nums)) (hn9 : n ≤ 9223372036854775807) (hc : n ≤ c) (hS40 : SQ R 1 A (min n 40) c (c32 (nums.take 40))) (hb : ∀ x ∈ nums, in32 x) (ht : (bits .and .i64 so 255).tmod 9 = 4) :
    MkC R (mdL so aa b wide (.slice A n c) vt sm ct kd) (.nack aa b ((nums.take 40).map prs5)) := by
  have q2 := ySsrcs so aa b wide nums A n c vt hvt sm ct kd R hS hc hn9
  have hk : min n 40 = (nums.take 40).length := by rw [← hS40.len, c32_len]
  have hk2 : (nums.take 40).length ≤ 40 := by rw [List.length_take]; omega
  have hb2 : ∀ x ∈ nums.take 40, in32 x := fun x hx => hb x (List.mem_of_mem_take hx)
  rw [hk] at q2 hS40
  generalize nums.take 40 = ss at *
  refine fn_intro Try.func12 rfl Try.ntmps12 rfl (fun E => ?_)
  (repeat (first | ((first | (apply wo_v; rfl) ); (· first | (apply pv_ev; rfl) | (apply pv_fld; rfl) | (apply g_load; first | (apply pv_ld; rfl; (· (repeat (first | apply sel_here | apply sel_there))); rfl) ) | (apply g_bin; first | (apply pv_rem; rfl; rfl; omega) | (apply pv_rem_t; rfl; rfl; omega) | (apply pv_and; rfl; rfl) ) )) | apply wo_nil | apply wc_seq | apply wc_region | (apply wo_box1; rfl; rfl; rfl; intro bx) | (apply wo_boxa; rfl; rfl; intro bx) | (apply wo_alloc; rfl; intro bx) ))
  rename_i bm
  obtain ⟨b3, hb3⟩ : ∃ g, g = bx := ⟨_, rfl⟩
  subst hb3
  rw [ht]
  (repeat (first | ((first | (apply wo_v; rfl) ); (· first | (apply pv_ev; rfl) )) | apply wo_nil | apply wc_seq | apply wc_region | apply wc_block | (apply wc_true; rfl) ))
  (refine wc_regM [0, 1] (aslL [(10, [0]), (11, [1]), (12, [0]), (13, [1])]) (tblM4 aa b) ([rfO b3 rfZ, mdB bm so aa b wide (.slice A n c) vt sm ct kd]) (fm [(0, []), (1, [])]) mixed (by kernel_rfl) (by kernel_rfl) (by decide) (aslL_ok (by decide)) (by (repeat (first | (apply prm_cons; (· (repeat (first | apply sel_here )))) | apply List.Perm.nil )); done) ?_; (repeat (first | (apply HdM.val; rfl; rfl; (· first | apply gok_none ); (· first | (apply pv_ev; rfl) | (apply pv_fld; rfl) | (apply g_load; first | (apply pv_ld; rfl; (· (repeat (first | apply sel_here | apply sel_there))); rfl) ) | (apply g_build; apply pv_build; (· (repeat (first | apply Bld.nil | (apply Bld.one; rfl; rfl; (· (repeat (first | apply SetAt.here | apply SetAt.there)))) )))) )) )))
  (refine hm_eff (cs := [0]) rfl (by decide) rfl rfl (by first | exact gok_none | exact gok_run rfl rfl) (fun a ha => outc_mono (outc_alloc a ha) (fun v M h => Exists.elim h fun b h => ⟨[M], Exists.intro b (And.intro h.1 (congrArg (fun x => [x]) h.2)), rfl, by simp⟩)) (⟨_, _, Exists.intro 0 (And.intro rfl rfl), rfl⟩) ?_; rintro v Ms ⟨b4, rfl, rfl⟩ _; simp only [setls, setl, reduceIte, Nat.reduceEqDiff]; (repeat (first | (apply HdM.val; rfl; rfl; (· first | fail ); (· first | fail )) )))
  (refine hm_eff (cs := [1]) rfl (by decide) rfl rfl (by first | exact gok_none | exact gok_run rfl rfl) (fun a ha => outc_mono (outc_alloc a ha) (fun v M h => Exists.elim h fun b h => ⟨[M], Exists.intro b (And.intro h.1 (congrArg (fun x => [x]) h.2)), rfl, by simp⟩)) (⟨_, _, Exists.intro 0 (And.intro rfl rfl), rfl⟩) ?_; rintro v Ms ⟨b5, rfl, rfl⟩ _; simp only [setls, setl, reduceIte, Nat.reduceEqDiff]; (repeat (first | fail )))
  (refine hm_eff (cs := [0]) rfl (by decide) rfl rfl (by first | exact gok_none | exact gok_run rfl rfl) (fun a ha => outc_mono (outc_sta rfl rfl rfl rfl (by (repeat (first | apply LayAt.nil | apply LayAt.here )); done) a ha) (fun v M h => ⟨[M], And.intro h.1 (congrArg (fun x => [x]) h.2), rfl, by simp⟩)) (⟨_, _, And.intro rfl rfl, rfl⟩) ?_; rintro v Ms ⟨rfl, rfl⟩ _; simp only [setls, setl, reduceIte, Nat.reduceEqDiff]; (repeat (first | fail )))
  (refine hm_eff (cs := [1]) rfl (by decide) rfl rfl (by first | exact gok_none | exact gok_run rfl rfl) (fun a ha => outc_mono (outc_sta rfl rfl rfl rfl (by (repeat (first | apply LayAt.nil | apply LayAt.here )); done) a ha) (fun v M h => ⟨[M], And.intro h.1 (congrArg (fun x => [x]) h.2), rfl, by simp⟩)) (⟨_, _, And.intro rfl rfl, rfl⟩) ?_; rintro v Ms ⟨rfl, rfl⟩ _; simp only [setls, setl, reduceIte, Nat.reduceEqDiff]; (repeat (first | fail )))
  (refine HdM.nil ?_; intro H hH; simp only [Hp, fm, look, setl, List.flatMap_cons, List.flatMap_nil, reduceIte, Nat.reduceEqDiff, Option.getD_some, List.append_nil, List.cons_append, List.nil_append] at hH; subst hH)
  (repeat (first | ((first | (apply wo_v; rfl) ); (· first | (apply pv_ev; rfl) | (apply g_load; first | (apply pv_lda; rfl; (· (repeat (first | apply sel_here | apply sel_there))); (· (repeat (first | apply Cut.here0 | apply Cut.here )))) ) )) | apply wc_seq | apply wc_region ))
  (refine wo_call (q2) rfl (by (repeat (first | apply sub_nil )); done) (by first | exact fun _ h => h | (intro r hr; cases hr; done) | (simp; done) | exact fun _ h => List.mem_append_left _ h | (intro r hr; simp [hr]; done)) rfl ?_; rintro v L' R' ⟨rfl, rfl, rfl⟩ H' hH RR hR; simp only [List.cons_append, List.nil_append] at hH hR; subst hH; have hR := hR.symm; subst hR)
  (repeat (first | ((first | (apply wo_v; rfl) ); (· first | (apply pv_ev; rfl) | (apply g_bi; first | (apply pv_len_sl; rfl) ) )) | apply wo_nil ))
  refine wc_own0 138 2 ?_
  refine wc_own0 139 2 ?_
  refine wc_block ?_
  refine wc_loop' (fun q st => ∃ (i : Nat) (l : List (Int × Int)) (a1 a2 : Option Addr) (c1 c3 : Nat), q = ss.length - i ∧ i ≤ ss.length ∧ l = (ss.take i).map prs5 ∧ l.length = i ∧ st = ⟨[(3, .pointer (some ⟨b3, 0, none⟩)), (4, .pointer (some ⟨b4, 0, none⟩)), (5, .pointer (some ⟨b5, 0, none⟩)), (30, .slice A ss.length c), (31, .int .i64 ss.length), (32, .int .i64 i)], [rfO b3 rfZ, nkB b4 aa b (.slice a1 i c1), rfO b5 (rfL 205 1 aa b 0 0 0 0 nilS nilS nilS E0 (.slice a2 i c3) nilS 0), prA a1 i c1 l, prB a2 i c3 l], R⟩) ⟨0, [], none, none, 0, 0, rfl, Nat.zero_le _, rfl, rfl, rfl⟩ (wk_mk (by (repeat (first | apply wkf_nil | (apply wkf_cons; rfl))); done) (by (repeat (first | apply sub_nil | (apply sub_cons; (· (repeat (first | apply sel_here | apply sel_there)))))); done) (by first | exact fun _ h => h | (intro r hr; cases hr; done) | (simp; done) | exact fun _ h => List.mem_append_left _ h | (intro r hr; simp [hr]; done))) ?_
  rintro q st ⟨i, l, a1, a2, c1, c3, rfl, hi, hl, hli, rfl⟩
  by_cases hlt : i < ss.length
  · obtain ⟨x, hx⟩ : ∃ x, ss[i]? = some x := ⟨_, List.getElem?_eq_getElem hlt⟩
    have hr := c32_at hx
    have hxb : 0 ≤ x ∧ x ≤ 4294967295 := hb2 x (List.mem_of_getElem? hx)
    have hnx : (ss.take (i + 1)).map prs5 = l ++ [(x % 65536, x / 65536)] := by rw [List.take_add_one, hx, List.map_append, hl]; rfl
    obtain ⟨a0, o0, rfl, hmem⟩ := hS40.pos (by omega)
    (repeat (first | ((first | (apply wo_v; rfl) ); (· first | (apply pv_ev; rfl) )) | apply wo_nil | apply wc_seq | apply wc_region | apply wc_skip | (apply wc_true; rfl) | (apply wc_false; rfl) | (apply a_dec_t; rfl; (· first | assumption | omega)) ))
    refine wc_block ?_
    (repeat (first | ((first | (apply wo_v; rfl) ); (· first | (apply pv_ev; rfl) | (apply pv_fld; rfl) | (apply g_load; first | (apply pv_ld; rfl; (· (repeat (first | apply sel_here | apply sel_there))); rfl) | (apply pv_ld_ownf; rfl; (· (repeat (first | fail ))); (· assumption); rfl) | (apply pv_ld_own1; rfl; (· (repeat (first | apply sel_there))); (· assumption)) | (apply pv_ld_rof; rfl; (· (first | assumption )); (· assumption); rfl) | (apply pv_ld_ro1; rfl; (· (first | assumption )); (· assumption)) ) | (apply g_bin; first | (apply a_shr; rfl; rfl; rfl; omega; rfl) ) | (apply g_bi; first | fail ) | (apply g_conv; first | (apply a_conv; rfl; infer_instance; infer_instance; infer_instance; omega) | (apply a_conv_u; rfl; infer_instance; infer_instance; infer_instance) ) | (apply g_idx; first | (apply pv_idx; rfl; rfl; omega) ) | (apply g_build; apply pv_build; (· (repeat (first | apply Bld.nil | (apply Bld.one; rfl; rfl; (· (repeat (first | apply SetAt.here | apply SetAt.there)))) )))) )) | apply wo_nil | apply wc_seq | apply wc_region | (apply wo_bsl; (· (repeat (first | apply Rws'.nil | (apply Rws'.one; rfl; rfl; rfl) | (apply Rws'.agg; rfl; rfl; rfl)))); rfl; rfl; rfl; rfl; intro bx) ))
    refine wo_app (ao := a1) (n := i) (m := 1) rfl rfl (by (repeat (first | apply sel_here | apply sel_there)); done) (by (repeat (first | apply sel_here )); done) (by unfold maxLen; omega) (by omega) rfl (fun a3 d1 => ?_)
    (repeat (first | ((first | (apply wo_v; rfl) ); (· first | (apply pv_ev; rfl) | (apply pv_fld; rfl) | (apply g_load; first | (apply pv_ld; rfl; (· (repeat (first | apply sel_here | apply sel_there))); rfl) ) | (apply g_bin; first | (apply a_shr; rfl; rfl; rfl; omega; rfl) ) | (apply g_bi; first | fail ) | (apply g_conv; first | (apply a_conv; rfl; infer_instance; infer_instance; infer_instance; omega) | (apply a_conv_u; rfl; infer_instance; infer_instance; infer_instance) ) | (apply g_build; apply pv_build; (· (repeat (first | apply Bld.nil | (apply Bld.one; rfl; rfl; (· (repeat (first | apply SetAt.here | apply SetAt.there)))) )))) )) | apply wo_nil | apply wc_region | (apply wo_st; rfl; rfl; rfl; (· (repeat (first | apply sel_here | apply sel_there))); (· (repeat (first | apply SetAt.here | apply SetAt.there))); rfl) | (apply wo_bsl; (· (repeat (first | apply Rws'.nil | (apply Rws'.one; rfl; rfl; rfl) | (apply Rws'.agg; rfl; rfl; rfl)))); rfl; rfl; rfl; rfl; intro bx) ))
    refine wo_app (ao := a2) (n := i) (m := 1) rfl rfl (by (repeat (first | apply sel_here | apply sel_there)); done) (by (repeat (first | apply sel_here )); done) (by unfold maxLen; omega) (by omega) rfl (fun a4 d2 => ?_)
    (repeat (first | ((first | (apply wo_v; rfl) ); (· first | (apply pv_ev; rfl) | (apply pv_fld; rfl) | (apply g_bin; first | (apply a_add; rfl; rfl; infer_instance; omega) ) )) | apply wo_nil | apply wc_region | (apply wo_st; rfl; rfl; rfl; (· (repeat (first | apply sel_here | apply sel_there))); (· (repeat (first | apply SetAt.here | apply SetAt.there))); rfl) ))
    exact loop_end ⟨i + 1, l ++ [(x % 65536, x / 65536)], a3, a4, d1, d2, rfl, by omega, hnx.symm, by rw [List.length_append, List.length_singleton, hli], by rw [prA_snoc, prB_snoc]⟩ (by omega) (wk_mk (by (repeat (first | apply wkf_nil | (apply wkf_cons; rfl))); done) (by (repeat (first | apply sub_nil | (apply sub_cons; (· (repeat (first | apply sel_here | apply sel_there)))))); done) (by first | exact fun _ h => h | (intro r hr; cases hr; done) | (simp; done) | exact fun _ h => List.mem_append_left _ h | (intro r hr; simp [hr]; done)))
  · have e : i = ss.length := by omega
    have hl2 : l = ss.map prs5 := by rw [hl, e, List.take_length]
    subst hl2
    generalize ss.map prs5 = ps at *
    subst hli
    refine wc_still (ao := a1) (n := ps.length) (c := c1) (sz := 2) (by (repeat (first | apply sel_here | apply sel_there)); done) (fun R1 hS1 => ?_)
    refine wc_still (ao := a2) (n := ps.length) (c := c3) (sz := 2) (by (repeat (first | apply sel_here | apply sel_there)); done) (fun R2 hS2 => ?_)
    (repeat (first | ((first | (apply wo_v; rfl) ); (· first | (apply pv_ev; rfl) )) | apply wo_nil | apply wc_seq | apply wc_region | (apply wc_exit; rfl) | (apply wc_true; rfl) | (apply wc_false; rfl) | (apply a_dec_t; rfl; (· first | assumption | omega)) | (apply a_dec_f; rfl; (· first | assumption | omega)) ))
    (refine wc_regM [0] (aslL [(4, [0])]) (tblM1 (rfL 205 1 aa b 0 0 0 0 nilS nilS nilS E0 (.slice a2 ps.length c3) nilS 0)) ([nkB b4 aa b (.slice a1 ps.length c1), rfO b5 (rfL 205 1 aa b 0 0 0 0 nilS nilS nilS E0 (.slice a2 ps.length c3) nilS 0)]) (fm [(0, [rfO b3 rfZ])]) mixed (by kernel_rfl) (by kernel_rfl) (by decide) (aslL_ok (by decide)) (by (repeat (first | (apply prm_cons; (· (repeat (first | apply sel_here | apply sel_there)))) | apply List.Perm.nil )); done) ?_; (repeat (first | (apply HdM.val; rfl; rfl; (· first | apply gok_none ); (· first | (apply pv_ev; rfl) | (apply g_load; first | (apply pv_lda; rfl; (· (repeat (first | apply sel_here | apply sel_there))); (· (repeat (first | apply Cut.here0 | apply Cut.here )))) ) | (apply pv_mki; rfl; infer_instance) )) )))
    (refine hm_eff (cs := [0]) rfl (by decide) rfl rfl (by first | exact gok_none | exact gok_run rfl rfl) (fun a ha => outc_mono (outc_sta rfl rfl rfl rfl (by (repeat (first | apply LayAt.nil | apply LayAt.here )); done) a ha) (fun v M h => ⟨[M], And.intro h.1 (congrArg (fun x => [x]) h.2), rfl, by simp⟩)) (⟨_, _, And.intro rfl rfl, rfl⟩) ?_; rintro v Ms ⟨rfl, rfl⟩ _; simp only [setls, setl, reduceIte, Nat.reduceEqDiff]; (repeat (first | fail )))
    (refine HdM.nil ?_; intro H hH; simp only [Hp, fm, look, setl, List.flatMap_cons, List.flatMap_nil, reduceIte, Nat.reduceEqDiff, Option.getD_some, List.append_nil, List.cons_append, List.nil_append] at hH; subst hH)
    (repeat (first | apply wc_ret ))
    exact retv rfl (by (repeat (first | apply RV.nil | (apply RV.tmp; rfl) | (apply RV.agg; rfl; (· (repeat (first | apply sel_here | apply sel_there))); infer_instance; (· (repeat (first | apply Cut.here0 | apply Cut.here )))) )); done) (⟨_, _, rfl, ⟨a1, _, c1, rfl, (hS1.sq).mono (fun r hr => List.mem_append_right _ hr)⟩, ⟨a2, _, c3, rfl, hS2.sq⟩, rfl⟩) (by (repeat (first | apply sub_nil )); done) (by first | exact fun _ h => h | (intro r hr; cases hr; done) | (simp; done) | exact fun _ h => List.mem_append_left _ h | (intro r hr; simp [hr]; done))
def tblM6 (aa : Int) : Nat → List (List It) → Value → List (List It) → Prop := fun k Ls v Ms => match k, Ls with
  | 6, _ => ∃ b, v = .pointer (some ⟨b, 0, none⟩) ∧ Ms = [[.ob b (.cells #[.int .u32 0, nilS] 73 (0, 0))]]
  | 7, _ => ∃ b, v = .pointer (some ⟨b, 0, none⟩) ∧ Ms = [[rfO b rfZ]]
  | 8, [[.ob g _]] => v = undef ∧ Ms = [[.ob g (.cells #[.int .u32 aa, nilS] 73 (0, 0))]]
  | 9, [[.ob g _]] => v = undef ∧ Ms = [[rfO g (rfL 206 4 aa 0 0 0 0 0 nilS nilS nilS E0 nilS nilS 0)]]
  | _, _ => False
abbrev fiB (g : Nat) (fm : Int) (v : Value) : It := .ob g (.cells #[.int .u32 fm, v] 73 (0, 0))
abbrev orA (ao : Option Addr) (n c : Nat) (l : List (Int × Int)) : It := .own 70 2 ao n c (ordV l)
abbrev orB5 (ao : Option Addr) (n c : Nat) (l : List (Int × Int)) : It := .own 140 2 ao n c (ordV l)
theorem orA_snoc (ao : Option Addr) (n c : Nat) (l : List (Int × Int)) (x : Int × Int) : orA ao n c (l ++ [x]) = It.own 70 2 ao n c (ordV l ++ [[.int .u32 x.1, .int .u8 x.2]]) := by rw [orA, ordV_snoc]
theorem orB5_snoc (ao : Option Addr) (n c : Nat) (l : List (Int × Int)) (x : Int × Int) : orB5 ao n c (l ++ [x]) = It.own 140 2 ao n c (ordV l ++ [[.int .u32 x.1, .int .u8 x.2]]) := by rw [orB5, ordV_snoc]
set_option maxHeartbeats 16000000 in
theorem yMk6 (so aa b wide : Int) (nums : List Int) (A : Option Addr) (n c : Nat) (vt : Value) (hvt : vt.oneCell' = true) (sm ct kd : Int) (R : List Ro) (hS : SQ R 1 A n c (c32 nums)) (hn9 : n ≤ 9223372036854775807) (hc : n ≤ c) (hS40 : SQ R 1 A (min n 40) c (c32 (nums.take 40))) (hb : ∀ x ∈ nums, in32 x) (ht : (bits .and .i64 so 255).tmod 9 = 6) :
    MkC R (mdL so aa b wide (.slice A n c) vt sm ct kd) (.fir aa ((nums.take 40).map fun n => (n, sm))) := by
  have q2 := ySsrcs so aa b wide nums A n c vt hvt sm ct kd R hS hc hn9
  have hk : min n 40 = (nums.take 40).length := by rw [← hS40.len, c32_len]
  have hk2 : (nums.take 40).length ≤ 40 := by rw [List.length_take]; omega
  have hb2 : ∀ x ∈ nums.take 40, in32 x := fun x hx => hb x (List.mem_of_mem_take hx)
  rw [hk] at q2 hS40
  generalize nums.take 40 = ss at *
  refine fn_intro Try.func12 rfl Try.ntmps12 rfl (fun E => ?_)
  (repeat (first | ((first | (apply wo_v; rfl) ); (· first | (apply pv_ev; rfl) | (apply pv_fld; rfl) | (apply g_load; first | (apply pv_ld; rfl; (· (repeat (first | apply sel_here | apply sel_there))); rfl) ) | (apply g_bin; first | (apply pv_rem; rfl; rfl; omega) | (apply pv_rem_t; rfl; rfl; omega) | (apply pv_and; rfl; rfl) ) )) | apply wo_nil | apply wc_seq | apply wc_region | (apply wo_box1; rfl; rfl; rfl; intro bx) | (apply wo_boxa; rfl; rfl; intro bx) | (apply wo_alloc; rfl; intro bx) ))
  rename_i bm
  obtain ⟨b3, hb3⟩ : ∃ g, g = bx := ⟨_, rfl⟩
  subst hb3
  rw [ht]
  (repeat (first | ((first | (apply wo_v; rfl) ); (· first | (apply pv_ev; rfl) )) | apply wo_nil | apply wc_seq | apply wc_region | apply wc_block | (apply wc_true; rfl) | (apply wc_false; rfl) ))
  (refine wc_regM [0, 1] (aslL [(6, [0]), (7, [1]), (8, [0]), (9, [1])]) (tblM6 aa) ([rfO b3 rfZ, mdB bm so aa b wide (.slice A n c) vt sm ct kd]) (fm [(0, []), (1, [])]) mixed (by kernel_rfl) (by kernel_rfl) (by decide) (aslL_ok (by decide)) (by (repeat (first | (apply prm_cons; (· (repeat (first | apply sel_here )))) | apply List.Perm.nil )); done) ?_; (repeat (first | (apply HdM.val; rfl; rfl; (· first | apply gok_none ); (· first | (apply pv_ev; rfl) | (apply pv_fld; rfl) | (apply g_load; first | (apply pv_ld; rfl; (· (repeat (first | apply sel_here | apply sel_there))); rfl) ) | (apply g_build; apply pv_build; (· (repeat (first | apply Bld.nil | (apply Bld.one; rfl; rfl; (· (repeat (first | apply SetAt.here | apply SetAt.there)))) )))) )) )))
  (refine hm_eff (cs := [0]) rfl (by decide) rfl rfl (by first | exact gok_none | exact gok_run rfl rfl) (fun a ha => outc_mono (outc_alloc a ha) (fun v M h => Exists.elim h fun b h => ⟨[M], Exists.intro b (And.intro h.1 (congrArg (fun x => [x]) h.2)), rfl, by simp⟩)) (⟨_, _, Exists.intro 0 (And.intro rfl rfl), rfl⟩) ?_; rintro v Ms ⟨b4, rfl, rfl⟩ _; simp only [setls, setl, reduceIte, Nat.reduceEqDiff]; (repeat (first | (apply HdM.val; rfl; rfl; (· first | fail ); (· first | fail )) )))
  (refine hm_eff (cs := [1]) rfl (by decide) rfl rfl (by first | exact gok_none | exact gok_run rfl rfl) (fun a ha => outc_mono (outc_alloc a ha) (fun v M h => Exists.elim h fun b h => ⟨[M], Exists.intro b (And.intro h.1 (congrArg (fun x => [x]) h.2)), rfl, by simp⟩)) (⟨_, _, Exists.intro 0 (And.intro rfl rfl), rfl⟩) ?_; rintro v Ms ⟨b5, rfl, rfl⟩ _; simp only [setls, setl, reduceIte, Nat.reduceEqDiff]; (repeat (first | fail )))
  (refine hm_eff (cs := [0]) rfl (by decide) rfl rfl (by first | exact gok_none | exact gok_run rfl rfl) (fun a ha => outc_mono (outc_sta rfl rfl rfl rfl (by (repeat (first | apply LayAt.nil | apply LayAt.here )); done) a ha) (fun v M h => ⟨[M], And.intro h.1 (congrArg (fun x => [x]) h.2), rfl, by simp⟩)) (⟨_, _, And.intro rfl rfl, rfl⟩) ?_; rintro v Ms ⟨rfl, rfl⟩ _; simp only [setls, setl, reduceIte, Nat.reduceEqDiff]; (repeat (first | fail )))
  (refine hm_eff (cs := [1]) rfl (by decide) rfl rfl (by first | exact gok_none | exact gok_run rfl rfl) (fun a ha => outc_mono (outc_sta rfl rfl rfl rfl (by (repeat (first | apply LayAt.nil | apply LayAt.here )); done) a ha) (fun v M h => ⟨[M], And.intro h.1 (congrArg (fun x => [x]) h.2), rfl, by simp⟩)) (⟨_, _, And.intro rfl rfl, rfl⟩) ?_; rintro v Ms ⟨rfl, rfl⟩ _; simp only [setls, setl, reduceIte, Nat.reduceEqDiff]; (repeat (first | fail )))
  (refine HdM.nil ?_; intro H hH; simp only [Hp, fm, look, setl, List.flatMap_cons, List.flatMap_nil, reduceIte, Nat.reduceEqDiff, Option.getD_some, List.append_nil, List.cons_append, List.nil_append] at hH; subst hH)
  (repeat (first | ((first | (apply wo_v; rfl) ); (· first | (apply pv_ev; rfl) | (apply g_load; first | (apply pv_lda; rfl; (· (repeat (first | apply sel_here | apply sel_there))); (· (repeat (first | apply Cut.here0 | apply Cut.here )))) ) )) | apply wc_seq | apply wc_region ))
  (refine wo_call (q2) rfl (by (repeat (first | apply sub_nil )); done) (by first | exact fun _ h => h | (intro r hr; cases hr; done) | (simp; done) | exact fun _ h => List.mem_append_left _ h | (intro r hr; simp [hr]; done)) rfl ?_; rintro v L' R' ⟨rfl, rfl, rfl⟩ H' hH RR hR; simp only [List.cons_append, List.nil_append] at hH hR; subst hH; have hR := hR.symm; subst hR)
  (repeat (first | ((first | (apply wo_v; rfl) ); (· first | (apply pv_ev; rfl) | (apply g_bi; first | (apply pv_len_sl; rfl) ) )) | apply wo_nil ))
  refine wc_own0 70 2 ?_
  refine wc_own0 140 2 ?_
  refine wc_block ?_
  refine wc_loop' (fun q st => ∃ (i : Nat) (l : List (Int × Int)) (a1 a2 : Option Addr) (c1 c3 : Nat), q = ss.length - i ∧ i ≤ ss.length ∧ l = (ss.take i).map (fun n => (n, sm)) ∧ l.length = i ∧ st = ⟨[(1, .pointer (some ⟨bm, 0, none⟩)), (3, .pointer (some ⟨b3, 0, none⟩)), (8, .pointer (some ⟨b4, 0, none⟩)), (9, .pointer (some ⟨b5, 0, none⟩)), (84, .slice A ss.length c), (85, .int .i64 ss.length), (86, .int .i64 i)], [rfO b3 rfZ, mdB bm so aa b wide (.slice A n c) vt sm ct kd, fiB b4 aa (.slice a1 i c1), rfO b5 (rfL 206 4 aa 0 0 0 0 0 nilS nilS nilS E0 nilS (.slice a2 i c3) 0), orA a1 i c1 l, orB5 a2 i c3 l], R⟩) ⟨0, [], none, none, 0, 0, rfl, Nat.zero_le _, rfl, rfl, rfl⟩ (wk_mk (by (repeat (first | apply wkf_nil | (apply wkf_cons; rfl))); done) (by (repeat (first | apply sub_nil | (apply sub_cons; (· (repeat (first | apply sel_here | apply sel_there)))))); done) (by first | exact fun _ h => h | (intro r hr; cases hr; done) | (simp; done) | exact fun _ h => List.mem_append_left _ h | (intro r hr; simp [hr]; done))) ?_
  rintro q st ⟨i, l, a1, a2, c1, c3, rfl, hi, hl, hli, rfl⟩
  by_cases hlt : i < ss.length
  · obtain ⟨x, hx⟩ : ∃ x, ss[i]? = some x := ⟨_, List.getElem?_eq_getElem hlt⟩
    have hr := c32_at hx
    have hnx : (ss.take (i + 1)).map (fun n => (n, sm)) = l ++ [(x, sm)] := by rw [List.take_add_one, hx, List.map_append, hl]; rfl
    obtain ⟨a0, o0, rfl, hmem⟩ := hS40.pos (by omega)
    (repeat (first | ((first | (apply wo_v; rfl) ); (· first | (apply pv_ev; rfl) )) | apply wo_nil | apply wc_seq | apply wc_region | apply wc_skip | (apply wc_true; rfl) | (apply wc_false; rfl) | (apply a_dec_t; rfl; (· first | assumption | omega)) ))
    refine wc_block ?_
    (repeat (first | ((first | (apply wo_v; rfl) ); (· first | (apply pv_ev; rfl) | (apply pv_fld; rfl) | (apply g_load; first | (apply pv_ld; rfl; (· (repeat (first | apply sel_here | apply sel_there))); rfl) | (apply pv_ld_ownf; rfl; (· (repeat (first | fail ))); (· assumption); rfl) | (apply pv_ld_own1; rfl; (· (repeat (first | apply sel_there))); (· assumption)) | (apply pv_ld_rof; rfl; (· (first | assumption )); (· assumption); rfl) | (apply pv_ld_ro1; rfl; (· (first | assumption )); (· assumption)) ) | (apply g_bi; first | fail ) | (apply g_idx; first | (apply pv_idx; rfl; rfl; omega) ) | (apply g_build; apply pv_build; (· (repeat (first | apply Bld.nil | (apply Bld.one; rfl; rfl; (· (repeat (first | apply SetAt.here | apply SetAt.there)))) )))) )) | apply wo_nil | apply wc_seq | apply wc_region | (apply wo_bsl; (· (repeat (first | apply Rws'.nil | (apply Rws'.one; rfl; rfl; rfl) | (apply Rws'.agg; rfl; rfl; rfl)))); rfl; rfl; rfl; rfl; intro bx) ))
    refine wo_app (ao := a1) (n := i) (m := 1) rfl rfl (by (repeat (first | apply sel_here | apply sel_there)); done) (by (repeat (first | apply sel_here )); done) (by unfold maxLen; omega) (by omega) rfl (fun a3 d1 => ?_)
    (repeat (first | ((first | (apply wo_v; rfl) ); (· first | (apply pv_ev; rfl) | (apply pv_fld; rfl) | (apply g_load; first | (apply pv_ld; rfl; (· (repeat (first | apply sel_here | apply sel_there))); rfl) ) | (apply g_bi; first | fail ) | (apply g_build; apply pv_build; (· (repeat (first | apply Bld.nil | (apply Bld.one; rfl; rfl; (· (repeat (first | apply SetAt.here | apply SetAt.there)))) )))) )) | apply wo_nil | apply wc_region | (apply wo_st; rfl; rfl; rfl; (· (repeat (first | apply sel_here | apply sel_there))); (· (repeat (first | apply SetAt.here | apply SetAt.there))); rfl) | (apply wo_bsl; (· (repeat (first | apply Rws'.nil | (apply Rws'.one; rfl; rfl; rfl) | (apply Rws'.agg; rfl; rfl; rfl)))); rfl; rfl; rfl; rfl; intro bx) ))
    refine wo_app (ao := a2) (n := i) (m := 1) rfl rfl (by (repeat (first | apply sel_here | apply sel_there)); done) (by (repeat (first | apply sel_here )); done) (by unfold maxLen; omega) (by omega) rfl (fun a4 d2 => ?_)
    (repeat (first | ((first | (apply wo_v; rfl) ); (· first | (apply pv_ev; rfl) | (apply pv_fld; rfl) | (apply g_bin; first | (apply a_add; rfl; rfl; infer_instance; omega) ) )) | apply wo_nil | apply wc_region | (apply wo_st; rfl; rfl; rfl; (· (repeat (first | apply sel_here | apply sel_there))); (· (repeat (first | apply SetAt.here | apply SetAt.there))); rfl) ))
    exact loop_end ⟨i + 1, l ++ [(x, sm)], a3, a4, d1, d2, rfl, by omega, hnx.symm, by rw [List.length_append, List.length_singleton, hli], by rw [orA_snoc, orB5_snoc]⟩ (by omega) (wk_mk (by (repeat (first | apply wkf_nil | (apply wkf_cons; rfl))); done) (by (repeat (first | apply sub_nil | (apply sub_cons; (· (repeat (first | apply sel_here | apply sel_there)))))); done) (by first | exact fun _ h => h | (intro r hr; cases hr; done) | (simp; done) | exact fun _ h => List.mem_append_left _ h | (intro r hr; simp [hr]; done)))
  · have e : i = ss.length := by omega
    have hl2 : l = ss.map (fun n => (n, sm)) := by rw [hl, e, List.take_length]
    subst hl2
    generalize ss.map (fun n => (n, sm)) = ps at *
    subst hli
    refine wc_still (ao := a1) (n := ps.length) (c := c1) (sz := 2) (by (repeat (first | apply sel_here | apply sel_there)); done) (fun R1 hS1 => ?_)
    refine wc_still (ao := a2) (n := ps.length) (c := c3) (sz := 2) (by (repeat (first | apply sel_here | apply sel_there)); done) (fun R2 hS2 => ?_)
    (repeat (first | ((first | (apply wo_v; rfl) ); (· first | (apply pv_ev; rfl) )) | apply wo_nil | apply wc_seq | apply wc_region | (apply wc_exit; rfl) | (apply wc_true; rfl) | (apply wc_false; rfl) | (apply a_dec_t; rfl; (· first | assumption | omega)) | (apply a_dec_f; rfl; (· first | assumption | omega)) ))
    (refine wc_regM [0] (aslL [(4, [0])]) (tblM1 (rfL 206 4 aa 0 0 0 0 0 nilS nilS nilS E0 nilS (.slice a2 ps.length c3) 0)) ([fiB b4 aa (.slice a1 ps.length c1), rfO b5 (rfL 206 4 aa 0 0 0 0 0 nilS nilS nilS E0 nilS (.slice a2 ps.length c3) 0), mdB bm so aa b wide (.slice A n c) vt sm ct kd]) (fm [(0, [rfO b3 rfZ])]) mixed (by kernel_rfl) (by kernel_rfl) (by decide) (aslL_ok (by decide)) (by (repeat (first | (apply prm_cons; (· (repeat (first | apply sel_here | apply sel_there)))) | apply List.Perm.nil )); done) ?_; (repeat (first | (apply HdM.val; rfl; rfl; (· first | apply gok_none ); (· first | (apply pv_ev; rfl) | (apply g_load; first | (apply pv_lda; rfl; (· (repeat (first | apply sel_here | apply sel_there))); (· (repeat (first | apply Cut.here0 | apply Cut.here )))) ) | (apply pv_mki; rfl; infer_instance) )) )))
    (refine hm_eff (cs := [0]) rfl (by decide) rfl rfl (by first | exact gok_none | exact gok_run rfl rfl) (fun a ha => outc_mono (outc_sta rfl rfl rfl rfl (by (repeat (first | apply LayAt.nil | apply LayAt.here )); done) a ha) (fun v M h => ⟨[M], And.intro h.1 (congrArg (fun x => [x]) h.2), rfl, by simp⟩)) (⟨_, _, And.intro rfl rfl, rfl⟩) ?_; rintro v Ms ⟨rfl, rfl⟩ _; simp only [setls, setl, reduceIte, Nat.reduceEqDiff]; (repeat (first | fail )))
    (refine HdM.nil ?_; intro H hH; simp only [Hp, fm, look, setl, List.flatMap_cons, List.flatMap_nil, reduceIte, Nat.reduceEqDiff, Option.getD_some, List.append_nil, List.cons_append, List.nil_append] at hH; subst hH)
    (repeat (first | apply wc_ret ))
    exact retv rfl (by (repeat (first | apply RV.nil | (apply RV.tmp; rfl) | (apply RV.agg; rfl; (· (repeat (first | apply sel_here | apply sel_there))); infer_instance; (· (repeat (first | apply Cut.here0 | apply Cut.here )))) )); done) (⟨_, _, rfl, ⟨a1, _, c1, rfl, (hS1.sq).mono (fun r hr => List.mem_append_right _ hr)⟩, ⟨a2, _, c3, rfl, hS2.sq⟩, rfl⟩) (by (repeat (first | apply sub_nil )); done) (by first | exact fun _ h => h | (intro r hr; cases hr; done) | (simp; done) | exact fun _ h => List.mem_append_left _ h | (intro r hr; simp [hr]; done))
end Go.Proofs.Ytnjicnadlhfocaa

/-
  Layer 5's statements: made packets, of any sort.
-/
namespace Go.Proofs.Ytnjicnadlhfocaa
set_option linter.unusedSimpArgs false
set_option linter.unusedVariables false
open Go.RowKit
theorem Fn.moreRo {P : Program} {f : FuncId} {args : Array Value} {L : List It} {R : List Ro} {Post : Value → List It → List Ro → Prop} {b o sz : Nat} {xs : List (List Value)} (l k : Nat) (hr : ⟨b, o, sz, xs⟩ ∈ R)
    (h : Fn P f args L (⟨b, elt o l sz, sz, (xs.take k).drop l⟩ :: R) Post) : Fn P f args L R Post := fun w hw => by
  have h1 := hw.more (l := l) (h := k) hr
  have h2 : Sat w (feet L) (blks (⟨b, elt o l sz, sz, (xs.take k).drop l⟩ :: R)) L (⟨b, elt o l sz, sz, (xs.take k).drop l⟩ :: R) w :=
    ⟨h1.frm, h1.sat, h1.own, h1.dis, h1.rds, h1.rod, fun r hr2 => (h1.rok r hr2).imp id (Or.imp (fun hm => by
      obtain ⟨q, h3, h4⟩ := mem_blks.1 hm
      exact mem_blks.2 ⟨q, List.mem_cons_of_mem _ h3, h4⟩) id)⟩
  refine (h w h2).mono fun e w' ⟨v, L', R', he, hP, hS⟩ => ⟨v, L', R', he, hP, ?_⟩
  exact ⟨hS.frm, hS.sat, hS.own, hS.dis, hS.rds, hS.rod, fun r hr2 => (hS.rok r hr2).imp id (Or.imp (fun hm => by
    obtain ⟨q, h3, h4⟩ := mem_blks.1 hm
    rcases List.mem_cons.1 h3 with h5 | h5
    · exact mem_blks.2 ⟨⟨b, o, sz, xs⟩, hr, by rw [← h4, h5]⟩
    · exact mem_blks.2 ⟨q, h5, h4⟩) id)⟩
attribute [local irreducible] Pv WO WC Fn
set_option maxRecDepth 100000
attribute [local irreducible] ByteArray.extract

theorem ref_row {R : List Ro} : ∀ {p : Pkt} {w : Value}, RefV R p w → ∃ kd ct ss to ntp t pk oc A1 n1 c1 A2 n2 c2 A3 n3 c3 tx A4 n4 c4 A5 n5 c5 rt, w = rfA (rfL kd ct ss to ntp t pk oc (.slice A1 n1 c1) (.slice A2 n2 c2) (.slice A3 n3 c3) tx (.slice A4 n4 c4) (.slice A5 n5 c5) rt)
  | .sender .., _, h => by obtain ⟨A, n, c, rfl, _⟩ := h; exact ⟨_, _, _, _, _, _, _, _, _, _, _, _, _, _, _, _, _, _, _, _, _, _, _, _, _, rfl⟩
  | .receiver .., _, h => by obtain ⟨A, n, c, rfl, _⟩ := h; exact ⟨_, _, _, _, _, _, _, _, _, _, _, _, _, _, _, _, _, _, _, _, _, _, _, _, _, rfl⟩
  | .sdes .., _, h => by obtain ⟨A, n, c, _, rfl, _⟩ := h; exact ⟨_, _, _, _, _, _, _, _, _, _, _, _, _, _, _, _, _, _, _, _, _, _, _, _, _, rfl⟩
  | .bye .., _, h => by obtain ⟨A, n, c, rfl, _⟩ := h; exact ⟨_, _, _, _, _, _, _, _, _, _, _, _, _, _, _, _, _, _, _, _, _, _, _, _, _, rfl⟩
  | .nack .., _, h => by obtain ⟨A, n, c, rfl, _⟩ := h; exact ⟨_, _, _, _, _, _, _, _, _, _, _, _, _, _, _, _, _, _, _, _, _, _, _, _, _, rfl⟩
  | .pli .., _, h => by obtain rfl := h; exact ⟨_, _, _, _, _, _, _, _, _, _, _, _, _, _, _, _, _, _, _, _, _, _, _, _, _, rfl⟩
  | .fir .., _, h => by obtain ⟨A, n, c, rfl, _⟩ := h; exact ⟨_, _, _, _, _, _, _, _, _, _, _, _, _, _, _, _, _, _, _, _, _, _, _, _, _, rfl⟩
  | .remb .., _, h => by obtain ⟨A, n, c, rfl, _⟩ := h; exact ⟨_, _, _, _, _, _, _, _, _, _, _, _, _, _, _, _, _, _, _, _, _, _, _, _, _, rfl⟩
  | .other .., _, h => by obtain rfl := h; exact ⟨_, _, _, _, _, _, _, _, _, _, _, _, _, _, _, _, _, _, _, _, _, _, _, _, _, rfl⟩
theorem yMkR (so aa b wide : Int) (vn vt : Value) (hvn : vn.oneCell' = true) (hvt : vt.oneCell' = true) (sm ct kd : Int) (R : List Ro) (p : Pkt) (h : RepC R (mdL so aa b wide vn vt sm ct kd) p) (h4 : (bits .and .i64 so 255).tmod 9 ≠ 4) (h5 : (bits .and .i64 so 255).tmod 9 ≠ 5) (h6 : (bits .and .i64 so 255).tmod 9 ≠ 6) (h7 : (bits .and .i64 so 255).tmod 9 ≠ 7) (h8 : (bits .and .i64 so 255).tmod 9 ≠ 8) :
    MkC R (mdL so aa b wide vn vt sm ct kd) p := by
  generalize hX : (bits .and .i64 so 255).tmod 9 = X at *
  refine fn_intro Try.func12 rfl Try.ntmps12 rfl (fun E => ?_)
  (repeat (first | ((first | (apply wo_v; rfl) ); (· first | (apply pv_ev; rfl) | (apply pv_fld; rfl) | (apply g_load; first | (apply pv_ld; rfl; (· (repeat (first | apply sel_here | apply sel_there))); rfl) ) | (apply g_bin; first | (apply pv_rem; rfl; rfl; omega) | (apply pv_rem_t; rfl; rfl; omega) | (apply pv_and; rfl; rfl) ) )) | apply wo_nil | apply wc_seq | apply wc_region | (apply wo_box1; rfl; rfl; rfl; intro bx) | (apply wo_boxa; rfl; rfl; intro bx) | (apply wo_alloc; rfl; intro bx) ))
  rename_i bm
  obtain ⟨b3, hb3⟩ : ∃ g, g = bx := ⟨_, rfl⟩
  subst hb3
  rw [hX]
  (repeat (first | ((first | (apply wo_v; rfl) ); (· first | (apply pv_ev; rfl) | (apply g_load; first | (apply pv_lda; rfl; (· (repeat (first | apply sel_here | apply sel_there))); (· (repeat (first | apply Cut.here0 | apply Cut.here )))) ) )) | apply wo_nil | apply wc_seq | apply wc_region | apply wc_block | apply wc_skip | (apply wc_true; rfl) | (apply wc_false; rfl) | (apply a_dec_t; rfl; (· first | assumption | omega)) | (apply a_dec_f; rfl; (· first | assumption | omega)) ))
  (refine wo_call (h) rfl (by (repeat (first | apply sub_nil )); done) (by first | exact fun _ h => h | (intro r hr; cases hr; done) | (simp; done) | exact fun _ h => List.mem_append_left _ h | (intro r hr; simp [hr]; done)) rfl ?_; rintro v L' R' ⟨u, w, rfl, hP, hQ, rfl⟩ H' hH RR hR; simp only [List.cons_append, List.nil_append] at hH hR; subst hH; have hR := hR.symm; subst hR)
  obtain ⟨kd, ct, ss, to, ntp, t, pk, oc, A1, n1, c1, A2, n2, c2, A3, n3, c3, tx, A4, n4, c4, A5, n5, c5, rt, rfl⟩ := ref_row hQ
  (repeat (first | ((first | (apply wo_v; rfl) ); (· first | (apply pv_ev; rfl) )) | apply wo_nil | apply wc_ret | (apply wo_sta; rfl; rfl; rfl; rfl; (· (repeat (first | apply sel_here ))); (· (repeat (first | apply LayAt.nil | apply LayAt.here ))); rfl) ))
  exact retv rfl (by (repeat (first | apply RV.nil | (apply RV.tmp; rfl) | (apply RV.agg; rfl; (· (repeat (first | apply sel_here ))); infer_instance; (· (repeat (first | apply Cut.here0 | apply Cut.here )))) )); done) (⟨_, _, rfl, hP, hQ, rfl⟩) (by (repeat (first | apply sub_nil )); done) (by first | exact fun _ h => h | (intro r hr; cases hr; done) | (simp; done) | exact fun _ h => List.mem_append_left _ h | (intro r hr; simp [hr]; done))
def mkM (m : Md) : Pkt :=
  let t := (bits .and .i64 m.so 255).tmod 9
  if t = 4 then .nack m.a m.b ((m.nums.take 40).map prs5)
  else if t = 5 then .pli m.a m.b
  else if t = 6 then .fir m.a ((m.nums.take 40).map fun n => (n, m.sm))
  else if t = 7 then .remb m.a (rtM5 m.wide m.sm) (m.nums.take 40)
  else if t = 8 then .other m.kd m.ct (fsM m.tx 60)
  else if t = 0 then .sender m.a m.wide m.b 3 m.a (bksM m.sm m.a m.b m.nums)
  else if t = 1 then .receiver m.a (bksM m.sm m.a m.b m.nums)
  else if t = 2 then .sdes [(m.a, chM m.sm m.tx), (m.a, chM m.sm m.tx)]
  else .bye (m.nums.take 40) (fsM m.tx 257)
theorem yMake (m : Md) (hm : m.ok) (A : Option Addr) (n c : Nat) (A2 : Option Addr) (n2 c2 : Nat) (R : List Ro) (hS : SQ R 1 A n c (c32 m.nums)) (hc : n ≤ c) (hT : SQ R 1 A2 n2 c2 (cST m.tx)) :
    MkC R (mdL m.so m.a m.b m.wide (.slice A n c) (.slice A2 n2 c2) m.sm m.ct m.kd) (mkM m) := by
  obtain ⟨k1, k2, k3, k4, k5, k6, k7, k8, k9⟩ := hm
  have hn9 : n ≤ 9223372036854775807 := by have := hS.len; rw [c32_len] at this; omega
  have hn9t : n2 ≤ 9223372036854775807 := by have := hT.len; rw [cST_len] at this; omega
  have key : ∀ R', SQ R' 1 A n c (c32 m.nums) → SQ R' 1 A2 n2 c2 (cST m.tx) → SQ R' 1 A (min n 40) c (c32 (m.nums.take 40)) → MkC R' (mdL m.so m.a m.b m.wide (.slice A n c) (.slice A2 n2 c2) m.sm m.ct m.kd) (mkM m) := fun R' hS hT hS40 => by
    unfold mkM
    dsimp only
    by_cases t4 : (bits .and .i64 m.so 255).tmod 9 = 4
    · rw [if_pos t4]; exact yMk4 m.so m.a m.b m.wide m.nums A n c _ rfl m.sm m.ct m.kd R' hS hn9 hc hS40 k4 t4
    rw [if_neg t4]
    by_cases t5 : (bits .and .i64 m.so 255).tmod 9 = 5
    · rw [if_pos t5]; exact yMk5 m.so m.a m.b m.wide _ _ rfl rfl m.sm m.ct m.kd R' t5
    rw [if_neg t5]
    by_cases t6 : (bits .and .i64 m.so 255).tmod 9 = 6
    · rw [if_pos t6]; exact yMk6 m.so m.a m.b m.wide m.nums A n c _ rfl m.sm m.ct m.kd R' hS hn9 hc hS40 k4 t6
    rw [if_neg t6]
    by_cases t7 : (bits .and .i64 m.so 255).tmod 9 = 7
    · rw [if_pos t7]; exact yMk7 m.so m.a m.b m.wide m.nums A n c _ rfl m.sm m.ct m.kd R' hS hn9 hc hS40 k5 t7
    rw [if_neg t7]
    by_cases t8 : (bits .and .i64 m.so 255).tmod 9 = 8
    · rw [if_pos t8]; exact yMk8 m.so m.a m.b m.wide m.tx _ rfl A2 n2 c2 m.sm m.ct m.kd R' hT t8
    rw [if_neg t8]
    by_cases t0 : (bits .and .i64 m.so 255).tmod 9 = 0
    · rw [if_pos t0]
      exact yMkR _ _ _ _ _ _ rfl rfl _ _ _ R' _ (yRep0 m.so m.a m.b m.wide m.nums A n c _ rfl m.sm m.ct m.kd R' hS k4 hn9 t0) t4 t5 t6 t7 t8
    rw [if_neg t0]
    by_cases t1 : (bits .and .i64 m.so 255).tmod 9 = 1
    · rw [if_pos t1]
      exact yMkR _ _ _ _ _ _ rfl rfl _ _ _ R' _ (yRep1 m.so m.a m.b m.wide m.nums A n c _ rfl m.sm m.ct m.kd R' hS k4 hn9 t1) t4 t5 t6 t7 t8
    rw [if_neg t1]
    by_cases t2 : (bits .and .i64 m.so 255).tmod 9 = 2
    · rw [if_pos t2]
      exact yMkR _ _ _ _ _ _ rfl rfl _ _ _ R' _ (yRep2 m.so m.a m.b m.wide m.nums m.tx A n c A2 n2 c2 m.sm m.ct m.kd R' hS k4 hn9 hT hn9t k5 t2) t4 t5 t6 t7 t8
    rw [if_neg t2]
    exact yMkR _ _ _ _ _ _ rfl rfl _ _ _ R' _ (yRep3 m.so m.a m.b m.wide m.nums m.tx A n c A2 n2 c2 m.sm m.ct m.kd R' hS k4 hn9 hc hS40 hT t0 t1 t2) t4 t5 t6 t7 t8
  have hln : m.nums.length = n := by have := hS.len; rwa [c32_len] at this
  by_cases h40 : 40 < n
  · obtain ⟨b0, o0, rfl, hmem⟩ := hS.pos (by omega)
    refine Fn.moreRo 0 40 hmem (key _ (hS.mono fun r hr => List.mem_cons_of_mem _ hr) (hT.mono fun r hr => List.mem_cons_of_mem _ hr) ⟨by rw [c32_len, List.length_take]; omega, fun _ => ⟨b0, o0, rfl, ?_⟩⟩)
    have e : ((c32 m.nums).take 40).drop 0 = c32 (m.nums.take 40) := by rw [List.drop_zero, c32, c32, List.map_take]
    rw [e, show elt o0 0 1 = o0 by simp [elt]]
    exact List.mem_cons_self
  · refine key R hS hT ?_
    rw [Nat.min_eq_left (by omega), List.take_of_length_le (by omega)]
    exact hS
theorem cutS_le (s : ByteArray) (k : Nat) : (cutS s k).size ≤ k := cutS_size s k
theorem fsM_le (tx : List ByteArray) (k : Nat) : (fsM tx k).size ≤ k := by
  unfold fsM
  split
  · exact Nat.zero_le _
  · exact cutS_size _ _
theorem itM5_all {sm : Int} : ∀ {i : Nat} {l : List ByteArray}, ∀ x ∈ itM5 sm i l, in8 x.1 ∧ x.2.size ≤ 257
  | i, [], x, hx => by cases hx
  | i, t :: l, x, hx => by
    rcases List.mem_cons.1 hx with rfl | hx
    · exact ⟨by unfold in8; dsimp only; omega, cutS_size _ _⟩
    · exact itM5_all x hx
theorem chM_len (sm : Int) (tx : List ByteArray) : (chM sm tx).length ≤ 4 := by unfold chM; rw [itM5_len, List.length_take]; omega
theorem rtM5_in {wide sm : Int} (h : in64 wide) : in64 (rtM5 wide sm) := by
  unfold rtM5
  have hp : (0 : Int) < 2 ^ (min (bits .and .u8 sm 63).toNat IntKind.u64.bits) := Int.pow_pos (by omega)
  rw [Int.fdiv_eq_ediv_of_nonneg _ (by omega)]
  exact ⟨Int.ediv_nonneg h.1 (by omega), Int.le_trans (Int.ediv_le_self _ h.1) h.2⟩
theorem bks_ok {m : Md} (hm : m.ok) : (∀ b ∈ bksM m.sm m.a m.b m.nums, b.ok) ∧ (bksM m.sm m.a m.b m.nums).length ≤ 33 := by
  obtain ⟨k1, k2, k3, k4, k5, k6, k7, k8, k9⟩ := hm
  refine ⟨fun b hb => ?_, by unfold bksM; rw [List.length_map, List.length_take]; omega⟩
  obtain ⟨x, hx, rfl⟩ := List.mem_map.1 hb
  obtain ⟨x1, x2⟩ := k4 x (List.mem_of_mem_take hx)
  unfold Bk.ok bkM
  exact ⟨⟨x1, x2⟩, k5, k2, k1, by dsimp only; omega, by dsimp only; omega, k1⟩
end Go.Proofs.Ytnjicnadlhfocaa

/-
  Package rtcp: Nack.Seqs.
-/
namespace Go.Proofs.Ytnjicnadlhfocaa
set_option linter.unusedSimpArgs false
set_option linter.unusedVariables false
open Go.RowKit
attribute [local irreducible] Pv WO WC Fn
set_option maxRecDepth 100000

theorem and16_1 {a : Int} (h : 0 ≤ a ∧ a ≤ 65535) : bits .and .u16 a 1 = a % 2 := by
  obtain ⟨u, rfl⟩ := Int.eq_ofNat_of_zero_le h.1
  show IntKind.u16.wrap ((BitVec.ofInt 16 (u : Int) &&& BitVec.ofInt 16 ((1 : Nat) : Int)).toNat : Int) = _
  have hz : ∀ c : Nat, c < 2 ^ 16 → (BitVec.ofInt 16 (c : Int)).toNat = c := fun c hc => by
    rw [BitVec.ofInt_natCast, BitVec.toNat_ofNat]; exact Nat.mod_eq_of_lt hc
  rw [BitVec.toNat_and, hz u (by omega), hz 1 (by omega), Nat.and_one_is_mod, IntKind.wrap_u16]
  omega
theorem bit16 {x : Int} (h : 0 ≤ x ∧ x ≤ 65535) {i : Nat} (hi : i < 16) : bits .and .u16 (x.fdiv (2 ^ (min ((i : Int).toNat) IntKind.u16.bits))) 1 = x / 2 ^ i % 2 := by
  have e : min ((i : Int).toNat) IntKind.u16.bits = i := by
    show min i 16 = i
    omega
  have hp : (0 : Int) < 2 ^ i := Int.pow_pos (by omega)
  rw [e, Int.fdiv_eq_ediv_of_nonneg _ (Int.le_of_lt hp)]
  refine and16_1 ⟨Int.ediv_nonneg h.1 (Int.le_of_lt hp), ?_⟩
  have := Int.ediv_le_self (2 ^ i) h.1
  omega
/-- the numbers of a pair, by its first i bits -/
def seqB (p b : Int) : Nat → List Int
  | 0 => [p]
  | i + 1 => if b / 2 ^ i % 2 = 1 then seqB p b i ++ [((p + i) % 65536 + 1) % 65536] else seqB p b i
theorem seqB_len (p b : Int) : ∀ i, (seqB p b i).length ≤ i + 1
  | 0 => Nat.le_refl _
  | i + 1 => by
    have := seqB_len p b i
    rw [seqB]
    split
    · rw [List.length_append, List.length_singleton]; omega
    · omega
def seqL : List (Int × Int) → List Int
  | [] => []
  | x :: l => seqB x.1 x.2 16 ++ seqL l
theorem seqL_app : ∀ a b : List (Int × Int), seqL (a ++ b) = seqL a ++ seqL b
  | [], b => rfl
  | x :: a, b => by
    show seqB _ _ _ ++ seqL (a ++ b) = (seqB _ _ _ ++ seqL a) ++ seqL b
    rw [seqL_app a b, List.append_assoc]
theorem seqL_take {l : List (Int × Int)} {j : Nat} {x : Int × Int} (h : l[j]? = some x) : seqL (l.take (j + 1)) = seqL (l.take j) ++ seqB x.1 x.2 16 := by
  rw [List.take_add_one, h, seqL_app]
  show seqL (l.take j) ++ (seqB x.1 x.2 16 ++ []) = _
  rw [List.append_nil]
theorem seqL_len : ∀ l : List (Int × Int), (seqL l).length ≤ 17 * l.length
  | [] => Nat.le_refl _
  | x :: l => by
    have h1 := seqL_len l
    have h2 := seqB_len x.1 x.2 16
    show (seqB _ _ _ ++ seqL l).length ≤ _
    rw [List.length_append, List.length_cons]; omega
abbrev sO (ao : Option Addr) (n c : Nat) (l : List Int) : It := .own 47 1 ao n c (c16 l)
abbrev prO (b : Nat) (p q : Int) : It := .ob b (.cells #[.int .u16 p, .int .u16 q] 138 (0, 0))
abbrev nkO (b : Nat) (fm to : Int) (v : Value) : It := .ob b (.cells #[.int .u32 fm, .int .u32 to, v] 66 (0, 0))
theorem c16_snoc (ao : Option Addr) (n c : Nat) (l : List Int) (x : Int) : sO ao n c (l ++ [x]) = It.own 47 1 ao n c (c16 l ++ c16 [x]) := by rw [sO, c16_app]
set_option maxHeartbeats 8000000 in
theorem nSeqs (fm to : Int) (l : List (Int × Int)) (A : Option Addr) (n c : Nat) (R : List Ro) (hS : SQ R 2 A n c (pairV l)) (hl : l.length ≤ 100000) (hb : ∀ x ∈ l, in16 x.1 ∧ in16 x.2) :
    Fn Try.prog 21 #[.agg #[.int .u32 fm, .int .u32 to, .slice A n c]] [] R (fun v L' R' => ∃ ao c', v = .slice ao (seqL l).length c' ∧ L' = [sO ao (seqL l).length c' (seqL l)] ∧ R' = []) := by
  have hn : n = l.length := by rw [← hS.len, pairV_len]
  subst hn
  refine fn_intro Try.func21 rfl Try.ntmps21 rfl (fun E => ?_)
  (repeat (first | ((first | (apply wo_v; rfl) ); (· first | (apply pv_ev; rfl) | (apply pv_fld; rfl) | (apply g_load; first | (apply pv_ld; rfl; (· (repeat (first | apply sel_here ))); rfl) ) | (apply g_bi; first | (apply pv_len_sl; rfl) ) )) | apply wo_nil | apply wc_seq | apply wc_region | (apply wo_box1; rfl; rfl; rfl; intro bx) | (apply wo_boxa; rfl; rfl; intro bx) ))
  refine wc_own0 47 1 ?_
  refine wc_join0 (fun st => ∃ ao c', st = ⟨[(3, .slice ao (seqL l).length c')], [sO ao (seqL l).length c' (seqL l)], R⟩) ?_ ?_
  · refine wc_block ?_
    refine wc_loop' (fun q st => ∃ (i : Nat) (ao : Option Addr) (c' : Nat) (s : List Int), q = l.length - i ∧ i ≤ l.length ∧ s = seqL (l.take i) ∧ st = ⟨[(3, .slice ao s.length c'), (8, .slice A l.length c), (9, .int .i64 l.length), (10, .int .i64 i)], [sO ao s.length c' s], R⟩) ⟨0, none, 0, [], rfl, Nat.zero_le _, rfl, rfl⟩ (wk_mk (by (repeat (first | apply wkf_nil | (apply wkf_cons; rfl))); done) (by (repeat (first | apply sub_nil )); done) (by first | exact fun _ h => h | (intro r hr; cases hr; done) | (simp; done) | exact fun _ h => List.mem_append_left _ h | (intro r hr; simp [hr]; done))) ?_
    rintro q st ⟨i, ao, c', s, rfl, hi, hs, rfl⟩
    by_cases hlt : i < l.length
    · obtain ⟨⟨p, b⟩, hx⟩ : ∃ x, l[i]? = some x := ⟨_, List.getElem?_eq_getElem hlt⟩
      have hr := pairV_at hx
      obtain ⟨⟨p1, p2⟩, b1, b2⟩ := hb _ (List.mem_of_getElem? hx)
      have hnx := seqL_take hx
      have hlen : s.length ≤ 17 * i := by
        have := seqL_len (l.take i)
        rw [← hs, List.length_take] at this; omega
      rw [← hs] at hnx
      dsimp only at hr p1 p2 b1 b2 hnx
      obtain ⟨a0, o0, rfl, hmem⟩ := hS.pos (by omega)
      (repeat (first | ((first | (apply wo_v; rfl) ); (· first | (apply pv_ev; rfl) )) | apply wo_nil | apply wc_seq | apply wc_region | apply wc_skip | (apply wc_true; rfl) | (apply wc_false; rfl) | (apply a_dec_t; rfl; (· first | assumption | omega)) ))
      refine wc_block ?_
      (repeat (first | ((first | (apply wo_v; rfl) ); (· first | (apply pv_ev; rfl) | (apply pv_fld; rfl) | (apply g_load; first | (apply pv_ld; rfl; (· (repeat (first | apply sel_here ))); rfl) | (apply pv_lda; rfl; (· (repeat (first | apply sel_there))); (· (repeat (first | fail )))) | (apply pv_ld_owna; rfl; (· (repeat (first | apply sel_there))); (· assumption)) | (apply pv_ld_roa; rfl; (· (first | assumption )); (· assumption))) | (apply g_bi; first | fail ) | (apply g_idx; first | (apply pv_idx; rfl; rfl; omega) ) )) | apply wo_nil | apply wc_seq | apply wc_region | (apply wo_alloc; rfl; intro bx) | (apply wo_bsl; (· (repeat (first | apply Rws'.nil | (apply Rws'.one; rfl; rfl; rfl) ))); rfl; rfl; rfl; rfl; intro bx) | (apply wo_sta; rfl; rfl; rfl; rfl; (· (repeat (first | apply sel_here ))); (· (repeat (first | apply LayAt.nil | apply LayAt.here ))); rfl) ))
      rename_i bp
      refine wo_app rfl rfl (by (repeat (first | apply sel_here | apply sel_there)); done) (by (repeat (first | apply sel_here )); done) (by unfold maxLen; omega) (by omega) rfl (fun ao2 c2 => ?_)
      (repeat (first | ((first | (apply wo_v; rfl) ); (· first | (apply pv_ev; rfl) )) | apply wo_nil | apply wc_seq | apply wc_region ))
      refine wc_join0 (fun st => ∃ ao c', st = ⟨[(3, .slice ao (seqL (l.take (i + 1))).length c'), (8, .slice (some ⟨a0, o0, none⟩) l.length c), (9, .int .i64 l.length), (10, .int .i64 i)], [sO ao (seqL (l.take (i + 1))).length c' (seqL (l.take (i + 1)))], R⟩) ?_ ?_
      · refine wc_block ?_
        refine wc_loop' (fun q st => ∃ (j : Nat) (ao : Option Addr) (c' : Nat) (u : List Int), q = 16 - j ∧ j ≤ 16 ∧ u = s ++ seqB p b j ∧ st = ⟨[(3, .slice ao u.length c'), (5, .pointer (some ⟨bp, 0, none⟩)), (8, .slice (some ⟨a0, o0, none⟩) l.length c), (9, .int .i64 l.length), (10, .int .i64 i), (19, .int .i64 j)], [sO ao u.length c' u, prO bp p b], R⟩) ⟨0, ao2, c2, s ++ [p], rfl, Nat.zero_le _, rfl, by rw [List.length_append, List.length_singleton, c16_snoc]⟩ (wk_mk (by (repeat (first | apply wkf_nil | (apply wkf_cons; rfl))); done) (by (repeat (first | apply sub_nil | (apply sub_cons; (· (repeat (first | apply sel_here | apply sel_there)))))); done) (by first | exact fun _ h => h | (intro r hr; cases hr; done) | (simp; done) | exact fun _ h => List.mem_append_left _ h | (intro r hr; simp [hr]; done))) ?_
        clear ao2 c2 ao c'
        rintro q st ⟨j, ao, c', u, rfl, hj, hu, rfl⟩
        have hul : u.length ≤ 17 * i + 17 := by
          have := seqB_len p b j
          rw [hu, List.length_append]; omega
        by_cases hlj : j < 16
        · have hbit := bit16 ⟨b1, b2⟩ hlj
          have hs1 : seqB p b (j + 1) = if b / 2 ^ j % 2 = 1 then seqB p b j ++ [((p + j) % 65536 + 1) % 65536] else seqB p b j := rfl
          by_cases hbt : b / 2 ^ j % 2 = 1
          · rw [if_pos hbt] at hs1
            have hbt2 := hbit.trans hbt
            (repeat (first | ((first | (apply wo_v; rfl) ); (· first | (apply pv_ev; rfl) )) | apply wo_nil | apply wc_seq | apply wc_region | apply wc_skip | (apply wc_true; rfl) | (apply wc_false; rfl) | (apply a_dec_t; rfl; (· first | assumption | omega)) ))
            refine wc_block ?_
            (repeat (first | ((first | (apply wo_v; rfl) ); (· first | (apply pv_ev; rfl) | (apply pv_fld; rfl) | (apply g_load; first | (apply pv_ld; rfl; (· (repeat (first | apply sel_here | apply sel_there))); rfl) ) | (apply g_bin; first | (apply a_add; rfl; rfl; infer_instance; omega) | (apply pv_and; rfl; rfl) | (apply pv_add_s; rfl; rfl; omega) | (apply a_add_u; rfl; rfl; infer_instance) | (apply a_shr; rfl; rfl; rfl; omega; rfl) | (apply pv_shr; rfl; rfl; omega) ) | (apply g_bi; first | fail ) | (apply g_conv; first | (apply a_conv; rfl; infer_instance; infer_instance; infer_instance; omega) ) )) | apply wo_nil | apply wc_seq | apply wc_region | (apply wc_true; rfl) | (apply wc_false; rfl) | (apply a_dec_t; rfl; (· first | assumption | omega)) | (apply wo_bsl; (· (repeat (first | apply Rws'.nil | (apply Rws'.one; rfl; rfl; rfl) ))); rfl; rfl; rfl; rfl; intro bx) ))
            refine wo_app rfl rfl (by (repeat (first | apply sel_here | apply sel_there)); done) (by (repeat (first | apply sel_here )); done) (by unfold maxLen; omega) (by omega) rfl (fun ao3 c3 => ?_)
            (repeat (first | ((first | (apply wo_v; rfl) ); (· first | (apply pv_ev; rfl) | (apply g_bin; first | (apply a_add; rfl; rfl; infer_instance; omega) ) )) | apply wo_nil | apply wc_region ))
            exact loop_end ⟨j + 1, ao3, c3, u ++ [_], rfl, by omega, by rw [hs1, hu, List.append_assoc], by rw [List.length_append, List.length_singleton, c16_snoc]⟩ (by omega) (wk_mk (by (repeat (first | apply wkf_nil | (apply wkf_cons; rfl))); done) (by (repeat (first | apply sub_nil | (apply sub_cons; (· (repeat (first | apply sel_here | apply sel_there)))))); done) (by first | exact fun _ h => h | (intro r hr; cases hr; done) | (simp; done) | exact fun _ h => List.mem_append_left _ h | (intro r hr; simp [hr]; done)))
          · rw [if_neg hbt] at hs1
            have hbt2 : ¬ bits .and .u16 (b.fdiv (2 ^ (min ((j : Int).toNat) IntKind.u16.bits))) 1 = 1 := by rw [hbit]; exact hbt
            (repeat (first | ((first | (apply wo_v; rfl) ); (· first | (apply pv_ev; rfl) )) | apply wo_nil | apply wc_seq | apply wc_region | apply wc_skip | (apply wc_true; rfl) | (apply wc_false; rfl) | (apply a_dec_t; rfl; (· first | assumption | omega)) ))
            refine wc_block ?_
            (repeat (first | ((first | (apply wo_v; rfl) ); (· first | (apply pv_ev; rfl) | (apply pv_fld; rfl) | (apply g_load; first | (apply pv_ld; rfl; (· (repeat (first | apply sel_here | apply sel_there))); rfl) ) | (apply g_bin; first | (apply a_add; rfl; rfl; infer_instance; omega) | (apply pv_and; rfl; rfl) | (apply a_shr; rfl; rfl; rfl; omega; rfl) | (apply pv_shr; rfl; rfl; omega) ) )) | apply wo_nil | apply wc_seq | apply wc_region | apply wc_skip | (apply wc_true; rfl) | (apply wc_false; rfl) | (apply a_dec_t; rfl; (· first | assumption | omega)) | (apply a_dec_f; rfl; (· first | assumption | omega)) ))
            exact loop_end ⟨j + 1, ao, c', u, rfl, by omega, by rw [hs1, hu], rfl⟩ (by omega) (wk_mk (by (repeat (first | apply wkf_nil | (apply wkf_cons; rfl))); done) (by (repeat (first | apply sub_nil )); done) (by first | exact fun _ h => h | (intro r hr; cases hr; done) | (simp; done) | exact fun _ h => List.mem_append_left _ h | (intro r hr; simp [hr]; done)))
        · have e : j = 16 := by omega
          subst e
          rw [← hnx] at hu
          subst hu
          (repeat (first | ((first | (apply wo_v; rfl) ); (· first | (apply pv_ev; rfl) )) | apply wo_nil | apply wc_seq | apply wc_region | (apply wc_exit; rfl) | (apply wc_true; rfl) | (apply wc_false; rfl) ))
          exact cut_end ⟨ao, c', rfl⟩ (wk_mk (by (repeat (first | apply wkf_nil | (apply wkf_cons; rfl))); done) (by (repeat (first | apply sub_nil )); done) (by first | exact fun _ h => h | (intro r hr; cases hr; done) | (simp; done) | exact fun _ h => List.mem_append_left _ h | (intro r hr; simp [hr]; done)))
      rintro st ⟨ao, c', rfl⟩
      (repeat (first | ((first | (apply wo_v; rfl) ); (· first | (apply pv_ev; rfl) | (apply g_bin; first | (apply a_add; rfl; rfl; infer_instance; omega) ) )) | apply wo_nil | apply wc_region ))
      exact loop_end ⟨i + 1, ao, c', _, rfl, by omega, rfl, rfl⟩ (by omega) (wk_mk (by (repeat (first | apply wkf_nil | (apply wkf_cons; rfl))); done) (by (repeat (first | apply sub_nil )); done) (by first | exact fun _ h => h | (intro r hr; cases hr; done) | (simp; done) | exact fun _ h => List.mem_append_left _ h | (intro r hr; simp [hr]; done)))
    · have e : i = l.length := by omega
      subst e
      rw [List.take_length] at hs
      subst hs
      (repeat (first | ((first | (apply wo_v; rfl) ); (· first | (apply pv_ev; rfl) )) | apply wo_nil | apply wc_seq | apply wc_region | (apply wc_exit; rfl) | (apply wc_true; rfl) | (apply wc_false; rfl) | (apply a_dec_t; rfl; (· first | assumption | omega)) | (apply a_dec_f; rfl; (· first | assumption | omega)) ))
      exact cut_end ⟨ao, c', rfl⟩ (wk_mk (by (repeat (first | apply wkf_nil | (apply wkf_cons; rfl))); done) (by (repeat (first | apply sub_nil )); done) (by first | exact fun _ h => h | (intro r hr; cases hr; done) | (simp; done) | exact fun _ h => List.mem_append_left _ h | (intro r hr; simp [hr]; done)))
  rintro st ⟨ao, c', rfl⟩
  (repeat (first | ((first | (apply wo_v; rfl) ); (· first | (apply pv_ev; rfl) )) | apply wo_nil | apply wc_seq | apply wc_region | apply wc_ret ))
  exact ret1 rfl rfl ⟨ao, c', rfl, rfl, rfl⟩ ((by (repeat (first | apply sub_nil )); done) : List.Perm _ ([_] ++ _)) (by first | exact fun _ h => h | (intro r hr; cases hr; done) | (simp; done) | exact fun _ h => List.mem_append_left _ h | (intro r hr; simp [hr]; done))
end Go.Proofs.Ytnjicnadlhfocaa

/-
  Layer 5's document: the numbers of pairs.
-/
namespace Go.Proofs.Ytnjicnadlhfocaa
set_option linter.unusedSimpArgs false
set_option linter.unusedVariables false
open Go.RowKit
attribute [local irreducible] Pv WO WC Fn
set_option maxRecDepth 100000

abbrev rprO (b : Nat) (p q : Int) : It := .ob b (.cells #[.int .u16 p, .int .u16 q] 139 (0, 0))
def bt16 (j : Nat) : Int := if j = 16 then 1 else 2 ^ j
theorem seq_e {p : Int} (j : Nat) (h : 0 ≤ p ∧ p ≤ 65535) : ((p + j) % 65536 + 1) % 65536 = (p + (j + 1)) % 65536 := by omega
set_option maxHeartbeats 8000000 in
theorem eSeqs (l : List (Int × Int)) (A : Option Addr) (n c : Nat) (R : List Ro) (hS : SQ R 2 A n c (pairV l)) (hl : l.length ≤ 100000) (hb : ∀ x ∈ l, in16 x.1 ∧ in16 x.2) :
    Fn Try.prog 47 #[.slice A n c] [] R (fun v L' R' => ∃ ao c', v = .slice ao (seqL l).length c' ∧ L' = [sO ao (seqL l).length c' (seqL l)] ∧ R' = []) := by
  have hn : n = l.length := by rw [← hS.len, pairV_len]
  subst hn
  refine fn_intro Try.func47 rfl Try.ntmps47 rfl (fun E => ?_)
  (repeat (first | ((first | (apply wo_v; rfl) ); (· first | (apply pv_ev; rfl) | (apply g_bi; first | (apply pv_len_sl; rfl) ) )) | apply wo_nil | apply wc_seq | apply wc_region | (apply wo_bsl; (· (repeat (first | apply Rws'.nil ))); rfl; rfl; rfl; rfl; intro bx) ))
  refine wc_join0 (fun st => ∃ ao c', st = ⟨[(3, .slice ao (seqL l).length c')], [sO ao (seqL l).length c' (seqL l)], R⟩) ?_ ?_
  · refine wc_block ?_
    refine wc_loop' (fun q st => ∃ (i : Nat) (ao : Option Addr) (c' : Nat) (s : List Int), q = l.length - i ∧ i ≤ l.length ∧ s = seqL (l.take i) ∧ st = ⟨[(3, .slice ao s.length c'), (9, .slice A l.length c), (10, .int .i64 l.length), (11, .int .i64 i)], [sO ao s.length c' s], R⟩) ⟨0, _, _, [], rfl, Nat.zero_le _, rfl, rfl⟩ (wk_mk (by (repeat (first | apply wkf_nil | (apply wkf_cons; rfl))); done) (by (repeat (first | apply sub_nil )); done) (by first | exact fun _ h => h | (intro r hr; cases hr; done) | (simp; done) | exact fun _ h => List.mem_append_left _ h | (intro r hr; simp [hr]; done))) ?_
    rintro q st ⟨i, ao, c', s, rfl, hi, hs, rfl⟩
    by_cases hlt : i < l.length
    · obtain ⟨⟨p, b⟩, hx⟩ : ∃ x, l[i]? = some x := ⟨_, List.getElem?_eq_getElem hlt⟩
      have hr := pairV_at hx
      obtain ⟨⟨p1, p2⟩, b1, b2⟩ := hb _ (List.mem_of_getElem? hx)
      have hnx := seqL_take hx
      have hlen : s.length ≤ 17 * i := by
        have := seqL_len (l.take i)
        rw [← hs, List.length_take] at this; omega
      rw [← hs] at hnx
      dsimp only at hr p1 p2 b1 b2 hnx
      obtain ⟨a0, o0, rfl, hmem⟩ := hS.pos (by omega)
      (repeat (first | ((first | (apply wo_v; rfl) ); (· first | (apply pv_ev; rfl) )) | apply wo_nil | apply wc_seq | apply wc_region | apply wc_skip | (apply wc_true; rfl) | (apply wc_false; rfl) | (apply a_dec_t; rfl; (· first | assumption | omega)) ))
      refine wc_block ?_
      (repeat (first | ((first | (apply wo_v; rfl) ); (· first | (apply pv_ev; rfl) | (apply pv_fld; rfl) | (apply g_load; first | (apply pv_ld; rfl; (· (repeat (first | apply sel_here ))); rfl) | (apply pv_lda; rfl; (· (repeat (first | apply sel_there))); (· (repeat (first | fail )))) | (apply pv_ld_owna; rfl; (· (repeat (first | apply sel_there))); (· assumption)) | (apply pv_ld_roa; rfl; (· (first | assumption )); (· assumption))) | (apply g_bi; first | fail ) | (apply g_idx; first | (apply pv_idx; rfl; rfl; omega) ) )) | apply wo_nil | apply wc_seq | apply wc_region | (apply wo_alloc; rfl; intro bx) | (apply wo_bsl; (· (repeat (first | apply Rws'.nil | (apply Rws'.one; rfl; rfl; rfl) ))); rfl; rfl; rfl; rfl; intro bx) | (apply wo_sta; rfl; rfl; rfl; rfl; (· (repeat (first | apply sel_here ))); (· (repeat (first | apply LayAt.nil | apply LayAt.here ))); rfl) ))
      rename_i bp
      refine wo_app rfl rfl (by (repeat (first | apply sel_here | apply sel_there)); done) (by (repeat (first | apply sel_here )); done) (by unfold maxLen; omega) (by omega) rfl (fun ao2 c2 => ?_)
      (repeat (first | ((first | (apply wo_v; rfl) ); (· first | (apply pv_ev; rfl) )) | apply wo_nil | apply wc_seq | apply wc_region ))
      refine wc_join0 (fun st => ∃ ao c', st = ⟨[(3, .slice ao (seqL (l.take (i + 1))).length c'), (9, .slice (some ⟨a0, o0, none⟩) l.length c), (10, .int .i64 l.length), (11, .int .i64 i)], [sO ao (seqL (l.take (i + 1))).length c' (seqL (l.take (i + 1)))], R⟩) ?_ ?_
      · refine wc_block ?_
        refine wc_loop' (fun q st => ∃ (j : Nat) (ao : Option Addr) (c' : Nat) (u : List Int) (g : Int), q = 16 - j ∧ j ≤ 16 ∧ u = s ++ seqB p b j ∧ g = bt16 j ∧ st = ⟨[(3, .slice ao u.length c'), (5, .pointer (some ⟨bp, 0, none⟩)), (6, .int .u16 g), (7, .int .i64 (j + 1)), (9, .slice (some ⟨a0, o0, none⟩) l.length c), (10, .int .i64 l.length), (11, .int .i64 i)], [sO ao u.length c' u, rprO bp p b], R⟩) ⟨0, ao2, c2, s ++ [p], 1, rfl, Nat.zero_le _, rfl, rfl, by rw [List.length_append, List.length_singleton, c16_snoc]⟩ (wk_mk (by (repeat (first | apply wkf_nil | (apply wkf_cons; rfl))); done) (by (repeat (first | apply sub_nil | (apply sub_cons; (· (repeat (first | apply sel_here | apply sel_there)))))); done) (by first | exact fun _ h => h | (intro r hr; cases hr; done) | (simp; done) | exact fun _ h => List.mem_append_left _ h | (intro r hr; simp [hr]; done))) ?_
        clear ao2 c2 ao c'
        rintro q st ⟨j, ao, c', u, g, rfl, hj, hu, hg, rfl⟩
        have hul : u.length ≤ 17 * i + 17 := by
          have := seqB_len p b j
          rw [hu, List.length_append]; omega
        by_cases hlj : j < 16
        · have hs1 : seqB p b (j + 1) = if b / 2 ^ j % 2 = 1 then seqB p b j ++ [((p + j) % 65536 + 1) % 65536] else seqB p b j := rfl
          rw [seq_e j ⟨p1, p2⟩] at hs1
          have hg1 : g = 2 ^ j := by rw [hg]; unfold bt16; rw [if_neg (by omega)]
          rw [← hg1] at hs1
          have hp : (0 : Int) < 2 ^ j := Int.pow_pos (by omega)
          have hp2 : (2 : Int) ^ (j + 1) = 2 ^ j * 2 := Int.pow_succ _ _
          have hp3 : j < 15 → (2 : Int) ^ (j + 1) ≤ 32768 := fun h => by
            have : (2 : Int) ^ (j + 1) ≤ 2 ^ 15 := by
              have := Nat.pow_le_pow_right (show 0 < 2 by omega) (show j + 1 ≤ 15 by omega)
              rw [show (2 : Int) = ((2 : Nat) : Int) from rfl, ← Int.natCast_pow, ← Int.natCast_pow]
              exact Int.ofNat_le.2 this
            have e : (2 : Int) ^ 15 = 32768 := by decide +kernel
            omega
          have hg2 : bt16 (j + 1) = if j = 15 then 1 else g * 2 := by
            unfold bt16
            by_cases h : j = 15
            · rw [if_pos (by omega), if_pos h]
            · rw [if_neg (by omega), if_neg h, hp2, hg1]
          have hq15 : j = 15 → g = 32768 := fun h => by rw [hg1, h]; decide +kernel
          rw [← hg1] at hp hp2
          rw [hp2] at hp3
          clear hp2 hg1
          have hgl : 1 ≤ g ∧ g ≤ 32768 := ⟨by omega, by
            by_cases h : j = 15
            · rw [hq15 h]; omega
            · have := hp3 (by omega); omega⟩
          have hd0 : 0 ≤ b / g := Int.ediv_nonneg b1 (by omega)
          have hd1 : b / g ≤ 65535 := Int.le_trans (Int.ediv_le_self g b1) b2
          have hm : (b / g).tmod 2 = b / g % 2 := Int.tmod_eq_emod_of_nonneg hd0
          by_cases hbt : b / g % 2 = 1
          · rw [if_pos hbt] at hs1
            rw [hbt] at hm
            by_cases h15 : j = 15
            · have hq := hq15 h15
              rw [if_pos h15] at hg2
              (repeat (first | ((first | (apply wo_v; rfl) ); (· first | (apply pv_ev; rfl) )) | apply wo_nil | apply wc_seq | apply wc_region | apply wc_skip | (apply wc_true; rfl) | (apply wc_false; rfl) | (apply a_dec_t; rfl; (· first | assumption | omega)) ))
              refine wc_block ?_
              (repeat (first | ((first | (apply wo_v; rfl) ); (· first | (apply pv_ev; rfl) | (apply pv_fld; rfl) | (apply g_load; first | (apply pv_ld; rfl; (· (repeat (first | apply sel_here | apply sel_there))); rfl) ) | (apply g_bin; first | (apply a_add; rfl; rfl; infer_instance; omega) | (apply a_quo; rfl; rfl; infer_instance; omega) | (apply pv_rem; rfl; rfl; omega) | (apply pv_add_s; rfl; rfl; omega) | (apply a_add_u; rfl; rfl; infer_instance) ) | (apply g_bi; first | fail ) | (apply g_conv; first | (apply a_conv; rfl; infer_instance; infer_instance; infer_instance; omega) ) )) | apply wo_nil | apply wc_seq | apply wc_region | (apply wc_true; rfl) | (apply wc_false; rfl) | (apply a_dec_t; rfl; (· first | assumption | omega)) | (apply wo_bsl; (· (repeat (first | apply Rws'.nil | (apply Rws'.one; rfl; rfl; rfl) ))); rfl; rfl; rfl; rfl; intro bx) ))
              refine wo_app rfl rfl (by (repeat (first | apply sel_here | apply sel_there)); done) (by (repeat (first | apply sel_here )); done) (by unfold maxLen; omega) (by omega) rfl (fun ao3 c3 => ?_)
              (repeat (first | ((first | (apply wo_v; rfl) ); (· first | (apply pv_ev; rfl) | (apply g_bin; first | (apply a_add; rfl; rfl; infer_instance; omega) | (apply a_mul; rfl; rfl; infer_instance; omega) | (apply a_mul_u; rfl; rfl; infer_instance) ) )) | apply wo_nil | apply wc_seq | apply wc_region | (apply wc_true; rfl) | (apply wc_false; rfl) | (apply a_dec_t; rfl; (· first | assumption | omega)) ))
              exact loop_end ⟨j + 1, ao3, c3, u ++ [_], _, rfl, by omega, by rw [hs1, hu, List.append_assoc], hg2.symm, by rw [List.length_append, List.length_singleton, c16_snoc]⟩ (by omega) (wk_mk (by (repeat (first | apply wkf_nil | (apply wkf_cons; rfl))); done) (by (repeat (first | apply sub_nil | (apply sub_cons; (· (repeat (first | apply sel_here | apply sel_there)))))); done) (by first | exact fun _ h => h | (intro r hr; cases hr; done) | (simp; done) | exact fun _ h => List.mem_append_left _ h | (intro r hr; simp [hr]; done)))
            · rw [if_neg h15] at hg2
              have hgk := hp3 (by omega)
              (repeat (first | ((first | (apply wo_v; rfl) ); (· first | (apply pv_ev; rfl) )) | apply wo_nil | apply wc_seq | apply wc_region | apply wc_skip | (apply wc_true; rfl) | (apply wc_false; rfl) | (apply a_dec_t; rfl; (· first | assumption | omega)) ))
              refine wc_block ?_
              (repeat (first | ((first | (apply wo_v; rfl) ); (· first | (apply pv_ev; rfl) | (apply pv_fld; rfl) | (apply g_load; first | (apply pv_ld; rfl; (· (repeat (first | apply sel_here | apply sel_there))); rfl) ) | (apply g_bin; first | (apply a_add; rfl; rfl; infer_instance; omega) | (apply a_quo; rfl; rfl; infer_instance; omega) | (apply pv_rem; rfl; rfl; omega) | (apply pv_add_s; rfl; rfl; omega) | (apply a_add_u; rfl; rfl; infer_instance) ) | (apply g_bi; first | fail ) | (apply g_conv; first | (apply a_conv; rfl; infer_instance; infer_instance; infer_instance; omega) ) )) | apply wo_nil | apply wc_seq | apply wc_region | (apply wc_true; rfl) | (apply wc_false; rfl) | (apply a_dec_t; rfl; (· first | assumption | omega)) | (apply wo_bsl; (· (repeat (first | apply Rws'.nil | (apply Rws'.one; rfl; rfl; rfl) ))); rfl; rfl; rfl; rfl; intro bx) ))
              refine wo_app rfl rfl (by (repeat (first | apply sel_here | apply sel_there)); done) (by (repeat (first | apply sel_here )); done) (by unfold maxLen; omega) (by omega) rfl (fun ao3 c3 => ?_)
              (repeat (first | ((first | (apply wo_v; rfl) ); (· first | (apply pv_ev; rfl) | (apply g_bin; first | (apply a_add; rfl; rfl; infer_instance; omega) | (apply a_mul; rfl; rfl; infer_instance; omega) ) )) | apply wo_nil | apply wc_seq | apply wc_region | apply wc_skip | (apply wc_true; rfl) | (apply wc_false; rfl) | (apply a_dec_t; rfl; (· first | assumption | omega)) | (apply a_dec_f; rfl; (· first | assumption | omega)) ))
              exact loop_end ⟨j + 1, ao3, c3, u ++ [_], _, rfl, by omega, by rw [hs1, hu, List.append_assoc], hg2.symm, by rw [List.length_append, List.length_singleton, c16_snoc]⟩ (by omega) (wk_mk (by (repeat (first | apply wkf_nil | (apply wkf_cons; rfl))); done) (by (repeat (first | apply sub_nil | (apply sub_cons; (· (repeat (first | apply sel_here | apply sel_there)))))); done) (by first | exact fun _ h => h | (intro r hr; cases hr; done) | (simp; done) | exact fun _ h => List.mem_append_left _ h | (intro r hr; simp [hr]; done)))
          · rw [if_neg hbt] at hs1
            have hmn : ¬ (b / g).tmod 2 = 1 := by rw [hm]; exact hbt
            by_cases h15 : j = 15
            · have hq := hq15 h15
              rw [if_pos h15] at hg2
              (repeat (first | ((first | (apply wo_v; rfl) ); (· first | (apply pv_ev; rfl) )) | apply wo_nil | apply wc_seq | apply wc_region | apply wc_skip | (apply wc_true; rfl) | (apply wc_false; rfl) | (apply a_dec_t; rfl; (· first | assumption | omega)) ))
              refine wc_block ?_
              (repeat (first | ((first | (apply wo_v; rfl) ); (· first | (apply pv_ev; rfl) | (apply pv_fld; rfl) | (apply g_load; first | (apply pv_ld; rfl; (· (repeat (first | apply sel_here | apply sel_there))); rfl) ) | (apply g_bin; first | (apply a_add; rfl; rfl; infer_instance; omega) | (apply a_mul; rfl; rfl; infer_instance; omega) | (apply a_quo; rfl; rfl; infer_instance; omega) | (apply pv_rem; rfl; rfl; omega) | (apply a_mul_u; rfl; rfl; infer_instance) ) )) | apply wo_nil | apply wc_seq | apply wc_region | apply wc_skip | (apply wc_true; rfl) | (apply wc_false; rfl) | (apply a_dec_t; rfl; (· first | assumption | omega)) | (apply a_dec_f; rfl; (· first | assumption | omega)) ))
              exact loop_end ⟨j + 1, ao, c', u, _, rfl, by omega, by rw [hs1, hu], hg2.symm, rfl⟩ (by omega) (wk_mk (by (repeat (first | apply wkf_nil | (apply wkf_cons; rfl))); done) (by (repeat (first | apply sub_nil )); done) (by first | exact fun _ h => h | (intro r hr; cases hr; done) | (simp; done) | exact fun _ h => List.mem_append_left _ h | (intro r hr; simp [hr]; done)))
            · rw [if_neg h15] at hg2
              have hgk := hp3 (by omega)
              (repeat (first | ((first | (apply wo_v; rfl) ); (· first | (apply pv_ev; rfl) )) | apply wo_nil | apply wc_seq | apply wc_region | apply wc_skip | (apply wc_true; rfl) | (apply wc_false; rfl) | (apply a_dec_t; rfl; (· first | assumption | omega)) ))
              refine wc_block ?_
              (repeat (first | ((first | (apply wo_v; rfl) ); (· first | (apply pv_ev; rfl) | (apply pv_fld; rfl) | (apply g_load; first | (apply pv_ld; rfl; (· (repeat (first | apply sel_here | apply sel_there))); rfl) ) | (apply g_bin; first | (apply a_add; rfl; rfl; infer_instance; omega) | (apply a_mul; rfl; rfl; infer_instance; omega) | (apply a_quo; rfl; rfl; infer_instance; omega) | (apply pv_rem; rfl; rfl; omega) ) )) | apply wo_nil | apply wc_seq | apply wc_region | apply wc_skip | (apply wc_true; rfl) | (apply wc_false; rfl) | (apply a_dec_t; rfl; (· first | assumption | omega)) | (apply a_dec_f; rfl; (· first | assumption | omega)) ))
              exact loop_end ⟨j + 1, ao, c', u, _, rfl, by omega, by rw [hs1, hu], hg2.symm, rfl⟩ (by omega) (wk_mk (by (repeat (first | apply wkf_nil | (apply wkf_cons; rfl))); done) (by (repeat (first | apply sub_nil )); done) (by first | exact fun _ h => h | (intro r hr; cases hr; done) | (simp; done) | exact fun _ h => List.mem_append_left _ h | (intro r hr; simp [hr]; done)))
        · have e : j = 16 := by omega
          subst e
          rw [← hnx] at hu
          subst hu
          (repeat (first | ((first | (apply wo_v; rfl) ); (· first | (apply pv_ev; rfl) )) | apply wo_nil | apply wc_seq | apply wc_region | (apply wc_exit; rfl) | (apply wc_true; rfl) | (apply wc_false; rfl) ))
          exact cut_end ⟨ao, c', rfl⟩ (wk_mk (by (repeat (first | apply wkf_nil | (apply wkf_cons; rfl))); done) (by (repeat (first | apply sub_nil )); done) (by first | exact fun _ h => h | (intro r hr; cases hr; done) | (simp; done) | exact fun _ h => List.mem_append_left _ h | (intro r hr; simp [hr]; done)))
      rintro st ⟨ao, c', rfl⟩
      (repeat (first | ((first | (apply wo_v; rfl) ); (· first | (apply pv_ev; rfl) | (apply g_bin; first | (apply a_add; rfl; rfl; infer_instance; omega) ) )) | apply wo_nil | apply wc_region ))
      exact loop_end ⟨i + 1, ao, c', _, rfl, by omega, rfl, rfl⟩ (by omega) (wk_mk (by (repeat (first | apply wkf_nil | (apply wkf_cons; rfl))); done) (by (repeat (first | apply sub_nil )); done) (by first | exact fun _ h => h | (intro r hr; cases hr; done) | (simp; done) | exact fun _ h => List.mem_append_left _ h | (intro r hr; simp [hr]; done)))
    · have e : i = l.length := by omega
      subst e
      rw [List.take_length] at hs
      subst hs
      (repeat (first | ((first | (apply wo_v; rfl) ); (· first | (apply pv_ev; rfl) )) | apply wo_nil | apply wc_seq | apply wc_region | (apply wc_exit; rfl) | (apply wc_true; rfl) | (apply wc_false; rfl) | (apply a_dec_t; rfl; (· first | assumption | omega)) | (apply a_dec_f; rfl; (· first | assumption | omega)) ))
      exact cut_end ⟨ao, c', rfl⟩ (wk_mk (by (repeat (first | apply wkf_nil | (apply wkf_cons; rfl))); done) (by (repeat (first | apply sub_nil )); done) (by first | exact fun _ h => h | (intro r hr; cases hr; done) | (simp; done) | exact fun _ h => List.mem_append_left _ h | (intro r hr; simp [hr]; done)))
  rintro st ⟨ao, c', rfl⟩
  (repeat (first | ((first | (apply wo_v; rfl) ); (· first | (apply pv_ev; rfl) )) | apply wo_nil | apply wc_seq | apply wc_region | apply wc_ret ))
  exact ret1 rfl rfl ⟨ao, c', rfl, rfl, rfl⟩ ((by (repeat (first | apply sub_nil )); done) : List.Perm _ ([_] ++ _)) (by first | exact fun _ h => h | (intro r hr; cases hr; done) | (simp; done) | exact fun _ h => List.mem_append_left _ h | (intro r hr; simp [hr]; done))
end Go.Proofs.Ytnjicnadlhfocaa
