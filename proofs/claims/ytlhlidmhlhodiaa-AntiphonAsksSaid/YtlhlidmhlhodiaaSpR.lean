/-
  Sparse frames: regions that draw their order and change memory. Each operation either only reads what nobody in the region changes, or changes the items of one class; operations of one class wait for one another. One walk in the text's order serves every order.
-/
import Derived.Test.YtlhlidmhlhodiaaSpM
namespace Go.Proofs.Ytlhlidmhlhodiaa
set_option linter.unusedSimpArgs false
set_option linter.unusedVariables false
open Go.RowKit

def upd (m : Nat → List It) (c : Nat) (M : List It) : Nat → List It := fun d => bif Nat.beq c d then M else m d
theorem upd_self (m : Nat → List It) (c : Nat) (M : List It) : upd m c M c = M := by simp [upd]
theorem upd_ne (m : Nat → List It) {c d : Nat} (M : List It) (h : c ≠ d) : upd m c M d = m d := by
  have : Nat.beq c d = false := by
    cases hb : Nat.beq c d with
    | false => rfl
    | true => exact absurd (Nat.eq_of_beq_eq_true hb) h
  simp [upd, this]
theorem upd_comm (m : Nat → List It) {c d : Nat} (M M' : List It) (h : c ≠ d) : upd (upd m c M) d M' = upd (upd m d M') c M := by
  funext k
  by_cases h1 : c = k
  · subst h1; rw [upd_ne _ _ (Ne.symm h), upd_self, upd_self]
  · by_cases h2 : d = k
    · subst h2; rw [upd_self, upd_ne _ _ h1, upd_self]
    · rw [upd_ne _ _ h2, upd_ne _ _ h1, upd_ne _ _ h1, upd_ne _ _ h2]

section
variable (P : Program) (E : Env) (B0 : List It) (ro : List Ro)
def Hp (cs : List Nat) (m : Nat → List It) : List It := B0 ++ cs.flatMap m
def PV (o : Oper) (a : Act) (v : Value) : Prop := ∀ F w, Sat E.B E.S E.T (B0 ++ F) ro w → (execOp a.eval o).run P w = .ok (.value v) w
def outcU (F : List It) (Post : Value → List It → Prop) (w : World) : Result Next → Prop
  | .ok (.value v) w' => ∃ M, Post v M ∧ Sat E.B E.S E.T (M ++ (B0 ++ F)) ro w'
  | .ok .skip w' => ∃ M, Post undef M ∧ Sat E.B E.S E.T (M ++ (B0 ++ F)) ro w'
  | .ok (.enter f args) w' => w' = w ∧ Calls P f args w fun e w'' => ∃ v M, e = .returned v ∧ Post v M ∧ Sat E.B E.S E.T (M ++ (B0 ++ F)) ro w''
  | _ => False
def Outc (o : Oper) (a : Act) (L : List It) (Post : Value → List It → Prop) : Prop :=
  ∀ F w, Sat E.B E.S E.T (L ++ (B0 ++ F)) ro w → outcU P E B0 ro F Post w ((execOp a.eval o).run P w)
variable (ops : Array Oper) (cls : Nat → Option Nat) (tbl : Nat → List It → Value → List It → Prop)
def safe (i : Nat) (o : Oper) (a : Act) (m : Nat → List It) : Prop :=
  if Region.wanted o (yielded ops a.tmps) then
    match cls i with
    | none => ∃ v, PV P E B0 ro o a v
    | some c => (∃ v M, tbl i (m c) v M) ∧ Outc P E B0 ro o a (m c) (tbl i (m c))
  else True
def outm (i : Nat) (o : Oper) (a : Act) (m : Nat → List It) (v : Value) (m' : Nat → List It) : Prop :=
  if Region.wanted o (yielded ops a.tmps) then
    match cls i with
    | none => PV P E B0 ro o a v ∧ m' = m
    | some c => ∃ M, tbl i (m c) v M ∧ m' = upd m c M
  else v = undef ∧ m' = m
def rOp (i : Nat) (K : Act → (Nat → List It) → Prop) (a : Act) (m : Nat → List It) : Prop :=
  ∀ o, ops[i]? = some o → safe P E B0 ro ops cls tbl i o a m ∧ ∀ v m', outm P E B0 ro ops cls tbl i o a m v m' → K (a.put o.dst v) m'
end
section
variable {P : Program} {E : Env} {B0 : List It} {ro : List Ro} {ops : Array Oper} {cls : Nat → Option Nat} {tbl : Nat → List It → Value → List It → Prop} {md : Region.Mode}
theorem safe_out {i : Nat} {o : Oper} {a : Act} {m : Nat → List It} (h : safe P E B0 ro ops cls tbl i o a m) : ∃ v m', outm P E B0 ro ops cls tbl i o a m v m' := by
  unfold safe at h
  unfold outm
  split at h
  · rename_i hw
    simp only [hw, if_true]
    cases hc : cls i with
    | none => rw [hc] at h; simp only at h ⊢; obtain ⟨v, hv⟩ := h; exact ⟨v, m, hv, rfl⟩
    | some c => rw [hc] at h; simp only at h ⊢; obtain ⟨⟨v, M, hv⟩, _⟩ := h; exact ⟨v, _, M, hv, rfl⟩
  · rename_i hw
    simp only [hw]
    exact ⟨undef, m, rfl, rfl⟩
theorem rOp_mono {i : Nat} {a : Act} {m : Nat → List It} {K K' : Act → (Nat → List It) → Prop} (h : ∀ a m, K a m → K' a m) (hh : rOp P E B0 ro ops cls tbl i K a m) : rOp P E B0 ro ops cls tbl i K' a m :=
  fun o ho => ⟨(hh o ho).1, fun v m' hv => h _ _ ((hh o ho).2 v m' hv)⟩
section
variable {i j : Nat} {oi oj : Oper} {a : Act} {m m' : Nat → List It} {u v : Value} {dst : Option Tmp}
theorem safe_put (hs : ∀ cs b, oj.op ≠ .select cs b) (h : ∀ d, dst = some d → d ∉ oj.looksAt ops) : safe P E B0 ro ops cls tbl j oj (a.put dst v) m = safe P E B0 ro ops cls tbl j oj a m := by
  unfold safe PV Outc
  rw [wanted_put oj a dst v h, execOp_put oj hs a dst v h]
theorem out_put (hs : ∀ cs b, oj.op ≠ .select cs b) (h : ∀ d, dst = some d → d ∉ oj.looksAt ops) : outm P E B0 ro ops cls tbl j oj (a.put dst v) m u m' = outm P E B0 ro ops cls tbl j oj a m u m' := by
  unfold outm PV
  rw [wanted_put oj a dst v h, execOp_put oj hs a dst v h]
/-- what one operation does leaves the classes of the others alone -/
theorem out_other (h : outm P E B0 ro ops cls tbl i oi a m v m') {c : Nat} (hc : cls i ≠ some c) : m' c = m c := by
  unfold outm at h
  split at h
  · cases hi : cls i with
    | none => rw [hi] at h; rw [h.2]
    | some d =>
      rw [hi] at h
      obtain ⟨M, _, rfl⟩ := h
      exact upd_ne _ _ (fun e => hc (by rw [hi, e]))
  · rw [h.2]
theorem safe_other (h : outm P E B0 ro ops cls tbl i oi a m v m') (hc : ∀ c, cls i = some c → cls j ≠ some c) : safe P E B0 ro ops cls tbl j oj a m' = safe P E B0 ro ops cls tbl j oj a m := by
  unfold safe
  split
  · cases hj : cls j with
    | none => rfl
    | some c => simp only; rw [out_other h (fun e => hc c e hj)]
  · rfl
theorem out_diamond {m1 m2 : Nat → List It} (hc : ∀ c, cls i = some c → cls j ≠ some c) (h1 : outm P E B0 ro ops cls tbl j oj a m u m1) (h2 : outm P E B0 ro ops cls tbl i oi a m1 v m2) :
    ∃ m3, outm P E B0 ro ops cls tbl i oi a m v m3 ∧ outm P E B0 ro ops cls tbl j oj a m3 u m2 := by
  have key : (∀ c, cls i = some c → m1 c = m c) := fun c hi => out_other h1 (hc c hi)
  unfold outm at h1 h2 ⊢
  by_cases wi : Region.wanted oi (yielded ops a.tmps) = true
  · simp only [wi, if_true] at h2 ⊢
    by_cases wj : Region.wanted oj (yielded ops a.tmps) = true
    · simp only [wj, if_true] at h1 ⊢
      cases hi : cls i with
      | none =>
        rw [hi] at h2
        simp only at h2 ⊢
        obtain ⟨h2, rfl⟩ := h2
        exact ⟨m, ⟨h2, rfl⟩, h1⟩
      | some c =>
        rw [hi] at h2
        simp only at h2 ⊢
        obtain ⟨M, h2, rfl⟩ := h2
        rw [key c hi] at h2
        refine ⟨upd m c M, ⟨M, h2, rfl⟩, ?_⟩
        cases hj : cls j with
        | none => rw [hj] at h1; simp only at h1 ⊢; exact ⟨h1.1, by rw [h1.2]⟩
        | some d =>
          rw [hj] at h1
          simp only at h1 ⊢
          obtain ⟨M', h1, rfl⟩ := h1
          have hne : c ≠ d := fun e => hc c hi (by rw [hj, e])
          exact ⟨M', by rw [upd_ne _ _ hne]; exact h1, upd_comm m M' M (Ne.symm hne)⟩
    · simp only [wj] at h1 ⊢
      obtain ⟨rfl, rfl⟩ := h1
      exact ⟨m2, h2, rfl, rfl⟩
  · simp only [wi] at h2 ⊢
    obtain ⟨rfl, rfl⟩ := h2
    exact ⟨m, ⟨rfl, rfl⟩, h1⟩
theorem rOp_swap {K : Act → (Nat → List It) → Prop} (hi : ops[i]? = some oi) (hj : ops[j]? = some oj) (hap : oi.apart ops oj = true) (hc : ∀ c, cls i = some c → cls j ≠ some c) (hsi : ∀ cs b, oi.op ≠ .select cs b) (hsj : ∀ cs b, oj.op ≠ .select cs b)
    (H : rOp P E B0 ro ops cls tbl i (rOp P E B0 ro ops cls tbl j K) a m) : rOp P E B0 ro ops cls tbl j (rOp P E B0 ro ops cls tbl i K) a m := by
  obtain ⟨h1, h2, h3⟩ := Oper.apart_spec hap
  obtain ⟨Hs, Ho⟩ := H oi hi
  intro o ho
  obtain rfl : oj = o := by rw [hj] at ho; exact Option.some.inj ho
  refine ⟨?_, fun u m1 hu o ho => ?_⟩
  · obtain ⟨v, m1, hv⟩ := safe_out Hs
    have := (Ho v m1 hv oj hj).1
    rw [safe_put hsj h1, safe_other hv hc] at this
    exact this
  · obtain rfl : oi = o := by rw [hi] at ho; exact Option.some.inj ho
    refine ⟨?_, fun v m2 hv => ?_⟩
    · rw [safe_put hsi h3, safe_other hu (fun c e e' => hc c e' e)]
      exact Hs
    · rw [out_put hsi h3] at hv
      obtain ⟨m3, h4, h5⟩ := out_diamond hc hu hv
      have := (Ho v m3 h4 oj hj).2 u m2 (by rw [out_put hsj h1]; exact h5)
      rw [← Act.put_comm a v u h2]
      exact this
end
def wpAnyR (P : Program) (E : Env) (B0 : List It) (ro : List Ro) (ops : Array Oper) (cls : Nat → Option Nat) (tbl : Nat → List It → Value → List It → Prop) (md : Region.Mode) (Q : Act → (Nat → List It) → Prop) : Nat → Array Bool → Act → (Nat → List It) → Prop
  | 0, listed, a, m => Region.ready md ops listed = [] ∧ Q a m
  | fuel + 1, listed, a, m => (Region.ready md ops listed = [] → Q a m) ∧ ∀ i ∈ Region.ready md ops listed, rOp P E B0 ro ops cls tbl i (wpAnyR P E B0 ro ops cls tbl md Q fuel (listed.setIfInBounds i true)) a m
/-- what an operation waits for is listed ahead of it -/
def Closed (md : Region.Mode) (ops : Array Oper) (listed : Array Bool) : Prop := ∀ j oj, ops[j]? = some oj → listed.getD j true = true → ∀ e ∈ oj.after, Region.binds md e = true → listed.getD e.on false = true
theorem getD_false_of {listed : Array Bool} {j k : Nat} (h : listed.getD k false = true) : (listed.setIfInBounds j true).getD k false = true := by
  have hk : k < listed.size := by
    rcases Nat.lt_or_ge k listed.size with h' | h'
    · exact h'
    · simp [Array.getD, Nat.not_lt.2 h'] at h
  by_cases hjk : j = k
  · subst hjk; simp [Array.getD, hk]
  · simp [Array.getD, hk] at h ⊢
    rw [Array.getElem_setIfInBounds_ne (by simpa using hk) hjk]; exact h
theorem Closed.set {listed : Array Bool} (h : Closed md ops listed) {j : Nat} (hj : j ∈ Region.ready md ops listed) : Closed md ops (listed.setIfInBounds j true) := by
  intro k ok hk hl e he hb
  obtain ⟨_, oj, hoj, hall⟩ := mem_ready.1 hj
  by_cases hjk : j = k
  · subst hjk
    rw [hoj] at hk
    obtain rfl := Option.some.inj hk
    exact getD_false_of (hall e he hb)
  · rw [getD_set_ne true hjk] at hl
    exact getD_false_of (h k ok hk hl e he hb)
/-- j waits for i, directly or through others -/
def reachB (md : Region.Mode) (ops : Array Oper) (i : Nat) : Nat → Nat → Bool
  | 0, _ => false
  | n + 1, j => ((ops[j]?).map fun o => o.after.any fun e => Region.binds md e && (e.on == i || reachB md ops i n e.on)).getD false
theorem reach_not {listed : Array Bool} (hc : Closed md ops listed) {i : Nat} (hi : listed.getD i true = false) (his : i < listed.size) : ∀ (n j : Nat), reachB md ops i n j = true → ∃ oj, ops[j]? = some oj ∧ ∃ e ∈ oj.after, Region.binds md e = true ∧ listed.getD e.on false = false
  | 0, _, h => by simp [reachB] at h
  | n + 1, j, h => by
    unfold reachB at h
    cases hj : ops[j]? with
    | none => rw [hj] at h; simp at h
    | some oj =>
      rw [hj] at h
      simp only [Option.map_some, Option.getD_some] at h
      rw [Array.any_eq_true'] at h
      obtain ⟨e, he, h⟩ := h
      rw [Bool.and_eq_true] at h
      obtain ⟨hb, h⟩ := h
      refine ⟨oj, rfl, e, he, hb, ?_⟩
      rw [Bool.or_eq_true] at h
      rcases h with h | h
      · have h := beq_iff_eq.1 h
        rw [h]
        simp [Array.getD, his] at hi ⊢
        exact hi
      · obtain ⟨o2, h2, e2, he2, hb2, hl2⟩ := reach_not hc hi his n e.on h
        cases hx : listed.getD e.on false with
        | false => rfl
        | true =>
          have hlt : e.on < listed.size := by
            rcases Nat.lt_or_ge e.on listed.size with h' | h'
            · exact h'
            · simp [Array.getD, Nat.not_lt.2 h'] at hx
          have := hc e.on o2 h2 (by simp [Array.getD, hlt] at hx ⊢; exact hx) e2 he2 hb2
          rw [hl2] at this; cases this
theorem wpAnyR_first {Q : Act → (Nat → List It) → Prop} {i : Nat} {oi : Oper} (hi : ops[i]? = some oi) (hsel : ∀ (j : Nat) (o : Oper) cs b, ops[j]? = some o → o.op ≠ .select cs b)
    (hcls : ∀ (j : Nat) (listed : Array Bool), j ≠ i → Closed md ops listed → (∀ k, k < i → listed.getD k true = true) → listed.getD i true = false → j ∈ Region.ready md ops listed → ∀ c, cls i = some c → cls j ≠ some c) :
    ∀ (fuel : Nat) (listed : Array Bool) (a : Act) (m : Nat → List It), Closed md ops listed → (∀ k, k < i → listed.getD k true = true) →
      (∀ j oj, ops[j]? = some oj → j ≠ i → listed.getD j true = false → (∀ e ∈ oj.after, Region.binds md e = true → e.on ≠ i) → oi.apart ops oj = true) →
      i ∈ Region.ready md ops listed → rOp P E B0 ro ops cls tbl i (wpAnyR P E B0 ro ops cls tbl md Q fuel (listed.setIfInBounds i true)) a m → wpAnyR P E B0 ro ops cls tbl md Q (fuel + 1) listed a m := by
  intro fuel
  induction fuel with
  | zero =>
    intro listed a m _ _ _ hr H
    refine ⟨fun h => (by rw [h] at hr; cases hr), fun j hj => ?_⟩
    by_cases hji : j = i
    · subst hji; exact H
    · have := ready_mono hj hji
      obtain ⟨hs, ho⟩ := H oi hi
      obtain ⟨v, m', hv⟩ := safe_out hs
      rw [(ho v m' hv).1] at this
      cases this
  | succ fuel ih =>
    intro listed a m hcl hpre hfree hr H
    refine ⟨fun h => (by rw [h] at hr; cases hr), fun j hj => ?_⟩
    by_cases hji : j = i
    · subst hji; exact H
    · obtain ⟨hjun, oj, hoj, hall⟩ := mem_ready.1 hj
      have hnot : ∀ e ∈ oj.after, Region.binds md e = true → e.on ≠ i := fun e he hb heq => by
        have h1 := hall e he hb
        have h0 := (mem_ready.1 hr).1
        rw [heq] at h1
        rcases Nat.lt_or_ge i listed.size with h' | h'
        · simp [h'] at h0 h1; rw [h0] at h1; cases h1
        · simp [Array.getElem?_eq_none h'] at h1
      have h1 := rOp_mono (fun a' m' h => h.2 j (ready_mono hj hji)) H
      have f1 := hfree j oj hoj hji hjun hnot
      have f2 := hcls j listed hji hcl hpre (mem_ready.1 hr).1 hj
      have h2 := rOp_swap hi hoj f1 f2 (fun cs b => hsel i oi cs b hi) (fun cs b => hsel j oj cs b hoj) h1
      refine rOp_mono (fun a' m' h3 => ih (listed.setIfInBounds j true) a' m' (hcl.set hj) (fun k hk => ?_) (fun k ok hk hki hun hno => ?_) (ready_mono hr (Ne.symm hji)) ?_) h2
      · by_cases hjk : j = k
        · subst hjk
          rcases Nat.lt_or_ge j listed.size with h2 | h2
          · simp [h2]
          · simp [h2]
        · rw [getD_set_ne true hjk]; exact hpre k hk
      · refine hfree k ok hk hki ?_ hno
        by_cases hjk : j = k
        · subst hjk; exact hjun
        · rw [getD_set_ne true hjk] at hun; exact hun
      · rw [Array.setIfInBounds_comm _ _ hji]
        exact h3
def wpR (P : Program) (E : Env) (B0 : List It) (ro : List Ro) (ops : Array Oper) (cls : Nat → Option Nat) (tbl : Nat → List It → Value → List It → Prop) (Q : Act → (Nat → List It) → Prop) : List Oper → Nat → Act → (Nat → List It) → Prop
  | [], _, a, m => Q a m
  | o :: l, k, a, m => rOp P E B0 ro ops cls tbl k (wpR P E B0 ro ops cls tbl Q l (k + 1)) a m
/-- operations of one class wait for the earlier ones, directly or through others -/
def clsB (md : Region.Mode) (ops : Array Oper) (cls : Nat → Option Nat) : Bool :=
  (List.range ops.size).all fun j => (List.range j).all fun i => match cls i, cls j with
    | some c, some d => c != d || reachB md ops i ops.size j
    | _, _ => true
theorem clsB_spec (h : clsB md ops cls = true) {i j : Nat} {oj : Oper} (hj : ops[j]? = some oj) (hij : i < j) {c : Nat} (hi : cls i = some c) (hcj : cls j = some c) : reachB md ops i ops.size j = true := by
  unfold clsB at h
  rw [List.all_eq_true] at h
  have h1 := h j (by have := (Array.getElem?_eq_some_iff.1 hj).1; simpa using this)
  rw [List.all_eq_true] at h1
  have h2 := h1 i (by simpa using hij)
  rw [hi, hcj] at h2
  simpa using h2
theorem lex_lt {k : Nat} {listed : Array Bool} (hl : ∀ j, j < k → listed.getD j true = true) {j : Nat} (hj : listed.getD j true = false) : k ≤ j := by
  rcases Nat.lt_or_ge j k with h | h
  · rw [hl j h] at hj; cases hj
  · exact h
theorem closed0 : Closed md ops (Array.replicate ops.size false) := fun j oj hj hl => by
  have := (Array.getElem?_eq_some_iff.1 hj).1
  simp [Array.getD, this] at hl
theorem wpAnyR_lex {Q : Act → (Nat → List It) → Prop} (hs : Region.noSelect ops = true) (hcl : clsB md ops cls = true) : ∀ (l : List Oper) (k : Nat) (listed : Array Bool) (a : Act) (m : Nat → List It), Closed md ops listed → ops.size = listed.size → (∀ j, l[j]? = ops[k + j]?) → (∀ j, j < k → listed.getD j true = true) →
    Region.lexFrom md ops l.length k listed = true → wpR P E B0 ro ops cls tbl Q l k a m → wpAnyR P E B0 ro ops cls tbl md Q l.length listed a m
  | [], _, _, _, _, _, _, _, _, hB, h => ⟨by simpa [Region.lexFrom] using hB, h⟩
  | o :: l, k, listed, a, m, hC, hz, hl, hk, hB, h => by
    have h0 : ops[k]? = some o := by simpa using (hl 0).symm
    simp only [List.length_cons, Region.lexFrom, Bool.and_eq_true] at hB
    obtain ⟨⟨hr, hf⟩, hB'⟩ := hB
    have hr' : k ∈ Region.ready md ops listed := by simpa using hr
    refine wpAnyR_first h0 (Region.noSelect_spec hs) (fun j ld hjk hCl hpre hun hj c hc hcj => ?_) l.length listed a m hC hk (fun j oj hj hjk hun hno => Region.free_spec h0 hf j oj hj hjk hun hno) hr' ?_
    · obtain ⟨hjun, oj, hoj, hall⟩ := mem_ready.1 hj
      have hle := lex_lt hpre hjun
      have hks : k < ld.size := by
        rcases Nat.lt_or_ge k ld.size with h' | h'
        · exact h'
        · simp [Array.getD, Nat.not_lt.2 h'] at hun
      obtain ⟨o2, h2, e, he, hb, hne⟩ := reach_not hCl hun hks _ _ (clsB_spec hcl hoj (show k < j by omega) hc hcj)
      rw [hoj] at h2
      obtain rfl := Option.some.inj h2
      rw [hall e he hb] at hne; cases hne
    · refine rOp_mono (fun a' m' h' => wpAnyR_lex hs hcl l (k + 1) _ a' m' (hC.set hr') (by simpa using hz) (fun j => by have := hl (j + 1); simpa [Nat.add_assoc, Nat.add_comm 1 j] using this) (fun j hj => ?_) hB' h') h
      rcases Nat.lt_or_ge j k with h1 | h1
      · rw [getD_set_ne true (show k ≠ j by omega)]; exact hk j h1
      · obtain rfl : j = k := by omega
        rcases Nat.lt_or_ge j listed.size with h2 | h2
        · simp [h2]
        · simp [h2]
theorem flat_upd {cs : List Nat} (hn : cs.Nodup) {c : Nat} (hc : c ∈ cs) (m : Nat → List It) : (cs.flatMap m).Perm (m c ++ (cs.erase c).flatMap m) := by
  have := (List.perm_cons_erase hc).flatMap_right m
  simpa using this
theorem flat_same {cs : List Nat} (hn : cs.Nodup) {c : Nat} (m : Nat → List It) (M : List It) : (cs.erase c).flatMap (upd m c M) = (cs.erase c).flatMap m := by
  have : ∀ d ∈ cs.erase c, upd m c M d = m d := fun d hd => upd_ne _ _ (fun e => by subst e; exact (hn.not_mem_erase) hd)
  rw [List.flatMap_def, List.flatMap_def, List.map_congr_left this]
theorem wpAny_of_R {cs : List Nat} (hn : cs.Nodup) (hcs : ∀ i c, cls i = some c → c ∈ cs) {Q : Act → (Nat → List It) → Prop} {Q' : Exit → Act → World → Prop} (hQ : ∀ a m w, Sat E.B E.S E.T (Hp B0 cs m) ro w → Q a m → Q' .normal a w) :
    ∀ (fuel : Nat) (listed : Array Bool) (a : Act) (m : Nat → List It) (w : World), Sat E.B E.S E.T (Hp B0 cs m) ro w → wpAnyR P E B0 ro ops cls tbl md Q fuel listed a m → wpAny P md ops Q' fuel listed a w
  | 0, _, _, _, _, hw, h => ⟨h.1, hQ _ _ _ hw h.2⟩
  | fuel + 1, listed, a, m, w, hw, h => ⟨fun h0 => hQ _ _ _ hw (h.1 h0), fun i hi => by
    obtain ⟨_, o, ho, _⟩ := mem_ready.1 hi
    obtain ⟨hs, hk⟩ := h.2 i hi o ho
    have ih := wpAny_of_R hn hcs hQ fuel (listed.setIfInBounds i true)
    unfold wpOp
    simp only [ho]
    unfold safe at hs
    unfold outm at hk
    split
    · rename_i hwt
      simp only [hwt, if_true] at hs hk
      refine .inl ?_
      cases hc : cls i with
      | none =>
        rw [hc] at hs hk
        obtain ⟨v, hv⟩ := hs
        unfold Oper.wp
        rw [hv _ w hw]
        exact ih _ _ _ hw (hk v m ⟨hv, rfl⟩)
      | some c =>
        rw [hc] at hs hk
        simp only at hs hk
        have hp1 : (Hp B0 cs m).Perm (m c ++ (B0 ++ (cs.erase c).flatMap m)) := by
          unfold Hp
          exact ((flat_upd hn (hcs i c hc) m).append_left B0).trans (by rw [← List.append_assoc, ← List.append_assoc]; exact List.perm_append_comm.append_right _)
        have hp2 : ∀ M, (M ++ (B0 ++ (cs.erase c).flatMap m)).Perm (Hp B0 cs (upd m c M)) := fun M => by
          unfold Hp
          refine List.Perm.trans ?_ ((flat_upd hn (hcs i c hc) (upd m c M)).append_left B0).symm
          rw [upd_self, flat_same hn, ← List.append_assoc, ← List.append_assoc]
          exact List.perm_append_comm.append_right _
        have h1 := hs.2 _ w (hw.perm hp1)
        unfold Oper.wp
        generalize (execOp a.eval o).run P w = r at h1
        cases r with
        | ok n w' =>
          cases n <;> simp only [outcU] at h1 <;> simp only [Oper.upon] <;> first | exact h1.elim | skip
          case value u => obtain ⟨M, h2, h3⟩ := h1; exact ih _ _ _ (h3.perm (hp2 M)) (hk _ _ ⟨M, h2, rfl⟩)
          case skip => obtain ⟨M, h2, h3⟩ := h1; exact ih _ _ _ (h3.perm (hp2 M)) (hk _ _ ⟨M, h2, rfl⟩)
          case enter f args =>
            obtain ⟨rfl, h2⟩ := h1
            refine h2.mono fun e w'' ⟨v, M, he, h3, h4⟩ => ?_
            subst he
            exact ih _ _ _ (h4.perm (hp2 M)) (hk _ _ ⟨M, h3, rfl⟩)
        | halt x w' => simp only [outcU] at h1
    · rename_i hwt
      simp only [hwt] at hk
      exact ih _ _ _ hw (hk undef m ⟨rfl, rfl⟩)⟩
/-! the derivation: one walk over sparse frames -/
def GOk (ops : Array Oper) (fr : List (Nat × Value)) (g : Option (Nat × Bool)) : Prop := g = none ∨ ∃ j s b, g = some (j, b) ∧ gslot ops j = some s ∧ fget fr s = some (.bool b)
theorem gok_none {fr : List (Nat × Value)} : GOk ops fr none := .inl rfl
theorem gok_run {fr : List (Nat × Value)} {j s : Nat} {b : Bool} (hg : gslot ops j = some s) (hs : fget fr s = some (.bool b)) : GOk ops fr (some (j, b)) := .inr ⟨j, s, b, rfl, hg, hs⟩
theorem GOk.wanted {N : Nat} {fr : List (Nat × Value)} {dst : Option Tmp} {op : Op} {ty : TypeId} {pos : String} {af : Array Edge} {g : Option (Nat × Bool)} (h : GOk ops fr g) {a : Act} (ha : Holds N fr a) : Region.wanted (⟨dst, op, ty, pos, af, g⟩ : Oper) (yielded ops a.tmps) = true := by
  rcases h with rfl | ⟨j, s, b, rfl, hg, hs⟩
  · simp [Region.wanted]
  · simp [Region.wanted, yielded_of ha hg hs]
inductive HdE (P : Program) (N : Nat) (E : Env) (B0 : List It) (ro : List Ro) (ops : Array Oper) (cls : Nat → Option Nat) (tbl : Nat → List It → Value → List It → Prop) (K : List (Nat × Value) → (Nat → List It) → Prop) : Nat → List Oper → List (Nat × Value) → (Nat → List It) → Prop
  | nil {k fr m} (h : K fr m) : HdE P N E B0 ro ops cls tbl K k [] fr m
  | val {k fr m op ty pos af rest d v g} (hd : Nat.ble (d + 1) N = true) (hc : cls k = none) (hg : GOk ops fr g) (hv : Pv P ⟨fr, B0, ro⟩ op v) (h : HdE P N E B0 ro ops cls tbl K (k + 1) rest ((d, v) :: fr) m) :
      HdE P N E B0 ro ops cls tbl K k (⟨some d, op, ty, pos, af, g⟩ :: rest) fr m
  | eff {k fr m dst op ty pos af rest c L g} (hc : cls k = some c) (hm : m c = L) (hd : dstOk dst N = true) (hg : GOk ops fr g) (ho : ∀ a, Holds N fr a → Outc P E B0 ro ⟨dst, op, ty, pos, af, g⟩ a L (tbl k L)) (hin : ∃ v M, tbl k L v M)
      (h : ∀ v M, tbl k L v M → HdE P N E B0 ro ops cls tbl K (k + 1) rest (putF dst v fr) (upd m c M)) : HdE P N E B0 ro ops cls tbl K k (⟨dst, op, ty, pos, af, g⟩ :: rest) fr m
  | skip {k fr m d op ty pos af rest j s b c} (hg : gslot ops j = some s) (hs : fget fr s = some (.bool b)) (hb : (b == c) = false) (hd : Nat.ble (d + 1) N = true) (h : HdE P N E B0 ro ops cls tbl K (k + 1) rest ((d, undef) :: fr) m) :
      HdE P N E B0 ro ops cls tbl K k (⟨some d, op, ty, pos, af, some (j, c)⟩ :: rest) fr m
  | skipu {k fr m d op ty pos af rest j s c} (hg : gslot ops j = some s) (hs : fget fr s = some undef) (hd : Nat.ble (d + 1) N = true) (h : HdE P N E B0 ro ops cls tbl K (k + 1) rest ((d, undef) :: fr) m) :
      HdE P N E B0 ro ops cls tbl K k (⟨some d, op, ty, pos, af, some (j, c)⟩ :: rest) fr m
  | dec {k fr m rest s} {p : Prop} [Decidable p] (hs : fget fr s = some (.bool (decide p))) (ht : p → HdE P N E B0 ro ops cls tbl K k rest ((s, .bool true) :: fr) m) (hf : ¬p → HdE P N E B0 ro ops cls tbl K k rest ((s, .bool false) :: fr) m) :
      HdE P N E B0 ro ops cls tbl K k rest fr m
theorem HdE.sound {N : Nat} {K : List (Nat × Value) → (Nat → List It) → Prop} {k : Nat} {l : List Oper} {fr : List (Nat × Value)} {m : Nat → List It} (h : HdE P N E B0 ro ops cls tbl K k l fr m) (hw0 : ∃ F w, Sat E.B E.S E.T (B0 ++ F) ro w) {Q : Act → (Nat → List It) → Prop}
    (hQ : ∀ fr a m, K fr m → Holds N fr a → Q a m) : (∀ j, l[j]? = ops[k + j]?) → ∀ a, Holds N fr a → wpR P E B0 ro ops cls tbl Q l k a m := by
  have shift : ∀ {o : Oper} {l : List Oper} {k : Nat}, (∀ j, (o :: l)[j]? = ops[k + j]?) → ops[k]? = some o ∧ ∀ j, l[j]? = ops[k + 1 + j]? := fun h =>
    ⟨by simpa using (h 0).symm, fun j => by have := h (j + 1); simpa [Nat.add_assoc, Nat.add_comm 1 j] using this⟩
  induction h with
  | nil h => exact fun _ a ha => hQ _ a _ h ha
  | @val k fr m op ty pos af rest d v g hd hc hg hv _ ih =>
    intro hl a ha o ho
    obtain ⟨h0, hl'⟩ := shift hl
    rw [h0] at ho
    obtain rfl := Option.some.inj ho
    have hpv : PV P E B0 ro ⟨some d, op, ty, pos, af, g⟩ a v := fun F w hw => hv N E a w _ _ _ _ _ ⟨ha, hw.left⟩
    unfold safe outm
    simp only [hg.wanted ha, if_true, hc]
    refine ⟨⟨v, hpv⟩, fun v' m' ⟨hv', hm'⟩ => ?_⟩
    subst hm'
    obtain ⟨F, w, hw⟩ := hw0
    have e : v' = v := by
      have h1 := hpv F w hw
      have h2 := hv' F w hw
      rw [h1] at h2
      injection h2 with h2 _
      injection h2 with h2
      exact h2.symm
    subst e
    exact ih hl' _ (ha.put (Nat.le_of_ble_eq_true hd) _)
  | @eff k fr m dst op ty pos af rest c L g hc hm hd hg ho hin _ ih =>
    intro hl a ha o ho'
    obtain ⟨h0, hl'⟩ := shift hl
    rw [h0] at ho'
    obtain rfl := Option.some.inj ho'
    unfold safe outm
    simp only [hg.wanted ha, if_true, hc, hm]
    refine ⟨⟨hin, ho a ha⟩, fun v' m' ⟨M, hv', hm'⟩ => ?_⟩
    subst hm'
    exact ih v' M hv' hl' _ (ha.putF hd _)
  | @skip k fr m d op ty pos af rest j s b c hg hs hb hd _ ih =>
    intro hl a ha o ho
    obtain ⟨h0, hl'⟩ := shift hl
    rw [h0] at ho
    obtain rfl := Option.some.inj ho
    have hwt : ¬ Region.wanted (⟨some d, op, ty, pos, af, some (j, c)⟩ : Oper) (yielded ops a.tmps) = true := by simp [Region.wanted, yielded_of ha hg hs]; simpa using hb
    unfold safe outm
    simp only [hwt]
    refine ⟨trivial, fun v' m' ⟨hv', hm'⟩ => ?_⟩
    subst hv'; subst hm'
    exact ih hl' _ (ha.put (Nat.le_of_ble_eq_true hd) _)
  | @skipu k fr m d op ty pos af rest j s c hg hs hd _ ih =>
    intro hl a ha o ho
    obtain ⟨h0, hl'⟩ := shift hl
    rw [h0] at ho
    obtain rfl := Option.some.inj ho
    have hwt : ¬ Region.wanted (⟨some d, op, ty, pos, af, some (j, c)⟩ : Oper) (yielded ops a.tmps) = true := by simp [Region.wanted, yielded_undef ha hg hs]
    unfold safe outm
    simp only [hwt]
    refine ⟨trivial, fun v' m' ⟨hv', hm'⟩ => ?_⟩
    subst hv'; subst hm'
    exact ih hl' _ (ha.put (Nat.le_of_ble_eq_true hd) _)
  | @dec k fr m rest s p _ hs _ _ iht ihf =>
    intro hl a ha
    by_cases hp : p
    · exact iht hp hl a (ha.same hs (by simp [hp]))
    · exact ihf hp hl a (ha.same hs (by simp [hp]))
theorem wc_reg {N : Nat} {fr : List (Nat × Value)} {hp : List It} {Kn Kr : St → Prop} {Kx : List (Nat × (St → Prop))} {id : Nat} {l : List Oper} (cs : List Nat) (cls : Nat → Option Nat) (tbl : Nat → List It → Value → List It → Prop) (B0 : List It) (m0 : Nat → List It)
    (hm : P.follows .mixedOrders = true) (hB : Region.lexB .any l.toArray = true) (hcl : clsB .any l.toArray cls = true) (hn : cs.Nodup) (hcs : ∀ i c, cls i = some c → c ∈ cs) (hperm : hp.Perm (Hp B0 cs m0))
    (h : HdE P N E B0 ro l.toArray cls tbl (fun fr m => ∀ H, H = Hp B0 cs m → Kn ⟨fr, H, ro⟩) 0 l fr m0) : WC P N E (.region id l.toArray true) ⟨fr, hp, ro⟩ Kn Kx Kr := fun a w ok => by
  simp only [Region.lexB, Bool.and_eq_true] at hB
  have hw : Sat E.B E.S E.T (Hp B0 cs m0) ro _ := (ok.s.drawn (w.drawn + 1)).perm hperm
  refine wp_region_any hm (wpAny_of_R (ro := ro) (tbl := tbl) (Q := fun a m => ∃ fr', Kn ⟨fr', Hp B0 cs m, ro⟩ ∧ Holds N fr' a) hn hcs (fun a m w' hs ⟨fr', hk, ha⟩ => ⟨_, hk, ha, hs⟩) _ _ a m0 _ hw ?_)
  have := wpAnyR_lex (P := P) (E := E) (B0 := B0) (ro := ro) (tbl := tbl) (md := .any) hB.1 hcl l 0 (Array.replicate l.toArray.size false) a m0 closed0 (by simp) (by simp) (fun j hj => by omega) (by simpa using hB.2)
    (h.sound (Q := fun a m => ∃ fr', Kn ⟨fr', Hp B0 cs m, ro⟩ ∧ Holds N fr' a) ⟨_, _, hw⟩ (fun fr a m hk ha => ⟨fr, hk _ rfl, ha⟩) (by simp) a ok.h)
  simpa using this
/-- a call, as what one operation of such a region does -/
theorem outc_call {N : Nat} {fr : List (Nat × Value)} {f : FuncId} [HasBody P f] {vs : List Value} {L Lc F1 : List It} {R : List Ro} {Post : Value → List It → List Ro → Prop} {T : Value → List It → Prop} {l : List Operand} {ats : Array TypeId} {dst : Option Tmp} {ty : TypeId} {pos : String} {af : Array Edge} {g : Option (Nat × Bool)}
    (hF : Fn P f vs.toArray L R Post) (ha : opdL fr l = some vs) (hs : (Lc ++ B0).Perm (L ++ F1)) (hr : ∀ r ∈ R, r ∈ ro) (hT : ∀ v L' R', Post v L' R' → ∃ M, T v M ∧ (L' ++ F1).Perm (M ++ B0)) :
    ∀ a, Holds N fr a → Outc P E B0 ro ⟨dst, .call ⟨.value (.func f), l.toArray, ats⟩, ty, pos, af, g⟩ a Lc T := fun a hh F w hw => by
  rw [HasBody.enter w, hh.evalL ha]
  refine ⟨rfl, ?_⟩
  have hp1 : (Lc ++ (B0 ++ F)).Perm (L ++ (F1 ++ F)) := by
    rw [← List.append_assoc, ← List.append_assoc]; exact hs.append_right F
  have hw1 := hw.perm hp1
  refine (hF w (hw1.start (.refl _) hr)).mono fun e w' ⟨v, L', R', he, hP, hS⟩ => ?_
  obtain ⟨M, h1, h2⟩ := hT v L' R' hP
  have h3 := (hw1.step (.refl _) (fun b hb => by obtain ⟨r, h1, h2⟩ := mem_blks.1 hb; exact mem_blks.2 ⟨r, hr r h1, h2⟩) hS).some_ro (fun r hr => List.mem_append_right _ hr)
  refine ⟨v, M, he, h1, h3.perm ?_⟩
  rw [← List.append_assoc, ← List.append_assoc]
  exact h2.append_right F
/-- a store into an owned slice -/
theorem outc_st_ownf {N : Nat} {fr : List (Nat × Value)} {T : TypeId} {x y : Operand} {v : Value} {dst : Option Tmp} {ty : TypeId} {pos : String} {af : Array Edge} {g : Option (Nat × Bool)} {b o i j sz n c : Nat} {t : TypeId} {xs : List (List Value)} {row row' : List Value} [TOne P T]
    (hx : opd fr x = some (.pointer (some ⟨b, elt o i sz + j, none⟩))) (hy : opd fr y = some v) (h1 : v.oneCell' = true) (hi : xs[i]? = some row) (hl : SetAt row j v row') :
    ∀ a, Holds N fr a → Outc P E B0 ro ⟨dst, .store T x y, ty, pos, af, g⟩ a [.own t sz (some ⟨b, o, none⟩) n c xs] (fun u M => u = undef ∧ M = [.own t sz (some ⟨b, o, none⟩) n c (xs.set i row')]) := fun a hh F w hw => by
    have hS : OwnSat w t sz (some ⟨b, o, none⟩) n c xs := hw.get (.refl _)
    obtain ⟨cur, hc, hfit⟩ := hS.fit hi
    have hsp := hl.lay.spec.1
    have hrow := hS.rows.lens row (List.mem_of_getElem? hi)
    have hfit2 : elt o i sz + j + [v].length ≤ cur.size := by simp at hsp ⊢; omega
    obtain ⟨w', h2, h3, h4⟩ := run_storeAt_lay (P := P) (T := T) (r := [v]) (cells_one h1) run_sizeOf_one hc hfit2 (by simpa using h1)
    have e : (execOp a.eval ⟨dst, .store T x y, ty, pos, af, g⟩).run P w = .ok .skip w' := by
      simp only [execOp, hh.eval hx, hh.eval hy, Sem.run_bind, h2]; rfl
    rw [e]
    refine ⟨_, ⟨rfl, rfl⟩, ?_⟩
    exact (hw.step (L := [_]) (T' := []) (.refl _) (by simp) (Sat.reown h4 (cells_stored hS hc hi hl.lay (by simpa using h1) h3 hfit2))).some_ro (fun r hr => by simpa using hr)
section
variable {N : Nat} {K : List (Nat × Value) → (Nat → List It) → Prop} {k : Nat} {rest : List Oper} {fr : List (Nat × Value)} {m : Nat → List It} {dst : Option Tmp} {op : Op} {ty : TypeId} {pos : String} {af : Array Edge} {j s : Nat} {c : Bool} {p : Prop} [Decidable p]
theorem he_gt (hg : gslot ops j = some s) (hs : fget fr s = some (.bool (decide p))) (hp' : p) (h : HdE P N E B0 ro ops cls tbl K k (⟨dst, op, ty, pos, af, some (j, c)⟩ :: rest) ((s, .bool true) :: fr) m) : HdE P N E B0 ro ops cls tbl K k (⟨dst, op, ty, pos, af, some (j, c)⟩ :: rest) fr m :=
  .dec hs (fun _ => h) (fun hn => absurd hp' hn)
theorem he_gf (hg : gslot ops j = some s) (hs : fget fr s = some (.bool (decide p))) (hp' : ¬p) (h : HdE P N E B0 ro ops cls tbl K k (⟨dst, op, ty, pos, af, some (j, c)⟩ :: rest) ((s, .bool false) :: fr) m) : HdE P N E B0 ro ops cls tbl K k (⟨dst, op, ty, pos, af, some (j, c)⟩ :: rest) fr m :=
  .dec hs (fun h => absurd h hp') (fun _ => h)
end
end
def asl : List (Nat × Nat) → Nat → Option Nat
  | [], _ => none
  | (i, c) :: l, k => bif Nat.beq i k then some c else asl l k
theorem asl_mem {cs : List Nat} : ∀ {l : List (Nat × Nat)}, (l.all fun p => cs.contains p.2) = true → ∀ i c, asl l i = some c → c ∈ cs
  | [], _, _, _, h => by cases h
  | (i, c) :: l, hl, k, d, h => by
    simp only [List.all_cons, Bool.and_eq_true] at hl
    unfold asl at h
    cases hb : Nat.beq i k with
    | true => rw [hb] at h; simp only [cond_true, Option.some.injEq] at h; subst h; simpa using hl.1
    | false => rw [hb] at h; exact asl_mem hl.2 k d h
theorem upd_01 (m M) : upd m 0 M 1 = m 1 := rfl
theorem upd_10 (m M) : upd m 1 M 0 = m 0 := rfl
theorem upd_02 (m M) : upd m 0 M 2 = m 2 := rfl
theorem upd_20 (m M) : upd m 2 M 0 = m 0 := rfl
theorem upd_12 (m M) : upd m 1 M 2 = m 2 := rfl
theorem upd_21 (m M) : upd m 2 M 1 = m 1 := rfl
theorem prm_cons {hp hp1 L : List It} {x : It} (hs : hp.Perm (x :: hp1)) (h : hp1.Perm L) : hp.Perm (x :: L) := hs.trans (h.cons x)
end Go.Proofs.Ytlhlidmhlhodiaa
