/-
  Sparse frames: drawn regions again, where one operation may change the items of several classes.
-/
import Derived.Test.YtlhlidmhlhodiaaSpU
namespace Go.Proofs.Ytlhlidmhlhodiaa
set_option linter.unusedSimpArgs false
set_option linter.unusedVariables false
open Go.RowKit
def updL (m : Nat → List It) : List Nat → List (List It) → Nat → List It
  | c :: cs, M :: Ms => updL (upd m c M) cs Ms
  | _, _ => m
theorem updL_ne {c : Nat} : ∀ (cs : List Nat) (Ms : List (List It)) (m : Nat → List It), c ∉ cs → updL m cs Ms c = m c
  | [], _, _, _ => by unfold updL; rfl
  | _ :: _, [], _, _ => by unfold updL; rfl
  | d :: cs, M :: Ms, m, h => by
    unfold updL
    rw [updL_ne cs Ms _ (fun h' => h (.tail _ h')), upd_ne _ _ (fun e => h (by rw [e]; exact .head _))]
theorem upd_updL (c : Nat) (M : List It) : ∀ (cs : List Nat) (Ms : List (List It)) (m : Nat → List It), c ∉ cs → upd (updL m cs Ms) c M = updL (upd m c M) cs Ms
  | [], _, _, _ => by unfold updL; rfl
  | _ :: _, [], _, _ => by unfold updL; rfl
  | d :: cs, N :: Ms, m, h => by
    unfold updL
    rw [upd_updL c M cs Ms _ (fun h' => h (.tail _ h')), upd_comm m _ _ (fun e => h (by rw [e]; exact .head _))]
theorem updL_comm : ∀ (ds : List Nat) (Ns : List (List It)) (cs : List Nat) (Ms : List (List It)) (m : Nat → List It), (∀ d ∈ ds, d ∉ cs) → updL (updL m cs Ms) ds Ns = updL (updL m ds Ns) cs Ms
  | [], _, cs, Ms, m, _ => by unfold updL; cases cs <;> cases Ms <;> rfl
  | _ :: _, [], cs, Ms, m, _ => by unfold updL; cases cs <;> cases Ms <;> rfl
  | d :: ds, N :: Ns, cs, Ms, m, h => by
    show updL (upd (updL m cs Ms) d N) ds Ns = updL (updL (upd m d N) ds Ns) cs Ms
    rw [upd_updL d N cs Ms m (h d (.head _)), updL_comm ds Ns cs Ms _ (fun x hx => h x (.tail _ hx))]
theorem map_updL {cs ds : List Nat} {Ms : List (List It)} {m : Nat → List It} (h : ∀ d ∈ ds, d ∉ cs) : ds.map (updL m cs Ms) = ds.map m := List.map_congr_left fun d hd => updL_ne cs Ms m (h d hd)
theorem flat_updL : ∀ {cs : List Nat} {Ms : List (List It)} {m : Nat → List It}, cs.Nodup → Ms.length = cs.length → cs.map (updL m cs Ms) = Ms
  | [], [], _, _, _ => rfl
  | [], _ :: _, _, _, h => by cases h
  | _ :: _, [], _, _, h => by cases h
  | c :: cs, M :: Ms, m, hn, h => by
    have hn' := List.nodup_cons.1 hn
    show updL (upd m c M) cs Ms c :: cs.map (updL (upd m c M) cs Ms) = M :: Ms
    rw [updL_ne cs Ms _ hn'.1, upd_self, flat_updL hn'.2 (by simpa using h)]

section
variable (P : Program) (E : Env) (B0 : List It) (ro : List Ro) (ops : Array Oper) (cls : Nat → List Nat) (tbl : Nat → List (List It) → Value → List (List It) → Prop)
def safeM (i : Nat) (o : Oper) (a : Act) (m : Nat → List It) : Prop :=
  if Region.wanted o (yielded ops a.tmps) then
    if cls i = [] then ∃ v, PV P E B0 ro o a v
    else (∃ v Ms, tbl i ((cls i).map m) v Ms ∧ Ms.length = (cls i).length) ∧ Outc P E B0 ro o a ((cls i).map m).flatten (fun v M => ∃ Ms, tbl i ((cls i).map m) v Ms ∧ Ms.length = (cls i).length ∧ M = Ms.flatten)
  else True
def outM (i : Nat) (o : Oper) (a : Act) (m : Nat → List It) (v : Value) (m' : Nat → List It) : Prop :=
  if Region.wanted o (yielded ops a.tmps) then
    if cls i = [] then PV P E B0 ro o a v ∧ m' = m
    else ∃ Ms, tbl i ((cls i).map m) v Ms ∧ Ms.length = (cls i).length ∧ m' = updL m (cls i) Ms
  else v = undef ∧ m' = m
def rOpM (i : Nat) (K : Act → (Nat → List It) → Prop) (a : Act) (m : Nat → List It) : Prop :=
  ∀ o, ops[i]? = some o → safeM P E B0 ro ops cls tbl i o a m ∧ ∀ v m', outM P E B0 ro ops cls tbl i o a m v m' → K (a.put o.dst v) m'
end
section
variable {P : Program} {E : Env} {B0 : List It} {ro : List Ro} {ops : Array Oper} {cls : Nat → List Nat} {tbl : Nat → List (List It) → Value → List (List It) → Prop} {md : Region.Mode}
theorem safe_outM {i : Nat} {o : Oper} {a : Act} {m : Nat → List It} (h : safeM P E B0 ro ops cls tbl i o a m) : ∃ v m', outM P E B0 ro ops cls tbl i o a m v m' := by
  unfold safeM at h
  unfold outM
  split at h
  · rename_i hw
    simp only [hw, if_true]
    split at h
    · rename_i hc
      simp only [hc, if_true]
      obtain ⟨v, hv⟩ := h
      exact ⟨v, m, hv, rfl⟩
    · rename_i hc
      simp only [hc, if_false]
      obtain ⟨⟨v, Ms, hv, hl⟩, _⟩ := h
      exact ⟨v, _, Ms, hv, hl, rfl⟩
  · rename_i hw
    simp only [hw]
    exact ⟨undef, m, rfl, rfl⟩
theorem rOpM_mono {i : Nat} {a : Act} {m : Nat → List It} {K K' : Act → (Nat → List It) → Prop} (h : ∀ a m, K a m → K' a m) (hh : rOpM P E B0 ro ops cls tbl i K a m) : rOpM P E B0 ro ops cls tbl i K' a m :=
  fun o ho => ⟨(hh o ho).1, fun v m' hv => h _ _ ((hh o ho).2 v m' hv)⟩
section
variable {i j : Nat} {oi oj : Oper} {a : Act} {m m' : Nat → List It} {u v : Value} {dst : Option Tmp}
theorem safe_putM (hs : ∀ cs b, oj.op ≠ .select cs b) (h : ∀ d, dst = some d → d ∉ oj.looksAt ops) : safeM P E B0 ro ops cls tbl j oj (a.put dst v) m = safeM P E B0 ro ops cls tbl j oj a m := by
  unfold safeM PV Outc
  rw [wanted_put oj a dst v h, execOp_put oj hs a dst v h]
theorem out_putM (hs : ∀ cs b, oj.op ≠ .select cs b) (h : ∀ d, dst = some d → d ∉ oj.looksAt ops) : outM P E B0 ro ops cls tbl j oj (a.put dst v) m u m' = outM P E B0 ro ops cls tbl j oj a m u m' := by
  unfold outM PV
  rw [wanted_put oj a dst v h, execOp_put oj hs a dst v h]
theorem out_otherM (h : outM P E B0 ro ops cls tbl i oi a m v m') {ds : List Nat} (hc : ∀ d ∈ ds, d ∉ cls i) : ds.map m' = ds.map m := by
  unfold outM at h
  split at h
  · split at h
    · rw [h.2]
    · obtain ⟨Ms, _, _, rfl⟩ := h
      exact map_updL hc
  · rw [h.2]
theorem safe_otherM (h : outM P E B0 ro ops cls tbl i oi a m v m') (hc : ∀ d ∈ cls j, d ∉ cls i) : safeM P E B0 ro ops cls tbl j oj a m' = safeM P E B0 ro ops cls tbl j oj a m := by
  unfold safeM
  rw [out_otherM h hc]
theorem out_diamondM {m1 m2 : Nat → List It} (hc : ∀ d ∈ cls j, d ∉ cls i) (h1 : outM P E B0 ro ops cls tbl j oj a m u m1) (h2 : outM P E B0 ro ops cls tbl i oi a m1 v m2) :
    ∃ m3, outM P E B0 ro ops cls tbl i oi a m v m3 ∧ outM P E B0 ro ops cls tbl j oj a m3 u m2 := by
  have key : (cls i).map m1 = (cls i).map m := out_otherM h1 (fun d hd hd' => hc d hd' hd)
  unfold outM at h1 h2 ⊢
  by_cases wi : Region.wanted oi (yielded ops a.tmps) = true
  · simp only [wi, if_true] at h2 ⊢
    by_cases wj : Region.wanted oj (yielded ops a.tmps) = true
    · simp only [wj, if_true] at h1 ⊢
      by_cases ci : cls i = []
      · simp only [ci, if_true] at h2 ⊢
        obtain ⟨h2, rfl⟩ := h2
        exact ⟨m, ⟨h2, rfl⟩, h1⟩
      · simp only [ci, if_false] at h2 ⊢
        rw [key] at h2
        obtain ⟨Ms, h2, hl, rfl⟩ := h2
        refine ⟨updL m (cls i) Ms, ⟨Ms, h2, hl, rfl⟩, ?_⟩
        by_cases cj : cls j = []
        · simp only [cj, if_true] at h1 ⊢
          exact ⟨h1.1, by rw [h1.2]⟩
        · simp only [cj, if_false] at h1 ⊢
          obtain ⟨Ns, h1, hl', rfl⟩ := h1
          refine ⟨Ns, by rw [map_updL hc]; exact h1, hl', ?_⟩
          exact (updL_comm (cls j) Ns (cls i) Ms m hc).symm
    · simp only [wj] at h1 ⊢
      obtain ⟨rfl, rfl⟩ := h1
      exact ⟨m2, h2, rfl, rfl⟩
  · simp only [wi] at h2 ⊢
    obtain ⟨rfl, rfl⟩ := h2
    exact ⟨m, ⟨rfl, rfl⟩, h1⟩
theorem rOp_swapM {K : Act → (Nat → List It) → Prop} (hi : ops[i]? = some oi) (hj : ops[j]? = some oj) (hap : oi.apart ops oj = true) (hc : ∀ d ∈ cls j, d ∉ cls i) (hsi : ∀ cs b, oi.op ≠ .select cs b) (hsj : ∀ cs b, oj.op ≠ .select cs b)
    (H : rOpM P E B0 ro ops cls tbl i (rOpM P E B0 ro ops cls tbl j K) a m) : rOpM P E B0 ro ops cls tbl j (rOpM P E B0 ro ops cls tbl i K) a m := by
  obtain ⟨h1, h2, h3⟩ := Oper.apart_spec hap
  obtain ⟨Hs, Ho⟩ := H oi hi
  intro o ho
  obtain rfl : oj = o := by rw [hj] at ho; exact Option.some.inj ho
  refine ⟨?_, fun u m1 hu o ho => ?_⟩
  · obtain ⟨v, m1, hv⟩ := safe_outM Hs
    have := (Ho v m1 hv oj hj).1
    rw [safe_putM hsj h1, safe_otherM hv hc] at this
    exact this
  · obtain rfl : oi = o := by rw [hi] at ho; exact Option.some.inj ho
    refine ⟨?_, fun v m2 hv => ?_⟩
    · rw [safe_putM hsi h3, safe_otherM hu (fun d hd hd' => hc d hd' hd)]
      exact Hs
    · rw [out_putM hsi h3] at hv
      obtain ⟨m3, h4, h5⟩ := out_diamondM hc hu hv
      have := (Ho v m3 h4 oj hj).2 u m2 (by rw [out_putM hsj h1]; exact h5)
      rw [← Act.put_comm a v u h2]
      exact this
end
def wpAnyM (P : Program) (E : Env) (B0 : List It) (ro : List Ro) (ops : Array Oper) (cls : Nat → List Nat) (tbl : Nat → List (List It) → Value → List (List It) → Prop) (md : Region.Mode) (Q : Act → (Nat → List It) → Prop) : Nat → Array Bool → Act → (Nat → List It) → Prop
  | 0, listed, a, m => Region.ready md ops listed = [] ∧ Q a m
  | fuel + 1, listed, a, m => (Region.ready md ops listed = [] → Q a m) ∧ ∀ i ∈ Region.ready md ops listed, rOpM P E B0 ro ops cls tbl i (wpAnyM P E B0 ro ops cls tbl md Q fuel (listed.setIfInBounds i true)) a m
theorem wpAnyM_first {Q : Act → (Nat → List It) → Prop} {i : Nat} {oi : Oper} (hi : ops[i]? = some oi) (hsel : ∀ (j : Nat) (o : Oper) cs b, ops[j]? = some o → o.op ≠ .select cs b)
    (hcls : ∀ (j : Nat) (listed : Array Bool), j ≠ i → Closed md ops listed → (∀ k, k < i → listed.getD k true = true) → listed.getD i true = false → j ∈ Region.ready md ops listed → ∀ d ∈ cls j, d ∉ cls i) :
    ∀ (fuel : Nat) (listed : Array Bool) (a : Act) (m : Nat → List It), Closed md ops listed → (∀ k, k < i → listed.getD k true = true) →
      (∀ j oj, ops[j]? = some oj → j ≠ i → listed.getD j true = false → (∀ e ∈ oj.after, Region.binds md e = true → e.on ≠ i) → oi.apart ops oj = true) →
      i ∈ Region.ready md ops listed → rOpM P E B0 ro ops cls tbl i (wpAnyM P E B0 ro ops cls tbl md Q fuel (listed.setIfInBounds i true)) a m → wpAnyM P E B0 ro ops cls tbl md Q (fuel + 1) listed a m := by
  intro fuel
  induction fuel with
  | zero =>
    intro listed a m _ _ _ hr H
    refine ⟨fun h => (by rw [h] at hr; cases hr), fun j hj => ?_⟩
    by_cases hji : j = i
    · subst hji; exact H
    · have := ready_mono hj hji
      obtain ⟨hs, ho⟩ := H oi hi
      obtain ⟨v, m', hv⟩ := safe_outM hs
      rw [(ho v m' hv).1] at this
      cases this
  | succ fuel ih =>
    intro listed a m hcl hpre hfree hr H
    refine ⟨fun h => (by rw [h] at hr; cases hr), fun j hj => ?_⟩
    by_cases hji : j = i
    · subst hji; exact H
    · obtain ⟨hjun, oj, hoj, hall⟩ := mem_ready.1 hj
      have hnot : ∀ e ∈ oj.after, Region.binds md e = true → e.on ≠ i := fun e he hb heq => by
        have h1 := hall e he hb
        have h0 := (mem_ready.1 hr).1
        rw [heq] at h1
        rcases Nat.lt_or_ge i listed.size with h' | h'
        · simp [h'] at h0 h1; rw [h0] at h1; cases h1
        · simp [Array.getElem?_eq_none h'] at h1
      have h1 := rOpM_mono (fun a' m' h => h.2 j (ready_mono hj hji)) H
      have f1 := hfree j oj hoj hji hjun hnot
      have f2 := hcls j listed hji hcl hpre (mem_ready.1 hr).1 hj
      have h2 := rOp_swapM hi hoj f1 f2 (fun cs b => hsel i oi cs b hi) (fun cs b => hsel j oj cs b hoj) h1
      refine rOpM_mono (fun a' m' h3 => ih (listed.setIfInBounds j true) a' m' (hcl.set hj) (fun k hk => ?_) (fun k ok hk hki hun hno => ?_) (ready_mono hr (Ne.symm hji)) ?_) h2
      · by_cases hjk : j = k
        · subst hjk
          rcases Nat.lt_or_ge j listed.size with h2 | h2
          · simp [h2]
          · simp [h2]
        · rw [getD_set_ne true hjk]; exact hpre k hk
      · refine hfree k ok hk hki ?_ hno
        by_cases hjk : j = k
        · subst hjk; exact hjun
        · rw [getD_set_ne true hjk] at hun; exact hun
      · rw [Array.setIfInBounds_comm _ _ hji]
        exact h3
def wpM (P : Program) (E : Env) (B0 : List It) (ro : List Ro) (ops : Array Oper) (cls : Nat → List Nat) (tbl : Nat → List (List It) → Value → List (List It) → Prop) (Q : Act → (Nat → List It) → Prop) : List Oper → Nat → Act → (Nat → List It) → Prop
  | [], _, a, m => Q a m
  | o :: l, k, a, m => rOpM P E B0 ro ops cls tbl k (wpM P E B0 ro ops cls tbl Q l (k + 1)) a m
def clsM (md : Region.Mode) (ops : Array Oper) (cls : Nat → List Nat) : Bool :=
  (List.range ops.size).all fun j => (List.range j).all fun i => ((cls j).all fun d => !(cls i).contains d) || reachB md ops i ops.size j
theorem clsM_spec (h : clsM md ops cls = true) {i j : Nat} {oj : Oper} (hj : ops[j]? = some oj) (hij : i < j) {d : Nat} (hd : d ∈ cls j) (hi : d ∈ cls i) : reachB md ops i ops.size j = true := by
  unfold clsM at h
  rw [List.all_eq_true] at h
  have h1 := h j (by have := (Array.getElem?_eq_some_iff.1 hj).1; simpa using this)
  rw [List.all_eq_true] at h1
  have h2 := h1 i (by simpa using hij)
  rw [Bool.or_eq_true] at h2
  rcases h2 with h2 | h2
  · rw [List.all_eq_true] at h2
    have := h2 d hd
    simp [hi] at this
  · exact h2
theorem wpAnyM_lex {Q : Act → (Nat → List It) → Prop} (hs : Region.noSelect ops = true) (hcl : clsM md ops cls = true) : ∀ (l : List Oper) (k : Nat) (listed : Array Bool) (a : Act) (m : Nat → List It), Closed md ops listed → ops.size = listed.size → (∀ j, l[j]? = ops[k + j]?) → (∀ j, j < k → listed.getD j true = true) →
    Region.lexFrom md ops l.length k listed = true → wpM P E B0 ro ops cls tbl Q l k a m → wpAnyM P E B0 ro ops cls tbl md Q l.length listed a m
  | [], _, _, _, _, _, _, _, _, hB, h => ⟨by simpa [Region.lexFrom] using hB, h⟩
  | o :: l, k, listed, a, m, hC, hz, hl, hk, hB, h => by
    have h0 : ops[k]? = some o := by simpa using (hl 0).symm
    simp only [List.length_cons, Region.lexFrom, Bool.and_eq_true] at hB
    obtain ⟨⟨hr, hf⟩, hB'⟩ := hB
    have hr' : k ∈ Region.ready md ops listed := by simpa using hr
    refine wpAnyM_first h0 (Region.noSelect_spec hs) (fun j ld hjk hCl hpre hun hj d hd hdi => ?_) l.length listed a m hC hk (fun j oj hj hjk hun hno => Region.free_spec h0 hf j oj hj hjk hun hno) hr' ?_
    · obtain ⟨hjun, oj, hoj, hall⟩ := mem_ready.1 hj
      have hle := lex_lt hpre hjun
      have hks : k < ld.size := by
        rcases Nat.lt_or_ge k ld.size with h' | h'
        · exact h'
        · simp [Array.getD, Nat.not_lt.2 h'] at hun
      obtain ⟨o2, h2, e, he, hb, hne⟩ := reach_not hCl hun hks _ _ (clsM_spec hcl hoj (show k < j by omega) hd hdi)
      rw [hoj] at h2
      obtain rfl := Option.some.inj h2
      rw [hall e he hb] at hne; cases hne
    · refine rOpM_mono (fun a' m' h' => wpAnyM_lex hs hcl l (k + 1) _ a' m' (hC.set hr') (by simpa using hz) (fun j => by have := hl (j + 1); simpa [Nat.add_assoc, Nat.add_comm 1 j] using this) (fun j hj => ?_) hB' h') h
      rcases Nat.lt_or_ge j k with h1 | h1
      · rw [getD_set_ne true (show k ≠ j by omega)]; exact hk j h1
      · obtain rfl : j = k := by omega
        rcases Nat.lt_or_ge j listed.size with h2 | h2
        · simp [h2]
        · simp [h2]
theorem flat_split {all cs : List Nat} (hn : all.Nodup) (hc : cs.Nodup) (hs : ∀ c ∈ cs, c ∈ all) (m : Nat → List It) : (all.flatMap m).Perm ((cs.map m).flatten ++ (all.filter fun c => !cs.contains c).flatMap m) := by
  have h1 : (all.filter fun c => cs.contains c).Perm cs := by
    refine (List.perm_ext_iff_of_nodup (hn.filter _) hc).2 fun c => ?_
    simp only [List.mem_filter, List.contains_iff_mem]
    exact ⟨fun h => h.2, fun h => ⟨hs c h, h⟩⟩
  have h2 := (List.filter_append_perm (fun c => cs.contains c) all).symm
  have h3 := (h2.trans (h1.append_right _)).flatMap_right m
  rw [List.flatMap_append] at h3
  rw [← List.flatMap_def]
  exact h3
theorem rest_same {all cs : List Nat} (m : Nat → List It) (Ms : List (List It)) : (all.filter fun c => !cs.contains c).flatMap (updL m cs Ms) = (all.filter fun c => !cs.contains c).flatMap m := by
  rw [List.flatMap_def, List.flatMap_def, map_updL]
  intro d hd
  have := (List.mem_filter.1 hd).2
  simpa using this
theorem wpAny_of_M {all : List Nat} (hn : all.Nodup) (hcs : ∀ i, (cls i).Nodup ∧ ∀ c ∈ cls i, c ∈ all) {Q : Act → (Nat → List It) → Prop} {Q' : Exit → Act → World → Prop} (hQ : ∀ a m w, Sat E.B E.S E.T (Hp B0 all m) ro w → Q a m → Q' .normal a w) :
    ∀ (fuel : Nat) (listed : Array Bool) (a : Act) (m : Nat → List It) (w : World), Sat E.B E.S E.T (Hp B0 all m) ro w → wpAnyM P E B0 ro ops cls tbl md Q fuel listed a m → wpAny P md ops Q' fuel listed a w
  | 0, _, _, _, _, hw, h => ⟨h.1, hQ _ _ _ hw h.2⟩
  | fuel + 1, listed, a, m, w, hw, h => ⟨fun h0 => hQ _ _ _ hw (h.1 h0), fun i hi => by
    obtain ⟨_, o, ho, _⟩ := mem_ready.1 hi
    obtain ⟨hs, hk⟩ := h.2 i hi o ho
    have ih := wpAny_of_M hn hcs hQ fuel (listed.setIfInBounds i true)
    unfold wpOp
    simp only [ho]
    unfold safeM at hs
    unfold outM at hk
    split
    · rename_i hwt
      simp only [hwt, if_true] at hs hk
      refine .inl ?_
      by_cases hc : cls i = []
      · simp only [hc, if_true] at hs hk
        obtain ⟨v, hv⟩ := hs
        unfold Oper.wp
        rw [hv _ w hw]
        exact ih _ _ _ hw (hk v m ⟨hv, rfl⟩)
      · simp only [hc, if_false] at hs hk
        have hp1 : (Hp B0 all m).Perm (((cls i).map m).flatten ++ (B0 ++ (all.filter fun c => !(cls i).contains c).flatMap m)) := by
          unfold Hp
          exact ((flat_split hn (hcs i).1 (hcs i).2 m).append_left B0).trans (by rw [← List.append_assoc, ← List.append_assoc]; exact List.perm_append_comm.append_right _)
        have hp2 : ∀ Ms : List (List It), Ms.length = (cls i).length → (Ms.flatten ++ (B0 ++ (all.filter fun c => !(cls i).contains c).flatMap m)).Perm (Hp B0 all (updL m (cls i) Ms)) := fun Ms hl => by
          unfold Hp
          refine List.Perm.trans ?_ ((flat_split hn (hcs i).1 (hcs i).2 (updL m (cls i) Ms)).append_left B0).symm
          rw [flat_updL (hcs i).1 hl, rest_same, ← List.append_assoc, ← List.append_assoc]
          exact List.perm_append_comm.append_right _
        have h1 := hs.2 _ w (hw.perm hp1)
        unfold Oper.wp
        generalize (execOp a.eval o).run P w = r at h1
        cases r with
        | ok n w' =>
          cases n <;> simp only [outcU] at h1 <;> simp only [Oper.upon] <;> first | exact h1.elim | skip
          case value u => obtain ⟨M, ⟨Ms, h2, hl, rfl⟩, h3⟩ := h1; exact ih _ _ _ (h3.perm (hp2 Ms hl)) (hk _ _ ⟨Ms, h2, hl, rfl⟩)
          case skip => obtain ⟨M, ⟨Ms, h2, hl, rfl⟩, h3⟩ := h1; exact ih _ _ _ (h3.perm (hp2 Ms hl)) (hk _ _ ⟨Ms, h2, hl, rfl⟩)
          case enter f args =>
            obtain ⟨rfl, h2⟩ := h1
            refine h2.mono fun e w'' ⟨v, M, he, ⟨Ms, h3, hl, hM⟩, h4⟩ => ?_
            subst he; subst hM
            exact ih _ _ _ (h4.perm (hp2 Ms hl)) (hk _ _ ⟨Ms, h3, hl, rfl⟩)
        | halt x w' => simp only [outcU] at h1
    · rename_i hwt
      simp only [hwt] at hk
      exact ih _ _ _ hw (hk undef m ⟨rfl, rfl⟩)⟩
inductive HdM (P : Program) (N : Nat) (E : Env) (B0 : List It) (ro : List Ro) (ops : Array Oper) (cls : Nat → List Nat) (tbl : Nat → List (List It) → Value → List (List It) → Prop) (K : List (Nat × Value) → (Nat → List It) → Prop) : Nat → List Oper → List (Nat × Value) → (Nat → List It) → Prop
  | nil {k fr m} (h : K fr m) : HdM P N E B0 ro ops cls tbl K k [] fr m
  | val {k fr m op ty pos af rest d v g} (hd : Nat.ble (d + 1) N = true) (hc : cls k = []) (hg : GOk ops fr g) (hv : Pv P ⟨fr, B0, ro⟩ op v) (h : HdM P N E B0 ro ops cls tbl K (k + 1) rest ((d, v) :: fr) m) :
      HdM P N E B0 ro ops cls tbl K k (⟨some d, op, ty, pos, af, g⟩ :: rest) fr m
  | eff {k fr m dst op ty pos af rest cs Ls g} (hc : cls k = cs) (hne : cs ≠ []) (hm : cs.map m = Ls) (hd : dstOk dst N = true) (hg : GOk ops fr g) (ho : ∀ a, Holds N fr a → Outc P E B0 ro ⟨dst, op, ty, pos, af, g⟩ a Ls.flatten (fun v M => ∃ Ms, tbl k Ls v Ms ∧ Ms.length = cs.length ∧ M = Ms.flatten))
      (hin : ∃ v Ms, tbl k Ls v Ms ∧ Ms.length = cs.length) (h : ∀ v Ms, tbl k Ls v Ms → Ms.length = cs.length → HdM P N E B0 ro ops cls tbl K (k + 1) rest (putF dst v fr) (updL m cs Ms)) : HdM P N E B0 ro ops cls tbl K k (⟨dst, op, ty, pos, af, g⟩ :: rest) fr m
  | skip {k fr m d op ty pos af rest j s b c} (hg : gslot ops j = some s) (hs : fget fr s = some (.bool b)) (hb : (b == c) = false) (hd : Nat.ble (d + 1) N = true) (h : HdM P N E B0 ro ops cls tbl K (k + 1) rest ((d, undef) :: fr) m) :
      HdM P N E B0 ro ops cls tbl K k (⟨some d, op, ty, pos, af, some (j, c)⟩ :: rest) fr m
  | skipu {k fr m d op ty pos af rest j s c} (hg : gslot ops j = some s) (hs : fget fr s = some undef) (hd : Nat.ble (d + 1) N = true) (h : HdM P N E B0 ro ops cls tbl K (k + 1) rest ((d, undef) :: fr) m) :
      HdM P N E B0 ro ops cls tbl K k (⟨some d, op, ty, pos, af, some (j, c)⟩ :: rest) fr m
  | dec {k fr m rest s} {p : Prop} {dd : Decidable p} (hs : fget fr s = some (.bool (@decide p dd))) (ht : p → HdM P N E B0 ro ops cls tbl K k rest ((s, .bool true) :: fr) m) (hf : ¬p → HdM P N E B0 ro ops cls tbl K k rest ((s, .bool false) :: fr) m) :
      HdM P N E B0 ro ops cls tbl K k rest fr m
theorem HdM.sound {N : Nat} {K : List (Nat × Value) → (Nat → List It) → Prop} {k : Nat} {l : List Oper} {fr : List (Nat × Value)} {m : Nat → List It} (h : HdM P N E B0 ro ops cls tbl K k l fr m) (hw0 : ∃ F w, Sat E.B E.S E.T (B0 ++ F) ro w) {Q : Act → (Nat → List It) → Prop}
    (hQ : ∀ fr a m, K fr m → Holds N fr a → Q a m) : (∀ j, j < l.length → l[j]? = ops[k + j]?) → ∀ a, Holds N fr a → wpM P E B0 ro ops cls tbl Q l k a m := by
  have shift : ∀ {o : Oper} {l : List Oper} {k : Nat}, (∀ j, j < (o :: l).length → (o :: l)[j]? = ops[k + j]?) → ops[k]? = some o ∧ ∀ j, j < l.length → l[j]? = ops[k + 1 + j]? := fun h =>
    ⟨by simpa using (h 0 (by simp)).symm, fun j hj => by have := h (j + 1) (by simp; omega); simpa [Nat.add_assoc, Nat.add_comm 1 j] using this⟩
  induction h with
  | nil h => exact fun _ a ha => hQ _ a _ h ha
  | @val k fr m op ty pos af rest d v g hd hc hg hv _ ih =>
    intro hl a ha o ho
    obtain ⟨h0, hl'⟩ := shift hl
    rw [h0] at ho
    obtain rfl := Option.some.inj ho
    have hpv : PV P E B0 ro ⟨some d, op, ty, pos, af, g⟩ a v := fun F w hw => hv N E a w _ _ _ _ _ ⟨ha, hw.left⟩
    unfold safeM outM
    simp only [hg.wanted ha, if_true, hc]
    refine ⟨⟨v, hpv⟩, fun v' m' ⟨hv', hm'⟩ => ?_⟩
    subst hm'
    obtain ⟨F, w, hw⟩ := hw0
    have e : v' = v := by
      have h1 := hpv F w hw
      have h2 := hv' F w hw
      rw [h1] at h2
      injection h2 with h2 _
      injection h2 with h2
      exact h2.symm
    subst e
    exact ih hl' _ (ha.put (Nat.le_of_ble_eq_true hd) _)
  | @eff k fr m dst op ty pos af rest cs Ls g hc hne hm hd hg ho hin _ ih =>
    intro hl a ha o ho'
    obtain ⟨h0, hl'⟩ := shift hl
    rw [h0] at ho'
    obtain rfl := Option.some.inj ho'
    unfold safeM outM
    simp only [hg.wanted ha, if_true, hc, hne, if_false, hm]
    refine ⟨⟨hin, ho a ha⟩, fun v' m' ⟨Ms, hv', hlen, hm'⟩ => ?_⟩
    subst hm'
    exact ih v' Ms hv' hlen hl' _ (ha.putF hd _)
  | @skip k fr m d op ty pos af rest j s b c hg hs hb hd _ ih =>
    intro hl a ha o ho
    obtain ⟨h0, hl'⟩ := shift hl
    rw [h0] at ho
    obtain rfl := Option.some.inj ho
    have hwt : ¬ Region.wanted (⟨some d, op, ty, pos, af, some (j, c)⟩ : Oper) (yielded ops a.tmps) = true := by simp [Region.wanted, yielded_of ha hg hs]; simpa using hb
    unfold safeM outM
    simp only [hwt]
    refine ⟨trivial, fun v' m' ⟨hv', hm'⟩ => ?_⟩
    subst hv'; subst hm'
    exact ih hl' _ (ha.put (Nat.le_of_ble_eq_true hd) _)
  | @skipu k fr m d op ty pos af rest j s c hg hs hd _ ih =>
    intro hl a ha o ho
    obtain ⟨h0, hl'⟩ := shift hl
    rw [h0] at ho
    obtain rfl := Option.some.inj ho
    have hwt : ¬ Region.wanted (⟨some d, op, ty, pos, af, some (j, c)⟩ : Oper) (yielded ops a.tmps) = true := by simp [Region.wanted, yielded_undef ha hg hs]
    unfold safeM outM
    simp only [hwt]
    refine ⟨trivial, fun v' m' ⟨hv', hm'⟩ => ?_⟩
    subst hv'; subst hm'
    exact ih hl' _ (ha.put (Nat.le_of_ble_eq_true hd) _)
  | @dec k fr m rest s p _ hs _ _ iht ihf =>
    intro hl a ha
    by_cases hp : p
    · exact iht hp hl a (ha.same hs (by simp [hp]))
    · exact ihf hp hl a (ha.same hs (by simp [hp]))
def wpAnyLM (P : Program) (E : Env) (B0 : List It) (ro : List Ro) (ops : Array Oper) (cls : Nat → List Nat) (tbl : Nat → List (List It) → Value → List (List It) → Prop) (md : Region.Mode) (n : Nat) (L : Array Bool → Act → (Nat → List It) → Prop) : Nat → Array Bool → Act → (Nat → List It) → Prop
  | 0, listed, a, m => L listed a m
  | f + 1, listed, a, m => Region.ready md ops listed ≠ [] ∧ ∀ i ∈ Region.ready md ops listed, i < n ∧ rOpM P E B0 ro ops cls tbl i (wpAnyLM P E B0 ro ops cls tbl md n L f (listed.setIfInBounds i true)) a m
theorem wpAny_of_LM {all : List Nat} (hn : all.Nodup) (hcs : ∀ i, (cls i).Nodup ∧ ∀ c ∈ cls i, c ∈ all) {n g : Nat} {L : Array Bool → Act → (Nat → List It) → Prop} {Q' : Exit → Act → World → Prop}
    (hL : ∀ listed a m w, Sat E.B E.S E.T (Hp B0 all m) ro w → L listed a m → wpAny P md ops Q' g listed a w) :
    ∀ (f : Nat) (listed : Array Bool) (a : Act) (m : Nat → List It) (w : World), Sat E.B E.S E.T (Hp B0 all m) ro w → wpAnyLM P E B0 ro ops cls tbl md n L f listed a m → wpAny P md ops Q' (f + g) listed a w
  | 0, _, _, _, _, hw, h => by rw [Nat.zero_add]; exact hL _ _ _ _ hw h
  | f + 1, listed, a, m, w, hw, h => by
    rw [show f + 1 + g = (f + g) + 1 by omega]
    refine ⟨fun h0 => absurd h0 h.1, fun i hi => ?_⟩
    obtain ⟨_, o, ho, _⟩ := mem_ready.1 hi
    obtain ⟨hs, hk⟩ := (h.2 i hi).2 o ho
    have ih := wpAny_of_LM (n := n) hn hcs hL f (listed.setIfInBounds i true)
    unfold wpOp
    simp only [ho]
    unfold safeM at hs
    unfold outM at hk
    split
    · rename_i hwt
      simp only [hwt, if_true] at hs hk
      refine .inl ?_
      by_cases hc : cls i = []
      · simp only [hc, if_true] at hs hk
        obtain ⟨v, hv⟩ := hs
        unfold Oper.wp
        rw [hv _ w hw]
        exact ih _ _ _ hw (hk v m ⟨hv, rfl⟩)
      · simp only [hc, if_false] at hs hk
        have hp1 : (Hp B0 all m).Perm (((cls i).map m).flatten ++ (B0 ++ (all.filter fun c => !(cls i).contains c).flatMap m)) := by
          unfold Hp
          exact ((flat_split hn (hcs i).1 (hcs i).2 m).append_left B0).trans (by rw [← List.append_assoc, ← List.append_assoc]; exact List.perm_append_comm.append_right _)
        have hp2 : ∀ Ms : List (List It), Ms.length = (cls i).length → (Ms.flatten ++ (B0 ++ (all.filter fun c => !(cls i).contains c).flatMap m)).Perm (Hp B0 all (updL m (cls i) Ms)) := fun Ms hl => by
          unfold Hp
          refine List.Perm.trans ?_ ((flat_split hn (hcs i).1 (hcs i).2 (updL m (cls i) Ms)).append_left B0).symm
          rw [flat_updL (hcs i).1 hl, rest_same, ← List.append_assoc, ← List.append_assoc]
          exact List.perm_append_comm.append_right _
        have h1 := hs.2 _ w (hw.perm hp1)
        unfold Oper.wp
        generalize (execOp a.eval o).run P w = r at h1
        cases r with
        | ok n w' =>
          cases n <;> simp only [outcU] at h1 <;> simp only [Oper.upon] <;> first | exact h1.elim | skip
          case value u => obtain ⟨M, ⟨Ms, h2, hl, rfl⟩, h3⟩ := h1; exact ih _ _ _ (h3.perm (hp2 Ms hl)) (hk _ _ ⟨Ms, h2, hl, rfl⟩)
          case skip => obtain ⟨M, ⟨Ms, h2, hl, rfl⟩, h3⟩ := h1; exact ih _ _ _ (h3.perm (hp2 Ms hl)) (hk _ _ ⟨Ms, h2, hl, rfl⟩)
          case enter f args =>
            obtain ⟨rfl, h2⟩ := h1
            refine h2.mono fun e w'' ⟨v, M, he, ⟨Ms, h3, hl, hM⟩, h4⟩ => ?_
            subst he; subst hM
            exact ih _ _ _ (h4.perm (hp2 Ms hl)) (hk _ _ ⟨Ms, h3, hl, rfl⟩)
        | halt x w' => simp only [outcU] at h1
    · rename_i hwt
      simp only [hwt] at hk
      exact ih _ _ _ hw (hk undef m ⟨rfl, rfl⟩)
theorem wpAnyLM_first {n : Nat} {L : Array Bool → Act → (Nat → List It) → Prop} {i : Nat} {oi : Oper} (hi : ops[i]? = some oi) (hsel : ∀ (j : Nat) (o : Oper) cs b, ops[j]? = some o → o.op ≠ .select cs b)
    (htw : ∀ listed, Closed md ops listed → HeadInv md ops n listed → ∀ i, i < n → listed.getD i true = false → ∀ t, n ≤ t → t ∉ Region.ready md ops listed) (hin : i < n) (hdone : ∀ listed a m, L listed a m → ∀ j ∈ Region.ready md ops listed, n ≤ j)
    (hcls : ∀ (j : Nat) (listed : Array Bool), j ≠ i → Closed md ops listed → (∀ k, k < i → listed.getD k true = true) → listed.getD i true = false → j ∈ Region.ready md ops listed → ∀ d ∈ cls j, d ∉ cls i) :
    ∀ (f : Nat) (listed : Array Bool) (a : Act) (m : Nat → List It), Closed md ops listed → HeadInv md ops n listed → (∀ k, k < i → listed.getD k true = true) →
      (∀ j oj, ops[j]? = some oj → j ≠ i → listed.getD j true = false → (∀ e ∈ oj.after, Region.binds md e = true → e.on ≠ i) → oi.apart ops oj = true) →
      i ∈ Region.ready md ops listed → rOpM P E B0 ro ops cls tbl i (wpAnyLM P E B0 ro ops cls tbl md n L f (listed.setIfInBounds i true)) a m → wpAnyLM P E B0 ro ops cls tbl md n L (f + 1) listed a m := by
  intro f
  induction f with
  | zero =>
    intro listed a m hcl inv _ _ hr H
    have hun := (mem_ready.1 hr).1
    refine ⟨fun h => (by rw [h] at hr; cases hr), fun j hj => ?_⟩
    have hjn : j < n := by
      rcases Nat.lt_or_ge j n with h | h
      · exact h
      · exact absurd hj (htw listed hcl inv i hin hun j h)
    refine ⟨hjn, ?_⟩
    by_cases hji : j = i
    · subst hji; exact H
    · have hjr := ready_mono hj hji
      obtain ⟨hs, ho⟩ := H oi hi
      obtain ⟨v, m', hv⟩ := safe_outM hs
      have := hdone _ _ _ (ho v m' hv) j hjr
      omega
  | succ f ih =>
    intro listed a m hcl inv hpre hfree hr H
    have hun := (mem_ready.1 hr).1
    refine ⟨fun h => (by rw [h] at hr; cases hr), fun j hj => ?_⟩
    have hjn : j < n := by
      rcases Nat.lt_or_ge j n with h | h
      · exact h
      · exact absurd hj (htw listed hcl inv i hin hun j h)
    refine ⟨hjn, ?_⟩
    by_cases hji : j = i
    · subst hji; exact H
    · obtain ⟨hjun, oj, hoj, hall⟩ := mem_ready.1 hj
      have hnot : ∀ e ∈ oj.after, Region.binds md e = true → e.on ≠ i := fun e he hb heq => by
        have h1 := hall e he hb
        rw [heq, getD_both hun] at h1
        cases h1
      have h1 := rOpM_mono (fun a' m' h => (h.2 j (ready_mono hj hji)).2) H
      have f1 := hfree j oj hoj hji hjun hnot
      have f2 := hcls j listed hji hcl hpre hun hj
      have h2 := rOp_swapM hi hoj f1 f2 (fun cs b => hsel i oi cs b hi) (fun cs b => hsel j oj cs b hoj) h1
      refine rOpM_mono (fun a' m' h3 => ih (listed.setIfInBounds j true) a' m' (hcl.set hj) (inv.set hj hjn) (fun k hk => ?_) (fun k ok hk hki hun hno => ?_) (ready_mono hr (Ne.symm hji)) ?_) h2
      · by_cases hjk : j = k
        · subst hjk
          rcases Nat.lt_or_ge j listed.size with h2 | h2
          · simp [h2]
          · simp [h2]
        · rw [getD_set_ne true hjk]; exact hpre k hk
      · refine hfree k ok hk hki ?_ hno
        by_cases hjk : j = k
        · subst hjk; exact hjun
        · rw [getD_set_ne true hjk] at hun; exact hun
      · rw [Array.setIfInBounds_comm _ _ hji]
        exact h3
theorem wpAnyLM_lex {n g : Nat} {Q : Act → (Nat → List It) → Prop} (hs : Region.noSelect ops = true) (hcl : clsM md ops cls = true) (hsk : Region.sinkB md ops n = true) (hch : Region.chainB md ops n = true) (hn : n < ops.size) :
    ∀ (l : List Oper) (k : Nat) (listed : Array Bool) (a : Act) (m : Nat → List It), Closed md ops listed → HeadInv md ops n listed → (∀ j, j < l.length → l[j]? = ops[k + j]?) → k + l.length = n → (∀ j, j < k → listed.getD j true = true) →
    Region.lexHead md ops g l.length k listed = true → wpM P E B0 ro ops cls tbl Q l k a m → wpAnyLM P E B0 ro ops cls tbl md n (fun listed' a' m' => Region.seqB md ops g n listed' = true ∧ Q a' m') l.length listed a m
  | [], k, listed, a, m, _, _, _, hk, _, hB, h => by
    have : k = n := by simpa using hk
    subst this
    exact ⟨by simpa [Region.lexHead] using hB, h⟩
  | o :: l, k, listed, a, m, hC, inv, hl, hkn, hk, hB, h => by
    have h0 : ops[k]? = some o := by simpa using (hl 0 (by simp)).symm
    simp only [List.length_cons, Region.lexHead, Bool.and_eq_true] at hB
    obtain ⟨⟨hr, hf⟩, hB'⟩ := hB
    have hr' : k ∈ Region.ready md ops listed := by simpa using hr
    have hlt : k < n := by simp only [List.length_cons] at hkn; omega
    refine wpAnyLM_first h0 (Region.noSelect_spec hs) (fun listed _ inv i hi hun t ht => tail_waits hsk hch hn inv _ i rfl hi hun t ht) hlt (fun listed' a' m' hL => seqB_ready hL.1) (fun j ld hjk hCl hpre hun hj d hd hdi => ?_) l.length listed a m hC inv hk (fun j oj hj hjk hun hno => Region.free_spec h0 hf j oj hj hjk hun hno) hr' ?_
    · obtain ⟨hjun, oj, hoj, hall⟩ := mem_ready.1 hj
      have hle := lex_lt hpre hjun
      have hks : k < ld.size := by
        rcases Nat.lt_or_ge k ld.size with h' | h'
        · exact h'
        · simp [Array.getD, Nat.not_lt.2 h'] at hun
      obtain ⟨o2, h2, e, he, hb, hne⟩ := reach_not hCl hun hks _ _ (clsM_spec hcl hoj (show k < j by omega) hd hdi)
      rw [hoj] at h2
      obtain rfl := Option.some.inj h2
      rw [hall e he hb] at hne; cases hne
    · refine rOpM_mono (fun a' m' h' => wpAnyLM_lex hs hcl hsk hch hn l (k + 1) _ a' m' (hC.set hr') (inv.set hr' hlt) (fun j hj => by have := hl (j + 1) (by simp; omega); simpa [Nat.add_assoc, Nat.add_comm 1 j] using this) (by simp only [List.length_cons] at hkn; omega) (fun j hj => ?_) hB' h') h
      rcases Nat.lt_or_ge j k with h1 | h1
      · rw [getD_set_ne true (show k ≠ j by omega)]; exact hk j h1
      · obtain rfl : j = k := by omega
        rcases Nat.lt_or_ge j listed.size with h2 | h2
        · simp [h2]
        · simp [h2]
/-- a drawn region of operations that change memory, and behind operation n a tail in one order -/
theorem wc_regMT {N : Nat} {fr : List (Nat × Value)} {hp : List It} {Kn Kr : St → Prop} {Kx : List (Nat × (St → Prop))} {id : Nat} {l : List Oper} (n : Nat) (all : List Nat) (cls : Nat → List Nat) (tbl : Nat → List (List It) → Value → List (List It) → Prop) (B0 : List It) (m0 : Nat → List It)
    (hm : P.follows .mixedOrders = true) (hB : Region.lexTailB .any l.toArray n = true) (hcl : clsM .any l.toArray cls = true) (hn : all.Nodup) (hcs : ∀ i, (cls i).Nodup ∧ ∀ c ∈ cls i, c ∈ all) (hperm : hp.Perm (Hp B0 all m0))
    (h : HdM P N E B0 ro l.toArray cls tbl (fun fr m => ∀ H, H = Hp B0 all m → WO P N E l.toArray (l.drop n) ⟨fr, H, ro⟩ Kn) 0 (l.take n) fr m0) : WC P N E (.region id l.toArray true) ⟨fr, hp, ro⟩ Kn Kx Kr := fun a w ok => by
  simp only [Region.lexTailB, Bool.and_eq_true, decide_eq_true_eq] at hB
  obtain ⟨⟨⟨⟨hsel, hnn⟩, hs⟩, hc⟩, hlex⟩ := hB
  have hn' : n < l.length := by simpa using hnn
  have htl : (l.take n).length = n := by simp; omega
  have hdl : (l.drop n).length = l.toArray.size - n := by simp
  have inv0 : HeadInv .any l.toArray n (Array.replicate l.toArray.size false) :=
    ⟨by simp, fun j oj _ hl => (by rw [getD_replicate_false] at hl; cases hl), fun t _ ht => getD_in (by simpa using ht) (getD_replicate_false _ _)⟩
  have hw : Sat E.B E.S E.T (Hp B0 all m0) ro _ := (ok.s.drawn (w.drawn + 1)).perm hperm
  refine wp_region_any hm ?_
  have H := wpAnyLM_lex (P := P) (E := E) (B0 := B0) (ro := ro) (tbl := tbl) (md := .any) (g := l.toArray.size - n) hsel hcl hs hc hnn (l.take n) 0 (Array.replicate l.toArray.size false) a m0 closed0 inv0 (fun j hj => by
      have hj' : j < n := by rw [htl] at hj; exact hj
      simp [hj']) (by simpa using htl) (fun j hj => by omega) (by rw [htl]; exact hlex)
    (h.sound (Q := fun a m => ∃ fr', WO P N E l.toArray (l.drop n) ⟨fr', Hp B0 all m, ro⟩ Kn ∧ Holds N fr' a) ⟨_, _, hw⟩ (fun fr a m hk ha => ⟨fr, hk _ rfl, ha⟩) (fun j hj => by
      have hj' : j < n := by rw [htl] at hj; exact hj
      simp [hj']) a ok.h)
  have := wpAny_of_LM (ro := ro) (tbl := tbl) hn hcs (g := l.toArray.size - n) (Q' := post N E Kn Kx Kr) (fun listed a' m w' hsat hL => by
    obtain ⟨h1, fr', h2, h3⟩ := hL
    have := wpAny_of_seq (md := .any) (Q' := post N E Kn Kx Kr) (l.drop n) n listed a' w' (fun j => by simp [List.getElem?_drop]) (by rw [hdl]; exact h1) (h2 _ (fun st' a w hk ok' => ⟨st', hk, ok'⟩) a' w' ⟨h3, hsat⟩)
    rwa [hdl] at this) _ _ _ _ _ hw H
  rw [htl, show n + (l.toArray.size - n) = l.toArray.size by omega] at this
  exact this
/-- a region that one operation cuts in two: everything ahead of it comes ahead, everything behind it behind -/
def pivB (md : Region.Mode) (ops : Array Oper) (n : Nat) : Bool := decide (n < ops.size) && Region.sinkB md ops n && ((List.range ops.size).all fun t => decide (t ≤ n) || reachB md ops n ops.size t)
theorem piv_waits {n : Nat} {listed : Array Bool} (hp : pivB md ops n = true) (hC : Closed md ops listed) (inv : HeadInv md ops n listed) :
    ∀ (d i : Nat), n - i = d → i < n → listed.getD i true = false → ∀ t, n ≤ t → t ∉ Region.ready md ops listed := by
  simp only [pivB, Bool.and_eq_true, decide_eq_true_eq] at hp
  obtain ⟨⟨hn, hs⟩, hr⟩ := hp
  intro d
  induction d using Nat.strongRecOn with
  | _ d ih =>
    intro i hd hi hun t ht hrd
    obtain ⟨_, ot, hot, hall⟩ := mem_ready.1 hrd
    have htlt : t < ops.size := (Array.getElem?_eq_some_iff.1 hot).1
    by_cases htn : t = n
    · subst htn
      have h1 := List.all_eq_true.1 hs i (List.mem_range.2 hi)
      obtain ⟨j, hj, hj2⟩ := List.any_eq_true.1 h1
      simp only [Bool.and_eq_true, decide_eq_true_eq] at hj2
      obtain ⟨oj, hoj, e, he, hb, hon⟩ := Region.waitsFor_spec hj2.2
      have hjle : j ≤ t := by have := List.mem_range.1 hj; omega
      by_cases hjt : j = t
      · subst hjt
        have : oj = ot := Option.some.inj (hoj.symm.trans hot)
        subst this
        have h2 := hall e he hb
        rw [hon, getD_both hun] at h2
        cases h2
      · cases hl : listed.getD j false with
        | true =>
          have h2 := inv.closed j oj hoj hl e he hb
          rw [hon, getD_both hun] at h2
          cases h2
        | false =>
          have hjs : j < listed.size := by rw [inv.size]; omega
          exact ih (t - j) (by omega) j rfl (by omega) (getD_in hjs hl) t (Nat.le_refl _) hrd
    · have h1 := List.all_eq_true.1 hr t (List.mem_range.2 htlt)
      simp only [Bool.or_eq_true, decide_eq_true_eq] at h1
      have h2 : reachB md ops n ops.size t = true := by rcases h1 with h1 | h1 <;> first | omega | exact h1
      obtain ⟨o2, h3, e, he, hb, hne⟩ := reach_not hC (inv.tail n (Nat.le_refl _) hn) (by rw [inv.size]; exact hn) _ _ h2
      rw [hot] at h3
      obtain rfl := Option.some.inj h3
      rw [hall e he hb] at hne; cases hne
theorem wpAnyLM_lexP {n g : Nat} {Q : Act → (Nat → List It) → Prop} (hs : Region.noSelect ops = true) (hcl : clsM md ops cls = true) (hp : pivB md ops n = true) :
    ∀ (l : List Oper) (k : Nat) (listed : Array Bool) (a : Act) (m : Nat → List It), Closed md ops listed → HeadInv md ops n listed → (∀ j, j < l.length → l[j]? = ops[k + j]?) → k + l.length = n → (∀ j, j < k → listed.getD j true = true) →
    Region.lexFrom md ops (l.length + g) k listed = true → wpM P E B0 ro ops cls tbl Q l k a m → wpAnyLM P E B0 ro ops cls tbl md n (fun listed' a' m' => Region.lexFrom md ops g n listed' = true ∧ Closed md ops listed' ∧ HeadInv md ops n listed' ∧ (∀ j, j < n → listed'.getD j true = true) ∧ Q a' m') l.length listed a m
  | [], k, listed, a, m, hC, inv, _, hk, hpre, hB, h => by
    have : k = n := by simpa using hk
    subst this
    exact ⟨by simpa using hB, hC, inv, hpre, h⟩
  | o :: l, k, listed, a, m, hC, inv, hl, hkn, hk, hB, h => by
    have h0 : ops[k]? = some o := by simpa using (hl 0 (by simp)).symm
    rw [List.length_cons, show l.length + 1 + g = (l.length + g) + 1 by omega] at hB
    simp only [Region.lexFrom, Bool.and_eq_true] at hB
    obtain ⟨⟨hr, hf⟩, hB'⟩ := hB
    have hr' : k ∈ Region.ready md ops listed := by simpa using hr
    have hlt : k < n := by simp only [List.length_cons] at hkn; omega
    refine wpAnyLM_first h0 (Region.noSelect_spec hs) (fun listed hC inv i hi hun t ht => piv_waits hp hC inv _ i rfl hi hun t ht) hlt (fun listed' a' m' hL j hj => lex_lt hL.2.2.2.1 (mem_ready.1 hj).1) (fun j ld hjk hCl hpre hun hj d hd hdi => ?_) l.length listed a m hC inv hk (fun j oj hj hjk hun hno => Region.free_spec h0 hf j oj hj hjk hun hno) hr' ?_
    · obtain ⟨hjun, oj, hoj, hall⟩ := mem_ready.1 hj
      have hle := lex_lt hpre hjun
      have hks : k < ld.size := by
        rcases Nat.lt_or_ge k ld.size with h' | h'
        · exact h'
        · simp [Array.getD, Nat.not_lt.2 h'] at hun
      obtain ⟨o2, h2, e, he, hb, hne⟩ := reach_not hCl hun hks _ _ (clsM_spec hcl hoj (show k < j by omega) hd hdi)
      rw [hoj] at h2
      obtain rfl := Option.some.inj h2
      rw [hall e he hb] at hne; cases hne
    · refine rOpM_mono (fun a' m' h' => wpAnyLM_lexP hs hcl hp l (k + 1) _ a' m' (hC.set hr') (inv.set hr' hlt) (fun j hj => by have := hl (j + 1) (by simp; omega); simpa [Nat.add_assoc, Nat.add_comm 1 j] using this) (by simp only [List.length_cons] at hkn; omega) (fun j hj => ?_) hB' h') h
      rcases Nat.lt_or_ge j k with h1 | h1
      · rw [getD_set_ne true (show k ≠ j by omega)]; exact hk j h1
      · obtain rfl : j = k := by omega
        rcases Nat.lt_or_ge j listed.size with h2 | h2
        · simp [h2]
        · simp [h2]
theorem clsM_nil (md : Region.Mode) (ops : Array Oper) : clsM md ops (fun _ => []) = true := by
  unfold clsM
  simp
/-- a drawn region of which operation n, a call, comes behind all ahead of it and ahead of all behind it; what the call leaves may be only read from then on -/
theorem wc_regP {N : Nat} {fr : List (Nat × Value)} {hp F : List It} {Kn Kr : St → Prop} {Kx : List (Nat × (St → Prop))} {id : Nat} {l : List Oper} (n : Nat) (all : List Nat) (cls : Nat → List Nat)
    {f : FuncId} [HasBody P f] {vs : List Value} {L : List It} {R : List Ro} {Post : Value → List It → List Ro → Prop} {args : List Operand} {ats : Array TypeId} {dst : Option Tmp} {ty : TypeId} {pos : String} {af : Array Edge}
    (hF : Fn P f vs.toArray L R Post) (hs : hp.Perm (L ++ F)) (hrs : ∀ r ∈ R, r ∈ ro)
    (hm : P.follows .mixedOrders = true) (hB : Region.lexB .any l.toArray = true) (hP : pivB .any l.toArray n = true) (hcl : clsM .any l.toArray cls = true) (hn : all.Nodup) (hcs : ∀ i, (cls i).Nodup ∧ ∀ c ∈ cls i, c ∈ all)
    (ho : l[n]? = some ⟨dst, .call ⟨.value (.func f), args.toArray, ats⟩, ty, pos, af, none⟩) (hd : dstOk dst N = true)
    (h : HdM P N E hp ro l.toArray (fun _ => []) (fun _ _ _ _ => False) (fun fr' _ => opdL fr' args = some vs ∧ ∀ v L' R', Post v L' R' → ∀ RR, RR = R' ++ ro → ∃ B0 tbl m0, (L' ++ F).Perm (Hp B0 all m0) ∧
      HdM P N E B0 RR l.toArray cls tbl (fun fr m => ∀ H, H = Hp B0 all m → Kn ⟨fr, H, RR⟩) (n + 1) (l.drop (n + 1)) (putF dst v fr') m0) 0 (l.take n) fr (fun _ => [])) : WC P N E (.region id l.toArray true) ⟨fr, hp, ro⟩ Kn Kx Kr := fun a w ok => by
  simp only [Region.lexB, Bool.and_eq_true] at hB
  have hP' := hP
  simp only [pivB, Bool.and_eq_true, decide_eq_true_eq] at hP'
  obtain ⟨⟨hnn, _⟩, hreach⟩ := hP'
  have hn' : n < l.length := by simpa using hnn
  have htl : (l.take n).length = n := by simp; omega
  have hdl : (l.drop (n + 1)).length = l.toArray.size - n - 1 := by simp; omega
  have inv0 : HeadInv .any l.toArray n (Array.replicate l.toArray.size false) :=
    ⟨by simp, fun j oj _ hl => (by rw [getD_replicate_false] at hl; cases hl), fun t _ ht => getD_in (by simpa using ht) (getD_replicate_false _ _)⟩
  have hw : Sat E.B E.S E.T (Hp hp [] (fun _ => [])) ro { w with drawn := w.drawn + 1 } := by
    have := ok.s.drawn (w.drawn + 1)
    simpa [Hp] using this
  refine wp_region_any hm ?_
  have H := wpAnyLM_lexP (P := P) (E := E) (B0 := hp) (ro := ro) (cls := fun _ => []) (tbl := fun _ _ _ _ => False) (md := .any) (g := l.toArray.size - n) hB.1 (clsM_nil _ _) hP (l.take n) 0 (Array.replicate l.toArray.size false) a (fun _ => []) closed0 inv0 (fun j hj => by
      have hj' : j < n := by rw [htl] at hj; exact hj
      simp [hj']) (by simpa using htl) (fun j hj => by omega) (by rw [htl, show n + (l.toArray.size - n) = l.toArray.size by omega]; exact hB.2)
    (h.sound (Q := fun a _ => ∃ fr', (opdL fr' args = some vs ∧ ∀ v L' R', Post v L' R' → ∀ RR, RR = R' ++ ro → ∃ B0 tbl m0, (L' ++ F).Perm (Hp B0 all m0) ∧
      HdM P N E B0 RR l.toArray cls tbl (fun fr m => ∀ H, H = Hp B0 all m → Kn ⟨fr, H, RR⟩) (n + 1) (l.drop (n + 1)) (putF dst v fr') m0) ∧ Holds N fr' a) ⟨[], { w with drawn := w.drawn + 1 }, by simpa [Hp] using hw⟩ (fun fr a m hk ha => ⟨fr, hk, ha⟩) (fun j hj => by
      have hj' : j < n := by rw [htl] at hj; exact hj
      simp [hj']) a ok.h)
  have := wpAny_of_LM (ro := ro) (all := []) (tbl := fun _ _ _ _ => False) (by simp) (fun i => ⟨List.nodup_nil, fun c hc => by cases hc⟩) (g := l.toArray.size - n) (Q' := post N E Kn Kx Kr) (fun listed a' m' w' hsat hL => by
    obtain ⟨h1, hC, inv, hpre, fr', ⟨hargs, hk⟩, ha⟩ := hL
    have hsat' : Sat E.B E.S E.T hp ro w' := by simpa [Hp] using hsat
    rw [show l.toArray.size - n = (l.toArray.size - n - 1) + 1 by omega] at h1 ⊢
    simp only [Region.lexFrom, Bool.and_eq_true] at h1
    obtain ⟨⟨hr, hf⟩, h1'⟩ := h1
    have hr' : n ∈ Region.ready .any l.toArray listed := by simpa using hr
    refine ⟨fun h0 => (by rw [h0] at hr'; cases hr'), fun i hi => ?_⟩
    have hin : i = n := by
      obtain ⟨hiun, oi, hoi, hall⟩ := mem_ready.1 hi
      have hge := lex_lt hpre hiun
      rcases Nat.eq_or_lt_of_le hge with h2 | h2
      · exact h2.symm
      · have h3 := List.all_eq_true.1 hreach i (List.mem_range.2 (Array.getElem?_eq_some_iff.1 hoi).1)
        simp only [Bool.or_eq_true, decide_eq_true_eq] at h3
        have h4 : reachB .any l.toArray n l.toArray.size i = true := by rcases h3 with h3 | h3 <;> first | omega | exact h3
        obtain ⟨o2, h5, e, he, hb, hne⟩ := reach_not hC (inv.tail n (Nat.le_refl _) hnn) (by rw [inv.size]; exact hnn) _ _ h4
        rw [hoi] at h5
        obtain rfl := Option.some.inj h5
        rw [hall e he hb] at hne; cases hne
    subst hin
    unfold wpOp
    have ho' : l.toArray[i]? = some ⟨dst, .call ⟨.value (.func f), args.toArray, ats⟩, ty, pos, af, none⟩ := by simpa using ho
    simp only [ho']
    rw [if_pos (by simp [Region.wanted])]
    refine .inl ?_
    unfold Oper.wp
    rw [HasBody.enter w', ha.evalL hargs]
    refine (hF w' (hsat'.start hs hrs)).mono fun e w'' ⟨v, L', R', he, hPo, hS⟩ => ?_
    subst he
    obtain ⟨B0, tbl, m0, hpm, hK⟩ := hk v L' R' hPo _ rfl
    have hw2 : Sat E.B E.S E.T (Hp B0 all m0) (R' ++ ro) w'' := (hsat'.step hs (fun b hb => by
      obtain ⟨r, h1, h2⟩ := mem_blks.1 hb; exact mem_blks.2 ⟨r, hrs r h1, h2⟩) hS).perm hpm
    refine wpAny_of_M (ro := R' ++ ro) (tbl := tbl) (Q := fun a m => ∃ fr', Kn ⟨fr', Hp B0 all m, R' ++ ro⟩ ∧ Holds N fr' a) hn hcs (fun a m w' hs ⟨fr', hk, ha⟩ => ⟨_, hk, ha, hs⟩) _ _ _ m0 _ hw2 ?_
    have := wpAnyM_lex (P := P) (E := E) (B0 := B0) (ro := R' ++ ro) (tbl := tbl) (md := .any) hB.1 hcl (l.drop (i + 1)) (i + 1) (listed.setIfInBounds i true) (a'.put dst v) m0 (hC.set hr') (by simp [inv.size]) (fun j => by simp [List.getElem?_drop]) (fun j hj => by
      rcases Nat.lt_or_ge j i with h1 | h1
      · rw [getD_set_ne true (show i ≠ j by omega)]; exact hpre j h1
      · obtain rfl : j = i := by omega
        rcases Nat.lt_or_ge j listed.size with h2 | h2
        · simp [h2]
        · simp [h2]) (by rw [hdl]; exact h1')
      (hK.sound (Q := fun a m => ∃ fr', Kn ⟨fr', Hp B0 all m, R' ++ ro⟩ ∧ Holds N fr' a) ⟨_, _, hw2⟩ (fun fr a m hk ha => ⟨fr, hk _ rfl, ha⟩) (fun j _ => by simp [List.getElem?_drop]) _ (ha.putF hd v))
    rw [hdl] at this
    exact this) _ _ _ _ _ hw H
  rw [htl, show n + (l.toArray.size - n) = l.toArray.size by omega] at this
  exact this
theorem wc_regM {N : Nat} {fr : List (Nat × Value)} {hp : List It} {Kn Kr : St → Prop} {Kx : List (Nat × (St → Prop))} {id : Nat} {l : List Oper} (all : List Nat) (cls : Nat → List Nat) (tbl : Nat → List (List It) → Value → List (List It) → Prop) (B0 : List It) (m0 : Nat → List It)
    (hm : P.follows .mixedOrders = true) (hB : Region.lexB .any l.toArray = true) (hcl : clsM .any l.toArray cls = true) (hn : all.Nodup) (hcs : ∀ i, (cls i).Nodup ∧ ∀ c ∈ cls i, c ∈ all) (hperm : hp.Perm (Hp B0 all m0))
    (h : HdM P N E B0 ro l.toArray cls tbl (fun fr m => ∀ H, H = Hp B0 all m → Kn ⟨fr, H, ro⟩) 0 l fr m0) : WC P N E (.region id l.toArray true) ⟨fr, hp, ro⟩ Kn Kx Kr := fun a w ok => by
  simp only [Region.lexB, Bool.and_eq_true] at hB
  have hw : Sat E.B E.S E.T (Hp B0 all m0) ro _ := (ok.s.drawn (w.drawn + 1)).perm hperm
  refine wp_region_any hm (wpAny_of_M (ro := ro) (tbl := tbl) (Q := fun a m => ∃ fr', Kn ⟨fr', Hp B0 all m, ro⟩ ∧ Holds N fr' a) hn hcs (fun a m w' hs ⟨fr', hk, ha⟩ => ⟨_, hk, ha, hs⟩) _ _ a m0 _ hw ?_)
  have := wpAnyM_lex (P := P) (E := E) (B0 := B0) (ro := ro) (tbl := tbl) (md := .any) hB.1 hcl l 0 (Array.replicate l.toArray.size false) a m0 closed0 (by simp) (by simp) (fun j hj => by omega) (by simpa using hB.2)
    (h.sound (Q := fun a m => ∃ fr', Kn ⟨fr', Hp B0 all m, ro⟩ ∧ Holds N fr' a) ⟨_, _, hw⟩ (fun fr a m hk ha => ⟨fr, hk _ rfl, ha⟩) (fun j _ => by simp) a ok.h)
  simpa using this
end
def aslL : List (Nat × List Nat) → Nat → List Nat
  | [], _ => []
  | (i, c) :: l, k => bif Nat.beq i k then c else aslL l k
theorem aslL_ok {all : List Nat} : ∀ {l : List (Nat × List Nat)}, (l.all fun p => decide p.2.Nodup && p.2.all all.contains) = true → ∀ i, (aslL l i).Nodup ∧ ∀ c ∈ aslL l i, c ∈ all
  | [], _, _ => ⟨List.nodup_nil, fun c h => by cases h⟩
  | (i, c) :: l, hl, k => by
    simp only [List.all_cons, Bool.and_eq_true, decide_eq_true_eq] at hl
    unfold aslL
    cases hb : Nat.beq i k with
    | true =>
      simp only [cond_true]
      refine ⟨hl.1.1, fun d hd => ?_⟩
      have := List.all_eq_true.1 hl.1.2 d hd
      simpa using this
    | false => simp only [cond_false]; exact aslL_ok hl.2 k
def looks (l : List (Nat × List It)) : List Nat → Option (List (List It))
  | [] => some []
  | c :: cs => match look l c, looks l cs with
    | some M, some Ms => some (M :: Ms)
    | _, _ => none
def setls (l : List (Nat × List It)) : List Nat → List (List It) → List (Nat × List It)
  | c :: cs, M :: Ms => setls (setl l c M) cs Ms
  | _, _ => l
theorem looks_map {l : List (Nat × List It)} : ∀ {cs : List Nat} {Ls : List (List It)}, looks l cs = some Ls → cs.map (fm l) = Ls
  | [], _, h => by simp only [looks, Option.some.injEq] at h; exact h
  | c :: cs, Ls, h => by
    unfold looks at h
    split at h
    · rename_i M Ms h1 h2
      simp only [Option.some.injEq] at h
      subst h
      rw [List.map_cons, looks_map h2]
      unfold fm
      rw [h1]; rfl
    · cases h
theorem fm_setls : ∀ (cs : List Nat) (Ms : List (List It)) (l : List (Nat × List It)), fm (setls l cs Ms) = updL (fm l) cs Ms
  | [], _, _ => by unfold setls updL; rfl
  | _ :: _, [], _ => by unfold setls updL; rfl
  | c :: cs, M :: Ms, l => by
    show fm (setls (setl l c M) cs Ms) = updL (upd (fm l) c M) cs Ms
    rw [fm_setls cs Ms, fm_set]
section
variable {P : Program} {N : Nat} {E : Env} {B0 : List It} {ro : List Ro} {ops : Array Oper} {cls : Nat → List Nat} {tbl : Nat → List (List It) → Value → List (List It) → Prop} {K : List (Nat × Value) → (Nat → List It) → Prop} {k : Nat} {fr : List (Nat × Value)} {l : List (Nat × List It)} {m : Nat → List It} {dst : Option Tmp} {op : Op} {ty : TypeId} {pos : String} {af : Array Edge} {rest : List Oper} {cs : List Nat} {Ls : List (List It)} {g : Option (Nat × Bool)} {j s : Nat} {c : Bool} {p : Prop} {d : Decidable p}
theorem hm_eff (hc : cls k = cs) (hne : cs ≠ []) (hm : looks l cs = some Ls) (hd : dstOk dst N = true) (hg : GOk ops fr g) (ho : ∀ a, Holds N fr a → Outc P E B0 ro ⟨dst, op, ty, pos, af, g⟩ a Ls.flatten (fun v M => ∃ Ms, tbl k Ls v Ms ∧ Ms.length = cs.length ∧ M = Ms.flatten))
    (hin : ∃ v Ms, tbl k Ls v Ms ∧ Ms.length = cs.length) (h : ∀ v Ms, tbl k Ls v Ms → Ms.length = cs.length → HdM P N E B0 ro ops cls tbl K (k + 1) rest (putF dst v fr) (fm (setls l cs Ms))) : HdM P N E B0 ro ops cls tbl K k (⟨dst, op, ty, pos, af, g⟩ :: rest) fr (fm l) :=
  .eff hc hne (looks_map hm) hd hg ho hin (fun v Ms h1 h2 => by rw [← fm_setls]; exact h v Ms h1 h2)
theorem am_gt (hg : gslot ops j = some s) (hs : fget fr s = some (.bool (@decide p d))) (hp' : p) (h : HdM P N E B0 ro ops cls tbl K k (⟨dst, op, ty, pos, af, some (j, c)⟩ :: rest) ((s, .bool true) :: fr) m) : HdM P N E B0 ro ops cls tbl K k (⟨dst, op, ty, pos, af, some (j, c)⟩ :: rest) fr m :=
  .dec hs (fun _ => h) (fun hn => absurd hp' hn)
theorem am_gf (hg : gslot ops j = some s) (hs : fget fr s = some (.bool (@decide p d))) (hp' : ¬p) (h : HdM P N E B0 ro ops cls tbl K k (⟨dst, op, ty, pos, af, some (j, c)⟩ :: rest) ((s, .bool false) :: fr) m) : HdM P N E B0 ro ops cls tbl K k (⟨dst, op, ty, pos, af, some (j, c)⟩ :: rest) fr m :=
  .dec hs (fun h => absurd h hp') (fun _ => h)
theorem outc_bsl {T : TypeId} {n e sz by_ : Nat} {l : List (Nat × Operand)} {xs : List (List Value)} [hT : TSl P T e sz by_] (hr : Rws' fr sz 0 l xs) (hn : Nat.beq l.length n = true) (hz : Nat.ble (n * sz) 1000000 = true) (hm : Nat.ble n 1000000 = true) :
    ∀ a, Holds N fr a → Outc P E B0 ro ⟨dst, .buildSlice T n l.toArray, ty, pos, af, g⟩ a [] (fun v M => ∃ b, v = .slice (some ⟨b, 0, none⟩) n n ∧ M = [.own e sz (some ⟨b, 0, none⟩) n n xs]) := fun a hh F w hw => by
  obtain ⟨i, z, h1, h2, h3, h4, h5, h6, h7⟩ := sl_und hT.h
  have hn := Nat.eq_of_beq_eq_true hn
  have hz := Nat.le_of_ble_eq_true hz
  have hm := Nat.le_of_ble_eq_true hm
  have hfill := fill_rws hr hh ((List.range (n * sz)).map fun j => z.cells[j % z.cells.size]!) (by simp [hn])
  have hrows := hr.ok
  simp only [Nat.zero_mul, List.take_zero, List.nil_append] at hfill
  have ex : (execOp a.eval ⟨dst, .buildSlice T n l.toArray, ty, pos, af, g⟩).run P w = .ok (.value (.slice (some ⟨w.heap.size, 0, none⟩) n n)) (w.alloc (.cells xs.flatten.toArray e)) := by
    have hbig : ¬ n * sz > 2 ^ 24 := by omega
    have e0 : (List.map (fun (x : Nat × Operand) => match x with | (i, x) => (i, a.eval x)) l) = l.map (fun p => (p.1, a.eval p.2)) := rfl
    have hsz : (sizeOf e).run P w = .ok sz w := by simp [sizeOf, typeInfo, h2, h5, go_sem]
    have hzv : (zeroValue e).run P w = .ok z w := by simp [zeroValue, typeInfo, h2, h3, go_sem]
    simp only [execOp, List.map_toArray, e0]
    generalize (l.map fun p => (p.1, a.eval p.2)) = parts at hfill ⊢
    by_cases h0 : n * sz = 0
    · have hr0 : ∀ f : Nat → Value, (Array.range (n * sz)).map f = #[] := fun f => by rw [h0]; simp
      have hl0 : ((List.range (n * sz)).map fun j => z.cells[j % z.cells.size]!).toArray = #[] := by rw [h0]; rfl
      rw [hl0] at hfill
      simp only [Instr.buildSlice, Sem.run_bind, run_underlying h1, Result.andThen_ok, hsz, hbig, if_false, h0, if_true, Sem.run_pure]
      simp only [h0] at hr0
      simp only [hr0, hfill]
      rfl
    · have hr0 : (Array.range (n * sz)).map (fun j => z.cells[j % z.cells.size]!) = ((List.range (n * sz)).map fun j => z.cells[j % z.cells.size]!).toArray := by apply Array.ext'; simp
      simp only [Instr.buildSlice, Sem.run_bind, run_underlying h1, Result.andThen_ok, hsz, hbig, if_false, h0, Sem.run_pure, hzv, hr0, hfill]
      rfl
  rw [ex]
  refine ⟨_, ⟨w.heap.size, rfl, rfl⟩, (hw.step (w' := w.alloc (.cells xs.flatten.toArray e)) (L := []) (T' := []) (.refl _) (by simp) (Sat.one ⟨rfl, rfl, rfl, by simp, fun k hk _ => Below.heap_alloc w _ k hk⟩ ?_ (fun b hb => .inr (by simp only [It.foot, Option.map_some, Option.some.injEq] at hb; omega)))).some_ro (fun r hr => by simpa using hr)⟩
  refine ⟨by rw [hrows.2, hn], hrows.1, Nat.le_refl _, by unfold maxLen; omega, (fun h => by cases h), fun ad had => ?_⟩
  simp only [Option.some.injEq] at had
  subst had
  refine ⟨rfl, _, heap_alloc_new w _, ?_, fun j u hj => by simpa using hj⟩
  have := flat_len hrows.1.lens
  rw [hrows.2, hn] at this
  simp only [List.size_toArray, this]; omega
theorem outc_app_full {t e sz by_ n m c2 b2 o2 : Nat} {ao : Option Addr} {xs ys : List (List Value)} {x y : Operand} [TSl P t e sz by_] (hx : opd fr x = some (.slice ao n n)) (hy : opd fr y = some (.slice (some ⟨b2, o2, none⟩) m c2))
    (hr : SR ro sz ao n n xs) (h0 : 0 < m) (hb1 : n + m ≤ maxLen) (hb2 : (n + m) * by_ ≤ 140737488355328) :
    ∀ a, Holds N fr a → Outc P E B0 ro ⟨dst, .call ⟨.builtin .append, #[x, y], #[t, t]⟩, ty, pos, af, g⟩ a [.own e sz (some ⟨b2, o2, none⟩) m c2 ys] (fun v M => ∃ ao' c', v = .slice ao' (n + m) c' ∧ M = [.own e sz ao' (n + m) c' (xs ++ ys)]) := fun a hh F w hw => by
  obtain ⟨ao', c', w', h1, h2, h3, h4⟩ := app_full_run (P := P) (t := t) (ty := ty) hr hw.rds (hw.get (.refl _)) h0 hb1 hb2
  rw [exec_append (hh.eval hx) (hh.eval hy) h1]
  exact ⟨_, ⟨ao', c', rfl, rfl⟩, (hw.step (L := [_]) (T' := []) (.refl _) (by simp) (Sat.one ⟨h3.os, h3.tape, h3.output, h3.size, fun k hk _ => h3.block k hk (by simp)⟩ h2 (fun b hb => .inr (h4 b hb)))).some_ro (fun r hr => by simpa using hr)⟩
theorem outc_app_sr {t e sz by_ n c m c2 : Nat} {ao ao2 : Option Addr} {xs ys : List (List Value)} {x y : Operand} [TSl P t e sz by_] (hx : opd fr x = some (.slice ao n c)) (hy : opd fr y = some (.slice ao2 m c2))
    (hr : SR ro sz ao2 m c2 ys) (b1 : n + m ≤ maxLen) (b2 : (n + m) * by_ ≤ 140737488355328) :
    ∀ a, Holds N fr a → Outc P E B0 ro ⟨dst, .call ⟨.builtin .append, #[x, y], #[t, t]⟩, ty, pos, af, g⟩ a [.own e sz ao n c xs] (fun v M => ∃ ao' c', v = .slice ao' (n + m) c' ∧ M = [.own e sz ao' (n + m) c' (xs ++ ys)]) := fun a hh F w hw => by
  obtain ⟨ao', c', w', h1, h2, h3, h4⟩ := app_sr_run (P := P) (t := t) (ty := ty) (hw.get (.refl _) : OwnSat w e sz ao n c xs) hr hw.rds b1 b2
  rw [exec_append (hh.eval hx) (hh.eval hy) h1]
  exact ⟨_, ⟨ao', c', rfl, rfl⟩, (hw.step (L := [_]) (T' := []) (.refl _) (by simp) (Sat.regrow (y := .own e sz ao' (n + m) c' (xs ++ ys)) h3 h2 h4)).some_ro (fun r hr => by simpa using hr)⟩
theorem outc_app {t e sz by_ n c m c2 b2 o2 : Nat} {ao : Option Addr} {xs ys : List (List Value)} {x y : Operand} [TSl P t e sz by_] (hx : opd fr x = some (.slice ao n c)) (hy : opd fr y = some (.slice (some ⟨b2, o2, none⟩) m c2))
    (hb1 : n + m ≤ maxLen) (hb2 : (n + m) * by_ ≤ 140737488355328) :
    ∀ a, Holds N fr a → Outc P E B0 ro ⟨dst, .call ⟨.builtin .append, #[x, y], #[t, t]⟩, ty, pos, af, g⟩ a [.own e sz ao n c xs, .own e sz (some ⟨b2, o2, none⟩) m c2 ys] (fun v M => ∃ ao' c', v = .slice ao' (n + m) c' ∧ M = [.own e sz ao' (n + m) c' (xs ++ ys), .own e sz (some ⟨b2, o2, none⟩) m c2 ys]) := fun a hh F w hw => by
  have hS2 : OwnSat w e sz (some ⟨b2, o2, none⟩) m c2 ys := hw.get (.swap _ _ _)
  obtain ⟨_, cur, hcur, _, hseg⟩ := hS2.at_ _ rfl
  simp only at hcur hseg
  obtain ⟨ao', c', w', h1, h2, h3, h4, _⟩ := run_append_sl (P := P) (t := t) (ty := ty) (ad := ⟨b2, o2, none⟩) (c2 := c2) (hw.get (.refl _) : OwnSat w e sz ao n c xs) hS2.rows hS2.len (fun j u hj => by rw [Addr.add_lit]; simp only [World.cell?, hcur]; exact hseg j u hj) hb1 hb2
  rw [exec_append (hh.eval hx) (hh.eval hy) h1]
  exact ⟨_, ⟨ao', c', rfl, rfl⟩, (hw.step (L := [_]) (T' := []) (.refl _) (by simp) (Sat.regrow (y := .own e sz ao' (n + m) c' (xs ++ ys)) h3 h2 h4)).some_ro (fun r hr => by simpa using hr)⟩
end
end Go.Proofs.Ytlhlidmhlhodiaa
