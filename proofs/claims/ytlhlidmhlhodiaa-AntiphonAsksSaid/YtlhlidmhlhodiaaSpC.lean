/-
  Sparse frames: results that lie in cells; structs handed by value.
-/
import Derived.Test.YtlhlidmhlhodiaaSpA
import Derived.Test.YtlhlidmhlhodiaaSpL
namespace Go.Proofs.Ytlhlidmhlhodiaa
set_option linter.unusedSimpArgs false
set_option linter.unusedVariables false
open Go.RowKit
inductive RV (P : Program) (fr : List (Nat × Value)) (hp : List It) : List ResultVar → List Value → Prop
  | nil : RV P fr hp [] []
  | tmp {r v rs vs} (h : fget fr r = some v) (ht : RV P fr hp rs vs) : RV P fr hp (.tmp r :: rs) (v :: vs)
  | agg {a t rs vs b o n r} {l : List Value} {t' : TypeId} {fz : Nat × Nat} {F : List It} (h : fget fr a = some (.pointer (some ⟨b, o, none⟩))) (hs : hp.Perm (.ob b (.cells l.toArray t' fz) :: F)) (hT : TAgg P t n) (hl : Cut l o n r) (ht : RV P fr hp rs vs) : RV P fr hp (.cell a t :: rs) (.agg r.toArray :: vs)
  | one {a t rs vs b o v} {l : List Value} {t' : TypeId} {fz : Nat × Nat} {F : List It} (h : fget fr a = some (.pointer (some ⟨b, o, none⟩))) (hs : hp.Perm (.ob b (.cells l.toArray t' fz) :: F)) (hT : TOne P t) (hl : l[o]? = some v) (ht : RV P fr hp rs vs) : RV P fr hp (.cell a t :: rs) (v :: vs)
def outV : List Value → Value
  | [v] => v
  | vs => .tuple vs.toArray
def resOne (tmps : Array Value) : ResultVar → Sem Value
  | .tmp t => pure (tmps.getD t undef)
  | .cell a t => do loadVar t (← asAddr (tmps.getD a undef))
theorem run_loadVar_one {P : Program} {T : TypeId} {v : Value} [TOne P T] {w : World} {ad : Addr} (h : w.cell? ad = some v) : (loadVar T ad).run P w = .ok v w := by
  simp only [loadVar, Sem.run_bind, Sem.run_pure, Result.andThen_ok, run_isAgg_one, Bool.false_eq_true, if_false]
  simp [h, go_sem]
theorem run_loadVar_agg {P : Program} {T : TypeId} {n : Nat} [TAgg P T n] {w : World} {b o : Nat} {r : List Value} (hn : r.length = n) (h : ∀ j u, r[j]? = some u → w.cell? ⟨b, o + j, none⟩ = some u) : (loadVar T ⟨b, o, none⟩).run P w = .ok (.agg r.toArray) w := by
  have := run_loadCells_list (P := P) w ⟨b, o, none⟩ r (fun j u hj => by rw [Addr.add_lit]; exact h j u hj)
  subst hn
  simp only [loadVar, Sem.run_bind, Sem.run_pure, Result.andThen_ok, run_isAgg_agg, if_true, run_sizeOf_agg, this]
theorem RV.run {P : Program} {N : Nat} {E : Env} {fr : List (Nat × Value)} {hp : List It} {ro : List Ro} {rs : List ResultVar} {vs : List Value} (h : RV P fr hp rs vs) {a : Act} {w : World} (ok : Ok N E ⟨fr, hp, ro⟩ a w) :
    (rs.mapM (resOne a.tmps)).run P w = .ok vs w := by
  induction h with
  | nil => rfl
  | tmp h _ ih => simp only [List.mapM_cons, Sem.run_bind, resOne, Sem.run_pure, Result.andThen_ok, ih, ok.h.tmp h]
  | @agg _ t _ _ _ _ _ _ _ _ _ _ h hs hT hl _ ih =>
    have h1 := run_loadVar_agg (P := P) (T := t) hl.spec.1 (fun j u hj => cell_ob (ok.s.get hs) (hl.spec.2 j u hj))
    simp only [List.mapM_cons, Sem.run_bind, resOne, ok.h.tmp h, asAddr, Sem.run_pure, Result.andThen_ok, h1, ih]
  | @one _ t _ _ _ _ _ _ _ _ _ h hs hT hl _ ih =>
    have h1 := run_loadVar_one (P := P) (T := t) (cell_ob (ok.s.get hs) hl)
    simp only [List.mapM_cons, Sem.run_bind, resOne, ok.h.tmp h, asAddr, Sem.run_pure, Result.andThen_ok, h1, ih]
theorem outV_eq (vs : List Value) : (if h : vs.toArray.size = 1 then vs.toArray[0] else .tuple vs.toArray) = outV vs := by
  match vs with
  | [] => rfl
  | [v] => rfl
  | _ :: _ :: _ => simp [outV]
theorem retv {P : Program} {fn : Func} {fr : List (Nat × Value)} {hp hp' F : List It} {ro ro' : List Ro} {rs : List ResultVar} {vs : List Value} {Post : Value → List It → List Ro → Prop} (hr : fn.results = rs.toArray) (hv : RV P fr hp rs vs) (hP : Post (outV vs) hp' ro') (hpm : hp.Perm (hp' ++ F)) (ho : ∀ r ∈ ro', r ∈ ro) :
    Ret P fn Post ⟨fr, hp, ro⟩ :=
  ⟨_, hp', ro', fun _ _ a w ok => by
    have h1 := hv.run ok
    have e : results fn a.tmps = (do let vs ← fn.results.mapM (resOne a.tmps); pure (if h : vs.size = 1 then vs[0] else .tuple vs)) := by
      unfold results resOne
      rfl
    rw [e, hr, List.mapM_toArray]
    simp only [Sem.run_bind, map_eq_pure_bind, h1, Result.andThen_ok, Sem.run_pure, outV_eq], ⟨F, hpm⟩, ho, hP⟩
/-! shifts by so many bits; or of what doesn't overlap -/
def p2o (b : Int) : Option Int := ([1, 2, 4, 8, 16, 32, 64, 128, 256, 512, 1024, 2048, 4096, 8192, 16384, 32768, 65536, 131072, 262144, 524288, 1048576, 2097152, 4194304, 8388608, 16777216, 33554432, 67108864, 134217728, 268435456, 536870912, 1073741824, 2147483648, 4294967296, 8589934592, 17179869184, 34359738368, 68719476736, 137438953472, 274877906944, 549755813888, 1099511627776, 2199023255552, 4398046511104, 8796093022208, 17592186044416, 35184372088832, 70368744177664, 140737488355328, 281474976710656, 562949953421312, 1125899906842624, 2251799813685248, 4503599627370496, 9007199254740992, 18014398509481984, 36028797018963968, 72057594037927936, 144115188075855872, 288230376151711744, 576460752303423488, 1152921504606846976, 2305843009213693952, 4611686018427387904, 9223372036854775808] : List Int)[b.toNat]?
theorem p2o_eq {b m : Int} (h : p2o b = some m) : m = 2 ^ b.toNat ∧ b.toNat < 64 := by
  have hl : b.toNat < 64 := by
    have := (List.getElem?_eq_some_iff.1 h).1
    simpa using this
  refine ⟨?_, hl⟩
  have key : ∀ i : Nat, i < 64 → ([1, 2, 4, 8, 16, 32, 64, 128, 256, 512, 1024, 2048, 4096, 8192, 16384, 32768, 65536, 131072, 262144, 524288, 1048576, 2097152, 4194304, 8388608, 16777216, 33554432, 67108864, 134217728, 268435456, 536870912, 1073741824, 2147483648, 4294967296, 8589934592, 17179869184, 34359738368, 68719476736, 137438953472, 274877906944, 549755813888, 1099511627776, 2199023255552, 4398046511104, 8796093022208, 17592186044416, 35184372088832, 70368744177664, 140737488355328, 281474976710656, 562949953421312, 1125899906842624, 2251799813685248, 4503599627370496, 9007199254740992, 18014398509481984, 36028797018963968, 72057594037927936, 144115188075855872, 288230376151711744, 576460752303423488, 1152921504606846976, 2305843009213693952, 4611686018427387904, 9223372036854775808] : List Int)[i]? = some (2 ^ i) := by decide
  unfold p2o at h
  rw [key _ hl] at h
  exact (Option.some.inj h).symm
section
variable {P : Program} {fr : List (Nat × Value)} {hp : List It} {ro : List Ro} {x y : Operand} {k k' : IntKind} {a b lo hi m : Int} {t t' : TypeId}
theorem a_shr (hx : opd fr x = some (.int k a)) (hy : opd fr y = some (.int k' b)) (hm : p2o b = some m) (h0 : 0 ≤ b) (hb : Nat.ble b.toNat k.bits = true) : Pv P ⟨fr, hp, ro⟩ (.binOp .shr t x y t') (.int k (a / m)) := by
  obtain ⟨h1, h2⟩ := p2o_eq hm
  have := pv_shr (P := P) (hp := hp) (ro := ro) (t := t) (t' := t') hx hy h0
  rw [Nat.min_eq_left (Nat.le_of_ble_eq_true hb), ← h1, Int.fdiv_eq_ediv_of_nonneg _ (by rw [h1]; exact Int.le_of_lt (Int.pow_pos (by omega)))] at this
  exact this
theorem a_shl (hx : opd fr x = some (.int k a)) (hy : opd fr y = some (.int k' b)) (hm : p2o b = some m) (h0 : 0 ≤ b) (hb : Nat.ble b.toNat k.bits = true) (hk : KB k lo hi) (h : lo ≤ a * m ∧ a * m ≤ hi) : Pv P ⟨fr, hp, ro⟩ (.binOp .shl t x y t') (.int k (a * m)) := by
  obtain ⟨h1, h2⟩ := p2o_eq hm
  have := pv_shl (P := P) (hp := hp) (ro := ro) (t := t) (t' := t') hx hy h0
  rw [Nat.min_eq_left (Nat.le_of_ble_eq_true hb), ← h1, hk.h _ h.1 h.2] at this
  exact this
theorem a_shl_u (hx : opd fr x = some (.int k a)) (hy : opd fr y = some (.int k' b)) (hm : p2o b = some m) (h0 : 0 ≤ b) (hb : Nat.ble b.toNat k.bits = true) {mm : Int} (hk : KU k mm) : Pv P ⟨fr, hp, ro⟩ (.binOp .shl t x y t') (.int k (a * m % mm)) := by
  obtain ⟨h1, h2⟩ := p2o_eq hm
  have := pv_shl (P := P) (hp := hp) (ro := ro) (t := t) (t' := t') hx hy h0
  rw [Nat.min_eq_left (Nat.le_of_ble_eq_true hb), ← h1, hk.h] at this
  exact this
theorem wrap_lt (k : IntKind) (n : Int) : k.wrap n < ((2 ^ k.bits : Nat) : Int) := by
  cases k <;> simp only [IntKind.wrap, IntKind.bits, IntKind.signed] <;> simp <;> omega
theorem a_or (j : Int) (hx : opd fr x = some (.int k a)) (hy : opd fr y = some (.int k b)) (hk : KB k lo hi) (hm : p2o j = some m) (h : lo ≤ 0 ∧ 0 ≤ a ∧ a % m = 0 ∧ 0 ≤ b ∧ b < m ∧ a + b ≤ hi) : Pv P ⟨fr, hp, ro⟩ (.binOp .or t x y t') (.int k (a + b)) := by
  obtain ⟨h1, h2⟩ := p2o_eq hm
  obtain ⟨g1, g2, g3, g4, g5, g6⟩ := h
  have this := pv_or (P := P) (hp := hp) (ro := ro) (t := t) (t' := t') hx hy
  obtain ⟨u, rfl⟩ := Int.eq_ofNat_of_zero_le g2
  obtain ⟨v, rfl⟩ := Int.eq_ofNat_of_zero_le g4
  have hw := hk.h ((u : Int) + (v : Int)) (by omega) g6
  have hlt : u + v < 2 ^ k.bits := by have := wrap_lt k ((u : Int) + (v : Int))
                                      rw [hw] at this
                                      exact_mod_cast this
  have e : bits .or k (u : Int) (v : Int) = (u : Int) + (v : Int) := by
    show k.wrap ((BitVec.ofInt k.bits (u : Int) ||| BitVec.ofInt k.bits (v : Int)).toNat : Int) = _
    have hz : ∀ c : Nat, c < 2 ^ k.bits → (BitVec.ofInt k.bits (c : Int)).toNat = c := fun c hc => by
      rw [BitVec.ofInt_natCast, BitVec.toNat_ofNat]; exact Nat.mod_eq_of_lt hc
    rw [BitVec.toNat_or, hz u (by omega), hz v (by omega)]
    have hd : 2 ^ j.toNat ∣ u := by
      have : ((u % 2 ^ j.toNat : Nat) : Int) = 0 := by push_cast; rw [← h1]; exact g3
      exact Nat.dvd_of_mod_eq_zero (by exact_mod_cast this)
    obtain ⟨z, rfl⟩ := hd
    have hv : v < 2 ^ j.toNat := by have : (v : Int) < ((2 ^ j.toNat : Nat) : Int) := by push_cast; omega
                                    exact_mod_cast this
    rw [← Nat.two_pow_add_eq_or_of_lt hv z]
    push_cast at hw ⊢
    exact hw
  rw [e] at this
  exact this
end
/-! what one operation of a drawn region does -/
section
variable {P : Program} {N : Nat} {E : Env} {fr : List (Nat × Value)} {B0 : List It} {ro : List Ro} {T : TypeId} {x y : Operand} {v : Value} {dst : Option Tmp} {ty : TypeId} {pos : String} {af : Array Edge} {g : Option (Nat × Bool)} {b o : Nat} {l l' : List Value} {t : TypeId}
theorem outc_alloc {z : List Value} [TZ P T z] : ∀ a, Holds N fr a → Outc P E B0 ro ⟨dst, .alloc T, ty, pos, af, g⟩ a [] (fun v M => ∃ b, v = .pointer (some ⟨b, 0, none⟩) ∧ M = [.ob b (.cells z.toArray T (0, 0))]) := fun a hh F w hw => by
  obtain ⟨v, hv, hc⟩ := run_zeroValue (P := P) (T := T) (w := w)
  have e : (execOp a.eval ⟨dst, .alloc T, ty, pos, af, g⟩).run P w = .ok (.value (.pointer (some ⟨w.heap.size, 0, none⟩))) (w.alloc (.cells z.toArray T)) := by
    simp only [execOp, Instr.alloc, Sem.run_bind, hv, Result.andThen_ok, newVar, newRow, newObj, hc]; rfl
  rw [e]
  exact ⟨_, ⟨_, rfl, rfl⟩, (hw.step (L := []) (T' := []) (.refl _) (by simp) (Sat.fresh _)).some_ro (fun r hr => by simpa using hr)⟩
theorem outc_sta {n : Nat} {r : List Value} [TAgg P T n] (hx : opd fr x = some (.pointer (some ⟨b, o, none⟩))) (hy : opd fr y = some (.agg r.toArray)) (hn : Nat.beq r.length n = true) (h1 : allOne r = true) (hl : LayAt l o r l') :
    ∀ a, Holds N fr a → Outc P E B0 ro ⟨dst, .store T x y, ty, pos, af, g⟩ a [.ob b (.cells l.toArray t (0, 0))] (fun u M => u = undef ∧ M = [.ob b (.cells l'.toArray t (0, 0))]) := fun a hh F w hw => by
  obtain ⟨hf, rfl⟩ := hl.spec
  have hn := Nat.eq_of_beq_eq_true hn
  subst hn
  obtain ⟨w', h2, h3, h4⟩ := run_storeAt_lay (P := P) (T := T) (v := .agg r.toArray) rfl run_sizeOf_agg (show w.heap[b]? = _ from hw.get (.refl _)) (by simpa using hf) (allOne_mem h1)
  have e : (execOp a.eval ⟨dst, .store T x y, ty, pos, af, g⟩).run P w = .ok .skip w' := by
    simp only [execOp, hh.eval hx, hh.eval hy, Sem.run_bind, h2]; rfl
  rw [e]
  exact ⟨_, ⟨rfl, rfl⟩, (hw.step (L := [_]) (T' := []) (.refl _) (by simp) (Sat.relay h4 h3)).some_ro (fun r hr => by simpa using hr)⟩
theorem outc_st [TOne P T] (hx : opd fr x = some (.pointer (some ⟨b, o, none⟩))) (hy : opd fr y = some v) (h1 : v.oneCell' = true) (hl : SetAt l o v l') :
    ∀ a, Holds N fr a → Outc P E B0 ro ⟨dst, .store T x y, ty, pos, af, g⟩ a [.ob b (.cells l.toArray t (0, 0))] (fun u M => u = undef ∧ M = [.ob b (.cells l'.toArray t (0, 0))]) := fun a hh F w hw => by
  obtain ⟨hf, rfl⟩ := hl.lay.spec
  obtain ⟨w', h2, h3, h4⟩ := run_storeAt_lay (P := P) (T := T) (r := [v]) (cells_one h1) run_sizeOf_one (show w.heap[b]? = _ from hw.get (.refl _)) (by simpa using hf) (by simpa using h1)
  have e : (execOp a.eval ⟨dst, .store T x y, ty, pos, af, g⟩).run P w = .ok .skip w' := by
    simp only [execOp, hh.eval hx, hh.eval hy, Sem.run_bind, h2]; rfl
  rw [e]
  exact ⟨_, ⟨rfl, rfl⟩, (hw.step (L := [_]) (T' := []) (.refl _) (by simp) (Sat.relay h4 h3)).some_ro (fun r hr => by simpa using hr)⟩
theorem outc_mono {L : List It} {o : Oper} {a : Act} {T T' : Value → List It → Prop} (h : Outc P E B0 ro o a L T) (hT : ∀ v M, T v M → T' v M) : Outc P E B0 ro o a L T' := fun F w hw => by
  have := h F w hw
  revert this
  cases hr : (execOp a.eval o).run P w with
  | ok n w' =>
    cases n with
    | value v => exact fun ⟨M, h1, h2⟩ => ⟨M, hT _ _ h1, h2⟩
    | skip => exact fun ⟨M, h1, h2⟩ => ⟨M, hT _ _ h1, h2⟩
    | enter f args => exact fun ⟨h0, h⟩ => ⟨h0, h.mono fun _ _ ⟨v, M, h1, h2, h3⟩ => ⟨v, M, h1, hT _ _ h2, h3⟩⟩
    | _ => exact fun h => h
  | _ => exact fun h => h
end
abbrev cM (L : List It) : Nat → List It := fun _ => L
/-- one store, into a block of its own class -/
abbrev stT (new : List Value) (T : TypeId) : Nat → List It → Value → List It → Prop := fun _ L v M => match L with
  | [.ob b _] => v = undef ∧ M = [.ob b (.cells new.toArray T (0, 0))]
  | _ => False
/-! a slice of numbers that came in -/
def kseg (k : IntKind) (z : Nat → Int) (n : Nat) : List (List Value) := (List.range n).map fun i => [.int k (z i)]
theorem kseg_at {k : IntKind} {z : Nat → Int} {n i : Nat} (h : i < n) : (kseg k z n)[i]? = some [.int k (z i)] := by simp [kseg, h]
theorem rws_k {k : IntKind} {w : World} {A : Option Addr} {n c : Nat} {V : Nat → Nat → Value} (h : Rws [.int k] w A n c V) :
    ∃ (z : Nat → Int) (R : List Ro), (∀ r ∈ R, r.sat w) ∧ (∀ i, i < n → k.min ≤ z i ∧ z i ≤ k.max) ∧ (0 < n → ∃ b o, A = some ⟨b, o, none⟩ ∧ ⟨b, o, 1, kseg k z n⟩ ∈ R) ∧ n ≤ 9223372036854775807 := by
  obtain ⟨R, hR, h0⟩ := rws_ro h (by simp)
  obtain ⟨h1, h2, _, h4⟩ := h
  refine ⟨fun i => match V i 0 with | .int _ z => z | _ => 0, R, hR, fun i hi => ?_, fun hn => ?_, by unfold maxLen at h2; omega⟩
  · obtain ⟨z, hz, hw⟩ := h4 i 0 _ hi rfl
    simp only [hz]
    simpa [Lit.wf] using hw
  · obtain ⟨b, o, hA, hm⟩ := h0 hn
    refine ⟨b, o, hA, ?_⟩
    have e : rowsOf [.int k] V n = kseg k (fun i => match V i 0 with | .int _ z => z | _ => 0) n := by
      unfold rowsOf kseg
      refine List.map_congr_left fun i hi => ?_
      obtain ⟨z, hz, _⟩ := h4 i 0 _ (List.mem_range.1 hi) rfl
      simp [hz]
    rw [← e]; exact hm
/-! classes as a list -/
def look : List (Nat × List It) → Nat → Option (List It)
  | [], _ => none
  | (i, M) :: l, k => if i = k then some M else look l k
def setl : List (Nat × List It) → Nat → List It → List (Nat × List It)
  | [], c, M => [(c, M)]
  | (i, M') :: l, c, M => if i = c then (i, M) :: l else (i, M') :: setl l c M
def fm (l : List (Nat × List It)) : Nat → List It := fun k => (look l k).getD []
theorem look_set (c : Nat) (M : List It) (k : Nat) : ∀ l, look (setl l c M) k = if c = k then some M else look l k
  | [] => by simp only [setl, look]
  | (i, M') :: l => by
    unfold setl
    by_cases h : i = c
    · subst h
      rw [if_pos rfl]
      simp only [look]
      split <;> rfl
    · rw [if_neg h]
      simp only [look, look_set c M k l]
      by_cases h2 : i = k
      · subst h2; rw [if_pos rfl, if_neg (Ne.symm h), if_pos rfl]
      · rw [if_neg h2, if_neg h2]
theorem fm_set (l : List (Nat × List It)) (c : Nat) (M : List It) : fm (setl l c M) = upd (fm l) c M := by
  funext k
  unfold fm upd
  rw [look_set]
  by_cases h : c = k
  · subst h; simp
  · rw [if_neg h]
    have : Nat.beq c k = false := by cases hb : Nat.beq c k with
      | false => rfl
      | true => exact absurd (Nat.eq_of_beq_eq_true hb) h
    rw [this]; rfl
theorem he_eff {P : Program} {N : Nat} {E : Env} {B0 : List It} {ro : List Ro} {ops : Array Oper} {cls : Nat → Option Nat} {tbl : Nat → List It → Value → List It → Prop} {K : List (Nat × Value) → (Nat → List It) → Prop} {k : Nat} {fr : List (Nat × Value)} {l : List (Nat × List It)} {dst : Option Tmp} {op : Op} {ty : TypeId} {pos : String} {af : Array Edge} {rest : List Oper} {c : Nat} {L : List It} {g : Option (Nat × Bool)}
    (hc : cls k = some c) (hm : look l c = some L) (hd : dstOk dst N = true) (hg : GOk ops fr g) (ho : ∀ a, Holds N fr a → Outc P E B0 ro ⟨dst, op, ty, pos, af, g⟩ a L (tbl k L)) (hin : ∃ v M, tbl k L v M)
    (h : ∀ v M, tbl k L v M → HdE P N E B0 ro ops cls tbl K (k + 1) rest (putF dst v fr) (fm (setl l c M))) : HdE P N E B0 ro ops cls tbl K k (⟨dst, op, ty, pos, af, g⟩ :: rest) fr (fm l) :=
  .eff hc (by unfold fm; rw [hm]; rfl) hd hg ho hin (fun v M hv => by rw [← fm_set]; exact h v M hv)
end Go.Proofs.Ytlhlidmhlhodiaa
