/-
  Texts of this proof, laid together (part 3 of 5).
-/
import Derived.Test.YtlhlidmhlhodiaaB2
import Derived.Laws.StructEq
import Derived.MapKept
import Derived.Carry
/-
  Sparse frames: structures compared, slices that are only read (cut, appended, appended to), items that are only read from now on. No program in sight.
-/
namespace Go.Proofs.Ytlhlidmhlhodiaa
set_option linter.unusedSimpArgs false
set_option linter.unusedVariables false
open Go.RowKit

/-! ## structures of plain fields compared -/
inductive Kd where
  | i (k : IntKind)
  | b
  | s
def kdOf : TypeDesc → Option Kd
  | .int k => some (.i k)
  | .bool => some .b
  | .string => some .s
  | _ => none
def chkF (P : Program) : Nat → List Field → Option (List Kd)
  | _, [] => some []
  | n, f :: fs => match P.underlying f.type, P.info? f.type with
    | some d, some i => match kdOf d, chkF P (n + 1) fs with
      | some k, some ks => if f.name ≠ "_" ∧ f.offset = n ∧ i.size = 1 then some (k :: ks) else none
      | _, _ => none
    | _, _ => none
def eqB (P : Program) (T : TypeId) : Option (List Kd) := match P.underlying T with
  | some (.struct fs) => if P.stoodInHeld T = false ∧ P.eqGuardType P.depth T = false then chkF P 0 fs.toList else none
  | _ => none
class TEq (P : Program) (T : TypeId) (ks : outParam (List Kd)) : Prop where h : eqB P T = some ks
def fits : List Kd → List Value → Bool
  | [], [] => true
  | .i k :: ks, .int k' _ :: l => decide (k = k') && fits ks l
  | .b :: ks, .bool _ :: l => fits ks l
  | .s :: ks, .string _ :: l => fits ks l
  | _, _ => false
def eqRow : List Value → List Value → Bool
  | .int _ a :: l, .int _ b :: m => decide (a = b) && eqRow l m
  | .bool a :: l, .bool b :: m => decide (a = b) && eqRow l m
  | .string a :: l, .string b :: m => decide (a = b) && eqRow l m
  | [], [] => true
  | _, _ => false
theorem eqRow_refl : ∀ (ks : List Kd) (l : List Value), fits ks l = true → eqRow l l = true
  | [], [], _ => rfl
  | [], v :: _, h => by cases v <;> simp [fits] at h
  | .i k :: ks, v :: l, h => by
    cases v <;> simp only [fits, Bool.false_eq_true] at h
    simp only [Bool.and_eq_true] at h
    simp [eqRow, eqRow_refl ks l h.2]
  | .b :: ks, v :: l, h => by
    cases v <;> simp only [fits, Bool.false_eq_true] at h
    simp [eqRow, eqRow_refl ks l h]
  | .s :: ks, v :: l, h => by
    cases v <;> simp only [fits, Bool.false_eq_true] at h
    simp [eqRow, eqRow_refl ks l h]
  | .i _ :: _, [], h => by simp [fits] at h
  | .b :: _, [], h => by simp [fits] at h
  | .s :: _, [], h => by simp [fits] at h
def EqRow (l m : List Value) : Prop := eqRow l m = true
instance (l m : List Value) : Decidable (EqRow l m) := inferInstanceAs (Decidable (eqRow l m = true))
theorem eqRow_dec (l m : List Value) : eqRow l m = decide (EqRow l m) := by
  rw [Bool.eq_iff_iff, decide_eq_true_eq]; rfl

theorem run_part1 {P : Program} {w : World} {t : TypeId} {cs : Array Value} {n : Nat} {v : Value} {d : TypeDesc} {i : TypeInfo} {k : Kd} (hu : P.underlying t = some d) (hi : P.info? t = some i) (hk : kdOf d = some k) (h1 : i.size = 1) (h : cs[n]? = some v) : (part t cs n).run P w = .ok v w := by
  have : TOne P t := ⟨by unfold oneB; rw [hu, hi]; cases d <;> simp [kdOf] at hk <;> simp [plainD, h1]⟩
  unfold part
  simp only [Sem.run_bind, run_isAgg_one, Result.andThen_ok, Bool.false_eq_true, if_false]
  rw [h]; rfl
theorem run_eqFields_row {P : Program} {w : World} {d : Nat} {r1 r2 : Array Value} : ∀ (fs : List Field) (n : Nat) (ks : List Kd) (l m : List Value), chkF P n fs = some ks → r1.toList.drop n = l → r2.toList.drop n = m → fits ks l = true → fits ks m = true →
    (Op.eqFields (d + 1) r1 r2 fs).run P w = .ok (eqRow l m) w
  | [], n, ks, l, m, hc, h1, h2, f1, f2 => by
    simp only [chkF, Option.some.injEq] at hc
    subst hc
    cases l with
    | cons v l => cases v <;> simp [fits] at f1
    | nil =>
      cases m with
      | cons v l => cases v <;> simp [fits] at f2
      | nil => simp [Op.eqFields, eqRow]
  | f :: fs, n, ks, l, m, hc, h1, h2, f1, f2 => by
    unfold chkF at hc
    split at hc
    · rename_i dd i hu hi
      split at hc
      · rename_i k ks' hk hks
        split at hc
        · rename_i hcond
          simp only [Option.some.injEq] at hc
          subst hc
          cases l with
          | nil => cases k <;> simp [fits] at f1
          | cons u l =>
            cases m with
            | nil => cases k <;> simp [fits] at f2
            | cons v m =>
              have g1 : r1[n]? = some u := by
                have := congrArg (fun z : List Value => z[0]?) h1
                simpa using this
              have g2 : r2[n]? = some v := by
                have := congrArg (fun z : List Value => z[0]?) h2
                simpa using this
              have d1 : r1.toList.drop (n + 1) = l := by rw [← List.drop_drop, h1]; rfl
              have d2 : r2.toList.drop (n + 1) = m := by rw [← List.drop_drop, h2]; rfl
              unfold Op.eqFields
              rw [if_pos hcond.1]
              simp only [Sem.run_bind, hcond.2.1, run_part1 hu hi hk hcond.2.2 g1, run_part1 hu hi hk hcond.2.2 g2, Result.andThen_ok]
              have key : ∀ b : Bool, (Op.equalIn (d + 1) f.type u v).run P w = .ok b w → eqRow (u :: l) (v :: m) = (b && eqRow l m) → (fits ks' l = true ∧ fits ks' m = true) → ((Op.equalIn (d + 1) f.type u v).run P w).andThen (fun r w' => (if (!r) = true then pure false else Op.eqFields (d + 1) r1 r2 fs : Sem Bool).run P w') = .ok (eqRow (u :: l) (v :: m)) w := by
                intro b hb he hf
                rw [hb, he, Result.andThen_ok]
                cases b with
                | false => simp
                | true =>
                  simp only [Bool.not_true, Bool.false_eq_true, if_false, Bool.true_and]
                  exact run_eqFields_row fs (n + 1) ks' l m hks d1 d2 hf.1 hf.2
              cases k with
              | i k =>
                have hdd : dd = .int k := by cases dd <;> simp [kdOf] at hk; rw [hk]
                subst hdd
                cases u <;> simp only [fits, Bool.false_eq_true] at f1
                cases v <;> simp only [fits, Bool.false_eq_true] at f2
                simp only [Bool.and_eq_true, decide_eq_true_eq] at f1 f2
                obtain ⟨rfl, f1⟩ := f1
                obtain ⟨rfl, f2⟩ := f2
                refine key _ (run_equalIn_int w d f.type _ _ _ _ hu) ?_ ⟨f1, f2⟩
                simp only [eqRow]
                congr 1
              | b =>
                have hdd : dd = .bool := by cases dd <;> simp [kdOf] at hk; rfl
                subst hdd
                cases u <;> simp only [fits, Bool.false_eq_true] at f1
                cases v <;> simp only [fits, Bool.false_eq_true] at f2
                refine key _ (run_equalIn_bool' w d f.type _ _ hu) ?_ ⟨f1, f2⟩
                simp only [eqRow]
                congr 1
              | s =>
                have hdd : dd = .string := by cases dd <;> simp [kdOf] at hk; rfl
                subst hdd
                cases u <;> simp only [fits, Bool.false_eq_true] at f1
                cases v <;> simp only [fits, Bool.false_eq_true] at f2
                refine key _ (run_equalIn_string w d f.type _ _ hu) ?_ ⟨f1, f2⟩
                simp only [eqRow, str_beq]
        · cases hc
      · cases hc
    · cases hc
section
variable {P : Program} {fr : List (Nat × Value)} {hp : List It} {ro : List Ro} {T t t' : TypeId} {x y c : Operand} {v u : Value} {F : List It}
theorem run_eq_row {w : World} {ks : List Kd} {r1 r2 : List Value} (h : TEq P t ks) (h1 : fits ks r1 = true) (h2 : fits ks r2 = true) : (Op.equalIn 10000 t (.agg r1.toArray) (.agg r2.toArray)).run P w = .ok (eqRow r1 r2) w ∧ P.eqGuardType P.depth t = false := by
  have h := h.h
  unfold eqB at h
  split at h
  · rename_i fs hu
    split at h
    · rename_i hg
      have hf : P.fieldsOf t = fs := by unfold Program.fieldsOf; rw [hu]
      rw [run_equalIn_struct w 9999 t _ _ (by rw [hf]; exact hu) hg.1, hf]
      exact ⟨run_eqFields_row fs.toList 0 ks r1 r2 h rfl rfl h1 h2, hg.2⟩
    · cases h
  · cases h
theorem pv_eql_a {ks : List Kd} {r1 r2 : List Value} (hx : opd fr x = some (.agg r1.toArray)) (hy : opd fr y = some (.agg r2.toArray)) (h : TEq P t ks) (h1 : fits ks r1 = true) (h2 : fits ks r2 = true) : Pv P ⟨fr, hp, ro⟩ (.binOp .eql t x y t') (.bool (decide (EqRow r1 r2))) := fun N E ac w dst ty pos af g ok => by
  obtain ⟨e1, e2⟩ := run_eq_row (w := w) h h1 h2
  simp only [execOp, ok.h.eval hx, ok.h.eval hy, Sem.run_bind, run_eqGuard_agg w .eql t x y _ _ e2, Result.andThen_ok, run_eql_struct, e1, Sem.run_pure, eqRow_dec]
theorem pv_neq_a {ks : List Kd} {r1 r2 : List Value} (hx : opd fr x = some (.agg r1.toArray)) (hy : opd fr y = some (.agg r2.toArray)) (h : TEq P t ks) (h1 : fits ks r1 = true) (h2 : fits ks r2 = true) : Pv P ⟨fr, hp, ro⟩ (.binOp .neq t x y t') (.bool (decide (¬ EqRow r1 r2))) := fun N E ac w dst ty pos af g ok => by
  obtain ⟨e1, e2⟩ := run_eq_row (w := w) h h1 h2
  simp only [execOp, ok.h.eval hx, ok.h.eval hy, Sem.run_bind, run_eqGuard_agg w .neq t x y _ _ e2, Result.andThen_ok, run_neq_struct, e1, Sem.run_pure, eqRow_dec, decide_not]
end

/-! ## slices that are only read -/
structure SR (R : List Ro) (sz : Nat) (ao : Option Addr) (n c : Nat) (xs : List (List Value)) : Prop where
  len : xs.length = n
  le : n ≤ c
  mx : c ≤ maxLen
  rows : RowsOk sz xs
  at_ : (ao = none ∧ c = 0) ∨ ∃ b o, ao = some ⟨b, o, none⟩ ∧ (0 < n → ⟨b, o, sz, xs⟩ ∈ R)
theorem SR.mono {R R' : List Ro} {sz : Nat} {ao : Option Addr} {n c : Nat} {xs : List (List Value)} (h : SR R sz ao n c xs) (hR : ∀ r ∈ R, r ∈ R') : SR R' sz ao n c xs :=
  ⟨h.len, h.le, h.mx, h.rows, h.at_.imp id (fun ⟨b, o, e, m⟩ => ⟨b, o, e, fun h0 => hR _ (m h0)⟩)⟩
theorem SR.pos {R : List Ro} {sz : Nat} {ao : Option Addr} {n c : Nat} {xs : List (List Value)} (h : SR R sz ao n c xs) (h0 : 0 < n) : ∃ b o, ao = some ⟨b, o, none⟩ ∧ ⟨b, o, sz, xs⟩ ∈ R := by
  rcases h.at_ with ⟨_, h1⟩ | ⟨b, o, e, m⟩
  · have := h.le; omega
  · exact ⟨b, o, e, m h0⟩
theorem SR.nil (R : List Ro) (sz : Nat) : SR R sz none 0 0 [] := ⟨rfl, Nat.le_refl _, Nat.zero_le _, (fun r h => by cases h), .inl ⟨rfl, rfl⟩⟩
theorem SR.cut {R : List Ro} {sz b o n c l h m : Nat} {xs : List (List Value)} (hS : SR R sz (some ⟨b, o, none⟩) n c xs) (hlh : l ≤ h ∧ h ≤ n ∧ h ≤ m ∧ m ≤ c) :
    SR (⟨b, elt o l sz, sz, (xs.take h).drop l⟩ :: R) sz (if m = l then some ⟨b, o, none⟩ else (some (⟨b, o, none⟩ : Addr)).map (·.add (l * sz))) (h - l) (m - l) ((xs.take h).drop l) := by
  refine ⟨by simp [hS.len]; omega, by omega, Nat.le_trans (Nat.sub_le _ _) (Nat.le_trans hlh.2.2.2 hS.mx), fun r hr => hS.rows r (List.mem_of_mem_take (List.mem_of_mem_drop hr)), .inr ?_⟩
  by_cases c1 : m = l
  · exact ⟨b, o, by rw [if_pos c1], fun h0 => by omega⟩
  · exact ⟨b, elt o l sz, by rw [if_neg c1, Option.map_some, Addr.add_lit]; rfl, fun _ => .head _⟩
section
variable {P : Program} {N : Nat} {E : Env} {fr : List (Nat × Value)} {hp F : List It} {ro : List Ro} {T : TypeId} {x y : Operand} {ops : Array Oper} {rest : List Oper} {Kn Kr : St → Prop} {Kx : List (Nat × (St → Prop))} {ty : TypeId} {pos : String} {af : Array Edge}
/-- a cut's value; what is read behind it: wo_ro, wc_ro -/
theorem pv_cut {e sz by_ n c l h m : Nat} {ao : Option Addr} {lo hi mx : Option Operand} (hT : TSl P T e sz by_) (hx : opd fr x = some (.slice ao n c)) (hb : Bnds fr n c lo hi mx l h m) :
    Pv P ⟨fr, hp, ro⟩ (.slice T x lo hi mx) (.slice (if m = l then ao else ao.map (·.add (l * sz))) (h - l) (m - l)) := fun N E a w dst ty pos af g ok => exec_cut ok.h hx hb
theorem Sat.more {B : World} {S T : List Nat} {w : World} {b o sz l h : Nat} {xs : List (List Value)} (hs : Sat B S T hp ro w) (hr : ⟨b, o, sz, xs⟩ ∈ ro) : Sat B S T hp (⟨b, elt o l sz, sz, (xs.take h).drop l⟩ :: ro) w := by
  refine ⟨hs.frm, hs.sat, hs.own, hs.dis, fun r hr' => ?_, fun r hr' => ?_, fun r hr' => ?_⟩
  · rcases List.mem_cons.1 hr' with rfl | hr'
    · exact Ro.cut (hs.rds _ hr)
    · exact hs.rds r hr'
  · rcases List.mem_cons.1 hr' with rfl | hr'
    · exact hs.rod ⟨b, o, sz, xs⟩ hr
    · exact hs.rod r hr'
  · rcases List.mem_cons.1 hr' with rfl | hr'
    · exact hs.rok ⟨b, o, sz, xs⟩ hr
    · exact hs.rok r hr'
theorem wo_ro {b o sz : Nat} {xs : List (List Value)} (l h : Nat) (hr : ⟨b, o, sz, xs⟩ ∈ ro) (hk : WO P N E ops rest ⟨fr, hp, ⟨b, elt o l sz, sz, (xs.take h).drop l⟩ :: ro⟩ Kn) : WO P N E ops rest ⟨fr, hp, ro⟩ Kn := fun Q hQ a w ok => hk Q hQ a w ⟨ok.h, ok.s.more hr⟩
theorem wc_ro {c : Code} {b o sz : Nat} {xs : List (List Value)} (l h : Nat) (hr : ⟨b, o, sz, xs⟩ ∈ ro) (hk : WC P N E c ⟨fr, hp, ⟨b, elt o l sz, sz, (xs.take h).drop l⟩ :: ro⟩ Kn Kx Kr) : WC P N E c ⟨fr, hp, ro⟩ Kn Kx Kr := fun a w ok => hk a w ⟨ok.h, ok.s.more hr⟩
/-- an owned slice is only read from now on -/
theorem Sat.still {B : World} {S T : List Nat} {w : World} {e sz n c : Nat} {ao : Option Addr} {xs : List (List Value)} (hs : Sat B S T hp ro w) (hpm : hp.Perm (.own e sz ao n c xs :: F)) : ∃ R, (R = [] ∨ ∃ r, R = [r]) ∧ SR (R ++ ro) sz ao n c xs ∧ Sat B S T F (R ++ ro) w := by
  have h := hs.perm hpm
  have hO : OwnSat w e sz ao n c xs := h.sat _ (.head _)
  have hF : Sat B S T F ro w := ⟨h.frm, fun x hx => h.sat x (.tail _ hx), fun x hx => h.own x (.tail _ hx), (List.pairwise_cons.1 h.dis).2, h.rds, fun r hr x hx => h.rod r hr x (.tail _ hx), h.rok⟩
  cases ao with
  | none => exact ⟨[], .inl rfl, ⟨hO.len, hO.le, hO.max, hO.rows, .inl ⟨rfl, hO.nil rfl⟩⟩, hF⟩
  | some a =>
    obtain ⟨hsp, cur, hcur, hfit, hseg⟩ := hO.at_ a rfl
    obtain ⟨b, o, s⟩ := a
    simp only at hsp hcur hseg
    subst hsp
    refine ⟨[⟨b, o, sz, xs⟩], .inr ⟨_, rfl⟩, ⟨hO.len, hO.le, hO.max, hO.rows, .inr ⟨b, o, rfl, fun _ => .head _⟩⟩, ⟨hF.frm, hF.sat, hF.own, hF.dis, fun r hr => ?_, fun r hr x hx => ?_, fun r hr => ?_⟩⟩
    · rcases List.mem_cons.1 hr with rfl | hr
      · exact ⟨hO.rows, cur, e, (0, 0), hcur, hseg⟩
      · exact hF.rds r hr
    · rcases List.mem_cons.1 hr with rfl | hr
      · exact fun hx' => (List.pairwise_cons.1 h.dis).1 x hx b rfl hx'
      · exact hF.rod r hr x hx
    · rcases List.mem_cons.1 hr with rfl | hr
      · rcases h.own _ (.head _) b rfl with h1 | h1
        · exact .inl h1
        · exact .inr (.inr h1)
      · exact hF.rok r hr
theorem wo_still {e sz n c : Nat} {ao : Option Addr} {xs : List (List Value)} (hpm : hp.Perm (.own e sz ao n c xs :: F)) (hk : ∀ R, SR (R ++ ro) sz ao n c xs → WO P N E ops rest ⟨fr, F, R ++ ro⟩ Kn) : WO P N E ops rest ⟨fr, hp, ro⟩ Kn := fun Q hQ a w ok => by
  obtain ⟨R, _, h1, h2⟩ := ok.s.still hpm
  exact hk R h1 Q hQ a w ⟨ok.h, h2⟩
theorem wc_still {cd : Code} {e sz n c : Nat} {ao : Option Addr} {xs : List (List Value)} (hpm : hp.Perm (.own e sz ao n c xs :: F)) (hk : ∀ R, SR (R ++ ro) sz ao n c xs → WC P N E cd ⟨fr, F, R ++ ro⟩ Kn Kx Kr) : WC P N E cd ⟨fr, hp, ro⟩ Kn Kx Kr := fun a w ok => by
  obtain ⟨R, _, h1, h2⟩ := ok.s.still hpm
  exact hk R h1 a w ⟨ok.h, h2⟩
/-- append of a slice that is only read -/
theorem app_sr_run {w : World} {t e sz by_ n c m c2 : Nat} {ao ao2 : Option Addr} {xs ys : List (List Value)} [TSl P t e sz by_] (hS : OwnSat w e sz ao n c xs) (hr : SR ro sz ao2 m c2 ys) (hrd : ∀ r ∈ ro, r.sat w) (b1 : n + m ≤ maxLen) (b2 : (n + m) * by_ ≤ 140737488355328) :
    ∃ ao' c' w', (Builtin.append_ #[t, t] ty #[.slice ao n c, .slice ao2 m c2]).run P w = .ok (.slice ao' (n + m) c') w' ∧ OwnSat w' e sz ao' (n + m) c' (xs ++ ys) ∧ Frm (feet [It.own e sz ao n c xs]) w w' ∧
      (∀ b, (It.own e sz ao' (n + m) c' (xs ++ ys)).foot = some b → b ∈ feet [It.own e sz ao n c xs] ∨ w.heap.size ≤ b) := by
  rcases hr.at_ with ⟨rfl, h0⟩ | ⟨b, o, rfl, hm⟩
  · obtain ⟨i, z, h1, h2, h3, h4, h5, h6, h7⟩ := sl_und (TSl.h (P := P) (T := t))
    have hle := hr.le
    have hm0 : m = 0 := by omega
    subst hm0
    obtain rfl : ys = [] := List.eq_nil_of_length_eq_zero hr.len
    refine ⟨ao, c, w, ?_, by simpa using hS, Frm.refl _ _, fun b hb => .inl (mem_feet.2 ⟨_, .head _, by simpa using hb⟩)⟩
    have hn0 : n + 0 ≤ c := by have := hS.le; omega
    cases ao <;> simp [Builtin.append_, run_underlying h1, sizeOf, typeInfo, h2, Builtin.lenOf, hn0, Builtin.firstCells, storeCells, go_sem] <;> (have := hS.le; omega)
  · have hc : ∀ j u, ys.flatten[j]? = some u → w.cell? ((⟨b, o, none⟩ : Addr).add j) = some u := fun j u hj => by
      by_cases h0 : 0 < m
      · obtain ⟨hro, cur, tt, fz, hcur, hseg⟩ := hrd _ (hm h0)
        simp only at hcur hseg
        rw [Addr.add_lit]; simp only [World.cell?, hcur]; exact hseg j u hj
      · obtain rfl : ys = [] := List.eq_nil_of_length_eq_zero (by rw [hr.len]; omega)
        simp at hj
    obtain ⟨ao', c', w', h1, h2, h3, h4, h5⟩ := run_append_sl (P := P) (t := t) (ty := ty) (ad := ⟨b, o, none⟩) (c2 := c2) hS hr.rows hr.len hc b1 b2
    exact ⟨ao', c', w', h1, h2, h3, h4⟩
theorem wo_app_sr {d t e sz by_ n c m c2 : Nat} {ao ao2 : Option Addr} {xs ys : List (List Value)} [TSl P t e sz by_] (hx : opd fr x = some (.slice ao n c)) (hy : opd fr y = some (.slice ao2 m c2))
    (hs : hp.Perm (.own e sz ao n c xs :: F)) (hr : SR ro sz ao2 m c2 ys) (b1 : n + m ≤ maxLen) (b2 : (n + m) * by_ ≤ 140737488355328) (hd : Nat.ble (d + 1) N = true)
    (h : ∀ ao' c', WO P N E ops rest ⟨(d, .slice ao' (n + m) c') :: fr, .own e sz ao' (n + m) c' (xs ++ ys) :: F, ro⟩ Kn) : WO P N E ops (⟨some d, .call ⟨.builtin .append, #[x, y], #[t, t]⟩, ty, pos, af, none⟩ :: rest) ⟨fr, hp, ro⟩ Kn :=
  wo_eff (L := [_]) hs hd fun a w ok => by
    obtain ⟨ao', c', w', h1, h2, h3, h4⟩ := app_sr_run (P := P) (t := t) (ty := ty) (ok.s.get hs) hr ok.s.rds b1 b2
    exact ⟨_, [.own e sz ao' (n + m) c' (xs ++ ys)], w', exec_append (ok.h.eval hx) (ok.h.eval hy) h1, Sat.regrow h3 h2 h4, by simpa [putF] using h ao' c'⟩
/-- append to a slice that is only read and full: a block of its own -/
theorem app_full_run {w : World} {t e sz by_ n m c2 b2 o2 : Nat} {ao : Option Addr} {xs ys : List (List Value)} [TSl P t e sz by_] (hr : SR ro sz ao n n xs) (hrd : ∀ r ∈ ro, r.sat w) (hS : OwnSat w e sz (some ⟨b2, o2, none⟩) m c2 ys) (h0 : 0 < m) (hb1 : n + m ≤ maxLen) (hb2 : (n + m) * by_ ≤ 140737488355328) :
    ∃ ao' c' w', (Builtin.append_ #[t, t] ty #[.slice ao n n, .slice (some ⟨b2, o2, none⟩) m c2]).run P w = .ok (.slice ao' (n + m) c') w' ∧ (It.own e sz ao' (n + m) c' (xs ++ ys)).sat w' ∧ Frm [] w w' ∧ ∀ b, (It.own e sz ao' (n + m) c' (xs ++ ys)).foot = some b → w.heap.size ≤ b := by
  obtain ⟨_, cur2, hcur2, _, hseg2⟩ := hS.at_ _ rfl
  simp only at hcur2 hseg2
  have hny : ∀ j u, ys.flatten[j]? = some u → w.cell? ((⟨b2, o2, none⟩ : Addr).add j) = some u := fun j u hj => by
    rw [Addr.add_lit]; simp only [World.cell?, hcur2]; exact hseg2 j u hj
  obtain ⟨i, z, h1, h2, h3, h4, h5, h6, h7⟩ := sl_und (TSl.h (P := P) (T := t))
  have hxl : xs.flatten.length = n * sz := by rw [flat_len hr.rows.lens, hr.len]
  have hyl : ys.flatten.length = m * sz := by rw [flat_len hS.rows.lens, hS.len]
  have hone : ∀ u ∈ ys.flatten, u.oneCell' = true := fun u hu => by
    obtain ⟨r, hr, hu⟩ := List.mem_flatten.1 hu
    exact (hS.rows r hr).2 u hu
  have hrows : RowsOk sz (xs ++ ys) := fun r hr' => by
    rcases List.mem_append.1 hr' with hr' | hr'
    · exact hr.rows r hr'
    · exact hS.rows r hr'
  have hlen : (xs ++ ys).length = n + m := by simp [hr.len, hS.len]
  obtain ⟨v', w', hrun, hO, hg⟩ : ∃ v' w', (Builtin.append_ #[t, t] ty #[.slice ao n n, .slice (some ⟨b2, o2, none⟩) m c2]).run P w = .ok v' w' ∧ w'.ownsRow w.heap.size e sz v' (n + m) (xs.flatten ++ ys.flatten) ∧ w.grownBy w' none := by
    rcases hr.at_ with ⟨rfl, hn0⟩ | ⟨b, o, rfl, hm⟩
    · subst hn0
      obtain rfl : xs = [] := List.eq_nil_of_length_eq_zero hr.len
      obtain ⟨v', w', hr, ho, hg, _⟩ := run_append_own (P := P) w w.heap.size t ty e i z sz by_ h1 h2 h3 h5 h6 h4 h7 (.slice none 0 0) 0 [] (World.ownsRow_nil w _ e sz) ⟨b2, o2, none⟩ m c2 ys.flatten hyl hny hone hb1 hb2 (Nat.le_refl _)
      exact ⟨v', w', hr, by simpa using ho, hg⟩
    · exact run_append_arg_grows (P := P) w t ty e i z sz by_ h1 h2 h3 h5 h6 h4 h7 ⟨b, o, none⟩ n n xs.flatten hxl (fun j u hj => by
        have hn : 0 < n := by
          rcases Nat.eq_zero_or_pos n with h' | h'
          · obtain rfl : xs = [] := List.eq_nil_of_length_eq_zero (by rw [hr.len]; omega)
            simp at hj
          · exact h'
        obtain ⟨_, cur, tt, fz, hcur, hseg⟩ := hrd _ (hm hn)
        simp only at hcur hseg
        rw [Addr.add_lit]; simp only [World.cell?, hcur]; exact hseg j u hj) ⟨b2, o2, none⟩ m c2 ys.flatten hyl hny (by omega) hb1 hb2
  rw [← List.flatten_append] at hO
  obtain ⟨ao', c', rfl, hO2, hB⟩ := own_of_row hrows hlen hO
  refine ⟨ao', c', w', hrun, hO2, ⟨hg.os, hg.tape, hg.output, hg.size, fun k hk _ => hg.block k hk (by simp)⟩, fun b hb => ?_⟩
  cases ao' with
  | none => cases hb
  | some a =>
    simp only [It.foot, Option.map_some, Option.some.injEq] at hb
    subst hb
    exact (hB a rfl).1
theorem wo_app_full {d t e sz by_ n m c2 b2 o2 : Nat} {ao : Option Addr} {xs ys : List (List Value)} [TSl P t e sz by_] (hx : opd fr x = some (.slice ao n n)) (hy : opd fr y = some (.slice (some ⟨b2, o2, none⟩) m c2))
    (hr : SR ro sz ao n n xs) (hs : hp.Perm (.own e sz (some ⟨b2, o2, none⟩) m c2 ys :: F)) (h0 : 0 < m) (hb1 : n + m ≤ maxLen) (hb2 : (n + m) * by_ ≤ 140737488355328) (hd : Nat.ble (d + 1) N = true)
    (h : ∀ ao' c', WO P N E ops rest ⟨(d, .slice ao' (n + m) c') :: fr, .own e sz ao' (n + m) c' (xs ++ ys) :: hp, ro⟩ Kn) : WO P N E ops (⟨some d, .call ⟨.builtin .append, #[x, y], #[t, t]⟩, ty, pos, af, none⟩ :: rest) ⟨fr, hp, ro⟩ Kn :=
  wo_eff (L := []) (.refl _) hd fun a w ok => by
    obtain ⟨ao', c', w', h1, h2, h3, h4⟩ := app_full_run (P := P) (t := t) (ty := ty) hr ok.s.rds (ok.s.get hs) h0 hb1 hb2
    exact ⟨_, [.own e sz ao' (n + m) c' (xs ++ ys)], w', exec_append (ok.h.eval hx) (ok.h.eval hy) h1, Sat.one h3 h2 (fun b hb => .inr (h4 b hb)), by simpa [putF] using h ao' c'⟩
end
end Go.Proofs.Ytlhlidmhlhodiaa

/-
  Sparse frames: drawn regions again, where one operation may change the items of several classes.
-/
namespace Go.Proofs.Ytlhlidmhlhodiaa
set_option linter.unusedSimpArgs false
set_option linter.unusedVariables false
open Go.RowKit
def updL (m : Nat → List It) : List Nat → List (List It) → Nat → List It
  | c :: cs, M :: Ms => updL (upd m c M) cs Ms
  | _, _ => m
theorem updL_ne {c : Nat} : ∀ (cs : List Nat) (Ms : List (List It)) (m : Nat → List It), c ∉ cs → updL m cs Ms c = m c
  | [], _, _, _ => by unfold updL; rfl
  | _ :: _, [], _, _ => by unfold updL; rfl
  | d :: cs, M :: Ms, m, h => by
    unfold updL
    rw [updL_ne cs Ms _ (fun h' => h (.tail _ h')), upd_ne _ _ (fun e => h (by rw [e]; exact .head _))]
theorem upd_updL (c : Nat) (M : List It) : ∀ (cs : List Nat) (Ms : List (List It)) (m : Nat → List It), c ∉ cs → upd (updL m cs Ms) c M = updL (upd m c M) cs Ms
  | [], _, _, _ => by unfold updL; rfl
  | _ :: _, [], _, _ => by unfold updL; rfl
  | d :: cs, N :: Ms, m, h => by
    unfold updL
    rw [upd_updL c M cs Ms _ (fun h' => h (.tail _ h')), upd_comm m _ _ (fun e => h (by rw [e]; exact .head _))]
theorem updL_comm : ∀ (ds : List Nat) (Ns : List (List It)) (cs : List Nat) (Ms : List (List It)) (m : Nat → List It), (∀ d ∈ ds, d ∉ cs) → updL (updL m cs Ms) ds Ns = updL (updL m ds Ns) cs Ms
  | [], _, cs, Ms, m, _ => by unfold updL; cases cs <;> cases Ms <;> rfl
  | _ :: _, [], cs, Ms, m, _ => by unfold updL; cases cs <;> cases Ms <;> rfl
  | d :: ds, N :: Ns, cs, Ms, m, h => by
    show updL (upd (updL m cs Ms) d N) ds Ns = updL (updL (upd m d N) ds Ns) cs Ms
    rw [upd_updL d N cs Ms m (h d (.head _)), updL_comm ds Ns cs Ms _ (fun x hx => h x (.tail _ hx))]
theorem map_updL {cs ds : List Nat} {Ms : List (List It)} {m : Nat → List It} (h : ∀ d ∈ ds, d ∉ cs) : ds.map (updL m cs Ms) = ds.map m := List.map_congr_left fun d hd => updL_ne cs Ms m (h d hd)
theorem flat_updL : ∀ {cs : List Nat} {Ms : List (List It)} {m : Nat → List It}, cs.Nodup → Ms.length = cs.length → cs.map (updL m cs Ms) = Ms
  | [], [], _, _, _ => rfl
  | [], _ :: _, _, _, h => by cases h
  | _ :: _, [], _, _, h => by cases h
  | c :: cs, M :: Ms, m, hn, h => by
    have hn' := List.nodup_cons.1 hn
    show updL (upd m c M) cs Ms c :: cs.map (updL (upd m c M) cs Ms) = M :: Ms
    rw [updL_ne cs Ms _ hn'.1, upd_self, flat_updL hn'.2 (by simpa using h)]

section
variable (P : Program) (E : Env) (B0 : List It) (ro : List Ro) (ops : Array Oper) (cls : Nat → List Nat) (tbl : Nat → List (List It) → Value → List (List It) → Prop)
def safeM (i : Nat) (o : Oper) (a : Act) (m : Nat → List It) : Prop :=
  if Region.wanted o (yielded ops a.tmps) then
    if cls i = [] then ∃ v, PV P E B0 ro o a v
    else (∃ v Ms, tbl i ((cls i).map m) v Ms ∧ Ms.length = (cls i).length) ∧ Outc P E B0 ro o a ((cls i).map m).flatten (fun v M => ∃ Ms, tbl i ((cls i).map m) v Ms ∧ Ms.length = (cls i).length ∧ M = Ms.flatten)
  else True
def outM (i : Nat) (o : Oper) (a : Act) (m : Nat → List It) (v : Value) (m' : Nat → List It) : Prop :=
  if Region.wanted o (yielded ops a.tmps) then
    if cls i = [] then PV P E B0 ro o a v ∧ m' = m
    else ∃ Ms, tbl i ((cls i).map m) v Ms ∧ Ms.length = (cls i).length ∧ m' = updL m (cls i) Ms
  else v = undef ∧ m' = m
def rOpM (i : Nat) (K : Act → (Nat → List It) → Prop) (a : Act) (m : Nat → List It) : Prop :=
  ∀ o, ops[i]? = some o → safeM P E B0 ro ops cls tbl i o a m ∧ ∀ v m', outM P E B0 ro ops cls tbl i o a m v m' → K (a.put o.dst v) m'
end
section
variable {P : Program} {E : Env} {B0 : List It} {ro : List Ro} {ops : Array Oper} {cls : Nat → List Nat} {tbl : Nat → List (List It) → Value → List (List It) → Prop} {md : Region.Mode}
theorem safe_outM {i : Nat} {o : Oper} {a : Act} {m : Nat → List It} (h : safeM P E B0 ro ops cls tbl i o a m) : ∃ v m', outM P E B0 ro ops cls tbl i o a m v m' := by
  unfold safeM at h
  unfold outM
  split at h
  · rename_i hw
    simp only [hw, if_true]
    split at h
    · rename_i hc
      simp only [hc, if_true]
      obtain ⟨v, hv⟩ := h
      exact ⟨v, m, hv, rfl⟩
    · rename_i hc
      simp only [hc, if_false]
      obtain ⟨⟨v, Ms, hv, hl⟩, _⟩ := h
      exact ⟨v, _, Ms, hv, hl, rfl⟩
  · rename_i hw
    simp only [hw]
    exact ⟨undef, m, rfl, rfl⟩
theorem rOpM_mono {i : Nat} {a : Act} {m : Nat → List It} {K K' : Act → (Nat → List It) → Prop} (h : ∀ a m, K a m → K' a m) (hh : rOpM P E B0 ro ops cls tbl i K a m) : rOpM P E B0 ro ops cls tbl i K' a m :=
  fun o ho => ⟨(hh o ho).1, fun v m' hv => h _ _ ((hh o ho).2 v m' hv)⟩
section
variable {i j : Nat} {oi oj : Oper} {a : Act} {m m' : Nat → List It} {u v : Value} {dst : Option Tmp}
theorem safe_putM (hs : ∀ cs b, oj.op ≠ .select cs b) (h : ∀ d, dst = some d → d ∉ oj.looksAt ops) : safeM P E B0 ro ops cls tbl j oj (a.put dst v) m = safeM P E B0 ro ops cls tbl j oj a m := by
  unfold safeM PV Outc
  rw [wanted_put oj a dst v h, execOp_put oj hs a dst v h]
theorem out_putM (hs : ∀ cs b, oj.op ≠ .select cs b) (h : ∀ d, dst = some d → d ∉ oj.looksAt ops) : outM P E B0 ro ops cls tbl j oj (a.put dst v) m u m' = outM P E B0 ro ops cls tbl j oj a m u m' := by
  unfold outM PV
  rw [wanted_put oj a dst v h, execOp_put oj hs a dst v h]
theorem out_otherM (h : outM P E B0 ro ops cls tbl i oi a m v m') {ds : List Nat} (hc : ∀ d ∈ ds, d ∉ cls i) : ds.map m' = ds.map m := by
  unfold outM at h
  split at h
  · split at h
    · rw [h.2]
    · obtain ⟨Ms, _, _, rfl⟩ := h
      exact map_updL hc
  · rw [h.2]
theorem safe_otherM (h : outM P E B0 ro ops cls tbl i oi a m v m') (hc : ∀ d ∈ cls j, d ∉ cls i) : safeM P E B0 ro ops cls tbl j oj a m' = safeM P E B0 ro ops cls tbl j oj a m := by
  unfold safeM
  rw [out_otherM h hc]
theorem out_diamondM {m1 m2 : Nat → List It} (hc : ∀ d ∈ cls j, d ∉ cls i) (h1 : outM P E B0 ro ops cls tbl j oj a m u m1) (h2 : outM P E B0 ro ops cls tbl i oi a m1 v m2) :
    ∃ m3, outM P E B0 ro ops cls tbl i oi a m v m3 ∧ outM P E B0 ro ops cls tbl j oj a m3 u m2 := by
  have key : (cls i).map m1 = (cls i).map m := out_otherM h1 (fun d hd hd' => hc d hd' hd)
  unfold outM at h1 h2 ⊢
  by_cases wi : Region.wanted oi (yielded ops a.tmps) = true
  · simp only [wi, if_true] at h2 ⊢
    by_cases wj : Region.wanted oj (yielded ops a.tmps) = true
    · simp only [wj, if_true] at h1 ⊢
      by_cases ci : cls i = []
      · simp only [ci, if_true] at h2 ⊢
        obtain ⟨h2, rfl⟩ := h2
        exact ⟨m, ⟨h2, rfl⟩, h1⟩
      · simp only [ci, if_false] at h2 ⊢
        rw [key] at h2
        obtain ⟨Ms, h2, hl, rfl⟩ := h2
        refine ⟨updL m (cls i) Ms, ⟨Ms, h2, hl, rfl⟩, ?_⟩
        by_cases cj : cls j = []
        · simp only [cj, if_true] at h1 ⊢
          exact ⟨h1.1, by rw [h1.2]⟩
        · simp only [cj, if_false] at h1 ⊢
          obtain ⟨Ns, h1, hl', rfl⟩ := h1
          refine ⟨Ns, by rw [map_updL hc]; exact h1, hl', ?_⟩
          exact (updL_comm (cls j) Ns (cls i) Ms m hc).symm
    · simp only [wj] at h1 ⊢
      obtain ⟨rfl, rfl⟩ := h1
      exact ⟨m2, h2, rfl, rfl⟩
  · simp only [wi] at h2 ⊢
    obtain ⟨rfl, rfl⟩ := h2
    exact ⟨m, ⟨rfl, rfl⟩, h1⟩
theorem rOp_swapM {K : Act → (Nat → List It) → Prop} (hi : ops[i]? = some oi) (hj : ops[j]? = some oj) (hap : oi.apart ops oj = true) (hc : ∀ d ∈ cls j, d ∉ cls i) (hsi : ∀ cs b, oi.op ≠ .select cs b) (hsj : ∀ cs b, oj.op ≠ .select cs b)
    (H : rOpM P E B0 ro ops cls tbl i (rOpM P E B0 ro ops cls tbl j K) a m) : rOpM P E B0 ro ops cls tbl j (rOpM P E B0 ro ops cls tbl i K) a m := by
  obtain ⟨h1, h2, h3⟩ := Oper.apart_spec hap
  obtain ⟨Hs, Ho⟩ := H oi hi
  intro o ho
  obtain rfl : oj = o := by rw [hj] at ho; exact Option.some.inj ho
  refine ⟨?_, fun u m1 hu o ho => ?_⟩
  · obtain ⟨v, m1, hv⟩ := safe_outM Hs
    have := (Ho v m1 hv oj hj).1
    rw [safe_putM hsj h1, safe_otherM hv hc] at this
    exact this
  · obtain rfl : oi = o := by rw [hi] at ho; exact Option.some.inj ho
    refine ⟨?_, fun v m2 hv => ?_⟩
    · rw [safe_putM hsi h3, safe_otherM hu (fun d hd hd' => hc d hd' hd)]
      exact Hs
    · rw [out_putM hsi h3] at hv
      obtain ⟨m3, h4, h5⟩ := out_diamondM hc hu hv
      have := (Ho v m3 h4 oj hj).2 u m2 (by rw [out_putM hsj h1]; exact h5)
      rw [← Act.put_comm a v u h2]
      exact this
end
def wpAnyM (P : Program) (E : Env) (B0 : List It) (ro : List Ro) (ops : Array Oper) (cls : Nat → List Nat) (tbl : Nat → List (List It) → Value → List (List It) → Prop) (md : Region.Mode) (Q : Act → (Nat → List It) → Prop) : Nat → Array Bool → Act → (Nat → List It) → Prop
  | 0, listed, a, m => Region.ready md ops listed = [] ∧ Q a m
  | fuel + 1, listed, a, m => (Region.ready md ops listed = [] → Q a m) ∧ ∀ i ∈ Region.ready md ops listed, rOpM P E B0 ro ops cls tbl i (wpAnyM P E B0 ro ops cls tbl md Q fuel (listed.setIfInBounds i true)) a m
theorem wpAnyM_first {Q : Act → (Nat → List It) → Prop} {i : Nat} {oi : Oper} (hi : ops[i]? = some oi) (hsel : ∀ (j : Nat) (o : Oper) cs b, ops[j]? = some o → o.op ≠ .select cs b)
    (hcls : ∀ (j : Nat) (listed : Array Bool), j ≠ i → Closed md ops listed → (∀ k, k < i → listed.getD k true = true) → listed.getD i true = false → j ∈ Region.ready md ops listed → ∀ d ∈ cls j, d ∉ cls i) :
    ∀ (fuel : Nat) (listed : Array Bool) (a : Act) (m : Nat → List It), Closed md ops listed → (∀ k, k < i → listed.getD k true = true) →
      (∀ j oj, ops[j]? = some oj → j ≠ i → listed.getD j true = false → (∀ e ∈ oj.after, Region.binds md e = true → e.on ≠ i) → oi.apart ops oj = true) →
      i ∈ Region.ready md ops listed → rOpM P E B0 ro ops cls tbl i (wpAnyM P E B0 ro ops cls tbl md Q fuel (listed.setIfInBounds i true)) a m → wpAnyM P E B0 ro ops cls tbl md Q (fuel + 1) listed a m := by
  intro fuel
  induction fuel with
  | zero =>
    intro listed a m _ _ _ hr H
    refine ⟨fun h => (by rw [h] at hr; cases hr), fun j hj => ?_⟩
    by_cases hji : j = i
    · subst hji; exact H
    · have := ready_mono hj hji
      obtain ⟨hs, ho⟩ := H oi hi
      obtain ⟨v, m', hv⟩ := safe_outM hs
      rw [(ho v m' hv).1] at this
      cases this
  | succ fuel ih =>
    intro listed a m hcl hpre hfree hr H
    refine ⟨fun h => (by rw [h] at hr; cases hr), fun j hj => ?_⟩
    by_cases hji : j = i
    · subst hji; exact H
    · obtain ⟨hjun, oj, hoj, hall⟩ := mem_ready.1 hj
      have hnot : ∀ e ∈ oj.after, Region.binds md e = true → e.on ≠ i := fun e he hb heq => by
        have h1 := hall e he hb
        have h0 := (mem_ready.1 hr).1
        rw [heq] at h1
        rcases Nat.lt_or_ge i listed.size with h' | h'
        · simp [h'] at h0 h1; rw [h0] at h1; cases h1
        · simp [Array.getElem?_eq_none h'] at h1
      have h1 := rOpM_mono (fun a' m' h => h.2 j (ready_mono hj hji)) H
      have f1 := hfree j oj hoj hji hjun hnot
      have f2 := hcls j listed hji hcl hpre (mem_ready.1 hr).1 hj
      have h2 := rOp_swapM hi hoj f1 f2 (fun cs b => hsel i oi cs b hi) (fun cs b => hsel j oj cs b hoj) h1
      refine rOpM_mono (fun a' m' h3 => ih (listed.setIfInBounds j true) a' m' (hcl.set hj) (fun k hk => ?_) (fun k ok hk hki hun hno => ?_) (ready_mono hr (Ne.symm hji)) ?_) h2
      · by_cases hjk : j = k
        · subst hjk
          rcases Nat.lt_or_ge j listed.size with h2 | h2
          · simp [h2]
          · simp [h2]
        · rw [getD_set_ne true hjk]; exact hpre k hk
      · refine hfree k ok hk hki ?_ hno
        by_cases hjk : j = k
        · subst hjk; exact hjun
        · rw [getD_set_ne true hjk] at hun; exact hun
      · rw [Array.setIfInBounds_comm _ _ hji]
        exact h3
def wpM (P : Program) (E : Env) (B0 : List It) (ro : List Ro) (ops : Array Oper) (cls : Nat → List Nat) (tbl : Nat → List (List It) → Value → List (List It) → Prop) (Q : Act → (Nat → List It) → Prop) : List Oper → Nat → Act → (Nat → List It) → Prop
  | [], _, a, m => Q a m
  | o :: l, k, a, m => rOpM P E B0 ro ops cls tbl k (wpM P E B0 ro ops cls tbl Q l (k + 1)) a m
def clsM (md : Region.Mode) (ops : Array Oper) (cls : Nat → List Nat) : Bool :=
  (List.range ops.size).all fun j => (List.range j).all fun i => ((cls j).all fun d => !(cls i).contains d) || reachB md ops i ops.size j
theorem clsM_spec (h : clsM md ops cls = true) {i j : Nat} {oj : Oper} (hj : ops[j]? = some oj) (hij : i < j) {d : Nat} (hd : d ∈ cls j) (hi : d ∈ cls i) : reachB md ops i ops.size j = true := by
  unfold clsM at h
  rw [List.all_eq_true] at h
  have h1 := h j (by have := (Array.getElem?_eq_some_iff.1 hj).1; simpa using this)
  rw [List.all_eq_true] at h1
  have h2 := h1 i (by simpa using hij)
  rw [Bool.or_eq_true] at h2
  rcases h2 with h2 | h2
  · rw [List.all_eq_true] at h2
    have := h2 d hd
    simp [hi] at this
  · exact h2
theorem wpAnyM_lex {Q : Act → (Nat → List It) → Prop} (hs : Region.noSelect ops = true) (hcl : clsM md ops cls = true) : ∀ (l : List Oper) (k : Nat) (listed : Array Bool) (a : Act) (m : Nat → List It), Closed md ops listed → ops.size = listed.size → (∀ j, l[j]? = ops[k + j]?) → (∀ j, j < k → listed.getD j true = true) →
    Region.lexFrom md ops l.length k listed = true → wpM P E B0 ro ops cls tbl Q l k a m → wpAnyM P E B0 ro ops cls tbl md Q l.length listed a m
  | [], _, _, _, _, _, _, _, _, hB, h => ⟨by simpa [Region.lexFrom] using hB, h⟩
  | o :: l, k, listed, a, m, hC, hz, hl, hk, hB, h => by
    have h0 : ops[k]? = some o := by simpa using (hl 0).symm
    simp only [List.length_cons, Region.lexFrom, Bool.and_eq_true] at hB
    obtain ⟨⟨hr, hf⟩, hB'⟩ := hB
    have hr' : k ∈ Region.ready md ops listed := by simpa using hr
    refine wpAnyM_first h0 (Region.noSelect_spec hs) (fun j ld hjk hCl hpre hun hj d hd hdi => ?_) l.length listed a m hC hk (fun j oj hj hjk hun hno => Region.free_spec h0 hf j oj hj hjk hun hno) hr' ?_
    · obtain ⟨hjun, oj, hoj, hall⟩ := mem_ready.1 hj
      have hle := lex_lt hpre hjun
      have hks : k < ld.size := by
        rcases Nat.lt_or_ge k ld.size with h' | h'
        · exact h'
        · simp [Array.getD, Nat.not_lt.2 h'] at hun
      obtain ⟨o2, h2, e, he, hb, hne⟩ := reach_not hCl hun hks _ _ (clsM_spec hcl hoj (show k < j by omega) hd hdi)
      rw [hoj] at h2
      obtain rfl := Option.some.inj h2
      rw [hall e he hb] at hne; cases hne
    · refine rOpM_mono (fun a' m' h' => wpAnyM_lex hs hcl l (k + 1) _ a' m' (hC.set hr') (by simpa using hz) (fun j => by have := hl (j + 1); simpa [Nat.add_assoc, Nat.add_comm 1 j] using this) (fun j hj => ?_) hB' h') h
      rcases Nat.lt_or_ge j k with h1 | h1
      · rw [getD_set_ne true (show k ≠ j by omega)]; exact hk j h1
      · obtain rfl : j = k := by omega
        rcases Nat.lt_or_ge j listed.size with h2 | h2
        · simp [h2]
        · simp [h2]
theorem flat_split {all cs : List Nat} (hn : all.Nodup) (hc : cs.Nodup) (hs : ∀ c ∈ cs, c ∈ all) (m : Nat → List It) : (all.flatMap m).Perm ((cs.map m).flatten ++ (all.filter fun c => !cs.contains c).flatMap m) := by
  have h1 : (all.filter fun c => cs.contains c).Perm cs := by
    refine (List.perm_ext_iff_of_nodup (hn.filter _) hc).2 fun c => ?_
    simp only [List.mem_filter, List.contains_iff_mem]
    exact ⟨fun h => h.2, fun h => ⟨hs c h, h⟩⟩
  have h2 := (List.filter_append_perm (fun c => cs.contains c) all).symm
  have h3 := (h2.trans (h1.append_right _)).flatMap_right m
  rw [List.flatMap_append] at h3
  rw [← List.flatMap_def]
  exact h3
theorem rest_same {all cs : List Nat} (m : Nat → List It) (Ms : List (List It)) : (all.filter fun c => !cs.contains c).flatMap (updL m cs Ms) = (all.filter fun c => !cs.contains c).flatMap m := by
  rw [List.flatMap_def, List.flatMap_def, map_updL]
  intro d hd
  have := (List.mem_filter.1 hd).2
  simpa using this
theorem wpAny_of_M {all : List Nat} (hn : all.Nodup) (hcs : ∀ i, (cls i).Nodup ∧ ∀ c ∈ cls i, c ∈ all) {Q : Act → (Nat → List It) → Prop} {Q' : Exit → Act → World → Prop} (hQ : ∀ a m w, Sat E.B E.S E.T (Hp B0 all m) ro w → Q a m → Q' .normal a w) :
    ∀ (fuel : Nat) (listed : Array Bool) (a : Act) (m : Nat → List It) (w : World), Sat E.B E.S E.T (Hp B0 all m) ro w → wpAnyM P E B0 ro ops cls tbl md Q fuel listed a m → wpAny P md ops Q' fuel listed a w
  | 0, _, _, _, _, hw, h => ⟨h.1, hQ _ _ _ hw h.2⟩
  | fuel + 1, listed, a, m, w, hw, h => ⟨fun h0 => hQ _ _ _ hw (h.1 h0), fun i hi => by
    obtain ⟨_, o, ho, _⟩ := mem_ready.1 hi
    obtain ⟨hs, hk⟩ := h.2 i hi o ho
    have ih := wpAny_of_M hn hcs hQ fuel (listed.setIfInBounds i true)
    unfold wpOp
    simp only [ho]
    unfold safeM at hs
    unfold outM at hk
    split
    · rename_i hwt
      simp only [hwt, if_true] at hs hk
      refine .inl ?_
      by_cases hc : cls i = []
      · simp only [hc, if_true] at hs hk
        obtain ⟨v, hv⟩ := hs
        unfold Oper.wp
        rw [hv _ w hw]
        exact ih _ _ _ hw (hk v m ⟨hv, rfl⟩)
      · simp only [hc, if_false] at hs hk
        have hp1 : (Hp B0 all m).Perm (((cls i).map m).flatten ++ (B0 ++ (all.filter fun c => !(cls i).contains c).flatMap m)) := by
          unfold Hp
          exact ((flat_split hn (hcs i).1 (hcs i).2 m).append_left B0).trans (by rw [← List.append_assoc, ← List.append_assoc]; exact List.perm_append_comm.append_right _)
        have hp2 : ∀ Ms : List (List It), Ms.length = (cls i).length → (Ms.flatten ++ (B0 ++ (all.filter fun c => !(cls i).contains c).flatMap m)).Perm (Hp B0 all (updL m (cls i) Ms)) := fun Ms hl => by
          unfold Hp
          refine List.Perm.trans ?_ ((flat_split hn (hcs i).1 (hcs i).2 (updL m (cls i) Ms)).append_left B0).symm
          rw [flat_updL (hcs i).1 hl, rest_same, ← List.append_assoc, ← List.append_assoc]
          exact List.perm_append_comm.append_right _
        have h1 := hs.2 _ w (hw.perm hp1)
        unfold Oper.wp
        generalize (execOp a.eval o).run P w = r at h1
        cases r with
        | ok n w' =>
          cases n <;> simp only [outcU] at h1 <;> simp only [Oper.upon] <;> first | exact h1.elim | skip
          case value u => obtain ⟨M, ⟨Ms, h2, hl, rfl⟩, h3⟩ := h1; exact ih _ _ _ (h3.perm (hp2 Ms hl)) (hk _ _ ⟨Ms, h2, hl, rfl⟩)
          case skip => obtain ⟨M, ⟨Ms, h2, hl, rfl⟩, h3⟩ := h1; exact ih _ _ _ (h3.perm (hp2 Ms hl)) (hk _ _ ⟨Ms, h2, hl, rfl⟩)
          case enter f args =>
            obtain ⟨rfl, h2⟩ := h1
            refine h2.mono fun e w'' ⟨v, M, he, ⟨Ms, h3, hl, hM⟩, h4⟩ => ?_
            subst he; subst hM
            exact ih _ _ _ (h4.perm (hp2 Ms hl)) (hk _ _ ⟨Ms, h3, hl, rfl⟩)
        | halt x w' => simp only [outcU] at h1
    · rename_i hwt
      simp only [hwt] at hk
      exact ih _ _ _ hw (hk undef m ⟨rfl, rfl⟩)⟩
inductive HdM (P : Program) (N : Nat) (E : Env) (B0 : List It) (ro : List Ro) (ops : Array Oper) (cls : Nat → List Nat) (tbl : Nat → List (List It) → Value → List (List It) → Prop) (K : List (Nat × Value) → (Nat → List It) → Prop) : Nat → List Oper → List (Nat × Value) → (Nat → List It) → Prop
  | nil {k fr m} (h : K fr m) : HdM P N E B0 ro ops cls tbl K k [] fr m
  | val {k fr m op ty pos af rest d v g} (hd : Nat.ble (d + 1) N = true) (hc : cls k = []) (hg : GOk ops fr g) (hv : Pv P ⟨fr, B0, ro⟩ op v) (h : HdM P N E B0 ro ops cls tbl K (k + 1) rest ((d, v) :: fr) m) :
      HdM P N E B0 ro ops cls tbl K k (⟨some d, op, ty, pos, af, g⟩ :: rest) fr m
  | eff {k fr m dst op ty pos af rest cs Ls g} (hc : cls k = cs) (hne : cs ≠ []) (hm : cs.map m = Ls) (hd : dstOk dst N = true) (hg : GOk ops fr g) (ho : ∀ a, Holds N fr a → Outc P E B0 ro ⟨dst, op, ty, pos, af, g⟩ a Ls.flatten (fun v M => ∃ Ms, tbl k Ls v Ms ∧ Ms.length = cs.length ∧ M = Ms.flatten))
      (hin : ∃ v Ms, tbl k Ls v Ms ∧ Ms.length = cs.length) (h : ∀ v Ms, tbl k Ls v Ms → Ms.length = cs.length → HdM P N E B0 ro ops cls tbl K (k + 1) rest (putF dst v fr) (updL m cs Ms)) : HdM P N E B0 ro ops cls tbl K k (⟨dst, op, ty, pos, af, g⟩ :: rest) fr m
  | skip {k fr m d op ty pos af rest j s b c} (hg : gslot ops j = some s) (hs : fget fr s = some (.bool b)) (hb : (b == c) = false) (hd : Nat.ble (d + 1) N = true) (h : HdM P N E B0 ro ops cls tbl K (k + 1) rest ((d, undef) :: fr) m) :
      HdM P N E B0 ro ops cls tbl K k (⟨some d, op, ty, pos, af, some (j, c)⟩ :: rest) fr m
  | skipu {k fr m d op ty pos af rest j s c} (hg : gslot ops j = some s) (hs : fget fr s = some undef) (hd : Nat.ble (d + 1) N = true) (h : HdM P N E B0 ro ops cls tbl K (k + 1) rest ((d, undef) :: fr) m) :
      HdM P N E B0 ro ops cls tbl K k (⟨some d, op, ty, pos, af, some (j, c)⟩ :: rest) fr m
  | dec {k fr m rest s} {p : Prop} {dd : Decidable p} (hs : fget fr s = some (.bool (@decide p dd))) (ht : p → HdM P N E B0 ro ops cls tbl K k rest ((s, .bool true) :: fr) m) (hf : ¬p → HdM P N E B0 ro ops cls tbl K k rest ((s, .bool false) :: fr) m) :
      HdM P N E B0 ro ops cls tbl K k rest fr m
theorem HdM.sound {N : Nat} {K : List (Nat × Value) → (Nat → List It) → Prop} {k : Nat} {l : List Oper} {fr : List (Nat × Value)} {m : Nat → List It} (h : HdM P N E B0 ro ops cls tbl K k l fr m) (hw0 : ∃ F w, Sat E.B E.S E.T (B0 ++ F) ro w) {Q : Act → (Nat → List It) → Prop}
    (hQ : ∀ fr a m, K fr m → Holds N fr a → Q a m) : (∀ j, j < l.length → l[j]? = ops[k + j]?) → ∀ a, Holds N fr a → wpM P E B0 ro ops cls tbl Q l k a m := by
  have shift : ∀ {o : Oper} {l : List Oper} {k : Nat}, (∀ j, j < (o :: l).length → (o :: l)[j]? = ops[k + j]?) → ops[k]? = some o ∧ ∀ j, j < l.length → l[j]? = ops[k + 1 + j]? := fun h =>
    ⟨by simpa using (h 0 (by simp)).symm, fun j hj => by have := h (j + 1) (by simp; omega); simpa [Nat.add_assoc, Nat.add_comm 1 j] using this⟩
  induction h with
  | nil h => exact fun _ a ha => hQ _ a _ h ha
  | @val k fr m op ty pos af rest d v g hd hc hg hv _ ih =>
    intro hl a ha o ho
    obtain ⟨h0, hl'⟩ := shift hl
    rw [h0] at ho
    obtain rfl := Option.some.inj ho
    have hpv : PV P E B0 ro ⟨some d, op, ty, pos, af, g⟩ a v := fun F w hw => hv N E a w _ _ _ _ _ ⟨ha, hw.left⟩
    unfold safeM outM
    simp only [hg.wanted ha, if_true, hc]
    refine ⟨⟨v, hpv⟩, fun v' m' ⟨hv', hm'⟩ => ?_⟩
    subst hm'
    obtain ⟨F, w, hw⟩ := hw0
    have e : v' = v := by
      have h1 := hpv F w hw
      have h2 := hv' F w hw
      rw [h1] at h2
      injection h2 with h2 _
      injection h2 with h2
      exact h2.symm
    subst e
    exact ih hl' _ (ha.put (Nat.le_of_ble_eq_true hd) _)
  | @eff k fr m dst op ty pos af rest cs Ls g hc hne hm hd hg ho hin _ ih =>
    intro hl a ha o ho'
    obtain ⟨h0, hl'⟩ := shift hl
    rw [h0] at ho'
    obtain rfl := Option.some.inj ho'
    unfold safeM outM
    simp only [hg.wanted ha, if_true, hc, hne, if_false, hm]
    refine ⟨⟨hin, ho a ha⟩, fun v' m' ⟨Ms, hv', hlen, hm'⟩ => ?_⟩
    subst hm'
    exact ih v' Ms hv' hlen hl' _ (ha.putF hd _)
  | @skip k fr m d op ty pos af rest j s b c hg hs hb hd _ ih =>
    intro hl a ha o ho
    obtain ⟨h0, hl'⟩ := shift hl
    rw [h0] at ho
    obtain rfl := Option.some.inj ho
    have hwt : ¬ Region.wanted (⟨some d, op, ty, pos, af, some (j, c)⟩ : Oper) (yielded ops a.tmps) = true := by simp [Region.wanted, yielded_of ha hg hs]; simpa using hb
    unfold safeM outM
    simp only [hwt]
    refine ⟨trivial, fun v' m' ⟨hv', hm'⟩ => ?_⟩
    subst hv'; subst hm'
    exact ih hl' _ (ha.put (Nat.le_of_ble_eq_true hd) _)
  | @skipu k fr m d op ty pos af rest j s c hg hs hd _ ih =>
    intro hl a ha o ho
    obtain ⟨h0, hl'⟩ := shift hl
    rw [h0] at ho
    obtain rfl := Option.some.inj ho
    have hwt : ¬ Region.wanted (⟨some d, op, ty, pos, af, some (j, c)⟩ : Oper) (yielded ops a.tmps) = true := by simp [Region.wanted, yielded_undef ha hg hs]
    unfold safeM outM
    simp only [hwt]
    refine ⟨trivial, fun v' m' ⟨hv', hm'⟩ => ?_⟩
    subst hv'; subst hm'
    exact ih hl' _ (ha.put (Nat.le_of_ble_eq_true hd) _)
  | @dec k fr m rest s p _ hs _ _ iht ihf =>
    intro hl a ha
    by_cases hp : p
    · exact iht hp hl a (ha.same hs (by simp [hp]))
    · exact ihf hp hl a (ha.same hs (by simp [hp]))
def wpAnyLM (P : Program) (E : Env) (B0 : List It) (ro : List Ro) (ops : Array Oper) (cls : Nat → List Nat) (tbl : Nat → List (List It) → Value → List (List It) → Prop) (md : Region.Mode) (n : Nat) (L : Array Bool → Act → (Nat → List It) → Prop) : Nat → Array Bool → Act → (Nat → List It) → Prop
  | 0, listed, a, m => L listed a m
  | f + 1, listed, a, m => Region.ready md ops listed ≠ [] ∧ ∀ i ∈ Region.ready md ops listed, i < n ∧ rOpM P E B0 ro ops cls tbl i (wpAnyLM P E B0 ro ops cls tbl md n L f (listed.setIfInBounds i true)) a m
theorem wpAny_of_LM {all : List Nat} (hn : all.Nodup) (hcs : ∀ i, (cls i).Nodup ∧ ∀ c ∈ cls i, c ∈ all) {n g : Nat} {L : Array Bool → Act → (Nat → List It) → Prop} {Q' : Exit → Act → World → Prop}
    (hL : ∀ listed a m w, Sat E.B E.S E.T (Hp B0 all m) ro w → L listed a m → wpAny P md ops Q' g listed a w) :
    ∀ (f : Nat) (listed : Array Bool) (a : Act) (m : Nat → List It) (w : World), Sat E.B E.S E.T (Hp B0 all m) ro w → wpAnyLM P E B0 ro ops cls tbl md n L f listed a m → wpAny P md ops Q' (f + g) listed a w
  | 0, _, _, _, _, hw, h => by rw [Nat.zero_add]; exact hL _ _ _ _ hw h
  | f + 1, listed, a, m, w, hw, h => by
    rw [show f + 1 + g = (f + g) + 1 by omega]
    refine ⟨fun h0 => absurd h0 h.1, fun i hi => ?_⟩
    obtain ⟨_, o, ho, _⟩ := mem_ready.1 hi
    obtain ⟨hs, hk⟩ := (h.2 i hi).2 o ho
    have ih := wpAny_of_LM (n := n) hn hcs hL f (listed.setIfInBounds i true)
    unfold wpOp
    simp only [ho]
    unfold safeM at hs
    unfold outM at hk
    split
    · rename_i hwt
      simp only [hwt, if_true] at hs hk
      refine .inl ?_
      by_cases hc : cls i = []
      · simp only [hc, if_true] at hs hk
        obtain ⟨v, hv⟩ := hs
        unfold Oper.wp
        rw [hv _ w hw]
        exact ih _ _ _ hw (hk v m ⟨hv, rfl⟩)
      · simp only [hc, if_false] at hs hk
        have hp1 : (Hp B0 all m).Perm (((cls i).map m).flatten ++ (B0 ++ (all.filter fun c => !(cls i).contains c).flatMap m)) := by
          unfold Hp
          exact ((flat_split hn (hcs i).1 (hcs i).2 m).append_left B0).trans (by rw [← List.append_assoc, ← List.append_assoc]; exact List.perm_append_comm.append_right _)
        have hp2 : ∀ Ms : List (List It), Ms.length = (cls i).length → (Ms.flatten ++ (B0 ++ (all.filter fun c => !(cls i).contains c).flatMap m)).Perm (Hp B0 all (updL m (cls i) Ms)) := fun Ms hl => by
          unfold Hp
          refine List.Perm.trans ?_ ((flat_split hn (hcs i).1 (hcs i).2 (updL m (cls i) Ms)).append_left B0).symm
          rw [flat_updL (hcs i).1 hl, rest_same, ← List.append_assoc, ← List.append_assoc]
          exact List.perm_append_comm.append_right _
        have h1 := hs.2 _ w (hw.perm hp1)
        unfold Oper.wp
        generalize (execOp a.eval o).run P w = r at h1
        cases r with
        | ok n w' =>
          cases n <;> simp only [outcU] at h1 <;> simp only [Oper.upon] <;> first | exact h1.elim | skip
          case value u => obtain ⟨M, ⟨Ms, h2, hl, rfl⟩, h3⟩ := h1; exact ih _ _ _ (h3.perm (hp2 Ms hl)) (hk _ _ ⟨Ms, h2, hl, rfl⟩)
          case skip => obtain ⟨M, ⟨Ms, h2, hl, rfl⟩, h3⟩ := h1; exact ih _ _ _ (h3.perm (hp2 Ms hl)) (hk _ _ ⟨Ms, h2, hl, rfl⟩)
          case enter f args =>
            obtain ⟨rfl, h2⟩ := h1
            refine h2.mono fun e w'' ⟨v, M, he, ⟨Ms, h3, hl, hM⟩, h4⟩ => ?_
            subst he; subst hM
            exact ih _ _ _ (h4.perm (hp2 Ms hl)) (hk _ _ ⟨Ms, h3, hl, rfl⟩)
        | halt x w' => simp only [outcU] at h1
    · rename_i hwt
      simp only [hwt] at hk
      exact ih _ _ _ hw (hk undef m ⟨rfl, rfl⟩)
theorem wpAnyLM_first {n : Nat} {L : Array Bool → Act → (Nat → List It) → Prop} {i : Nat} {oi : Oper} (hi : ops[i]? = some oi) (hsel : ∀ (j : Nat) (o : Oper) cs b, ops[j]? = some o → o.op ≠ .select cs b)
    (htw : ∀ listed, Closed md ops listed → HeadInv md ops n listed → ∀ i, i < n → listed.getD i true = false → ∀ t, n ≤ t → t ∉ Region.ready md ops listed) (hin : i < n) (hdone : ∀ listed a m, L listed a m → ∀ j ∈ Region.ready md ops listed, n ≤ j)
    (hcls : ∀ (j : Nat) (listed : Array Bool), j ≠ i → Closed md ops listed → (∀ k, k < i → listed.getD k true = true) → listed.getD i true = false → j ∈ Region.ready md ops listed → ∀ d ∈ cls j, d ∉ cls i) :
    ∀ (f : Nat) (listed : Array Bool) (a : Act) (m : Nat → List It), Closed md ops listed → HeadInv md ops n listed → (∀ k, k < i → listed.getD k true = true) →
      (∀ j oj, ops[j]? = some oj → j ≠ i → listed.getD j true = false → (∀ e ∈ oj.after, Region.binds md e = true → e.on ≠ i) → oi.apart ops oj = true) →
      i ∈ Region.ready md ops listed → rOpM P E B0 ro ops cls tbl i (wpAnyLM P E B0 ro ops cls tbl md n L f (listed.setIfInBounds i true)) a m → wpAnyLM P E B0 ro ops cls tbl md n L (f + 1) listed a m := by
  intro f
  induction f with
  | zero =>
    intro listed a m hcl inv _ _ hr H
    have hun := (mem_ready.1 hr).1
    refine ⟨fun h => (by rw [h] at hr; cases hr), fun j hj => ?_⟩
    have hjn : j < n := by
      rcases Nat.lt_or_ge j n with h | h
      · exact h
      · exact absurd hj (htw listed hcl inv i hin hun j h)
    refine ⟨hjn, ?_⟩
    by_cases hji : j = i
    · subst hji; exact H
    · have hjr := ready_mono hj hji
      obtain ⟨hs, ho⟩ := H oi hi
      obtain ⟨v, m', hv⟩ := safe_outM hs
      have := hdone _ _ _ (ho v m' hv) j hjr
      omega
  | succ f ih =>
    intro listed a m hcl inv hpre hfree hr H
    have hun := (mem_ready.1 hr).1
    refine ⟨fun h => (by rw [h] at hr; cases hr), fun j hj => ?_⟩
    have hjn : j < n := by
      rcases Nat.lt_or_ge j n with h | h
      · exact h
      · exact absurd hj (htw listed hcl inv i hin hun j h)
    refine ⟨hjn, ?_⟩
    by_cases hji : j = i
    · subst hji; exact H
    · obtain ⟨hjun, oj, hoj, hall⟩ := mem_ready.1 hj
      have hnot : ∀ e ∈ oj.after, Region.binds md e = true → e.on ≠ i := fun e he hb heq => by
        have h1 := hall e he hb
        rw [heq, getD_both hun] at h1
        cases h1
      have h1 := rOpM_mono (fun a' m' h => (h.2 j (ready_mono hj hji)).2) H
      have f1 := hfree j oj hoj hji hjun hnot
      have f2 := hcls j listed hji hcl hpre hun hj
      have h2 := rOp_swapM hi hoj f1 f2 (fun cs b => hsel i oi cs b hi) (fun cs b => hsel j oj cs b hoj) h1
      refine rOpM_mono (fun a' m' h3 => ih (listed.setIfInBounds j true) a' m' (hcl.set hj) (inv.set hj hjn) (fun k hk => ?_) (fun k ok hk hki hun hno => ?_) (ready_mono hr (Ne.symm hji)) ?_) h2
      · by_cases hjk : j = k
        · subst hjk
          rcases Nat.lt_or_ge j listed.size with h2 | h2
          · simp [h2]
          · simp [h2]
        · rw [getD_set_ne true hjk]; exact hpre k hk
      · refine hfree k ok hk hki ?_ hno
        by_cases hjk : j = k
        · subst hjk; exact hjun
        · rw [getD_set_ne true hjk] at hun; exact hun
      · rw [Array.setIfInBounds_comm _ _ hji]
        exact h3
theorem wpAnyLM_lex {n g : Nat} {Q : Act → (Nat → List It) → Prop} (hs : Region.noSelect ops = true) (hcl : clsM md ops cls = true) (hsk : Region.sinkB md ops n = true) (hch : Region.chainB md ops n = true) (hn : n < ops.size) :
    ∀ (l : List Oper) (k : Nat) (listed : Array Bool) (a : Act) (m : Nat → List It), Closed md ops listed → HeadInv md ops n listed → (∀ j, j < l.length → l[j]? = ops[k + j]?) → k + l.length = n → (∀ j, j < k → listed.getD j true = true) →
    Region.lexHead md ops g l.length k listed = true → wpM P E B0 ro ops cls tbl Q l k a m → wpAnyLM P E B0 ro ops cls tbl md n (fun listed' a' m' => Region.seqB md ops g n listed' = true ∧ Q a' m') l.length listed a m
  | [], k, listed, a, m, _, _, _, hk, _, hB, h => by
    have : k = n := by simpa using hk
    subst this
    exact ⟨by simpa [Region.lexHead] using hB, h⟩
  | o :: l, k, listed, a, m, hC, inv, hl, hkn, hk, hB, h => by
    have h0 : ops[k]? = some o := by simpa using (hl 0 (by simp)).symm
    simp only [List.length_cons, Region.lexHead, Bool.and_eq_true] at hB
    obtain ⟨⟨hr, hf⟩, hB'⟩ := hB
    have hr' : k ∈ Region.ready md ops listed := by simpa using hr
    have hlt : k < n := by simp only [List.length_cons] at hkn; omega
    refine wpAnyLM_first h0 (Region.noSelect_spec hs) (fun listed _ inv i hi hun t ht => tail_waits hsk hch hn inv _ i rfl hi hun t ht) hlt (fun listed' a' m' hL => seqB_ready hL.1) (fun j ld hjk hCl hpre hun hj d hd hdi => ?_) l.length listed a m hC inv hk (fun j oj hj hjk hun hno => Region.free_spec h0 hf j oj hj hjk hun hno) hr' ?_
    · obtain ⟨hjun, oj, hoj, hall⟩ := mem_ready.1 hj
      have hle := lex_lt hpre hjun
      have hks : k < ld.size := by
        rcases Nat.lt_or_ge k ld.size with h' | h'
        · exact h'
        · simp [Array.getD, Nat.not_lt.2 h'] at hun
      obtain ⟨o2, h2, e, he, hb, hne⟩ := reach_not hCl hun hks _ _ (clsM_spec hcl hoj (show k < j by omega) hd hdi)
      rw [hoj] at h2
      obtain rfl := Option.some.inj h2
      rw [hall e he hb] at hne; cases hne
    · refine rOpM_mono (fun a' m' h' => wpAnyLM_lex hs hcl hsk hch hn l (k + 1) _ a' m' (hC.set hr') (inv.set hr' hlt) (fun j hj => by have := hl (j + 1) (by simp; omega); simpa [Nat.add_assoc, Nat.add_comm 1 j] using this) (by simp only [List.length_cons] at hkn; omega) (fun j hj => ?_) hB' h') h
      rcases Nat.lt_or_ge j k with h1 | h1
      · rw [getD_set_ne true (show k ≠ j by omega)]; exact hk j h1
      · obtain rfl : j = k := by omega
        rcases Nat.lt_or_ge j listed.size with h2 | h2
        · simp [h2]
        · simp [h2]
/-- a drawn region of operations that change memory, and behind operation n a tail in one order -/
theorem wc_regMT {N : Nat} {fr : List (Nat × Value)} {hp : List It} {Kn Kr : St → Prop} {Kx : List (Nat × (St → Prop))} {id : Nat} {l : List Oper} (n : Nat) (all : List Nat) (cls : Nat → List Nat) (tbl : Nat → List (List It) → Value → List (List It) → Prop) (B0 : List It) (m0 : Nat → List It)
    (hm : P.follows .mixedOrders = true) (hB : Region.lexTailB .any l.toArray n = true) (hcl : clsM .any l.toArray cls = true) (hn : all.Nodup) (hcs : ∀ i, (cls i).Nodup ∧ ∀ c ∈ cls i, c ∈ all) (hperm : hp.Perm (Hp B0 all m0))
    (h : HdM P N E B0 ro l.toArray cls tbl (fun fr m => ∀ H, H = Hp B0 all m → WO P N E l.toArray (l.drop n) ⟨fr, H, ro⟩ Kn) 0 (l.take n) fr m0) : WC P N E (.region id l.toArray true) ⟨fr, hp, ro⟩ Kn Kx Kr := fun a w ok => by
  simp only [Region.lexTailB, Bool.and_eq_true, decide_eq_true_eq] at hB
  obtain ⟨⟨⟨⟨hsel, hnn⟩, hs⟩, hc⟩, hlex⟩ := hB
  have hn' : n < l.length := by simpa using hnn
  have htl : (l.take n).length = n := by simp; omega
  have hdl : (l.drop n).length = l.toArray.size - n := by simp
  have inv0 : HeadInv .any l.toArray n (Array.replicate l.toArray.size false) :=
    ⟨by simp, fun j oj _ hl => (by rw [getD_replicate_false] at hl; cases hl), fun t _ ht => getD_in (by simpa using ht) (getD_replicate_false _ _)⟩
  have hw : Sat E.B E.S E.T (Hp B0 all m0) ro _ := (ok.s.drawn (w.drawn + 1)).perm hperm
  refine wp_region_any hm ?_
  have H := wpAnyLM_lex (P := P) (E := E) (B0 := B0) (ro := ro) (tbl := tbl) (md := .any) (g := l.toArray.size - n) hsel hcl hs hc hnn (l.take n) 0 (Array.replicate l.toArray.size false) a m0 closed0 inv0 (fun j hj => by
      have hj' : j < n := by rw [htl] at hj; exact hj
      simp [hj']) (by simpa using htl) (fun j hj => by omega) (by rw [htl]; exact hlex)
    (h.sound (Q := fun a m => ∃ fr', WO P N E l.toArray (l.drop n) ⟨fr', Hp B0 all m, ro⟩ Kn ∧ Holds N fr' a) ⟨_, _, hw⟩ (fun fr a m hk ha => ⟨fr, hk _ rfl, ha⟩) (fun j hj => by
      have hj' : j < n := by rw [htl] at hj; exact hj
      simp [hj']) a ok.h)
  have := wpAny_of_LM (ro := ro) (tbl := tbl) hn hcs (g := l.toArray.size - n) (Q' := post N E Kn Kx Kr) (fun listed a' m w' hsat hL => by
    obtain ⟨h1, fr', h2, h3⟩ := hL
    have := wpAny_of_seq (md := .any) (Q' := post N E Kn Kx Kr) (l.drop n) n listed a' w' (fun j => by simp [List.getElem?_drop]) (by rw [hdl]; exact h1) (h2 _ (fun st' a w hk ok' => ⟨st', hk, ok'⟩) a' w' ⟨h3, hsat⟩)
    rwa [hdl] at this) _ _ _ _ _ hw H
  rw [htl, show n + (l.toArray.size - n) = l.toArray.size by omega] at this
  exact this
/-- a region that one operation cuts in two: everything ahead of it comes ahead, everything behind it behind -/
def pivB (md : Region.Mode) (ops : Array Oper) (n : Nat) : Bool := decide (n < ops.size) && Region.sinkB md ops n && ((List.range ops.size).all fun t => decide (t ≤ n) || reachB md ops n ops.size t)
theorem piv_waits {n : Nat} {listed : Array Bool} (hp : pivB md ops n = true) (hC : Closed md ops listed) (inv : HeadInv md ops n listed) :
    ∀ (d i : Nat), n - i = d → i < n → listed.getD i true = false → ∀ t, n ≤ t → t ∉ Region.ready md ops listed := by
  simp only [pivB, Bool.and_eq_true, decide_eq_true_eq] at hp
  obtain ⟨⟨hn, hs⟩, hr⟩ := hp
  intro d
  induction d using Nat.strongRecOn with
  | _ d ih =>
    intro i hd hi hun t ht hrd
    obtain ⟨_, ot, hot, hall⟩ := mem_ready.1 hrd
    have htlt : t < ops.size := (Array.getElem?_eq_some_iff.1 hot).1
    by_cases htn : t = n
    · subst htn
      have h1 := List.all_eq_true.1 hs i (List.mem_range.2 hi)
      obtain ⟨j, hj, hj2⟩ := List.any_eq_true.1 h1
      simp only [Bool.and_eq_true, decide_eq_true_eq] at hj2
      obtain ⟨oj, hoj, e, he, hb, hon⟩ := Region.waitsFor_spec hj2.2
      have hjle : j ≤ t := by have := List.mem_range.1 hj; omega
      by_cases hjt : j = t
      · subst hjt
        have : oj = ot := Option.some.inj (hoj.symm.trans hot)
        subst this
        have h2 := hall e he hb
        rw [hon, getD_both hun] at h2
        cases h2
      · cases hl : listed.getD j false with
        | true =>
          have h2 := inv.closed j oj hoj hl e he hb
          rw [hon, getD_both hun] at h2
          cases h2
        | false =>
          have hjs : j < listed.size := by rw [inv.size]; omega
          exact ih (t - j) (by omega) j rfl (by omega) (getD_in hjs hl) t (Nat.le_refl _) hrd
    · have h1 := List.all_eq_true.1 hr t (List.mem_range.2 htlt)
      simp only [Bool.or_eq_true, decide_eq_true_eq] at h1
      have h2 : reachB md ops n ops.size t = true := by rcases h1 with h1 | h1 <;> first | omega | exact h1
      obtain ⟨o2, h3, e, he, hb, hne⟩ := reach_not hC (inv.tail n (Nat.le_refl _) hn) (by rw [inv.size]; exact hn) _ _ h2
      rw [hot] at h3
      obtain rfl := Option.some.inj h3
      rw [hall e he hb] at hne; cases hne
theorem wpAnyLM_lexP {n g : Nat} {Q : Act → (Nat → List It) → Prop} (hs : Region.noSelect ops = true) (hcl : clsM md ops cls = true) (hp : pivB md ops n = true) :
    ∀ (l : List Oper) (k : Nat) (listed : Array Bool) (a : Act) (m : Nat → List It), Closed md ops listed → HeadInv md ops n listed → (∀ j, j < l.length → l[j]? = ops[k + j]?) → k + l.length = n → (∀ j, j < k → listed.getD j true = true) →
    Region.lexFrom md ops (l.length + g) k listed = true → wpM P E B0 ro ops cls tbl Q l k a m → wpAnyLM P E B0 ro ops cls tbl md n (fun listed' a' m' => Region.lexFrom md ops g n listed' = true ∧ Closed md ops listed' ∧ HeadInv md ops n listed' ∧ (∀ j, j < n → listed'.getD j true = true) ∧ Q a' m') l.length listed a m
  | [], k, listed, a, m, hC, inv, _, hk, hpre, hB, h => by
    have : k = n := by simpa using hk
    subst this
    exact ⟨by simpa using hB, hC, inv, hpre, h⟩
  | o :: l, k, listed, a, m, hC, inv, hl, hkn, hk, hB, h => by
    have h0 : ops[k]? = some o := by simpa using (hl 0 (by simp)).symm
    rw [List.length_cons, show l.length + 1 + g = (l.length + g) + 1 by omega] at hB
    simp only [Region.lexFrom, Bool.and_eq_true] at hB
    obtain ⟨⟨hr, hf⟩, hB'⟩ := hB
    have hr' : k ∈ Region.ready md ops listed := by simpa using hr
    have hlt : k < n := by simp only [List.length_cons] at hkn; omega
    refine wpAnyLM_first h0 (Region.noSelect_spec hs) (fun listed hC inv i hi hun t ht => piv_waits hp hC inv _ i rfl hi hun t ht) hlt (fun listed' a' m' hL j hj => lex_lt hL.2.2.2.1 (mem_ready.1 hj).1) (fun j ld hjk hCl hpre hun hj d hd hdi => ?_) l.length listed a m hC inv hk (fun j oj hj hjk hun hno => Region.free_spec h0 hf j oj hj hjk hun hno) hr' ?_
    · obtain ⟨hjun, oj, hoj, hall⟩ := mem_ready.1 hj
      have hle := lex_lt hpre hjun
      have hks : k < ld.size := by
        rcases Nat.lt_or_ge k ld.size with h' | h'
        · exact h'
        · simp [Array.getD, Nat.not_lt.2 h'] at hun
      obtain ⟨o2, h2, e, he, hb, hne⟩ := reach_not hCl hun hks _ _ (clsM_spec hcl hoj (show k < j by omega) hd hdi)
      rw [hoj] at h2
      obtain rfl := Option.some.inj h2
      rw [hall e he hb] at hne; cases hne
    · refine rOpM_mono (fun a' m' h' => wpAnyLM_lexP hs hcl hp l (k + 1) _ a' m' (hC.set hr') (inv.set hr' hlt) (fun j hj => by have := hl (j + 1) (by simp; omega); simpa [Nat.add_assoc, Nat.add_comm 1 j] using this) (by simp only [List.length_cons] at hkn; omega) (fun j hj => ?_) hB' h') h
      rcases Nat.lt_or_ge j k with h1 | h1
      · rw [getD_set_ne true (show k ≠ j by omega)]; exact hk j h1
      · obtain rfl : j = k := by omega
        rcases Nat.lt_or_ge j listed.size with h2 | h2
        · simp [h2]
        · simp [h2]
theorem clsM_nil (md : Region.Mode) (ops : Array Oper) : clsM md ops (fun _ => []) = true := by
  unfold clsM
  simp
/-- a drawn region of which operation n, a call, comes behind all ahead of it and ahead of all behind it; what the call leaves may be only read from then on -/
theorem wc_regP {N : Nat} {fr : List (Nat × Value)} {hp F : List It} {Kn Kr : St → Prop} {Kx : List (Nat × (St → Prop))} {id : Nat} {l : List Oper} (n : Nat) (all : List Nat) (cls : Nat → List Nat)
    {f : FuncId} [HasBody P f] {vs : List Value} {L : List It} {R : List Ro} {Post : Value → List It → List Ro → Prop} {args : List Operand} {ats : Array TypeId} {dst : Option Tmp} {ty : TypeId} {pos : String} {af : Array Edge}
    (hF : Fn P f vs.toArray L R Post) (hs : hp.Perm (L ++ F)) (hrs : ∀ r ∈ R, r ∈ ro)
    (hm : P.follows .mixedOrders = true) (hB : Region.lexB .any l.toArray = true) (hP : pivB .any l.toArray n = true) (hcl : clsM .any l.toArray cls = true) (hn : all.Nodup) (hcs : ∀ i, (cls i).Nodup ∧ ∀ c ∈ cls i, c ∈ all)
    (ho : l[n]? = some ⟨dst, .call ⟨.value (.func f), args.toArray, ats⟩, ty, pos, af, none⟩) (hd : dstOk dst N = true)
    (h : HdM P N E hp ro l.toArray (fun _ => []) (fun _ _ _ _ => False) (fun fr' _ => opdL fr' args = some vs ∧ ∀ v L' R', Post v L' R' → ∀ RR, RR = R' ++ ro → ∃ B0 tbl m0, (L' ++ F).Perm (Hp B0 all m0) ∧
      HdM P N E B0 RR l.toArray cls tbl (fun fr m => ∀ H, H = Hp B0 all m → Kn ⟨fr, H, RR⟩) (n + 1) (l.drop (n + 1)) (putF dst v fr') m0) 0 (l.take n) fr (fun _ => [])) : WC P N E (.region id l.toArray true) ⟨fr, hp, ro⟩ Kn Kx Kr := fun a w ok => by
  simp only [Region.lexB, Bool.and_eq_true] at hB
  have hP' := hP
  simp only [pivB, Bool.and_eq_true, decide_eq_true_eq] at hP'
  obtain ⟨⟨hnn, _⟩, hreach⟩ := hP'
  have hn' : n < l.length := by simpa using hnn
  have htl : (l.take n).length = n := by simp; omega
  have hdl : (l.drop (n + 1)).length = l.toArray.size - n - 1 := by simp; omega
  have inv0 : HeadInv .any l.toArray n (Array.replicate l.toArray.size false) :=
    ⟨by simp, fun j oj _ hl => (by rw [getD_replicate_false] at hl; cases hl), fun t _ ht => getD_in (by simpa using ht) (getD_replicate_false _ _)⟩
  have hw : Sat E.B E.S E.T (Hp hp [] (fun _ => [])) ro { w with drawn := w.drawn + 1 } := by
    have := ok.s.drawn (w.drawn + 1)
    simpa [Hp] using this
  refine wp_region_any hm ?_
  have H := wpAnyLM_lexP (P := P) (E := E) (B0 := hp) (ro := ro) (cls := fun _ => []) (tbl := fun _ _ _ _ => False) (md := .any) (g := l.toArray.size - n) hB.1 (clsM_nil _ _) hP (l.take n) 0 (Array.replicate l.toArray.size false) a (fun _ => []) closed0 inv0 (fun j hj => by
      have hj' : j < n := by rw [htl] at hj; exact hj
      simp [hj']) (by simpa using htl) (fun j hj => by omega) (by rw [htl, show n + (l.toArray.size - n) = l.toArray.size by omega]; exact hB.2)
    (h.sound (Q := fun a _ => ∃ fr', (opdL fr' args = some vs ∧ ∀ v L' R', Post v L' R' → ∀ RR, RR = R' ++ ro → ∃ B0 tbl m0, (L' ++ F).Perm (Hp B0 all m0) ∧
      HdM P N E B0 RR l.toArray cls tbl (fun fr m => ∀ H, H = Hp B0 all m → Kn ⟨fr, H, RR⟩) (n + 1) (l.drop (n + 1)) (putF dst v fr') m0) ∧ Holds N fr' a) ⟨[], { w with drawn := w.drawn + 1 }, by simpa [Hp] using hw⟩ (fun fr a m hk ha => ⟨fr, hk, ha⟩) (fun j hj => by
      have hj' : j < n := by rw [htl] at hj; exact hj
      simp [hj']) a ok.h)
  have := wpAny_of_LM (ro := ro) (all := []) (tbl := fun _ _ _ _ => False) (by simp) (fun i => ⟨List.nodup_nil, fun c hc => by cases hc⟩) (g := l.toArray.size - n) (Q' := post N E Kn Kx Kr) (fun listed a' m' w' hsat hL => by
    obtain ⟨h1, hC, inv, hpre, fr', ⟨hargs, hk⟩, ha⟩ := hL
    have hsat' : Sat E.B E.S E.T hp ro w' := by simpa [Hp] using hsat
    rw [show l.toArray.size - n = (l.toArray.size - n - 1) + 1 by omega] at h1 ⊢
    simp only [Region.lexFrom, Bool.and_eq_true] at h1
    obtain ⟨⟨hr, hf⟩, h1'⟩ := h1
    have hr' : n ∈ Region.ready .any l.toArray listed := by simpa using hr
    refine ⟨fun h0 => (by rw [h0] at hr'; cases hr'), fun i hi => ?_⟩
    have hin : i = n := by
      obtain ⟨hiun, oi, hoi, hall⟩ := mem_ready.1 hi
      have hge := lex_lt hpre hiun
      rcases Nat.eq_or_lt_of_le hge with h2 | h2
      · exact h2.symm
      · have h3 := List.all_eq_true.1 hreach i (List.mem_range.2 (Array.getElem?_eq_some_iff.1 hoi).1)
        simp only [Bool.or_eq_true, decide_eq_true_eq] at h3
        have h4 : reachB .any l.toArray n l.toArray.size i = true := by rcases h3 with h3 | h3 <;> first | omega | exact h3
        obtain ⟨o2, h5, e, he, hb, hne⟩ := reach_not hC (inv.tail n (Nat.le_refl _) hnn) (by rw [inv.size]; exact hnn) _ _ h4
        rw [hoi] at h5
        obtain rfl := Option.some.inj h5
        rw [hall e he hb] at hne; cases hne
    subst hin
    unfold wpOp
    have ho' : l.toArray[i]? = some ⟨dst, .call ⟨.value (.func f), args.toArray, ats⟩, ty, pos, af, none⟩ := by simpa using ho
    simp only [ho']
    rw [if_pos (by simp [Region.wanted])]
    refine .inl ?_
    unfold Oper.wp
    rw [HasBody.enter w', ha.evalL hargs]
    refine (hF w' (hsat'.start hs hrs)).mono fun e w'' ⟨v, L', R', he, hPo, hS⟩ => ?_
    subst he
    obtain ⟨B0, tbl, m0, hpm, hK⟩ := hk v L' R' hPo _ rfl
    have hw2 : Sat E.B E.S E.T (Hp B0 all m0) (R' ++ ro) w'' := (hsat'.step hs (fun b hb => by
      obtain ⟨r, h1, h2⟩ := mem_blks.1 hb; exact mem_blks.2 ⟨r, hrs r h1, h2⟩) hS).perm hpm
    refine wpAny_of_M (ro := R' ++ ro) (tbl := tbl) (Q := fun a m => ∃ fr', Kn ⟨fr', Hp B0 all m, R' ++ ro⟩ ∧ Holds N fr' a) hn hcs (fun a m w' hs ⟨fr', hk, ha⟩ => ⟨_, hk, ha, hs⟩) _ _ _ m0 _ hw2 ?_
    have := wpAnyM_lex (P := P) (E := E) (B0 := B0) (ro := R' ++ ro) (tbl := tbl) (md := .any) hB.1 hcl (l.drop (i + 1)) (i + 1) (listed.setIfInBounds i true) (a'.put dst v) m0 (hC.set hr') (by simp [inv.size]) (fun j => by simp [List.getElem?_drop]) (fun j hj => by
      rcases Nat.lt_or_ge j i with h1 | h1
      · rw [getD_set_ne true (show i ≠ j by omega)]; exact hpre j h1
      · obtain rfl : j = i := by omega
        rcases Nat.lt_or_ge j listed.size with h2 | h2
        · simp [h2]
        · simp [h2]) (by rw [hdl]; exact h1')
      (hK.sound (Q := fun a m => ∃ fr', Kn ⟨fr', Hp B0 all m, R' ++ ro⟩ ∧ Holds N fr' a) ⟨_, _, hw2⟩ (fun fr a m hk ha => ⟨fr, hk _ rfl, ha⟩) (fun j _ => by simp [List.getElem?_drop]) _ (ha.putF hd v))
    rw [hdl] at this
    exact this) _ _ _ _ _ hw H
  rw [htl, show n + (l.toArray.size - n) = l.toArray.size by omega] at this
  exact this
theorem wc_regM {N : Nat} {fr : List (Nat × Value)} {hp : List It} {Kn Kr : St → Prop} {Kx : List (Nat × (St → Prop))} {id : Nat} {l : List Oper} (all : List Nat) (cls : Nat → List Nat) (tbl : Nat → List (List It) → Value → List (List It) → Prop) (B0 : List It) (m0 : Nat → List It)
    (hm : P.follows .mixedOrders = true) (hB : Region.lexB .any l.toArray = true) (hcl : clsM .any l.toArray cls = true) (hn : all.Nodup) (hcs : ∀ i, (cls i).Nodup ∧ ∀ c ∈ cls i, c ∈ all) (hperm : hp.Perm (Hp B0 all m0))
    (h : HdM P N E B0 ro l.toArray cls tbl (fun fr m => ∀ H, H = Hp B0 all m → Kn ⟨fr, H, ro⟩) 0 l fr m0) : WC P N E (.region id l.toArray true) ⟨fr, hp, ro⟩ Kn Kx Kr := fun a w ok => by
  simp only [Region.lexB, Bool.and_eq_true] at hB
  have hw : Sat E.B E.S E.T (Hp B0 all m0) ro _ := (ok.s.drawn (w.drawn + 1)).perm hperm
  refine wp_region_any hm (wpAny_of_M (ro := ro) (tbl := tbl) (Q := fun a m => ∃ fr', Kn ⟨fr', Hp B0 all m, ro⟩ ∧ Holds N fr' a) hn hcs (fun a m w' hs ⟨fr', hk, ha⟩ => ⟨_, hk, ha, hs⟩) _ _ a m0 _ hw ?_)
  have := wpAnyM_lex (P := P) (E := E) (B0 := B0) (ro := ro) (tbl := tbl) (md := .any) hB.1 hcl l 0 (Array.replicate l.toArray.size false) a m0 closed0 (by simp) (by simp) (fun j hj => by omega) (by simpa using hB.2)
    (h.sound (Q := fun a m => ∃ fr', Kn ⟨fr', Hp B0 all m, ro⟩ ∧ Holds N fr' a) ⟨_, _, hw⟩ (fun fr a m hk ha => ⟨fr, hk _ rfl, ha⟩) (fun j _ => by simp) a ok.h)
  simpa using this
end
def aslL : List (Nat × List Nat) → Nat → List Nat
  | [], _ => []
  | (i, c) :: l, k => bif Nat.beq i k then c else aslL l k
theorem aslL_ok {all : List Nat} : ∀ {l : List (Nat × List Nat)}, (l.all fun p => decide p.2.Nodup && p.2.all all.contains) = true → ∀ i, (aslL l i).Nodup ∧ ∀ c ∈ aslL l i, c ∈ all
  | [], _, _ => ⟨List.nodup_nil, fun c h => by cases h⟩
  | (i, c) :: l, hl, k => by
    simp only [List.all_cons, Bool.and_eq_true, decide_eq_true_eq] at hl
    unfold aslL
    cases hb : Nat.beq i k with
    | true =>
      simp only [cond_true]
      refine ⟨hl.1.1, fun d hd => ?_⟩
      have := List.all_eq_true.1 hl.1.2 d hd
      simpa using this
    | false => simp only [cond_false]; exact aslL_ok hl.2 k
def looks (l : List (Nat × List It)) : List Nat → Option (List (List It))
  | [] => some []
  | c :: cs => match look l c, looks l cs with
    | some M, some Ms => some (M :: Ms)
    | _, _ => none
def setls (l : List (Nat × List It)) : List Nat → List (List It) → List (Nat × List It)
  | c :: cs, M :: Ms => setls (setl l c M) cs Ms
  | _, _ => l
theorem looks_map {l : List (Nat × List It)} : ∀ {cs : List Nat} {Ls : List (List It)}, looks l cs = some Ls → cs.map (fm l) = Ls
  | [], _, h => by simp only [looks, Option.some.injEq] at h; exact h
  | c :: cs, Ls, h => by
    unfold looks at h
    split at h
    · rename_i M Ms h1 h2
      simp only [Option.some.injEq] at h
      subst h
      rw [List.map_cons, looks_map h2]
      unfold fm
      rw [h1]; rfl
    · cases h
theorem fm_setls : ∀ (cs : List Nat) (Ms : List (List It)) (l : List (Nat × List It)), fm (setls l cs Ms) = updL (fm l) cs Ms
  | [], _, _ => by unfold setls updL; rfl
  | _ :: _, [], _ => by unfold setls updL; rfl
  | c :: cs, M :: Ms, l => by
    show fm (setls (setl l c M) cs Ms) = updL (upd (fm l) c M) cs Ms
    rw [fm_setls cs Ms, fm_set]
section
variable {P : Program} {N : Nat} {E : Env} {B0 : List It} {ro : List Ro} {ops : Array Oper} {cls : Nat → List Nat} {tbl : Nat → List (List It) → Value → List (List It) → Prop} {K : List (Nat × Value) → (Nat → List It) → Prop} {k : Nat} {fr : List (Nat × Value)} {l : List (Nat × List It)} {m : Nat → List It} {dst : Option Tmp} {op : Op} {ty : TypeId} {pos : String} {af : Array Edge} {rest : List Oper} {cs : List Nat} {Ls : List (List It)} {g : Option (Nat × Bool)} {j s : Nat} {c : Bool} {p : Prop} {d : Decidable p}
theorem hm_eff (hc : cls k = cs) (hne : cs ≠ []) (hm : looks l cs = some Ls) (hd : dstOk dst N = true) (hg : GOk ops fr g) (ho : ∀ a, Holds N fr a → Outc P E B0 ro ⟨dst, op, ty, pos, af, g⟩ a Ls.flatten (fun v M => ∃ Ms, tbl k Ls v Ms ∧ Ms.length = cs.length ∧ M = Ms.flatten))
    (hin : ∃ v Ms, tbl k Ls v Ms ∧ Ms.length = cs.length) (h : ∀ v Ms, tbl k Ls v Ms → Ms.length = cs.length → HdM P N E B0 ro ops cls tbl K (k + 1) rest (putF dst v fr) (fm (setls l cs Ms))) : HdM P N E B0 ro ops cls tbl K k (⟨dst, op, ty, pos, af, g⟩ :: rest) fr (fm l) :=
  .eff hc hne (looks_map hm) hd hg ho hin (fun v Ms h1 h2 => by rw [← fm_setls]; exact h v Ms h1 h2)
theorem am_gt (hg : gslot ops j = some s) (hs : fget fr s = some (.bool (@decide p d))) (hp' : p) (h : HdM P N E B0 ro ops cls tbl K k (⟨dst, op, ty, pos, af, some (j, c)⟩ :: rest) ((s, .bool true) :: fr) m) : HdM P N E B0 ro ops cls tbl K k (⟨dst, op, ty, pos, af, some (j, c)⟩ :: rest) fr m :=
  .dec hs (fun _ => h) (fun hn => absurd hp' hn)
theorem am_gf (hg : gslot ops j = some s) (hs : fget fr s = some (.bool (@decide p d))) (hp' : ¬p) (h : HdM P N E B0 ro ops cls tbl K k (⟨dst, op, ty, pos, af, some (j, c)⟩ :: rest) ((s, .bool false) :: fr) m) : HdM P N E B0 ro ops cls tbl K k (⟨dst, op, ty, pos, af, some (j, c)⟩ :: rest) fr m :=
  .dec hs (fun h => absurd h hp') (fun _ => h)
theorem outc_bsl {T : TypeId} {n e sz by_ : Nat} {l : List (Nat × Operand)} {xs : List (List Value)} [hT : TSl P T e sz by_] (hr : Rws' fr sz 0 l xs) (hn : Nat.beq l.length n = true) (hz : Nat.ble (n * sz) 1000000 = true) (hm : Nat.ble n 1000000 = true) :
    ∀ a, Holds N fr a → Outc P E B0 ro ⟨dst, .buildSlice T n l.toArray, ty, pos, af, g⟩ a [] (fun v M => ∃ b, v = .slice (some ⟨b, 0, none⟩) n n ∧ M = [.own e sz (some ⟨b, 0, none⟩) n n xs]) := fun a hh F w hw => by
  obtain ⟨i, z, h1, h2, h3, h4, h5, h6, h7⟩ := sl_und hT.h
  have hn := Nat.eq_of_beq_eq_true hn
  have hz := Nat.le_of_ble_eq_true hz
  have hm := Nat.le_of_ble_eq_true hm
  have hfill := fill_rws hr hh ((List.range (n * sz)).map fun j => z.cells[j % z.cells.size]!) (by simp [hn])
  have hrows := hr.ok
  simp only [Nat.zero_mul, List.take_zero, List.nil_append] at hfill
  have ex : (execOp a.eval ⟨dst, .buildSlice T n l.toArray, ty, pos, af, g⟩).run P w = .ok (.value (.slice (some ⟨w.heap.size, 0, none⟩) n n)) (w.alloc (.cells xs.flatten.toArray e)) := by
    have hbig : ¬ n * sz > 2 ^ 24 := by omega
    have e0 : (List.map (fun (x : Nat × Operand) => match x with | (i, x) => (i, a.eval x)) l) = l.map (fun p => (p.1, a.eval p.2)) := rfl
    have hsz : (sizeOf e).run P w = .ok sz w := by simp [sizeOf, typeInfo, h2, h5, go_sem]
    have hzv : (zeroValue e).run P w = .ok z w := by simp [zeroValue, typeInfo, h2, h3, go_sem]
    simp only [execOp, List.map_toArray, e0]
    generalize (l.map fun p => (p.1, a.eval p.2)) = parts at hfill ⊢
    by_cases h0 : n * sz = 0
    · have hr0 : ∀ f : Nat → Value, (Array.range (n * sz)).map f = #[] := fun f => by rw [h0]; simp
      have hl0 : ((List.range (n * sz)).map fun j => z.cells[j % z.cells.size]!).toArray = #[] := by rw [h0]; rfl
      rw [hl0] at hfill
      simp only [Instr.buildSlice, Sem.run_bind, run_underlying h1, Result.andThen_ok, hsz, hbig, if_false, h0, if_true, Sem.run_pure]
      simp only [h0] at hr0
      simp only [hr0, hfill]
      rfl
    · have hr0 : (Array.range (n * sz)).map (fun j => z.cells[j % z.cells.size]!) = ((List.range (n * sz)).map fun j => z.cells[j % z.cells.size]!).toArray := by apply Array.ext'; simp
      simp only [Instr.buildSlice, Sem.run_bind, run_underlying h1, Result.andThen_ok, hsz, hbig, if_false, h0, Sem.run_pure, hzv, hr0, hfill]
      rfl
  rw [ex]
  refine ⟨_, ⟨w.heap.size, rfl, rfl⟩, (hw.step (w' := w.alloc (.cells xs.flatten.toArray e)) (L := []) (T' := []) (.refl _) (by simp) (Sat.one ⟨rfl, rfl, rfl, by simp, fun k hk _ => Below.heap_alloc w _ k hk⟩ ?_ (fun b hb => .inr (by simp only [It.foot, Option.map_some, Option.some.injEq] at hb; omega)))).some_ro (fun r hr => by simpa using hr)⟩
  refine ⟨by rw [hrows.2, hn], hrows.1, Nat.le_refl _, by unfold maxLen; omega, (fun h => by cases h), fun ad had => ?_⟩
  simp only [Option.some.injEq] at had
  subst had
  refine ⟨rfl, _, heap_alloc_new w _, ?_, fun j u hj => by simpa using hj⟩
  have := flat_len hrows.1.lens
  rw [hrows.2, hn] at this
  simp only [List.size_toArray, this]; omega
theorem outc_app_full {t e sz by_ n m c2 b2 o2 : Nat} {ao : Option Addr} {xs ys : List (List Value)} {x y : Operand} [TSl P t e sz by_] (hx : opd fr x = some (.slice ao n n)) (hy : opd fr y = some (.slice (some ⟨b2, o2, none⟩) m c2))
    (hr : SR ro sz ao n n xs) (h0 : 0 < m) (hb1 : n + m ≤ maxLen) (hb2 : (n + m) * by_ ≤ 140737488355328) :
    ∀ a, Holds N fr a → Outc P E B0 ro ⟨dst, .call ⟨.builtin .append, #[x, y], #[t, t]⟩, ty, pos, af, g⟩ a [.own e sz (some ⟨b2, o2, none⟩) m c2 ys] (fun v M => ∃ ao' c', v = .slice ao' (n + m) c' ∧ M = [.own e sz ao' (n + m) c' (xs ++ ys)]) := fun a hh F w hw => by
  obtain ⟨ao', c', w', h1, h2, h3, h4⟩ := app_full_run (P := P) (t := t) (ty := ty) hr hw.rds (hw.get (.refl _)) h0 hb1 hb2
  rw [exec_append (hh.eval hx) (hh.eval hy) h1]
  exact ⟨_, ⟨ao', c', rfl, rfl⟩, (hw.step (L := [_]) (T' := []) (.refl _) (by simp) (Sat.one ⟨h3.os, h3.tape, h3.output, h3.size, fun k hk _ => h3.block k hk (by simp)⟩ h2 (fun b hb => .inr (h4 b hb)))).some_ro (fun r hr => by simpa using hr)⟩
theorem outc_app_sr {t e sz by_ n c m c2 : Nat} {ao ao2 : Option Addr} {xs ys : List (List Value)} {x y : Operand} [TSl P t e sz by_] (hx : opd fr x = some (.slice ao n c)) (hy : opd fr y = some (.slice ao2 m c2))
    (hr : SR ro sz ao2 m c2 ys) (b1 : n + m ≤ maxLen) (b2 : (n + m) * by_ ≤ 140737488355328) :
    ∀ a, Holds N fr a → Outc P E B0 ro ⟨dst, .call ⟨.builtin .append, #[x, y], #[t, t]⟩, ty, pos, af, g⟩ a [.own e sz ao n c xs] (fun v M => ∃ ao' c', v = .slice ao' (n + m) c' ∧ M = [.own e sz ao' (n + m) c' (xs ++ ys)]) := fun a hh F w hw => by
  obtain ⟨ao', c', w', h1, h2, h3, h4⟩ := app_sr_run (P := P) (t := t) (ty := ty) (hw.get (.refl _) : OwnSat w e sz ao n c xs) hr hw.rds b1 b2
  rw [exec_append (hh.eval hx) (hh.eval hy) h1]
  exact ⟨_, ⟨ao', c', rfl, rfl⟩, (hw.step (L := [_]) (T' := []) (.refl _) (by simp) (Sat.regrow (y := .own e sz ao' (n + m) c' (xs ++ ys)) h3 h2 h4)).some_ro (fun r hr => by simpa using hr)⟩
theorem outc_app {t e sz by_ n c m c2 b2 o2 : Nat} {ao : Option Addr} {xs ys : List (List Value)} {x y : Operand} [TSl P t e sz by_] (hx : opd fr x = some (.slice ao n c)) (hy : opd fr y = some (.slice (some ⟨b2, o2, none⟩) m c2))
    (hb1 : n + m ≤ maxLen) (hb2 : (n + m) * by_ ≤ 140737488355328) :
    ∀ a, Holds N fr a → Outc P E B0 ro ⟨dst, .call ⟨.builtin .append, #[x, y], #[t, t]⟩, ty, pos, af, g⟩ a [.own e sz ao n c xs, .own e sz (some ⟨b2, o2, none⟩) m c2 ys] (fun v M => ∃ ao' c', v = .slice ao' (n + m) c' ∧ M = [.own e sz ao' (n + m) c' (xs ++ ys), .own e sz (some ⟨b2, o2, none⟩) m c2 ys]) := fun a hh F w hw => by
  have hS2 : OwnSat w e sz (some ⟨b2, o2, none⟩) m c2 ys := hw.get (.swap _ _ _)
  obtain ⟨_, cur, hcur, _, hseg⟩ := hS2.at_ _ rfl
  simp only at hcur hseg
  obtain ⟨ao', c', w', h1, h2, h3, h4, _⟩ := run_append_sl (P := P) (t := t) (ty := ty) (ad := ⟨b2, o2, none⟩) (c2 := c2) (hw.get (.refl _) : OwnSat w e sz ao n c xs) hS2.rows hS2.len (fun j u hj => by rw [Addr.add_lit]; simp only [World.cell?, hcur]; exact hseg j u hj) hb1 hb2
  rw [exec_append (hh.eval hx) (hh.eval hy) h1]
  exact ⟨_, ⟨ao', c', rfl, rfl⟩, (hw.step (L := [_]) (T' := []) (.refl _) (by simp) (Sat.regrow (y := .own e sz ao' (n + m) c' (xs ++ ys)) h3 h2 h4)).some_ro (fun r hr => by simpa using hr)⟩
end
end Go.Proofs.Ytlhlidmhlhodiaa

/-
  Sparse frames: maps with whole-number keys, known whole. No program in sight.
-/
namespace Go.Proofs.Ytlhlidmhlhodiaa
set_option linter.unusedSimpArgs false
set_option linter.unusedVariables false
open Go.RowKit

def mEnt (k : IntKind) : Nat → List (Int × Value) → List MapEntry
  | _, [] => []
  | n, (a, v) :: l => ⟨.int k a, v, n⟩ :: mEnt k (n + 1) l
abbrev mob (k : IntKind) (l : List (Int × Value)) : Obj := .map (mEnt k 0 l).toArray l.length
def alook : List (Int × Value) → Int → Option Value
  | [], _ => none
  | (a, v) :: l, x => if x = a then some v else alook l x
def aidx : List (Int × Value) → Int → Nat
  | [], _ => 0
  | (a, _) :: l, x => if x = a then 0 else aidx l x + 1
def aset : List (Int × Value) → Int → Value → List (Int × Value)
  | [], x, v => [(x, v)]
  | (a, u) :: l, x, v => if x = a then (a, v) :: l else (a, u) :: aset l x v
theorem mEnt_len (k : IntKind) : ∀ (l : List (Int × Value)) (n : Nat), (mEnt k n l).length = l.length
  | [], _ => rfl
  | _ :: l, n => by simp [mEnt, mEnt_len k l]
theorem alook_set (l : List (Int × Value)) (x : Int) (v : Value) (y : Int) : alook (aset l x v) y = if y = x then some v else alook l y := by
  induction l with
  | nil => simp [aset, alook]
  | cons p l ih =>
    obtain ⟨a, u⟩ := p
    unfold aset
    by_cases h : x = a
    · subst h; simp only [if_true, alook]
      by_cases h2 : y = x <;> simp [h2]
    · simp only [if_neg h, alook, ih]
      by_cases h2 : y = a
      · subst h2; simp [Ne.symm h]
      · simp [h2]
theorem aidx_lt {l : List (Int × Value)} {x : Int} {v : Value} (h : alook l x = some v) : aidx l x < l.length := by
  induction l with
  | nil => cases h
  | cons p l ih =>
    obtain ⟨a, u⟩ := p
    unfold alook at h
    unfold aidx
    by_cases h2 : x = a
    · simp [h2]
    · rw [if_neg h2] at h ⊢
      have := ih h
      simp; omega
theorem aidx_le (l : List (Int × Value)) (x : Int) : aidx l x ≤ l.length := by
  induction l with
  | nil => simp [aidx]
  | cons p l ih =>
    obtain ⟨a, u⟩ := p
    unfold aidx
    by_cases h2 : x = a
    · simp [h2]
    · rw [if_neg h2]; simp; omega
theorem aidx_none {l : List (Int × Value)} {x : Int} (h : alook l x = none) : aidx l x = l.length := by
  induction l with
  | nil => rfl
  | cons p l ih =>
    obtain ⟨a, u⟩ := p
    unfold alook at h
    unfold aidx
    by_cases h2 : x = a
    · rw [if_pos h2] at h; cases h
    · rw [if_neg h2] at h ⊢
      rw [ih h]; simp
theorem aset_none {l : List (Int × Value)} {x : Int} (v : Value) (h : alook l x = none) : aset l x v = l ++ [(x, v)] := by
  induction l with
  | nil => rfl
  | cons p l ih =>
    obtain ⟨a, u⟩ := p
    unfold alook at h
    unfold aset
    by_cases h2 : x = a
    · rw [if_pos h2] at h; cases h
    · rw [if_neg h2] at h ⊢
      rw [ih h]; rfl
theorem aset_same {l : List (Int × Value)} {x : Int} {v : Value} (h : alook l x = some v) : aset l x v = l := by
  induction l with
  | nil => cases h
  | cons p l ih =>
    obtain ⟨a, u⟩ := p
    unfold alook at h
    unfold aset
    by_cases h2 : x = a
    · rw [if_pos h2] at h ⊢; cases h; rfl
    · rw [if_neg h2] at h ⊢
      rw [ih h]
theorem aset_len_some {l : List (Int × Value)} {x : Int} {u : Value} (v : Value) (h : alook l x = some u) : (aset l x v).length = l.length := by
  induction l with
  | nil => cases h
  | cons p l ih =>
    obtain ⟨a, u⟩ := p
    unfold alook at h
    unfold aset
    by_cases h2 : x = a
    · rw [if_pos h2]; rfl
    · rw [if_neg h2] at h ⊢
      simp [ih h]
theorem aset_len_none {l : List (Int × Value)} {x : Int} (v : Value) (h : alook l x = none) : (aset l x v).length = l.length + 1 := by
  rw [aset_none v h]; simp
theorem aset_len_le (l : List (Int × Value)) (x : Int) (v : Value) : (aset l x v).length ≤ l.length + 1 := by
  cases h : alook l x with
  | none => rw [aset_len_none v h]; omega
  | some u => rw [aset_len_some v h]; omega
theorem aset_aset (l : List (Int × Value)) (x : Int) (u v : Value) : aset (aset l x u) x v = aset l x v := by
  induction l with
  | nil => simp [aset]
  | cons p l ih =>
    obtain ⟨a, z⟩ := p
    by_cases h2 : x = a
    · subst h2; simp [aset]
    · simp [aset, h2, ih]
theorem aidx_set (l : List (Int × Value)) (x : Int) (v : Value) : aidx (aset l x v) x = aidx l x := by
  induction l with
  | nil => simp [aset, aidx]
  | cons p l ih =>
    obtain ⟨a, z⟩ := p
    by_cases h2 : x = a
    · subst h2; simp [aset, aidx]
    · simp [aset, aidx, h2, ih]
theorem findNow_m (k : IntKind) (x : Int) : ∀ (l : List (Int × Value)) (n i : Nat), Instr.findNow (.int k) (.int k x) (mEnt k n l) i = some ((alook l x).map fun v => (i + aidx l x, v))
  | [], _, _ => rfl
  | (a, v) :: l, n, i => by
    have e : Instr.sameNow (.int k) (.int k x) (.int k a) = some (x == a) := by simp [Instr.sameNow]
    unfold mEnt Instr.findNow
    rw [e]
    by_cases h : x = a
    · subst h; simp [alook, aidx]
    · have hb : (x == a) = false := by simpa using h
      rw [hb]
      simp only [findNow_m k x l (n + 1) (i + 1), alook, aidx, if_neg h]
      cases alook l x <;> simp; omega
theorem mEnt_modify (k : IntKind) (x : Int) (v : Value) : ∀ (l : List (Int × Value)) (n : Nat) {u : Value}, alook l x = some u → (mEnt k n l).modify (aidx l x) (fun e => { e with key := .int k x, val := v }) = mEnt k n (aset l x v)
  | [], _, _, h => by cases h
  | (a, z) :: l, n, u, h => by
    unfold alook at h
    by_cases h2 : x = a
    · subst h2; simp [aset, aidx, mEnt]
    · rw [if_neg h2] at h
      simp only [aset, aidx, if_neg h2, mEnt, List.modify_succ_cons, mEnt_modify k x v l (n + 1) h]
theorem mEnt_modify' (k : IntKind) (x : Int) : ∀ (l : List (Int × Value)) (n : Nat) {u : Value}, alook l x = some u → (mEnt k n l).modify (aidx l x) (fun e => { e with key := .int k x }) = mEnt k n l
  | [], _, _, h => by cases h
  | (a, z) :: l, n, u, h => by
    unfold alook at h
    by_cases h2 : x = a
    · subst h2; simp [aidx, mEnt]
    · rw [if_neg h2] at h
      simp only [aidx, if_neg h2, mEnt, List.modify_succ_cons, mEnt_modify' k x l (n + 1) h]
theorem mEnt_modv (k : IntKind) (x : Int) (v : Value) : ∀ (l : List (Int × Value)) (n : Nat) {u : Value}, alook l x = some u → (mEnt k n l).modify (aidx l x) (fun e => { e with val := v }) = mEnt k n (aset l x v)
  | [], _, _, h => by cases h
  | (a, z) :: l, n, u, h => by
    unfold alook at h
    by_cases h2 : x = a
    · subst h2; simp [aset, aidx, mEnt]
    · rw [if_neg h2] at h
      simp only [aset, aidx, if_neg h2, mEnt, List.modify_succ_cons, mEnt_modv k x v l (n + 1) h]
theorem mEnt_at (k : IntKind) (x : Int) : ∀ (l : List (Int × Value)) (n : Nat) {u : Value}, alook l x = some u → (mEnt k n l)[aidx l x]? = some ⟨.int k x, u, n + aidx l x⟩
  | [], _, _, h => by cases h
  | (a, z) :: l, n, u, h => by
    unfold alook at h
    by_cases h2 : x = a
    · subst h2
      rw [if_pos rfl] at h; cases h
      simp [aidx, mEnt]
    · rw [if_neg h2] at h
      simp only [aidx, if_neg h2, mEnt, List.getElem?_cons_succ, mEnt_at k x l (n + 1) h]
      simp; omega
theorem mEnt_push (k : IntKind) (x : Int) (v : Value) : ∀ (l : List (Int × Value)) (n : Nat), mEnt k n l ++ [⟨.int k x, v, n + l.length⟩] = mEnt k n (l ++ [(x, v)])
  | [], _ => rfl
  | (a, z) :: l, n => by
    have := mEnt_push k x v l (n + 1)
    simp only [mEnt, List.cons_append, List.length_cons, List.cons.injEq, true_and]
    rw [← this]
    have e : n + (l.length + 1) = n + 1 + l.length := by omega
    rw [e]
theorem mEnt_find (k : IntKind) : ∀ (l : List (Int × Value)) (n j : Nat), j < l.length → (mEnt k n l).findIdx? (fun e => (e.born : Int) == ((n + j : Nat) : Int)) = some j
  | [], _, _, h => by simp at h
  | (a, z) :: l, n, 0, h => by simp [mEnt, List.findIdx?_cons]
  | (a, z) :: l, n, j + 1, h => by
    have h' := mEnt_find k l (n + 1) j (by simpa using h)
    have e : n + 1 + j = n + (j + 1) := by omega
    rw [e] at h'
    unfold mEnt
    rw [List.findIdx?_cons]
    have hb : (((n : Nat) : Int) == ((n + (j + 1) : Nat) : Int)) = false := by simp; omega
    simp only [hb]
    rw [h']; rfl
/-! contracts of the older kind turned into these -/
section
variable {P : Program} {f : FuncId} {args : Array Value} {g : Nat} {T : TypeId} {cs : Array Value}
theorem sat_none {w w' : World} (h : Below w.heap.size w w') : Sat w (feet []) (blks []) [] [] w' :=
  ⟨⟨h.os, h.tape, h.output, h.size, fun k hk _ => h.block k hk⟩, (by intro x hx; cases hx), (by intro x hx; cases hx), .nil, (by intro r hr; cases hr), (by intro r hr; cases hr), (by intro r hr; cases hr)⟩
theorem fn_pure {v : Value} (h : ∀ w, Calls P f args w fun e w' => e = .returned v ∧ Below w.heap.size w w') : Fn P f args [] [] (fun u L' R' => u = v ∧ L' = [] ∧ R' = []) :=
  fun w _ => (h w).mono fun _ _ ⟨h1, h2⟩ => ⟨v, [], [], h1, ⟨rfl, rfl, rfl⟩, sat_none h2⟩
theorem fn_blk {Q : Value → Array Value → Prop} (h : ∀ w, Blk w g T cs → Calls P f args w fun e w' => ∃ v cs', e = .returned v ∧ Q v cs' ∧ Blk w' g T cs' ∧ w.grownBy w' (some g)) :
    Fn P f args [.ob g (.cells cs T (0, 0))] [] (fun u L' R' => ∃ cs', Q u cs' ∧ L' = [.ob g (.cells cs' T (0, 0))] ∧ R' = []) :=
  fun w hw => (h w (hw.sat _ (.head _))).mono fun _ _ ⟨v, cs', h1, h2, h3, h4⟩ => ⟨v, _, [], h1, ⟨cs', h2, rfl, rfl⟩, Sat.relay (by simpa using Frm.grown h4) h3⟩
theorem fn_read {v : Value} (h : ∀ w, Blk w g T cs → Calls P f args w fun e w' => e = .returned v ∧ w = w') :
    Fn P f args [.ob g (.cells cs T (0, 0))] [] (fun u L' R' => u = v ∧ L' = [.ob g (.cells cs T (0, 0))] ∧ R' = []) :=
  fun w hw => (h w (hw.sat _ (.head _))).mono fun _ _ ⟨h1, h2⟩ => ⟨v, _, [], h1, ⟨rfl, rfl, rfl⟩, by subst h2; exact hw⟩
theorem fn_new {Q : Array Value → Prop} (h : ∀ w, Calls P f args w fun e w' => ∃ g cs, e = .returned (.pointer (some ⟨g, 0, none⟩)) ∧ Q cs ∧ Blk w' g T cs ∧ w.heap.size ≤ g ∧ Below w.heap.size w w') :
    Fn P f args [] [] (fun u L' R' => ∃ g cs, u = .pointer (some ⟨g, 0, none⟩) ∧ Q cs ∧ L' = [.ob g (.cells cs T (0, 0))] ∧ R' = []) :=
  fun w _ => (h w).mono fun _ w' ⟨g, cs, h1, h2, h3, h4, h5⟩ => ⟨_, _, [], h1, ⟨g, cs, rfl, h2, rfl, rfl⟩, Sat.one (L := []) ⟨h5.os, h5.tape, h5.output, h5.size, fun k hk _ => h5.block k hk⟩ h3 (fun b hb => by
    simp only [It.foot, Option.some.injEq] at hb; subst hb; exact .inr h4)⟩
end
section
variable {P : Program} {N : Nat} {E : Env} {fr : List (Nat × Value)} {hp : List It} {ro : List Ro} {Kn Kr : St → Prop} {ops : Array Oper} {rest : List Oper} {dst : Option Tmp} {ty t : TypeId} {pos : String} {af : Array Edge} {F : List It} {x y z : Operand} {k : IntKind} {b : Nat} {l : List (Int × Value)} {a : Int} {v : Value} {kt e : TypeId}
theorem pv_mlook {zv : Value} [ht : TMap P t kt e] [hk : TInt P kt k] [hz : TZV P e zv] (hx : opd fr x = some (.map (some b))) (hy : opd fr y = some (.int k a)) (hs : hp.Perm (.ob b (mob k l) :: F)) :
    Pv P ⟨fr, hp, ro⟩ (.lookup t x y true) (.tuple #[(alook l a).getD zv, .bool (alook l a).isSome]) := fun N E ac w dst ty pos af g ok => by
  have hb : w.heap[b]? = some (mob k l) := ok.s.get hs
  simp only [execOp, ok.h.eval hx, ok.h.eval hy]
  have h1 := findNow_m k a l 0 0
  have hf := MapKept.run_findKey (P := P) (w := w) hk.h h1
  have hc : ∀ em, (Instr.checkKey em 10000 kt (.int k a)).run P w = .ok () w := fun em => MapKept.run_checkKey hk.h (by simp [MapKept.IsKey]) em 9999
  cases h : alook l a with
  | none => rw [h] at hf; simp [Instr.lookup, run_underlying ht.h, MapKept.run_getObj_map hb, hc, hf, Result.andThen, run_zeroV (P := P) (T := e)]
  | some u => rw [h] at hf; simp [Instr.lookup, run_underlying ht.h, MapKept.run_getObj_map hb, hc, hf, Result.andThen]
theorem pv_mlook1 {zv : Value} [ht : TMap P t kt e] [hk : TInt P kt k] [hz : TZV P e zv] (hx : opd fr x = some (.map (some b))) (hy : opd fr y = some (.int k a)) (hs : hp.Perm (.ob b (mob k l) :: F)) :
    Pv P ⟨fr, hp, ro⟩ (.lookup t x y false) ((alook l a).getD zv) := fun N E ac w dst ty pos af g ok => by
  have hb : w.heap[b]? = some (mob k l) := ok.s.get hs
  simp only [execOp, ok.h.eval hx, ok.h.eval hy]
  have h1 := findNow_m k a l 0 0
  have hf := MapKept.run_findKey (P := P) (w := w) hk.h h1
  have hc : ∀ em, (Instr.checkKey em 10000 kt (.int k a)).run P w = .ok () w := fun em => MapKept.run_checkKey hk.h (by simp [MapKept.IsKey]) em 9999
  cases h : alook l a with
  | none => rw [h] at hf; simp [Instr.lookup, run_underlying ht.h, MapKept.run_getObj_map hb, hc, hf, Result.andThen, run_zeroV (P := P) (T := e)]
  | some u => rw [h] at hf; simp [Instr.lookup, run_underlying ht.h, MapKept.run_getObj_map hb, hc, hf, Result.andThen]
theorem pv_min3 {k : IntKind} {a b c : Int} {ats : Array TypeId} (hx : opd fr x = some (.int k a)) (hy : opd fr y = some (.int k b)) (hz : opd fr z = some (.int k c)) : Pv P ⟨fr, hp, ro⟩ (.call ⟨.builtin .min, #[x, y, z], ats⟩) (.int k (min (min a b) c)) := fun N E ac w dst ty pos af g ok => by
  have e : (if b < a then b else a) = min a b := by omega
  have e2 : (if c < min a b then c else min a b) = min (min a b) c := by omega
  simp only [execOp, resolve, List.map_toArray, List.map_cons, List.map_nil, ok.h.eval hx, ok.h.eval hy, ok.h.eval hz]; simp [invoke, builtin, Builtin.min_, Builtin.min2, e, e2, go_sem]
/-! rows of strings that came in -/
def sseg (S : Nat → ByteArray) (n : Nat) : List (List Value) := (List.range n).map fun i => [.string (S i)]
theorem sseg_at {S : Nat → ByteArray} {n i : Nat} (h : i < n) : (sseg S n)[i]? = some [.string (S i)] := by simp [sseg, h]
theorem rws_s {w : World} {A : Option Addr} {n c : Nat} {V : Nat → Nat → Value} (h : Rws [.string] w A n c V) :
    ∃ (S : Nat → ByteArray) (R : List Ro), (∀ r ∈ R, r.sat w) ∧ (∀ i, i < n → (S i).size ≤ maxLen) ∧ (0 < n → ∃ b o, A = some ⟨b, o, none⟩ ∧ ⟨b, o, 1, sseg S n⟩ ∈ R) ∧ n ≤ 9223372036854775807 := by
  obtain ⟨R, hR, h0⟩ := rws_ro h (by simp)
  obtain ⟨h1, h2, _, h4⟩ := h
  refine ⟨fun i => match V i 0 with | .string z => z | _ => ByteArray.empty, R, hR, fun i hi => ?_, fun hn => ?_, by unfold maxLen at h2; omega⟩
  · obtain ⟨z, hz, hw⟩ := h4 i 0 _ hi rfl
    simp only [hz]
    exact hw
  · obtain ⟨b, o, hA, hm⟩ := h0 hn
    refine ⟨b, o, hA, ?_⟩
    have e : rowsOf [.string] V n = sseg (fun i => match V i 0 with | .string z => z | _ => ByteArray.empty) n := by
      unfold rowsOf sseg
      refine List.map_congr_left fun i hi => ?_
      obtain ⟨z, hz, _⟩ := h4 i 0 _ (List.mem_range.1 hi) rfl
      simp [hz]
    rw [← e]; exact hm
theorem g_lk {c : Bool} (h : Pv P ⟨fr, hp, ro⟩ (.lookup t x y c) v) : Pv P ⟨fr, hp, ro⟩ (.lookup t x y c) v := h
theorem pv_mlk_s [ht : TMap P t kt e] [hk : TInt P kt k] {zv : Value} [hz : TZV P e zv] (hx : opd fr x = some (.map (some b))) (hy : opd fr y = some (.int k a)) (hs : hp.Perm (.ob b (mob k l) :: F)) (hl : alook l a = some v) : Pv P ⟨fr, hp, ro⟩ (.lookup t x y false) v := by
  have := pv_mlook1 (P := P) (ro := ro) hx hy hs (t := t); rwa [hl] at this
theorem pv_mlk_n [ht : TMap P t kt e] [hk : TInt P kt k] {zv : Value} [hz : TZV P e zv] (hx : opd fr x = some (.map (some b))) (hy : opd fr y = some (.int k a)) (hs : hp.Perm (.ob b (mob k l) :: F)) (hl : alook l a = none) : Pv P ⟨fr, hp, ro⟩ (.lookup t x y false) zv := by
  have := pv_mlook1 (P := P) (ro := ro) hx hy hs (t := t); rwa [hl] at this
theorem pv_mlko_s [ht : TMap P t kt e] [hk : TInt P kt k] {zv : Value} [hz : TZV P e zv] (hx : opd fr x = some (.map (some b))) (hy : opd fr y = some (.int k a)) (hs : hp.Perm (.ob b (mob k l) :: F)) (hl : alook l a = some v) : Pv P ⟨fr, hp, ro⟩ (.lookup t x y true) (.tuple #[v, .bool true]) := by
  have := pv_mlook (P := P) (ro := ro) hx hy hs (t := t); rwa [hl] at this
theorem pv_mlko_n [ht : TMap P t kt e] [hk : TInt P kt k] {zv : Value} [hz : TZV P e zv] (hx : opd fr x = some (.map (some b))) (hy : opd fr y = some (.int k a)) (hs : hp.Perm (.ob b (mob k l) :: F)) (hl : alook l a = none) : Pv P ⟨fr, hp, ro⟩ (.lookup t x y true) (.tuple #[zv, .bool false]) := by
  have := pv_mlook (P := P) (ro := ro) hx hy hs (t := t); rwa [hl] at this
theorem pv_mlen [ht : TMap P t kt e] (hx : opd fr x = some (.map (some b))) (hs : hp.Perm (.ob b (mob k l) :: F)) : Pv P ⟨fr, hp, ro⟩ (.call ⟨.builtin .len, #[x], #[t]⟩) (.int .i64 l.length) := fun N E ac w dst ty pos af g ok => by
  have hb : w.heap[b]? = some (mob k l) := ok.s.get hs
  simp only [execOp, resolve, List.map_toArray, List.map_cons, List.map_nil, ok.h.eval hx]; simp [invoke, builtin, Builtin.len_, run_underlying ht.h, MapKept.run_getObj_map hb, Result.andThen, goInt, mEnt_len, go_sem]
theorem wo_mmake {d : Nat} (k : IntKind) (hd : Nat.ble (d + 1) N = true)
    (h : ∀ b, WO P N E ops rest ⟨(d, .map (some b)) :: fr, .ob b (mob k []) :: hp, ro⟩ Kn) : WO P N E ops (⟨some d, .makeMap t none, ty, pos, af, none⟩ :: rest) ⟨fr, hp, ro⟩ Kn :=
  wo_eff (L := []) (.refl _) hd fun a w ok => ⟨.map (some w.heap.size), _, w.alloc (.map #[] 0), by simp only [execOp, Option.map_none, Sem.run_bind, run_makeMap, Result.andThen_ok]; rfl, Sat.fresh _, h _⟩
theorem set_frm {w : World} {b : Nat} {o o' : Obj} (hb : w.heap[b]? = some o) : Frm [b] w { w with heap := w.heap.setIfInBounds b o' } ∧ ({ w with heap := w.heap.setIfInBounds b o' } : World).heap[b]? = some o' :=
  ⟨⟨rfl, rfl, rfl, by simp, fun k _ hn => (MapKept.heap_set hb).2 k (by simpa using hn)⟩, (MapKept.heap_set hb).1⟩
theorem run_mput {w : World} [ht : TMap P t kt e] [hk : TInt P kt k] (hb : w.heap[b]? = some (mob k l)) :
    (Instr.mapUpdate t (.map (some b)) (.int k a) v).run P w = .ok () { w with heap := w.heap.setIfInBounds b (mob k (aset l a v)) } := by
  have h1 := findNow_m k a l 0 0
  have hf := MapKept.run_findKey (P := P) (w := w) hk.h h1
  have hc : (Instr.checkKey false 10000 kt (.int k a)).run P w = .ok () w := MapKept.run_checkKey hk.h (by simp [MapKept.IsKey]) false 9999
  cases h : alook l a with
  | none =>
    rw [h] at hf
    have e1 := mEnt_push k a v l 0
    rw [Nat.zero_add] at e1
    simp [Instr.mapUpdate, run_underlying ht.h, MapKept.run_getObj_map hb, hc, hf, MapKept.run_setObj_map _ hb, Result.andThen, mob, aset_none v h, e1]
  | some u =>
    rw [h] at hf
    have e1 := mEnt_modify k a v l 0 h
    have e2 := mEnt_at k a l 0 h
    have hks : (Instr.keyThatStays (.int k a) (.int k a)).run P w = .ok (.int k a) w := MapKept.run_keyThatStays (d := .int k) (by simp [MapKept.IsKey])
    simp [Instr.mapUpdate, run_underlying ht.h, MapKept.run_getObj_map hb, hc, hf, MapKept.run_setObj_map _ hb, Result.andThen, mob, aset_len_some v h, e1, e2, hks]
theorem wo_mput [ht : TMap P t kt e] [hk : TInt P kt k] (hx : opd fr x = some (.map (some b))) (hy : opd fr y = some (.int k a)) (hz : opd fr z = some v) (hs : hp.Perm (.ob b (mob k l) :: F)) (hd : dstOk dst N = true)
    (h : WO P N E ops rest ⟨putF dst undef fr, .ob b (mob k (aset l a v)) :: F, ro⟩ Kn) : WO P N E ops (⟨dst, .mapUpdate t x y z, ty, pos, af, none⟩ :: rest) ⟨fr, hp, ro⟩ Kn :=
  wo_eff_skip (L := [_]) hs hd fun ac w ok => by
    have hb : w.heap[b]? = some (mob k l) := ok.s.get hs
    refine ⟨_, _, ?_, Sat.relay (set_frm hb).1 (set_frm (o' := mob k (aset l a v)) hb).2, by simpa using h⟩
    simp only [execOp, ok.h.eval hx, ok.h.eval hy, ok.h.eval hz, Sem.run_bind, run_mput hb]; rfl
theorem wo_mentry {d : Nat} {zv : Value} [ht : TMap P t kt e] [hk : TInt P kt k] [hzv : TZV P e zv] (hx : opd fr x = some (.map (some b))) (hy : opd fr y = some (.int k a)) (hs : hp.Perm (.ob b (mob k l) :: F)) (hd : Nat.ble (d + 1) N = true)
    (h : WO P N E ops rest ⟨(d, .tuple #[(alook l a).getD zv, .int .i64 (aidx l a)]) :: fr, .ob b (mob k (aset l a ((alook l a).getD zv))) :: F, ro⟩ Kn) : WO P N E ops (⟨some d, .mapEntry t x y, ty, pos, af, none⟩ :: rest) ⟨fr, hp, ro⟩ Kn :=
  wo_eff (L := [_]) hs hd fun ac w ok => by
    have hb : w.heap[b]? = some (mob k l) := ok.s.get hs
    refine ⟨_, _, _, ?_, Sat.relay (set_frm hb).1 (set_frm (o' := mob k (aset l a ((alook l a).getD zv))) hb).2, by simpa [putF] using h⟩
    have h1 := findNow_m k a l 0 0
    have hf := MapKept.run_findKey (P := P) (w := w) hk.h h1
    have hc : (Instr.checkKey false 10000 kt (.int k a)).run P w = .ok () w := MapKept.run_checkKey hk.h (by simp [MapKept.IsKey]) false 9999
    simp only [execOp, ok.h.eval hx, ok.h.eval hy]
    cases h : alook l a with
    | none =>
      rw [h] at hf
      have e1 := mEnt_push k a zv l 0
      rw [Nat.zero_add] at e1
      simp [Instr.mapEntry, run_underlying ht.h, MapKept.run_getObj_map hb, hc, hf, MapKept.run_setObj_map _ hb, Result.andThen, mob, aset_none _ h, e1, run_zeroV (P := P) (T := e), goInt, aidx_none h]
    | some u =>
      rw [h] at hf
      have e1 := mEnt_modify' k a l 0 h
      have e2 := mEnt_at k a l 0 h
      have hks : (Instr.keyThatStays (.int k a) (.int k a)).run P w = .ok (.int k a) w := MapKept.run_keyThatStays (d := .int k) (by simp [MapKept.IsKey])
      simp [Instr.mapEntry, run_underlying ht.h, MapKept.run_getObj_map hb, hc, hf, MapKept.run_setObj_map _ hb, Result.andThen, mob, aset_same h, e1, e2, hks, goInt]
theorem wo_mstore {j : Nat} [ht : TMap P t kt e] (hx : opd fr x = some (.map (some b))) (hy : opd fr y = some (.int .i64 j)) (hz : opd fr z = some v) (hs : hp.Perm (.ob b (mob k l) :: F)) {u : Value} (hl : alook l a = some u) (hj : aidx l a = j) (hd : dstOk dst N = true)
    (h : WO P N E ops rest ⟨putF dst undef fr, .ob b (mob k (aset l a v)) :: F, ro⟩ Kn) : WO P N E ops (⟨dst, .entryStore t x y z, ty, pos, af, none⟩ :: rest) ⟨fr, hp, ro⟩ Kn :=
  wo_eff_skip (L := [_]) hs hd fun ac w ok => by
    have hb : w.heap[b]? = some (mob k l) := ok.s.get hs
    refine ⟨_, _, ?_, Sat.relay (set_frm hb).1 (set_frm (o' := mob k (aset l a v)) hb).2, by simpa using h⟩
    have e1 := mEnt_modv k a v l 0 hl
    have e2 := mEnt_find k l 0 (aidx l a) (aidx_lt hl)
    rw [Nat.zero_add] at e2
    subst hj
    simp only [execOp, ok.h.eval hx, ok.h.eval hy, ok.h.eval hz, Sem.run_bind]
    simp [Instr.entryStore, MapKept.run_getObj_map hb, MapKept.run_setObj_map _ hb, Result.andThen, asInt, asIntOf, e2, mob, e1, aset_len_some v hl, go_sem]
end
end Go.Proofs.Ytlhlidmhlhodiaa

/-
  Package rtp: awake, Is, RtpIs.
-/
namespace Go.Proofs.Ytlhlidmhlhodiaa
set_option linter.unusedSimpArgs false
set_option linter.unusedVariables false
set_option linter.unusedSimpArgs false
set_option linter.unusedVariables false
open Go.RowKit
attribute [local irreducible] Pv WO WC Fn
set_option maxRecDepth 100000

abbrev rpR (mrk : Bool) (kd sq t ss : Int) (cs : Value) (ex : Bool) (pf : Int) (dt pl : ByteArray) (pd : Int) : List Value := [.bool mrk, .int .u8 kd, .int .u16 sq, .int .u32 t, .int .u32 ss, cs, .bool ex, .int .u16 pf, .string dt, .string pl, .int .i64 pd]
theorem kU8 (g : Nat) (s b s2 : ByteArray) (x e2 : Int) (hs : s.size ≤ 1000000) (hq : rdB s 0 1 = (b, s2, e2)) (hx : valK b b.size = x) : Fn Try.prog 63 #[.pointer (some ⟨g, 0, none⟩)] [rdO g s 0] [] (fun v L' R' => v = .int .u8 x ∧ L' = [rdO g s2 e2] ∧ R' = []) := by
  subst hx; exact octU8 g s b s2 0 e2 (by omega) hq
theorem kU16 (g : Nat) (s b s2 : ByteArray) (x e2 : Int) (hs : s.size ≤ 1000000) (hq : rdB s 0 2 = (b, s2, e2)) (hx : valK b b.size = x) : Fn Try.prog 65 #[.pointer (some ⟨g, 0, none⟩)] [rdO g s 0] [] (fun v L' R' => v = .int .u16 x ∧ L' = [rdO g s2 e2] ∧ R' = []) := by
  subst hx; exact octU16 g s b s2 0 e2 (by omega) hq
theorem kU32 (g : Nat) (s b s2 : ByteArray) (x e2 : Int) (hs : s.size ≤ 1000000) (hq : rdB s 0 4 = (b, s2, e2)) (hx : valK b b.size = x) : Fn Try.prog 66 #[.pointer (some ⟨g, 0, none⟩)] [rdO g s 0] [] (fun v L' R' => v = .int .u32 x ∧ L' = [rdO g s2 e2] ∧ R' = []) := by
  subst hx; exact octU32 g s b s2 0 e2 (by omega) hq
theorem kRest (g : Nat) (s b s2 : ByteArray) (e2 : Int) (hs : s.size ≤ 1000000) (hq : rdB s 0 s.size = (b, s2, e2)) : Fn Try.prog 68 #[.pointer (some ⟨g, 0, none⟩)] [rdO g s 0] [] (fun v L' R' => v = .string b ∧ L' = [rdO g s2 e2] ∧ R' = []) := by
  have h := octRest g s 0 (by omega)
  rw [hq] at h; exact h
set_option maxHeartbeats 4000000 in
theorem aParse : Fn Try.prog 15 #[.string ⟨#[128, 96, 0, 1, 0, 0, 0, 2, 0, 0, 0, 3, 97]⟩] [] []
    (fun v L' R' => v = .tuple #[.agg (rpR false 96 1 2 3 (.slice none 0 0) false 0 ByteArray.empty ⟨#[97]⟩ 0).toArray, .int .i64 0] ∧ L' = [] ∧ R' = []) := by
  have c1 := fun g => kU8 g ⟨#[128, 96, 0, 1, 0, 0, 0, 2, 0, 0, 0, 3, 97]⟩ ⟨#[128]⟩ ⟨#[96, 0, 1, 0, 0, 0, 2, 0, 0, 0, 3, 97]⟩ 128 0 (by decide) (by decide) (by decide)
  have c2 := fun g => kU8 g ⟨#[96, 0, 1, 0, 0, 0, 2, 0, 0, 0, 3, 97]⟩ ⟨#[96]⟩ ⟨#[0, 1, 0, 0, 0, 2, 0, 0, 0, 3, 97]⟩ 96 0 (by decide) (by decide) (by decide)
  have c3 := fun g => octErr g ⟨#[0, 1, 0, 0, 0, 2, 0, 0, 0, 3, 97]⟩ 0
  have c4 := fun g => kU16 g ⟨#[0, 1, 0, 0, 0, 2, 0, 0, 0, 3, 97]⟩ ⟨#[0, 1]⟩ ⟨#[0, 0, 0, 2, 0, 0, 0, 3, 97]⟩ 1 0 (by decide) (by decide) (by decide)
  have c5 := fun g => kU32 g ⟨#[0, 0, 0, 2, 0, 0, 0, 3, 97]⟩ ⟨#[0, 0, 0, 2]⟩ ⟨#[0, 0, 0, 3, 97]⟩ 2 0 (by decide) (by decide) (by decide)
  have c6 := fun g => kU32 g ⟨#[0, 0, 0, 3, 97]⟩ ⟨#[0, 0, 0, 3]⟩ ⟨#[97]⟩ 3 0 (by decide) (by decide) (by decide)
  have c7 := fun g => kRest g ⟨#[97]⟩ ⟨#[97]⟩ E0 0 (by decide) (by decide)
  have c8 := fun g => octErr g E0 0
  have z0 : (⟨#[128, 96, 0, 1, 0, 0, 0, 2, 0, 0, 0, 3, 97]⟩ : ByteArray).size = 13 := rfl
  generalize (⟨#[128, 96, 0, 1, 0, 0, 0, 2, 0, 0, 0, 3, 97]⟩ : ByteArray) = s0 at c1 z0 ⊢
  generalize (⟨#[96, 0, 1, 0, 0, 0, 2, 0, 0, 0, 3, 97]⟩ : ByteArray) = s1 at c1 c2
  generalize (⟨#[0, 1, 0, 0, 0, 2, 0, 0, 0, 3, 97]⟩ : ByteArray) = s2 at c2 c3 c4
  generalize (⟨#[0, 0, 0, 2, 0, 0, 0, 3, 97]⟩ : ByteArray) = s3 at c4 c5
  generalize (⟨#[0, 0, 0, 3, 97]⟩ : ByteArray) = s4 at c5 c6
  generalize (⟨#[97]⟩ : ByteArray) = s5 at c6 c7 ⊢
  refine fn_intro Try.func15 rfl Try.ntmps15 rfl (fun E => ?_)
  (repeat (first | ((first | (apply wo_v; rfl) ); (· first | (apply pv_ev; rfl) | (apply g_bi; first | (apply pv_len_str; rfl) ) )) | apply wo_nil | apply wc_seq | apply wc_region | apply wc_skip | (apply wc_true; rfl) | (apply wc_false; rfl) | (apply a_dec_t; rfl; (· first | assumption | omega)) | (apply a_dec_f; rfl; (· first | assumption | omega)) | (apply wo_alloc; rfl; intro bx) ))
  (refine wo_call (octRead s0) rfl (by (repeat (first | apply sub_nil )); done) (by first | exact fun _ h => h | (intro r hr; cases hr; done) | (simp; done) | exact fun _ h => List.mem_append_left _ h | (intro r hr; simp [hr]; done)) rfl ?_; rintro v L' R' ⟨g, rfl, rfl, rfl⟩ H' hH RR hR; simp only [List.cons_append, List.nil_append] at hH hR; subst hH; have hR := hR.symm; subst hR)
  (repeat (first | ((first | (apply wo_v; rfl) ); (· first | (apply pv_ev; rfl) )) | apply wo_nil | apply wc_seq | apply wc_region ))
  (refine wo_call (c1 g) rfl (by (repeat (first | apply sub_nil )); done) (by first | exact fun _ h => h | (intro r hr; cases hr; done) | (simp; done) | exact fun _ h => List.mem_append_left _ h | (intro r hr; simp [hr]; done)) rfl ?_; rintro v L' R' ⟨rfl, rfl, rfl⟩ H' hH RR hR; simp only [List.cons_append, List.nil_append] at hH hR; subst hH; have hR := hR.symm; subst hR)
  (repeat (first | ((first | (apply wo_v; rfl) ); (· first | (apply pv_ev; rfl) )) ))
  (refine wo_call (c2 g) rfl (by (repeat (first | apply sub_nil )); done) (by first | exact fun _ h => h | (intro r hr; cases hr; done) | (simp; done) | exact fun _ h => List.mem_append_left _ h | (intro r hr; simp [hr]; done)) rfl ?_; rintro v L' R' ⟨rfl, rfl, rfl⟩ H' hH RR hR; simp only [List.cons_append, List.nil_append] at hH hR; subst hH; have hR := hR.symm; subst hR)
  (repeat (first | ((first | (apply wo_v; rfl) ); (· first | (apply pv_ev; rfl) )) | apply wo_nil | apply wc_seq | apply wc_region ))
  (refine wo_call (c3 g) rfl (by (repeat (first | apply sub_nil )); done) (by first | exact fun _ h => h | (intro r hr; cases hr; done) | (simp; done) | exact fun _ h => List.mem_append_left _ h | (intro r hr; simp [hr]; done)) rfl ?_; rintro v L' R' ⟨rfl, rfl, rfl⟩ H' hH RR hR; simp only [List.cons_append, List.nil_append] at hH hR; subst hH; have hR := hR.symm; subst hR)
  (repeat (first | ((first | (apply wo_v; rfl) ); (· first | (apply pv_ev; rfl) | (apply g_pick; first | (apply pv_pick_t; rfl; rfl) ) | (apply g_bin; first | (apply pv_and; rfl; rfl) | (apply a_shr; rfl; rfl; rfl; omega; rfl) ) )) | apply wo_nil | apply wc_seq | apply wc_region | apply wc_skip | (apply wc_true; rfl) | (apply wc_false; rfl) | (apply wo_run; rfl; rfl) ))
  rw [show bits .and .u8 96 127 = 96 by decide, show decide ((127 : Int) < 96) = false by decide]
  (refine wo_call (c4 g) rfl (by (repeat (first | apply sub_nil )); done) (by first | exact fun _ h => h | (intro r hr; cases hr; done) | (simp; done) | exact fun _ h => List.mem_append_left _ h | (intro r hr; simp [hr]; done)) rfl ?_; rintro v L' R' ⟨rfl, rfl, rfl⟩ H' hH RR hR; simp only [List.cons_append, List.nil_append] at hH hR; subst hH; have hR := hR.symm; subst hR)
  (repeat (first | ((first | (apply wo_v; rfl) ); (· first | (apply pv_ev; rfl) )) ))
  (refine wo_call (c5 g) rfl (by (repeat (first | apply sub_nil )); done) (by first | exact fun _ h => h | (intro r hr; cases hr; done) | (simp; done) | exact fun _ h => List.mem_append_left _ h | (intro r hr; simp [hr]; done)) rfl ?_; rintro v L' R' ⟨rfl, rfl, rfl⟩ H' hH RR hR; simp only [List.cons_append, List.nil_append] at hH hR; subst hH; have hR := hR.symm; subst hR)
  (repeat (first | ((first | (apply wo_v; rfl) ); (· first | (apply pv_ev; rfl) )) ))
  (refine wo_call (c6 g) rfl (by (repeat (first | apply sub_nil )); done) (by first | exact fun _ h => h | (intro r hr; cases hr; done) | (simp; done) | exact fun _ h => List.mem_append_left _ h | (intro r hr; simp [hr]; done)) rfl ?_; rintro v L' R' ⟨rfl, rfl, rfl⟩ H' hH RR hR; simp only [List.cons_append, List.nil_append] at hH hR; subst hH; have hR := hR.symm; subst hR)
  (repeat (first | ((first | (apply wo_v; rfl) ); (· first | (apply pv_ev; rfl) | (apply g_bin; first | (apply pv_and; rfl; rfl) ) | (apply g_build; apply pv_build; (· (repeat (first | apply Bld.nil | (apply Bld.one; rfl; rfl; (· (repeat (first | apply SetAt.here | apply SetAt.there)))) )))) )) | apply wo_nil | apply wc_seq | apply wc_region | (apply wo_alloc; rfl; intro bx) | (apply wo_sta; rfl; rfl; rfl; rfl; (· (repeat (first | apply sel_here ))); (· (repeat (first | apply LayAt.nil | apply LayAt.here ))); rfl) ))
  rw [show bits .and .u8 128 16 = 0 by decide, show decide ((0 : Int) < 0) = false by decide, show bits .and .u8 128 15 = 0 by decide]
  refine wc_join0 (fun st => ∃ bp bq, st = ⟨[(2, .pointer (some ⟨bq, 0, none⟩)), (4, .pointer (some ⟨g, 0, none⟩)), (5, .int .u8 128), (7, .pointer (some ⟨bp, 0, none⟩))], [rdO g s5 0, .ob bp (.cells (rpR false 96 1 2 3 (.slice none 0 0) false 0 ByteArray.empty ByteArray.empty 0).toArray 33 (0, 0)), .ob bq (.cells (rpR false 0 0 0 0 (.slice none 0 0) false 0 ByteArray.empty ByteArray.empty 0).toArray 33 (0, 0))], []⟩) ?_ ?_
  · rename_i bq _ _ _ _ _ _
    refine wc_block ?_
    refine wc_loop' (fun q st => q = 1 ∧ st = ⟨[(2, .pointer (some ⟨bq, 0, none⟩)), (4, .pointer (some ⟨g, 0, none⟩)), (5, .int .u8 128), (7, .pointer (some ⟨bx, 0, none⟩)), (45, .int .u8 0), (46, .int .u8 0)], [rdO g s5 0, .ob bx (.cells (rpR false 96 1 2 3 (.slice none 0 0) false 0 ByteArray.empty ByteArray.empty 0).toArray 33 (0, 0)), .ob bq (.cells (rpR false 0 0 0 0 (.slice none 0 0) false 0 ByteArray.empty ByteArray.empty 0).toArray 33 (0, 0))], []⟩) ⟨rfl, rfl⟩ (wk_mk (by (repeat (first | apply wkf_nil | (apply wkf_cons; rfl))); done) (by (repeat (first | apply sub_nil | (apply sub_cons; (· (repeat (first | apply sel_here | apply sel_there)))))); done) (by first | exact fun _ h => h | (intro r hr; cases hr; done) | (simp; done) | exact fun _ h => List.mem_append_left _ h | (intro r hr; simp [hr]; done))) ?_
    rintro q st ⟨rfl, rfl⟩
    (repeat (first | ((first | (apply wo_v; rfl) ); (· first | (apply pv_ev; rfl) )) | apply wo_nil | apply wc_seq | apply wc_region | (apply wc_exit; rfl) | (apply wc_true; rfl) | (apply wc_false; rfl) ))
    exact cut_end ⟨bx, bq, rfl⟩ (wk_mk (by (repeat (first | apply wkf_nil | (apply wkf_cons; rfl))); done) (by (repeat (first | apply sub_nil )); done) (by first | exact fun _ h => h | (intro r hr; cases hr; done) | (simp; done) | exact fun _ h => List.mem_append_left _ h | (intro r hr; simp [hr]; done)))
  rintro st ⟨bp, bq, rfl⟩
  (repeat (first | ((first | (apply wo_v; rfl) ); (· first | (apply pv_ev; rfl) | (apply pv_fld; rfl) | (apply g_load; first | (apply pv_ld; rfl; (· (repeat (first | apply sel_here | apply sel_there))); rfl) ) )) | apply wo_nil | apply wc_seq | apply wc_region | apply wc_skip | (apply wc_true; rfl) | (apply wc_false; rfl) ))
  (refine wo_call (c7 g) rfl (by (repeat (first | apply sub_nil )); done) (by first | exact fun _ h => h | (intro r hr; cases hr; done) | (simp; done) | exact fun _ h => List.mem_append_left _ h | (intro r hr; simp [hr]; done)) rfl ?_; rintro v L' R' ⟨rfl, rfl, rfl⟩ H' hH RR hR; simp only [List.cons_append, List.nil_append] at hH hR; subst hH; have hR := hR.symm; subst hR)
  (repeat (first | ((first | (apply wo_v; rfl) ); (· first | (apply pv_ev; rfl) | (apply pv_fld; rfl) )) | apply wo_nil | apply wc_seq | apply wc_region | (apply wo_st; rfl; rfl; rfl; (· (repeat (first | apply sel_here | apply sel_there))); (· (repeat (first | apply SetAt.here | apply SetAt.there))); rfl) ))
  (refine wo_call (c8 g) rfl (by (repeat (first | apply sub_nil | (apply sub_cons; (· (repeat (first | apply sel_here | apply sel_there)))))); done) (by first | exact fun _ h => h | (intro r hr; cases hr; done) | (simp; done) | exact fun _ h => List.mem_append_left _ h | (intro r hr; simp [hr]; done)) rfl ?_; rintro v L' R' ⟨rfl, rfl, rfl⟩ H' hH RR hR; simp only [List.cons_append, List.nil_append] at hH hR; subst hH; have hR := hR.symm; subst hR)
  (repeat (first | ((first | (apply wo_v; rfl) ); (· first | (apply pv_ev; rfl) | (apply g_pick; first | (apply pv_pick_t; rfl; rfl) ) | (apply g_bin; first | (apply pv_and; rfl; rfl) ) )) | apply wo_nil | apply wc_seq | apply wc_region | apply wc_skip | (apply wc_true; rfl) | (apply wc_false; rfl) | (apply wo_run; rfl; rfl) ))
  (refine wo_call (c8 g) rfl (by (repeat (first | apply sub_nil )); done) (by first | exact fun _ h => h | (intro r hr; cases hr; done) | (simp; done) | exact fun _ h => List.mem_append_left _ h | (intro r hr; simp [hr]; done)) rfl ?_; rintro v L' R' ⟨rfl, rfl, rfl⟩ H' hH RR hR; simp only [List.cons_append, List.nil_append] at hH hR; subst hH; have hR := hR.symm; subst hR)
  (repeat (first | ((first | (apply wo_v; rfl) ); (· first | (apply pv_ev; rfl) | (apply g_load; first | (apply pv_lda; rfl; (· (repeat (first | apply sel_here | apply sel_there))); (· (repeat (first | apply Cut.here0 | apply Cut.here )))) ) )) | apply wo_nil | apply wc_seq | apply wc_region | apply wc_skip | apply wc_ret | (apply wc_true; rfl) | (apply wc_false; rfl) | (apply wo_sta; rfl; rfl; rfl; rfl; (· (repeat (first | apply sel_here | apply sel_there))); (· (repeat (first | apply LayAt.nil | apply LayAt.here ))); rfl) ))
  exact retv rfl (by (repeat (first | apply RV.nil | (apply RV.tmp; rfl) | (apply RV.agg; rfl; (· (repeat (first | apply sel_here ))); infer_instance; (· (repeat (first | apply Cut.here0 | apply Cut.here )))) )); done) (⟨rfl, rfl, rfl⟩) (by (repeat (first | apply sub_nil )); done) (by first | exact fun _ h => h | (intro r hr; cases hr; done) | (simp; done) | exact fun _ h => List.mem_append_left _ h | (intro r hr; simp [hr]; done))
theorem rIs (s : ByteArray) (r : Bool) (h2 : 2 ≤ s.size) (h : r = (decide (sb s 0 / 64 = 2) && (decide (sb s 1 < 192) || decide (223 < sb s 1)))) : Fn Try.prog 35 #[.string s] [] [] (fun v L' R' => v = .bool r ∧ L' = [] ∧ R' = []) := by
  by_cases c1 : sb s 0 / 64 = 2 <;> by_cases c2 : sb s 1 < 192 <;> by_cases c3 : 223 < sb s 1
  all_goals
    refine fn_intro Try.func35 rfl Try.ntmps35 rfl (fun E => ?_)
    (repeat (first | ((first | (apply wo_v; rfl) ); (· first | (apply pv_ev; rfl) | (apply g_pick; first | (apply pv_pick_t; rfl; rfl) | (apply pv_pick_f; rfl; rfl)) | (apply g_bin; first | (apply a_shr; rfl; rfl; rfl; omega; rfl) ) | (apply g_bi; first | (apply pv_len_str; rfl) ) | (apply pv_index_sn; rfl; rfl; omega) | (apply pv_index_s; rfl; rfl; omega))) | apply wo_nil | apply wc_seq | apply wc_region | apply wc_ret | (apply wo_run; rfl; rfl) | (apply wo_skip; rfl; rfl; rfl; rfl) | (apply wo_skip_u; rfl; rfl; rfl) | (apply a_gt; rfl; rfl; (· first | assumption | omega)) | (apply a_gf; rfl; rfl; (· first | assumption | omega)) ))
    exact ret1 rfl rfl ⟨by rw [h]; first | (simp [c1, c2, c3]; done) | (exfalso; omega), rfl, rfl⟩ ((by (repeat (first | apply sub_nil )); done) : List.Perm _ ([] ++ _)) (by first | exact fun _ h => h | (intro r hr; cases hr; done) | (simp; done) | exact fun _ h => List.mem_append_left _ h | (intro r hr; simp [hr]; done))
theorem rIsNo (s : ByteArray) (h2 : s.size < 2) : Fn Try.prog 35 #[.string s] [] [] (fun v L' R' => v = .bool false ∧ L' = [] ∧ R' = []) := by
  refine fn_intro Try.func35 rfl Try.ntmps35 rfl (fun E => ?_)
  (repeat (first | ((first | (apply wo_v; rfl) ); (· first | (apply pv_ev; rfl) | (apply g_pick; first | (apply pv_pick_t; rfl; rfl) | (apply pv_pick_f; rfl; rfl)) | (apply g_bi; first | (apply pv_len_str; rfl) ) )) | apply wo_nil | apply wc_seq | apply wc_region | apply wc_ret | (apply wo_run; rfl; rfl) | (apply wo_skip; rfl; rfl; rfl; rfl) | (apply wo_skip_u; rfl; rfl; rfl) | (apply a_gt; rfl; rfl; (· first | assumption | omega)) | (apply a_gf; rfl; rfl; (· first | assumption | omega)) ))
  exact ret1 rfl rfl ⟨by simp, rfl, rfl⟩ ((by (repeat (first | apply sub_nil )); done) : List.Perm _ ([] ++ _)) (by first | exact fun _ h => h | (intro r hr; cases hr; done) | (simp; done) | exact fun _ h => List.mem_append_left _ h | (intro r hr; simp [hr]; done))
theorem outc_pv {P : Program} {N : Nat} {E : Env} {fr : List (Nat × Value)} {L B0 : List It} {ro : List Ro} {op : Op} {v : Value} {dst : Option Tmp} {ty : TypeId} {pos : String} {af : Array Edge} {g : Option (Nat × Bool)} (h : Pv P ⟨fr, L, ro⟩ op v) :
    ∀ a, Holds N fr a → Outc P E B0 ro ⟨dst, op, ty, pos, af, g⟩ a L (fun v' M => v' = v ∧ M = L) := fun a hh F w hw => by
  unfold Pv at h
  rw [h N E a w dst ty pos af g ⟨hh, hw.left⟩]
  exact ⟨L, ⟨rfl, rfl⟩, hw⟩
abbrev byO2 (b : Nat) (x y : Int) : It := .own 5 1 (some ⟨b, 0, none⟩) 2 2 [[.int .u8 x], [.int .u8 y]]
def tblI (x y : Int) (s : ByteArray) : Nat → List (List It) → Value → List (List It) → Prop := fun k Ls v Ms => match k, Ls with
  | 2, _ => ∃ b, v = .slice (some ⟨b, 0, none⟩) 2 2 ∧ Ms = [[.own 5 1 (some ⟨b, 0, none⟩) 2 2 [[.int .u8 x], [.int .u8 y]]]]
  | 3, [l] => v = .string (bytesOf [x, y]) ∧ Ms = [l]
  | _, _ => v = .string s ∧ Ms = [[]]
end Go.Proofs.Ytlhlidmhlhodiaa

/-
  Layer 4, plain: descriptors, how they are read of bytes, their bytes. No program in sight.
-/
namespace Go.Proofs.Ytlhlidmhlhodiaa
set_option linter.unusedSimpArgs false
set_option linter.unusedVariables false
open Go.RowKit
attribute [local irreducible] ByteArray.extract

/-! bits of bytes -/
theorem u8_all {p : Int → Prop} (h : ∀ n : Fin 256, p ((n.val : Nat) : Int)) {a : Int} (ha : 0 ≤ a ∧ a ≤ 255) : p a := by
  have := h ⟨a.toNat, by omega⟩
  rwa [show (((⟨a.toNat, by omega⟩ : Fin 256).val : Nat) : Int) = a by simp; omega] at this
theorem and8_32 {a : Int} : 0 ≤ a ∧ a ≤ 255 → bits .and .u8 a 32 = a / 32 % 2 * 32 := u8_all (p := fun a => bits .and .u8 a 32 = a / 32 % 2 * 32) (by decide +kernel)
theorem and8_16 {a : Int} : 0 ≤ a ∧ a ≤ 255 → bits .and .u8 a 16 = a / 16 % 2 * 16 := u8_all (p := fun a => bits .and .u8 a 16 = a / 16 % 2 * 16) (by decide +kernel)
theorem and8_7 {a : Int} : 0 ≤ a ∧ a ≤ 255 → bits .and .u8 a 7 = a % 8 := u8_all (p := fun a => bits .and .u8 a 7 = a % 8) (by decide +kernel)
theorem and8_128 {a : Int} : 0 ≤ a ∧ a ≤ 255 → bits .and .u8 a 128 = a / 128 % 2 * 128 := u8_all (p := fun a => bits .and .u8 a 128 = a / 128 % 2 * 128) (by decide +kernel)
theorem and8_64 {a : Int} : 0 ≤ a ∧ a ≤ 255 → bits .and .u8 a 64 = a / 64 % 2 * 64 := u8_all (p := fun a => bits .and .u8 a 64 = a / 64 % 2 * 64) (by decide +kernel)
theorem and8_48 {a : Int} : 0 ≤ a ∧ a ≤ 255 → bits .and .u8 a 48 = a / 16 % 4 * 16 := u8_all (p := fun a => bits .and .u8 a 48 = a / 16 % 4 * 16) (by decide +kernel)
theorem and8_31 {a : Int} : 0 ≤ a ∧ a ≤ 255 → bits .and .u8 a 31 = a % 32 := u8_all (p := fun a => bits .and .u8 a 31 = a % 32) (by decide +kernel)
theorem and8_1 {a : Int} : 0 ≤ a ∧ a ≤ 255 → bits .and .u8 a 1 = a % 2 := u8_all (p := fun a => bits .and .u8 a 1 = a % 2) (by decide +kernel)

/-! one byte read -/
abbrev Rs := ByteArray × Int
def t1 (r : Rs) : Int × Rs := (valK (rdB r.1 r.2 1).1 (rdB r.1 r.2 1).1.size, (rdB r.1 r.2 1).2)
theorem t1_b (r : Rs) : 0 ≤ (t1 r).1 ∧ (t1 r).1 ≤ 255 := by
  have h : (rdB r.1 r.2 1).1.size ≤ 1 := by have := rdB_size r.1 r.2 1 (by omega); omega
  have h1 := valK_b (rdB r.1 r.2 1).1
  show 0 ≤ valK _ _ ∧ valK _ _ ≤ 255
  have h2 : (rdB r.1 r.2 1).1.size = 0 ∨ (rdB r.1 r.2 1).1.size = 1 := by omega
  rcases h2 with h2 | h2
  · rw [h2]; simp [valK]
  · rw [h2]; exact ⟨h1.1 1, h1.2.1⟩
theorem t1_size (r : Rs) : (t1 r).2.1.size ≤ r.1.size := rdB_size2 r.1 r.2 1
theorem t1_front {x : Int} (h : 0 ≤ x ∧ x ≤ 255) (z : ByteArray) : t1 (b1 x ++ z, 0) = (x, z, 0) := by
  unfold t1
  rw [rdB_front (b1 x) z 1 rfl]
  show (valK (b1 x) 1, z, 0) = _
  rw [val_b1 h]
theorem t1_err {r : Rs} (h : r.2 ≠ 0) : (t1 r).2 = r := by
  obtain ⟨s, e⟩ := r
  show (rdB s e 1).2 = (s, e)
  unfold rdB
  rw [if_pos h]
theorem t1_end : t1 (E0, 0) = (0, E0, 1) := by decide
/-- a byte that is read stands in front -/
theorem t1_ok {r : Rs} (h : (t1 r).2.2 = 0) : r.2 = 0 ∧ r.1 = b1 (t1 r).1 ++ (t1 r).2.1 := by
  obtain ⟨s, e⟩ := r
  have h0 : e = 0 := by
    by_cases h0 : e = 0
    · exact h0
    · rw [t1_err h0] at h; exact absurd h h0
  subst h0
  refine ⟨rfl, ?_⟩
  have hz : ¬ ((s.size : Int) < 1) := fun hz => by
    have : (t1 (s, 0)).2.2 = 1 := by
      show (rdB s 0 1).2.2 = 1
      unfold rdB
      rw [if_neg (by simp), if_neg (by simp), if_pos hz]
    rw [this] at h; cases h
  obtain ⟨x, z, rfl, hx⟩ : ∃ x z, s = b1 x ++ z ∧ 0 ≤ x ∧ x ≤ 255 := by
    obtain ⟨⟨l⟩⟩ := s
    cases l with
    | nil => exact absurd (by show ((0 : Nat) : Int) < 1; decide) hz
    | cons u l =>
      refine ⟨(u.toNat : Int), ⟨l.toArray⟩, ?_, by have := u.toNat_lt; omega⟩
      have : b1 (u.toNat : Int) = ⟨#[u]⟩ := by simp [b1]
      rw [this]
      apply ByteArray.ext
      simp
  rw [t1_front hx]
theorem t1_more {s z : ByteArray} {x : Int} {s' : ByteArray} (h : t1 (s, 0) = (x, s', 0)) : t1 (s ++ z, 0) = (x, s' ++ z, 0) := by
  have hb := t1_b (s, 0)
  obtain ⟨_, h2⟩ := t1_ok (r := (s, 0)) (by rw [h])
  rw [h] at h2 hb
  simp only at h2 hb
  rw [h2, ByteArray.append_assoc, t1_front hb]
theorem t1_e (r : Rs) (h : r.2 = 0) : (t1 r).2.2 = 0 ∨ (t1 r).2.2 = 1 := by
  obtain ⟨s, e⟩ := r
  simp only at h; subst h
  show (rdB s 0 1).2.2 = 0 ∨ (rdB s 0 1).2.2 = 1
  unfold rdB
  rw [if_neg (by simp), if_neg (by simp)]
  split <;> simp
end Go.Proofs.Ytlhlidmhlhodiaa

/-
  Drawn regions with classes: operations that only read their class need no order among themselves.
-/
namespace Go.Proofs.Ytlhlidmhlhodiaa
set_option linter.unusedSimpArgs false
set_option linter.unusedVariables false
open Go.RowKit

theorem updL_self : ∀ (cs : List Nat) (m : Nat → List It), updL m cs (cs.map m) = m
  | [], _ => rfl
  | c :: cs, m => by
    show updL (upd m c (m c)) cs (cs.map m) = m
    have e : upd m c (m c) = m := by
      funext d
      by_cases h : d = c
      · subst h; exact upd_self ..
      · exact upd_ne m (m c) (fun e => h e.symm)
    rw [e]; exact updL_self cs m
def Rdr (tbl : Nat → List (List It) → Value → List (List It) → Prop) (k : Nat) : Prop := ∀ L v Ms, tbl k L v Ms → Ms = L
section
variable {P : Program} {E : Env} {B0 : List It} {ro : List Ro} {ops : Array Oper} {cls : Nat → List Nat} {tbl : Nat → List (List It) → Value → List (List It) → Prop} {md : Region.Mode}
theorem out_rdr {i : Nat} {oi : Oper} {a : Act} {m m' : Nat → List It} {v : Value} (hr : Rdr tbl i) (h : outM P E B0 ro ops cls tbl i oi a m v m') : m' = m := by
  unfold outM at h
  split at h
  · split at h
    · exact h.2
    · obtain ⟨Ms, h1, _, rfl⟩ := h
      rw [hr _ _ _ h1]; exact updL_self _ _
  · exact h.2
theorem rOp_swapR {i j : Nat} {oi oj : Oper} {a : Act} {m : Nat → List It} {K : Act → (Nat → List It) → Prop} (hi : ops[i]? = some oi) (hj : ops[j]? = some oj) (hap : oi.apart ops oj = true) (ri : Rdr tbl i) (rj : Rdr tbl j) (hsi : ∀ cs b, oi.op ≠ .select cs b) (hsj : ∀ cs b, oj.op ≠ .select cs b)
    (H : rOpM P E B0 ro ops cls tbl i (rOpM P E B0 ro ops cls tbl j K) a m) : rOpM P E B0 ro ops cls tbl j (rOpM P E B0 ro ops cls tbl i K) a m := by
  obtain ⟨h1, h2, h3⟩ := Oper.apart_spec hap
  obtain ⟨Hs, Ho⟩ := H oi hi
  intro o ho
  obtain rfl : oj = o := by rw [hj] at ho; exact Option.some.inj ho
  refine ⟨?_, fun u m1 hu o ho => ?_⟩
  · obtain ⟨v, m1, hv⟩ := safe_outM Hs
    have := (Ho v m1 hv oj hj).1
    rw [safe_putM hsj h1, out_rdr ri hv] at this
    exact this
  · obtain rfl : oi = o := by rw [hi] at ho; exact Option.some.inj ho
    obtain rfl := out_rdr rj hu
    refine ⟨?_, fun v m2 hv => ?_⟩
    · rw [safe_putM hsi h3]
      exact Hs
    · rw [out_putM hsi h3] at hv
      obtain rfl := out_rdr ri hv
      have := (Ho v _ hv oj hj).2 u _ (by rw [out_putM hsj h1]; exact hu)
      rw [← Act.put_comm a v u h2]
      exact this
theorem wpAnyM_firstR {Q : Act → (Nat → List It) → Prop} {i : Nat} {oi : Oper} (hi : ops[i]? = some oi) (hsel : ∀ (j : Nat) (o : Oper) cs b, ops[j]? = some o → o.op ≠ .select cs b)
    (hcls : ∀ (j : Nat) (listed : Array Bool), j ≠ i → Closed md ops listed → (∀ k, k < i → listed.getD k true = true) → listed.getD i true = false → j ∈ Region.ready md ops listed → (∀ d ∈ cls j, d ∉ cls i) ∨ (Rdr tbl i ∧ Rdr tbl j)) :
    ∀ (fuel : Nat) (listed : Array Bool) (a : Act) (m : Nat → List It), Closed md ops listed → (∀ k, k < i → listed.getD k true = true) →
      (∀ j oj, ops[j]? = some oj → j ≠ i → listed.getD j true = false → (∀ e ∈ oj.after, Region.binds md e = true → e.on ≠ i) → oi.apart ops oj = true) →
      i ∈ Region.ready md ops listed → rOpM P E B0 ro ops cls tbl i (wpAnyM P E B0 ro ops cls tbl md Q fuel (listed.setIfInBounds i true)) a m → wpAnyM P E B0 ro ops cls tbl md Q (fuel + 1) listed a m := by
  intro fuel
  induction fuel with
  | zero =>
    intro listed a m _ _ _ hr H
    refine ⟨fun h => (by rw [h] at hr; cases hr), fun j hj => ?_⟩
    by_cases hji : j = i
    · subst hji; exact H
    · have := ready_mono hj hji
      obtain ⟨hs, ho⟩ := H oi hi
      obtain ⟨v, m', hv⟩ := safe_outM hs
      rw [(ho v m' hv).1] at this
      cases this
  | succ fuel ih =>
    intro listed a m hcl hpre hfree hr H
    refine ⟨fun h => (by rw [h] at hr; cases hr), fun j hj => ?_⟩
    by_cases hji : j = i
    · subst hji; exact H
    · obtain ⟨hjun, oj, hoj, hall⟩ := mem_ready.1 hj
      have hnot : ∀ e ∈ oj.after, Region.binds md e = true → e.on ≠ i := fun e he hb heq => by
        have h1 := hall e he hb
        have h0 := (mem_ready.1 hr).1
        rw [heq] at h1
        rcases Nat.lt_or_ge i listed.size with h' | h'
        · simp [h'] at h0 h1; rw [h0] at h1; cases h1
        · simp [Array.getElem?_eq_none h'] at h1
      have h1 := rOpM_mono (fun a' m' h => h.2 j (ready_mono hj hji)) H
      have f1 := hfree j oj hoj hji hjun hnot
      have f2 := hcls j listed hji hcl hpre (mem_ready.1 hr).1 hj
      have h2 := f2.elim (fun f2 => rOp_swapM hi hoj f1 f2 (fun cs b => hsel i oi cs b hi) (fun cs b => hsel j oj cs b hoj) h1) (fun f2 => rOp_swapR hi hoj f1 f2.1 f2.2 (fun cs b => hsel i oi cs b hi) (fun cs b => hsel j oj cs b hoj) h1)
      refine rOpM_mono (fun a' m' h3 => ih (listed.setIfInBounds j true) a' m' (hcl.set hj) (fun k hk => ?_) (fun k ok hk hki hun hno => ?_) (ready_mono hr (Ne.symm hji)) ?_) h2
      · by_cases hjk : j = k
        · subst hjk
          rcases Nat.lt_or_ge j listed.size with h2 | h2
          · simp [h2]
          · simp [h2]
        · rw [getD_set_ne true hjk]; exact hpre k hk
      · refine hfree k ok hk hki ?_ hno
        by_cases hjk : j = k
        · subst hjk; exact hjun
        · rw [getD_set_ne true hjk] at hun; exact hun
      · rw [Array.setIfInBounds_comm _ _ hji]
        exact h3
def clsR (md : Region.Mode) (ops : Array Oper) (cls : Nat → List Nat) (rd : List Nat) : Bool :=
  (List.range ops.size).all fun j => (List.range j).all fun i => ((cls j).all fun d => !(cls i).contains d) || (rd.contains i && rd.contains j) || reachB md ops i ops.size j
theorem clsR_spec {rd : List Nat} (h : clsR md ops cls rd = true) {i j : Nat} {oj : Oper} (hj : ops[j]? = some oj) (hij : i < j) : (∀ d ∈ cls j, d ∉ cls i) ∨ (i ∈ rd ∧ j ∈ rd) ∨ reachB md ops i ops.size j = true := by
  unfold clsR at h
  rw [List.all_eq_true] at h
  have h1 := h j (by have := (Array.getElem?_eq_some_iff.1 hj).1; simpa using this)
  rw [List.all_eq_true] at h1
  have h2 := h1 i (by simpa using hij)
  rw [Bool.or_eq_true, Bool.or_eq_true, Bool.and_eq_true] at h2
  rcases h2 with (h2 | ⟨h2, h3⟩) | h2
  · refine .inl fun d hd hd' => ?_
    rw [List.all_eq_true] at h2
    have := h2 d hd
    simp [hd'] at this
  · exact .inr (.inl ⟨by simpa using h2, by simpa using h3⟩)
  · exact .inr (.inr h2)
theorem wpAnyM_lexR {Q : Act → (Nat → List It) → Prop} {rd : List Nat} (hs : Region.noSelect ops = true) (hcl : clsR md ops cls rd = true) (hrd : ∀ k ∈ rd, Rdr tbl k) : ∀ (l : List Oper) (k : Nat) (listed : Array Bool) (a : Act) (m : Nat → List It), Closed md ops listed → ops.size = listed.size → (∀ j, l[j]? = ops[k + j]?) → (∀ j, j < k → listed.getD j true = true) →
    Region.lexFrom md ops l.length k listed = true → wpM P E B0 ro ops cls tbl Q l k a m → wpAnyM P E B0 ro ops cls tbl md Q l.length listed a m
  | [], _, _, _, _, _, _, _, _, hB, h => ⟨by simpa [Region.lexFrom] using hB, h⟩
  | o :: l, k, listed, a, m, hC, hz, hl, hk, hB, h => by
    have h0 : ops[k]? = some o := by simpa using (hl 0).symm
    simp only [List.length_cons, Region.lexFrom, Bool.and_eq_true] at hB
    obtain ⟨⟨hr, hf⟩, hB'⟩ := hB
    have hr' : k ∈ Region.ready md ops listed := by simpa using hr
    refine wpAnyM_firstR h0 (Region.noSelect_spec hs) (fun j ld hjk hCl hpre hun hj => ?_) l.length listed a m hC hk (fun j oj hj hjk hun hno => Region.free_spec h0 hf j oj hj hjk hun hno) hr' ?_
    · obtain ⟨hjun, oj, hoj, hall⟩ := mem_ready.1 hj
      have hle := lex_lt hpre hjun
      have hks : k < ld.size := by
        rcases Nat.lt_or_ge k ld.size with h' | h'
        · exact h'
        · simp [Array.getD, Nat.not_lt.2 h'] at hun
      rcases clsR_spec hcl hoj (show k < j by omega) with h1 | ⟨h1, h2⟩ | h1
      · exact .inl h1
      · exact .inr ⟨hrd _ h1, hrd _ h2⟩
      · exfalso
        obtain ⟨o2, h2, e, he, hb, hne⟩ := reach_not hCl hun hks _ _ h1
        rw [hoj] at h2
        obtain rfl := Option.some.inj h2
        rw [hall e he hb] at hne; cases hne
    · refine rOpM_mono (fun a' m' h' => wpAnyM_lexR hs hcl hrd l (k + 1) _ a' m' (hC.set hr') (by simpa using hz) (fun j => by have := hl (j + 1); simpa [Nat.add_assoc, Nat.add_comm 1 j] using this) (fun j hj => ?_) hB' h') h
      rcases Nat.lt_or_ge j k with h1 | h1
      · rw [getD_set_ne true (show k ≠ j by omega)]; exact hk j h1
      · obtain rfl : j = k := by omega
        rcases Nat.lt_or_ge j listed.size with h2 | h2
        · simp [h2]
        · simp [h2]
theorem wc_regR {N : Nat} {fr : List (Nat × Value)} {hp : List It} {Kn Kr : St → Prop} {Kx : List (Nat × (St → Prop))} {id : Nat} {l : List Oper} (rd all : List Nat) (cls : Nat → List Nat) (tbl : Nat → List (List It) → Value → List (List It) → Prop) (B0 : List It) (m0 : Nat → List It)
    (hm : P.follows .mixedOrders = true) (hB : Region.lexB .any l.toArray = true) (hcl : clsR .any l.toArray cls rd = true) (hrd : ∀ k ∈ rd, Rdr tbl k) (hn : all.Nodup) (hcs : ∀ i, (cls i).Nodup ∧ ∀ c ∈ cls i, c ∈ all) (hperm : hp.Perm (Hp B0 all m0))
    (h : HdM P N E B0 ro l.toArray cls tbl (fun fr m => ∀ H, H = Hp B0 all m → Kn ⟨fr, H, ro⟩) 0 l fr m0) : WC P N E (.region id l.toArray true) ⟨fr, hp, ro⟩ Kn Kx Kr := fun a w ok => by
  simp only [Region.lexB, Bool.and_eq_true] at hB
  have hw : Sat E.B E.S E.T (Hp B0 all m0) ro _ := (ok.s.drawn (w.drawn + 1)).perm hperm
  refine wp_region_any hm (wpAny_of_M (ro := ro) (tbl := tbl) (Q := fun a m => ∃ fr', Kn ⟨fr', Hp B0 all m, ro⟩ ∧ Holds N fr' a) hn hcs (fun a m w' hs ⟨fr', hk, ha⟩ => ⟨_, hk, ha, hs⟩) _ _ a m0 _ hw ?_)
  have := wpAnyM_lexR (P := P) (E := E) (B0 := B0) (ro := ro) (tbl := tbl) (md := .any) hB.1 hcl hrd l 0 (Array.replicate l.toArray.size false) a m0 closed0 (by simp) (by simp) (fun j hj => by omega) (by simpa using hB.2)
    (h.sound (Q := fun a m => ∃ fr', Kn ⟨fr', Hp B0 all m, ro⟩ ∧ Holds N fr' a) ⟨_, _, hw⟩ (fun fr a m hk ha => ⟨fr, hk _ rfl, ha⟩) (fun j _ => by simp) a ok.h)
  simpa using this
end
end Go.Proofs.Ytlhlidmhlhodiaa

/-
  Package rtp: Parse.
-/
namespace Go.Proofs.Ytlhlidmhlhodiaa
set_option linter.unusedSimpArgs false
set_option linter.unusedVariables false
set_option linter.unusedSimpArgs false
set_option linter.unusedVariables false
open Go.RowKit
attribute [local irreducible] Pv WO WC Fn
set_option maxRecDepth 100000
attribute [local irreducible] ByteArray.extract

def tK (k : Int) (r : Rs) : Int × Rs := (valK (rdB r.1 r.2 k).1 (rdB r.1 r.2 k).1.size, (rdB r.1 r.2 k).2)
theorem tK_size (k : Int) (r : Rs) : (tK k r).2.1.size ≤ r.1.size := rdB_size2 r.1 r.2 k
theorem pU8 (g : Nat) (r : Rs) (hs : r.1.size ≤ 1000000) : Fn Try.prog 63 #[.pointer (some ⟨g, 0, none⟩)] [rdO g r.1 r.2] [] (fun v L' R' => v = .int .u8 (tK 1 r).1 ∧ L' = [rdO g (tK 1 r).2.1 (tK 1 r).2.2] ∧ R' = []) := octU8 g r.1 _ _ r.2 _ (by omega) rfl
theorem pU16 (g : Nat) (r : Rs) (hs : r.1.size ≤ 1000000) : Fn Try.prog 65 #[.pointer (some ⟨g, 0, none⟩)] [rdO g r.1 r.2] [] (fun v L' R' => v = .int .u16 (tK 2 r).1 ∧ L' = [rdO g (tK 2 r).2.1 (tK 2 r).2.2] ∧ R' = []) := octU16 g r.1 _ _ r.2 _ (by omega) rfl
theorem pU32 (g : Nat) (r : Rs) (hs : r.1.size ≤ 1000000) : Fn Try.prog 66 #[.pointer (some ⟨g, 0, none⟩)] [rdO g r.1 r.2] [] (fun v L' R' => v = .int .u32 (tK 4 r).1 ∧ L' = [rdO g (tK 4 r).2.1 (tK 4 r).2.2] ∧ R' = []) := octU32 g r.1 _ _ r.2 _ (by omega) rfl
theorem tK2_b (r : Rs) : 0 ≤ (tK 2 r).1 ∧ (tK 2 r).1 ≤ 65535 := by
  have h : (rdB r.1 r.2 2).1.size ≤ 2 := by have := rdB_size r.1 r.2 2 (by omega); omega
  have h1 := valK_b (rdB r.1 r.2 2).1
  show 0 ≤ valK _ _ ∧ valK _ _ ≤ 65535
  have h2 : (rdB r.1 r.2 2).1.size = 0 ∨ (rdB r.1 r.2 2).1.size = 1 ∨ (rdB r.1 r.2 2).1.size = 2 := by omega
  rcases h2 with h2 | h2 | h2
  · rw [h2]; simp [valK]
  · rw [h2]; exact ⟨h1.1 1, by have := h1.2.1; omega⟩
  · rw [h2]; exact ⟨h1.1 2, h1.2.2.1⟩
/-- the sources -/
def csN (r : Rs) : Nat → List Int × Rs
  | 0 => ([], r)
  | n + 1 => ((csN r n).1 ++ [(tK 4 (csN r n).2).1], (tK 4 (csN r n).2).2)
theorem csN_len (r : Rs) : ∀ n, (csN r n).1.length = n
  | 0 => rfl
  | n + 1 => by simp [csN, csN_len r n]
theorem csN_size (r : Rs) : ∀ n, (csN r n).2.1.size ≤ r.1.size
  | 0 => Nat.le_refl _
  | n + 1 => Nat.le_trans (tK_size _ _) (csN_size r n)
abbrev crs (l : List Int) : List (List Value) := l.map fun z => [.int .u32 z]
abbrev csO (ao : Option Addr) (n c : Nat) (l : List Int) : It := .own 30 1 ao n c (crs l)
abbrev rpI (b : Nat) (mrk : Bool) (kd sq t ss : Int) (cs : Value) (ex : Bool) (pf : Int) (dt pl : ByteArray) (pd : Int) : It := .ob b (.cells (rpR mrk kd sq t ss cs ex pf dt pl pd).toArray 33 (0, 0))
abbrev rpZ (b : Nat) : It := rpI b false 0 0 0 0 (.slice none 0 0) false 0 ByteArray.empty ByteArray.empty 0
theorem outc_frm {P : Program} {E : Env} {B0 X L : List It} {ro : List Ro} {o : Oper} {a : Act} {T : Value → List It → Prop} (h : Outc P E B0 ro o a L T) : Outc P E B0 ro o a (X ++ L) (fun v M => ∃ M0, T v M0 ∧ M = X ++ M0) := fun F w hw => by
  have pm : ∀ Y : List It, ((X ++ Y) ++ (B0 ++ F)).Perm (Y ++ (B0 ++ (X ++ F))) := fun Y => by
    rw [List.append_assoc]
    refine List.perm_append_comm.trans ?_
    rw [List.append_assoc, List.append_assoc]
    refine List.Perm.append_left Y ?_
    exact List.Perm.append_left B0 List.perm_append_comm
  have h1 := h (X ++ F) w (hw.perm (pm L))
  cases hr : (execOp a.eval o).run P w with
  | ok v w' =>
    rw [hr] at h1
    cases v with
    | value v =>
      obtain ⟨M, h2, h3⟩ := h1
      exact ⟨X ++ M, ⟨M, h2, rfl⟩, h3.perm (pm M).symm⟩
    | skip =>
      obtain ⟨M, h2, h3⟩ := h1
      exact ⟨X ++ M, ⟨M, h2, rfl⟩, h3.perm (pm M).symm⟩
    | enter f args =>
      obtain ⟨h0, h1⟩ := h1
      exact ⟨h0, h1.mono fun e w'' ⟨v, M, h2, h3, h4⟩ => ⟨v, X ++ M, h2, ⟨M, h3, rfl⟩, h4.perm (pm M).symm⟩⟩
    | _ => exact h1
  | _ => rw [hr] at h1; exact h1
theorem and8_127 {a : Int} : 0 ≤ a ∧ a ≤ 255 → bits .and .u8 a 127 = a % 128 := u8_all (p := fun a => bits .and .u8 a 127 = a % 128) (by decide +kernel)
theorem and8_15 {a : Int} : 0 ≤ a ∧ a ≤ 255 → bits .and .u8 a 15 = a % 16 := u8_all (p := fun a => bits .and .u8 a 15 = a % 16) (by decide +kernel)
theorem outc_frmA {P : Program} {N : Nat} {E : Env} {fr : List (Nat × Value)} {B0 X L : List It} {ro : List Ro} {o : Oper} {T : Value → List It → Prop} (h : ∀ a, Holds N fr a → Outc P E B0 ro o a L T) : ∀ a, Holds N fr a → Outc P E B0 ro o a (X ++ L) (fun v M => ∃ M0, T v M0 ∧ M = X ++ M0) := fun a ha => outc_frm (h a ha)
abbrev csO' (ao : Option Addr) (n c : Nat) (xs : List (List Value)) : It := .own 30 1 ao n c xs
theorem csO_snoc (ao : Option Addr) (n c : Nat) (l : List Int) (x : Int) : csO ao n c (l ++ [x]) = csO' ao n c (crs l ++ crs [x]) := by simp [crs]
def tblC (g : Nat) (x : Int) (r2 : Rs) (bp : Nat) (mrk : Bool) (kd sq t ss : Int) (ex : Bool) (ao : Option Addr) (c : Nat) (l : List Int) : Nat → List (List It) → Value → List (List It) → Prop := fun k Ls v Ms => match k, Ls with
  | 1, [y] => v = .slice ao l.length c ∧ Ms = [y]
  | 3, _ => v = .int .u32 x ∧ Ms = [[rdO g r2.1 r2.2]]
  | 4, _ => ∃ b, v = .slice (some ⟨b, 0, none⟩) 1 1 ∧ Ms = [[csO (some ⟨b, 0, none⟩) 1 1 [x]]]
  | 5, [_, y] => ∃ ao2 c2, v = .slice ao2 (l.length + 1) c2 ∧ Ms = [[.own 30 1 ao2 (l.length + 1) c2 (crs l ++ crs [x])], y]
  | 7, [[.own T2 sz ao2 n2 c2 xs], _] => v = undef ∧ Ms = [[.own T2 sz ao2 n2 c2 xs], [rpI bp mrk kd sq t ss (.slice ao2 n2 c2) ex 0 ByteArray.empty ByteArray.empty 0]]
  | _, _ => False
theorem pPadE : Fn Try.prog 69 #[.string E0] [] [] (fun v L' R' => v = .tuple #[.int .i64 0, .int .i64 1] ∧ L' = [] ∧ R' = []) := by
  refine fn_intro Try.func69 rfl Try.ntmps69 rfl (fun E => ?_)
  (repeat (first | ((first | (apply wo_v; rfl) ); (· first | (apply pv_ev; rfl) | (apply g_bin; first | (apply pv_eql_s; rfl; rfl) ) )) | apply wo_nil | apply wc_seq | apply wc_region | apply wc_ret | (apply wc_true; rfl) ))
  exact ret2 rfl rfl rfl ⟨rfl, rfl, rfl⟩ ((by (repeat (first | apply sub_nil )); done) : List.Perm _ ([] ++ _)) (by first | exact fun _ h => h | (intro r hr; cases hr; done) | (simp; done) | exact fun _ h => List.mem_append_left _ h | (intro r hr; simp [hr]; done))
def padM (s : ByteArray) : Int × Int := if s = E0 then (0, 1) else if sb s (s.size - 1) = 0 then (0, 2) else if (s.size : Int) < sb s (s.size - 1) then (0, 1) else (sb s (s.size - 1), 0)
theorem pPad (s : ByteArray) (hs : s.size ≤ 1000000) : Fn Try.prog 69 #[.string s] [] [] (fun v L' R' => v = .tuple #[.int .i64 (padM s).1, .int .i64 (padM s).2] ∧ L' = [] ∧ R' = []) := by
  by_cases h0 : s = E0
  · subst h0; exact pPadE
  · have h1 : 0 < s.size := by
      rcases Nat.eq_zero_or_pos s.size with h | h
      · exact absurd (ByteArray.size_eq_zero_iff.1 h) h0
      · exact h
    have e1 : ((s.size : Int) - 1).toNat = s.size - 1 := by omega
    have hb := sb_b s (s.size - 1)
    have hb' := sb_b s ((s.size : Int) - 1).toNat
    unfold padM
    rw [if_neg h0]
    by_cases h2 : sb s (s.size - 1) = 0
    · rw [if_pos h2]
      refine fn_intro Try.func69 rfl Try.ntmps69 rfl (fun E => ?_)
      (repeat (first | ((first | (apply wo_v; rfl) ); (· first | (apply pv_ev; rfl) | (apply g_bin; first | (apply a_sub; rfl; rfl; infer_instance; omega) | (apply pv_eql_s; rfl; rfl) ) | (apply g_bi; first | (apply pv_len_str; rfl) ) | (apply g_conv; first | (apply a_conv; rfl; infer_instance; infer_instance; infer_instance; omega) ) | (apply pv_index_sn; rfl; rfl; omega) | (apply pv_index_s; rfl; rfl; omega))) | apply wo_nil | apply wc_seq | apply wc_region | apply wc_skip | (apply wc_true; rfl) | (apply wc_false; rfl) | (apply a_dec_t; rfl; (· first | assumption | omega)) | (apply a_dec_f; rfl; (· first | assumption | omega)) ))
      rw [e1]
      refine wc_block ?_
      (repeat (first | ((first | (apply wo_v; rfl) ); (· first | (apply pv_ev; rfl) )) | apply wo_nil | apply wc_seq | apply wc_region | apply wc_ret | (apply wc_true; rfl) | (apply wc_false; rfl) | (apply a_dec_t; rfl; (· first | assumption | omega)) ))
      exact ret2 rfl rfl rfl ⟨rfl, rfl, rfl⟩ ((by (repeat (first | apply sub_nil )); done) : List.Perm _ ([] ++ _)) (by first | exact fun _ h => h | (intro r hr; cases hr; done) | (simp; done) | exact fun _ h => List.mem_append_left _ h | (intro r hr; simp [hr]; done))
    · rw [if_neg h2]
      by_cases h3 : (s.size : Int) < sb s (s.size - 1)
      · rw [if_pos h3]
        refine fn_intro Try.func69 rfl Try.ntmps69 rfl (fun E => ?_)
        (repeat (first | ((first | (apply wo_v; rfl) ); (· first | (apply pv_ev; rfl) | (apply g_bin; first | (apply a_sub; rfl; rfl; infer_instance; omega) | (apply pv_eql_s; rfl; rfl) ) | (apply g_bi; first | (apply pv_len_str; rfl) ) | (apply g_conv; first | (apply a_conv; rfl; infer_instance; infer_instance; infer_instance; omega) ) | (apply pv_index_sn; rfl; rfl; omega) | (apply pv_index_s; rfl; rfl; omega))) | apply wo_nil | apply wc_seq | apply wc_region | apply wc_skip | (apply wc_true; rfl) | (apply wc_false; rfl) | (apply a_dec_t; rfl; (· first | assumption | omega)) | (apply a_dec_f; rfl; (· first | assumption | omega)) ))
        rw [e1]
        refine wc_block ?_
        (repeat (first | ((first | (apply wo_v; rfl) ); (· first | (apply pv_ev; rfl) | (apply g_bi; first | (apply pv_len_str; rfl) ) )) | apply wo_nil | apply wc_seq | apply wc_region | apply wc_ret | (apply wc_true; rfl) | (apply wc_false; rfl) | (apply a_dec_t; rfl; (· first | assumption | omega)) | (apply a_dec_f; rfl; (· first | assumption | omega)) ))
        exact ret2 rfl rfl rfl ⟨rfl, rfl, rfl⟩ ((by (repeat (first | apply sub_nil )); done) : List.Perm _ ([] ++ _)) (by first | exact fun _ h => h | (intro r hr; cases hr; done) | (simp; done) | exact fun _ h => List.mem_append_left _ h | (intro r hr; simp [hr]; done))
      · rw [if_neg h3]
        refine fn_intro Try.func69 rfl Try.ntmps69 rfl (fun E => ?_)
        (repeat (first | ((first | (apply wo_v; rfl) ); (· first | (apply pv_ev; rfl) | (apply g_bin; first | (apply a_sub; rfl; rfl; infer_instance; omega) | (apply pv_eql_s; rfl; rfl) ) | (apply g_bi; first | (apply pv_len_str; rfl) ) | (apply g_conv; first | (apply a_conv; rfl; infer_instance; infer_instance; infer_instance; omega) ) | (apply pv_index_sn; rfl; rfl; omega) | (apply pv_index_s; rfl; rfl; omega))) | apply wo_nil | apply wc_seq | apply wc_region | apply wc_skip | (apply wc_true; rfl) | (apply wc_false; rfl) | (apply a_dec_t; rfl; (· first | assumption | omega)) | (apply a_dec_f; rfl; (· first | assumption | omega)) ))
        rw [e1]
        refine wc_block ?_
        (repeat (first | ((first | (apply wo_v; rfl) ); (· first | (apply pv_ev; rfl) | (apply g_bi; first | (apply pv_len_str; rfl) ) )) | apply wo_nil | apply wc_seq | apply wc_region | apply wc_skip | apply wc_ret | (apply wc_true; rfl) | (apply wc_false; rfl) | (apply a_dec_t; rfl; (· first | assumption | omega)) | (apply a_dec_f; rfl; (· first | assumption | omega)) ))
        exact ret2 rfl rfl rfl ⟨rfl, rfl, rfl⟩ ((by (repeat (first | apply sub_nil )); done) : List.Perm _ ([] ++ _)) (by first | exact fun _ h => h | (intro r hr; cases hr; done) | (simp; done) | exact fun _ h => List.mem_append_left _ h | (intro r hr; simp [hr]; done))
/-- a packet -/
structure Rp where
  mrk : Bool
  kd : Int
  sq : Int
  t : Int
  ss : Int
  cs : List Int
  ex : Bool
  pf : Int
  dt : ByteArray
  pl : ByteArray
  pd : Int
def Rp0 : Rp := ⟨false, 0, 0, 0, 0, [], false, 0, ByteArray.empty, ByteArray.empty, 0⟩
theorem padM_b (s : ByteArray) : 0 ≤ (padM s).1 ∧ (padM s).1 ≤ s.size := by
  have := sb_b s (s.size - 1)
  unfold padM
  split
  · dsimp only; omega
  · split
    · dsimp only; omega
    · split <;> dsimp only <;> omega
def tblP (pn : Int) (pl : ByteArray) (bp : Nat) (mrk : Bool) (kd sq t ss : Int) (cs : Value) (ex : Bool) (pf : Int) (dt : ByteArray) : Nat → List (List It) → Value → List (List It) → Prop := fun k Ls v Ms => match k, Ls with
  | 2, _ => v = .string pl ∧ Ms = Ls
  | 4, _ => v = .string pl ∧ Ms = Ls
  | 10, _ => v = undef ∧ Ms = [[rpI bp mrk kd sq t ss cs ex pf dt pl pn]]
  | _, _ => v = undef ∧ Ms = [[rpI bp mrk kd sq t ss cs ex pf dt (pl.extract 0 ((pl.size : Int) - pn).toNat) pn]]
theorem tblP_rd {pn : Int} {pl : ByteArray} {bp : Nat} {mrk : Bool} {kd sq t ss : Int} {cs : Value} {ex : Bool} {pf : Int} {dt : ByteArray} : ∀ k ∈ [2, 4], Rdr (tblP pn pl bp mrk kd sq t ss cs ex pf dt) k := fun k hk L v Ms h => by
  simp only [List.mem_cons, List.not_mem_nil, or_false] at hk
  rcases hk with rfl | rfl
  · exact h.2
  · exact h.2
def exR (b : Bool) (r : Rs) : Int × ByteArray × Rs := if b = true then ((tK 2 r).1, (rdB (tK 2 (tK 2 r).2).2.1 (tK 2 (tK 2 r).2).2.2 (4 * (tK 2 (tK 2 r).2).1)).1, (rdB (tK 2 (tK 2 r).2).2.1 (tK 2 (tK 2 r).2).2.2 (4 * (tK 2 (tK 2 r).2).1)).2) else (0, ByteArray.empty, r)
/-- what stands behind the head -/
def enR (p : Rp) (pa : Bool) (r : Rs) : Rp × Int :=
  if (rdB r.1 r.2 r.1.size).2.2 ≠ 0 then (Rp0, (rdB r.1 r.2 r.1.size).2.2)
  else if pa = true then (if (padM (rdB r.1 r.2 r.1.size).1).2 ≠ 0 then (Rp0, (padM (rdB r.1 r.2 r.1.size).1).2) else ({ p with pl := (rdB r.1 r.2 r.1.size).1.extract 0 (((rdB r.1 r.2 r.1.size).1.size : Int) - (padM (rdB r.1 r.2 r.1.size).1).1).toNat, pd := (padM (rdB r.1 r.2 r.1.size).1).1 }, 0))
  else ({ p with pl := (rdB r.1 r.2 r.1.size).1 }, 0)
def prR (s : ByteArray) : Rp × Int :=
  if 1500 < s.size then (Rp0, 4) else
  let x := tK 1 (s, 0)
  let y := tK 1 x.2
  if y.2.2 = 0 ∧ x.1 / 64 ≠ 2 then (Rp0, 2) else
  let q := tK 2 y.2
  let t := tK 4 q.2
  let z := tK 4 t.2
  let c := csN z.2 (x.1 % 16).toNat
  let e := exR (decide (x.1 / 16 % 2 = 1)) c.2
  enR ⟨decide (127 < y.1), y.1 % 128, q.1, t.1, z.1, c.1, decide (x.1 / 16 % 2 = 1), e.1, e.2.1, ByteArray.empty, 0⟩ (decide (x.1 / 32 % 2 = 1)) e.2.2
set_option maxHeartbeats 16000000 in
theorem pParse (s : ByteArray) (hs : s.size ≤ 100000) : Fn Try.prog 15 #[.string s] [] []
    (fun v L' R' => ∃ ao c, v = .tuple #[.agg (rpR (prR s).1.mrk (prR s).1.kd (prR s).1.sq (prR s).1.t (prR s).1.ss (.slice ao (prR s).1.cs.length c) (prR s).1.ex (prR s).1.pf (prR s).1.dt (prR s).1.pl (prR s).1.pd).toArray, .int .i64 (prR s).2]
      ∧ L' = [csO ao (prR s).1.cs.length c (prR s).1.cs] ∧ R' = []) := by
  unfold prR
  by_cases h0 : 1500 < s.size
  · rw [if_pos h0]
    refine fn_intro Try.func15 rfl Try.ntmps15 rfl (fun E => ?_)
    refine wc_own0 30 1 ?_
    (repeat (first | ((first | (apply wo_v; rfl) ); (· first | (apply pv_ev; rfl) | (apply g_bi; first | (apply pv_len_str; rfl) ) | (apply g_build; apply pv_build; (· (repeat (first | apply Bld.nil )))) )) | apply wo_nil | apply wc_seq | apply wc_region | apply wc_ret | (apply wc_true; rfl) | (apply wc_false; rfl) | (apply a_dec_t; rfl; (· first | assumption | omega)) | (apply wo_alloc; rfl; intro bx) | (apply wo_sta; rfl; rfl; rfl; rfl; (· (repeat (first | apply sel_here ))); (· (repeat (first | apply LayAt.nil | apply LayAt.here ))); rfl) ))
    exact retv rfl (by (repeat (first | apply RV.nil | (apply RV.tmp; rfl) | (apply RV.agg; rfl; (· (repeat (first | apply sel_here ))); infer_instance; (· (repeat (first | apply Cut.here0 | apply Cut.here )))) )); done) (⟨none, 0, rfl, rfl, rfl⟩) (by (repeat (first | apply sub_nil | (apply sub_cons; (· (repeat (first | apply sel_here | apply sel_there)))))); done) (by first | exact fun _ h => h | (intro r hr; cases hr; done) | (simp; done) | exact fun _ h => List.mem_append_left _ h | (intro r hr; simp [hr]; done))
  rw [if_neg h0]
  dsimp only
  have s1 := tK_size 1 (s, 0)
  have hx := t1_b (s, 0)
  have c1 := fun g => pU8 g (s, 0) (by dsimp only; omega)
  rw [show t1 (s, 0) = tK 1 (s, 0) from rfl] at hx
  generalize tK 1 (s, 0) = x at c1 hx s1 ⊢
  obtain ⟨a, r1⟩ := x
  dsimp only at c1 hx s1 ⊢
  have s2 := tK_size 1 r1
  have hy := t1_b r1
  have c2 := fun g => pU8 g r1 (by omega)
  rw [show t1 r1 = tK 1 r1 from rfl] at hy
  generalize tK 1 r1 = y at c2 hy s2 ⊢
  obtain ⟨b, r2⟩ := y
  dsimp only at c2 hy s2 ⊢
  by_cases h2 : r2.2 = 0 ∧ a / 64 ≠ 2
  · rw [if_pos h2]
    obtain ⟨h3, h4⟩ := h2
    refine fn_intro Try.func15 rfl Try.ntmps15 rfl (fun E => ?_)
    refine wc_own0 30 1 ?_
    (repeat (first | ((first | (apply wo_v; rfl) ); (· first | (apply pv_ev; rfl) | (apply g_bi; first | (apply pv_len_str; rfl) ) )) | apply wo_nil | apply wc_seq | apply wc_region | apply wc_skip | (apply wc_true; rfl) | (apply wc_false; rfl) | (apply a_dec_t; rfl; (· first | assumption | omega)) | (apply a_dec_f; rfl; (· first | assumption | omega)) | (apply wo_alloc; rfl; intro bx) ))
    (refine wo_call (octRead s) rfl (by (repeat (first | apply sub_nil )); done) (by first | exact fun _ h => h | (intro r hr; cases hr; done) | (simp; done) | exact fun _ h => List.mem_append_left _ h | (intro r hr; simp [hr]; done)) rfl ?_; rintro v L' R' ⟨g, rfl, rfl, rfl⟩ H' hH RR hR; simp only [List.cons_append, List.nil_append] at hH hR; subst hH; have hR := hR.symm; subst hR)
    (repeat (first | ((first | (apply wo_v; rfl) ); (· first | (apply pv_ev; rfl) )) | apply wo_nil | apply wc_seq | apply wc_region ))
    (refine wo_call (c1 g) rfl (by (repeat (first | apply sub_nil )); done) (by first | exact fun _ h => h | (intro r hr; cases hr; done) | (simp; done) | exact fun _ h => List.mem_append_left _ h | (intro r hr; simp [hr]; done)) rfl ?_; rintro v L' R' ⟨rfl, rfl, rfl⟩ H' hH RR hR; simp only [List.cons_append, List.nil_append] at hH hR; subst hH; have hR := hR.symm; subst hR)
    (repeat (first | ((first | (apply wo_v; rfl) ); (· first | (apply pv_ev; rfl) )) ))
    (refine wo_call (c2 g) rfl (by (repeat (first | apply sub_nil )); done) (by first | exact fun _ h => h | (intro r hr; cases hr; done) | (simp; done) | exact fun _ h => List.mem_append_left _ h | (intro r hr; simp [hr]; done)) rfl ?_; rintro v L' R' ⟨rfl, rfl, rfl⟩ H' hH RR hR; simp only [List.cons_append, List.nil_append] at hH hR; subst hH; have hR := hR.symm; subst hR)
    (repeat (first | ((first | (apply wo_v; rfl) ); (· first | (apply pv_ev; rfl) )) | apply wo_nil | apply wc_seq | apply wc_region ))
    (refine wo_call (octErr g r2.1 r2.2) rfl (by (repeat (first | apply sub_nil )); done) (by first | exact fun _ h => h | (intro r hr; cases hr; done) | (simp; done) | exact fun _ h => List.mem_append_left _ h | (intro r hr; simp [hr]; done)) rfl ?_; rintro v L' R' ⟨rfl, rfl, rfl⟩ H' hH RR hR; simp only [List.cons_append, List.nil_append] at hH hR; subst hH; have hR := hR.symm; subst hR)
    (repeat (first | ((first | (apply wo_v; rfl) ); (· first | (apply pv_ev; rfl) | (apply g_pick; first | (apply pv_pick_t; rfl; rfl) ) | (apply g_bin; first | (apply a_shr; rfl; rfl; rfl; omega; rfl) ) | (apply g_build; apply pv_build; (· (repeat (first | apply Bld.nil )))) )) | apply wo_nil | apply wc_seq | apply wc_region | apply wc_ret | (apply wc_true; rfl) | (apply wc_false; rfl) | (apply a_dec_t; rfl; (· first | assumption | omega)) | (apply wo_run; rfl; rfl) | (apply wo_skip; rfl; rfl; rfl; rfl) | (apply wo_skip_u; rfl; rfl; rfl) | (apply a_gt; rfl; rfl; (· first | assumption | omega)) | (apply wo_sta; rfl; rfl; rfl; rfl; (· (repeat (first | apply sel_here | apply sel_there))); (· (repeat (first | apply LayAt.nil | apply LayAt.here ))); rfl) ))
    exact retv rfl (by (repeat (first | apply RV.nil | (apply RV.tmp; rfl) | (apply RV.agg; rfl; (· (repeat (first | apply sel_here ))); infer_instance; (· (repeat (first | apply Cut.here0 | apply Cut.here )))) )); done) (⟨none, 0, rfl, rfl, rfl⟩) (by (repeat (first | apply sub_nil | (apply sub_cons; (· (repeat (first | apply sel_here | apply sel_there)))))); done) (by first | exact fun _ h => h | (intro r hr; cases hr; done) | (simp; done) | exact fun _ h => List.mem_append_left _ h | (intro r hr; simp [hr]; done))
  rw [if_neg h2]
  have h3 : ¬ r2.2 = 0 ∨ (r2.2 = 0 ∧ a / 64 = 2) := by omega
  clear h2
  have s3 := tK_size 2 r2
  have c3 := fun g => pU16 g r2 (by omega)
  generalize tK 2 r2 = q at c3 s3 ⊢
  obtain ⟨sq, r3⟩ := q
  dsimp only at c3 s3 ⊢
  have s4 := tK_size 4 r3
  have c4 := fun g => pU32 g r3 (by omega)
  generalize tK 4 r3 = q at c4 s4 ⊢
  obtain ⟨t, r4⟩ := q
  dsimp only at c4 s4 ⊢
  have s5 := tK_size 4 r4
  have c5 := fun g => pU32 g r4 (by omega)
  generalize tK 4 r4 = q at c5 s5 ⊢
  obtain ⟨ss, r5⟩ := q
  dsimp only at c5 s5 ⊢
  have hc16 : 0 ≤ a % 16 ∧ a % 16 ≤ 15 := by omega
  have x16 : bits .and .u8 a 15 = a % 16 := and8_15 hx
  have x128 : bits .and .u8 b 127 = b % 128 := and8_127 hy
  have x1 : decide (0 < bits .and .u8 a 16) = decide (a / 16 % 2 = 1) := by rw [and8_16 hx]; exact decide_eq_decide.2 (by omega)
  have x2 : decide (0 < bits .and .u8 a 32) = decide (a / 32 % 2 = 1) := by rw [and8_32 hx]; exact decide_eq_decide.2 (by omega)
  obtain ⟨N, hN⟩ : ∃ N : Nat, a % 16 = (N : Int) := ⟨(a % 16).toNat, by omega⟩
  have hN2 : (a % 16).toNat = N := by omega
  rw [hN2]
  generalize hmrk : decide (127 < b) = mrk, hkd : b % 128 = kd, hex : decide (a / 16 % 2 = 1) = ex, hpa : decide (a / 32 % 2 = 1) = pa
  rw [hkd] at x128
  rw [hex] at x1
  rw [hpa] at x2
  rcases h3 with h3 | ⟨h3, h4⟩
  all_goals
    refine fn_intro Try.func15 rfl Try.ntmps15 rfl (fun E => ?_)
    (repeat (first | ((first | (apply wo_v; rfl) ); (· first | (apply pv_ev; rfl) | (apply g_bi; first | (apply pv_len_str; rfl) ) )) | apply wo_nil | apply wc_seq | apply wc_region | apply wc_skip | (apply wc_true; rfl) | (apply wc_false; rfl) | (apply a_dec_t; rfl; (· first | assumption | omega)) | (apply a_dec_f; rfl; (· first | assumption | omega)) | (apply wo_alloc; rfl; intro bx) ))
    obtain ⟨bq, hbq⟩ : ∃ g, g = bx := ⟨_, rfl⟩
    subst hbq
    (refine wo_call (octRead s) rfl (by (repeat (first | apply sub_nil )); done) (by first | exact fun _ h => h | (intro r hr; cases hr; done) | (simp; done) | exact fun _ h => List.mem_append_left _ h | (intro r hr; simp [hr]; done)) rfl ?_; rintro v L' R' ⟨g, rfl, rfl, rfl⟩ H' hH RR hR; simp only [List.cons_append, List.nil_append] at hH hR; subst hH; have hR := hR.symm; subst hR)
    (repeat (first | ((first | (apply wo_v; rfl) ); (· first | (apply pv_ev; rfl) )) | apply wo_nil | apply wc_seq | apply wc_region ))
    (refine wo_call (c1 g) rfl (by (repeat (first | apply sub_nil )); done) (by first | exact fun _ h => h | (intro r hr; cases hr; done) | (simp; done) | exact fun _ h => List.mem_append_left _ h | (intro r hr; simp [hr]; done)) rfl ?_; rintro v L' R' ⟨rfl, rfl, rfl⟩ H' hH RR hR; simp only [List.cons_append, List.nil_append] at hH hR; subst hH; have hR := hR.symm; subst hR)
    (repeat (first | ((first | (apply wo_v; rfl) ); (· first | (apply pv_ev; rfl) )) ))
    (refine wo_call (c2 g) rfl (by (repeat (first | apply sub_nil )); done) (by first | exact fun _ h => h | (intro r hr; cases hr; done) | (simp; done) | exact fun _ h => List.mem_append_left _ h | (intro r hr; simp [hr]; done)) rfl ?_; rintro v L' R' ⟨rfl, rfl, rfl⟩ H' hH RR hR; simp only [List.cons_append, List.nil_append] at hH hR; subst hH; have hR := hR.symm; subst hR)
    (repeat (first | ((first | (apply wo_v; rfl) ); (· first | (apply pv_ev; rfl) )) | apply wo_nil | apply wc_seq | apply wc_region ))
    (refine wo_call (octErr g r2.1 r2.2) rfl (by (repeat (first | apply sub_nil )); done) (by first | exact fun _ h => h | (intro r hr; cases hr; done) | (simp; done) | exact fun _ h => List.mem_append_left _ h | (intro r hr; simp [hr]; done)) rfl ?_; rintro v L' R' ⟨rfl, rfl, rfl⟩ H' hH RR hR; simp only [List.cons_append, List.nil_append] at hH hR; subst hH; have hR := hR.symm; subst hR)
    (repeat (first | ((first | (apply wo_v; rfl) ); (· first | (apply pv_ev; rfl) | (apply g_pick; first | (apply pv_pick_t; rfl; rfl) | (apply pv_pick_f; rfl; rfl)) | (apply g_bin; first | (apply pv_and; rfl; rfl) | (apply a_shr; rfl; rfl; rfl; omega; rfl) ) )) | apply wo_nil | apply wc_seq | apply wc_region | apply wc_skip | (apply wc_true; rfl) | (apply wc_false; rfl) | (apply a_dec_t; rfl; (· first | assumption | omega)) | (apply a_dec_f; rfl; (· first | assumption | omega)) | (apply wo_run; rfl; rfl) | (apply wo_skip; rfl; rfl; rfl; rfl) | (apply wo_skip_u; rfl; rfl; rfl) | (apply a_gt; rfl; rfl; (· first | assumption | omega)) | (apply a_gf; rfl; rfl; (· first | assumption | omega)) ))
    rw [x128]
    (refine wo_call (c3 g) rfl (by (repeat (first | apply sub_nil )); done) (by first | exact fun _ h => h | (intro r hr; cases hr; done) | (simp; done) | exact fun _ h => List.mem_append_left _ h | (intro r hr; simp [hr]; done)) rfl ?_; rintro v L' R' ⟨rfl, rfl, rfl⟩ H' hH RR hR; simp only [List.cons_append, List.nil_append] at hH hR; subst hH; have hR := hR.symm; subst hR)
    (repeat (first | ((first | (apply wo_v; rfl) ); (· first | (apply pv_ev; rfl) )) ))
    (refine wo_call (c4 g) rfl (by (repeat (first | apply sub_nil )); done) (by first | exact fun _ h => h | (intro r hr; cases hr; done) | (simp; done) | exact fun _ h => List.mem_append_left _ h | (intro r hr; simp [hr]; done)) rfl ?_; rintro v L' R' ⟨rfl, rfl, rfl⟩ H' hH RR hR; simp only [List.cons_append, List.nil_append] at hH hR; subst hH; have hR := hR.symm; subst hR)
    (repeat (first | ((first | (apply wo_v; rfl) ); (· first | (apply pv_ev; rfl) )) ))
    (refine wo_call (c5 g) rfl (by (repeat (first | apply sub_nil )); done) (by first | exact fun _ h => h | (intro r hr; cases hr; done) | (simp; done) | exact fun _ h => List.mem_append_left _ h | (intro r hr; simp [hr]; done)) rfl ?_; rintro v L' R' ⟨rfl, rfl, rfl⟩ H' hH RR hR; simp only [List.cons_append, List.nil_append] at hH hR; subst hH; have hR := hR.symm; subst hR)
    (repeat (first | ((first | (apply wo_v; rfl) ); (· first | (apply pv_ev; rfl) | (apply g_bin; first | (apply pv_and; rfl; rfl) ) | (apply g_build; apply pv_build; (· (repeat (first | apply Bld.nil | (apply Bld.one; rfl; rfl; (· (repeat (first | apply SetAt.here | apply SetAt.there)))) )))) )) | apply wo_nil | apply wc_seq | apply wc_region | (apply wo_alloc; rfl; intro bx) | (apply wo_sta; rfl; rfl; rfl; rfl; (· (repeat (first | apply sel_here ))); (· (repeat (first | apply LayAt.nil | apply LayAt.here ))); rfl) ))
    rw [x1, x16, hN, hmrk]
    obtain ⟨bp, hbp⟩ : ∃ g, g = bx := ⟨_, rfl⟩
    subst hbp
    have s6 := csN_size r5 N
    refine wc_join0 (fun st => ∃ ao c, st = ⟨[(2, .pointer (some ⟨bq, 0, none⟩)), (4, .pointer (some ⟨g, 0, none⟩)), (5, .int .u8 a), (7, .pointer (some ⟨bp, 0, none⟩))], [rdO g (csN r5 N).2.1 (csN r5 N).2.2, rpI bp mrk kd sq t ss (.slice ao (csN r5 N).1.length c) ex 0 ByteArray.empty ByteArray.empty 0, csO ao (csN r5 N).1.length c (csN r5 N).1, rpZ bq], []⟩) ?_ ?_
    · refine wc_block ?_
      refine wc_own0 30 1 ?_
      refine wc_loop' (fun q st => ∃ (i : Nat) (ao : Option Addr) (c : Nat) (l : List Int) (r : Rs), q = N - i ∧ i ≤ N ∧ l = (csN r5 i).1 ∧ r = (csN r5 i).2 ∧ st = ⟨[(2, .pointer (some ⟨bq, 0, none⟩)), (4, .pointer (some ⟨g, 0, none⟩)), (5, .int .u8 a), (7, .pointer (some ⟨bp, 0, none⟩)), (45, .int .u8 N), (46, .int .u8 i)], [rdO g r.1 r.2, rpI bp mrk kd sq t ss (.slice ao l.length c) ex 0 ByteArray.empty ByteArray.empty 0, csO ao l.length c l, rpZ bq], []⟩)
        ⟨0, none, 0, [], r5, rfl, Nat.zero_le _, rfl, rfl, rfl⟩ (wk_mk (by (repeat (first | apply wkf_nil | (apply wkf_cons; rfl))); done) (by (repeat (first | apply sub_nil | (apply sub_cons; (· (repeat (first | apply sel_here | apply sel_there)))))); done) (by first | exact fun _ h => h | (intro r hr; cases hr; done) | (simp; done) | exact fun _ h => List.mem_append_left _ h | (intro r hr; simp [hr]; done))) ?_
      rintro q st ⟨i, ao, c, l, r, rfl, hi, hl, hrr, rfl⟩
      have hll : l.length = i := by rw [hl]; exact csN_len r5 i
      have hrs := csN_size r5 i
      rw [← hrr] at hrs
      by_cases hlt : i < N
      · have e1 : (csN r5 (i + 1)).1 = l ++ [(tK 4 r).1] := by rw [csN, hl, hrr]
        have e2 : (csN r5 (i + 1)).2 = (tK 4 r).2 := by rw [csN, hrr]
        have hU := pU32 g r (by omega)
        generalize tK 4 r = y at hU e1 e2
        obtain ⟨x, rr⟩ := y
        dsimp only at hU e1 e2
        (repeat (first | ((first | (apply wo_v; rfl) ); (· first | (apply pv_ev; rfl) )) | apply wo_nil | apply wc_seq | apply wc_region | apply wc_skip | (apply wc_true; rfl) | (apply wc_false; rfl) | (apply a_dec_t; rfl; (· first | assumption | omega)) ))
        refine wc_block ?_
        (repeat (first | fail ))
        (refine wc_regM [0, 1, 2, 3] (aslL [(1, [3]), (3, [0]), (4, [1]), (5, [2, 1]), (7, [2, 3])]) (tblC g x rr bp mrk kd sq t ss ex ao c l) ([rpZ bq]) (fm [(0, [rdO g r.1 r.2]), (1, []), (2, [csO ao l.length c l]), (3, [rpI bp mrk kd sq t ss (.slice ao l.length c) ex 0 ByteArray.empty ByteArray.empty 0])]) mixed (by kernel_rfl) (by kernel_rfl) (by decide) (aslL_ok (by decide)) (by (repeat (first | (apply prm_cons; (· (repeat (first | apply sel_here | apply sel_there)))) | apply List.Perm.nil )); done) ?_; (repeat (first | (apply HdM.val; rfl; rfl; (· first | apply gok_none ); (· first | (apply pv_ev; rfl) | (apply pv_fld; rfl) )) )))
        (refine hm_eff (cs := [3]) rfl (by decide) rfl rfl (by first | exact gok_none | exact gok_run rfl rfl) (fun a ha => outc_mono (outc_pv (L := [rpI bp mrk kd sq t ss (.slice ao l.length c) ex 0 ByteArray.empty ByteArray.empty 0]) (pv_ld rfl (by (repeat (first | apply sel_here )); done) rfl) a ha) (fun v M h => ⟨[M], And.intro h.1 (congrArg (fun x => [x]) h.2), rfl, by simp⟩)) (⟨_, _, And.intro rfl rfl, rfl⟩) ?_; rintro v Ms ⟨rfl, rfl⟩ _; simp only [setls, setl, reduceIte, Nat.reduceEqDiff]; (repeat (first | (apply HdM.val; rfl; rfl; (· first | apply gok_none ); (· first | (apply pv_ev; rfl) )) )))
        (refine hm_eff (cs := [0]) rfl (by decide) rfl rfl (by first | exact gok_none | exact gok_run rfl rfl) (fun a ha => outc_mono (outc_call (F1 := _) (T := fun v M => v = .int .u32 x ∧ M = [rdO g rr.1 rr.2]) hU rfl (by (repeat (first | apply sub_nil )); done) (by first | exact fun _ h => h | (intro r hr; cases hr; done) | (simp; done) | exact fun _ h => List.mem_append_left _ h | (intro r hr; simp [hr]; done)) (by rintro v L' R' ⟨rfl, rfl, _⟩; exact ⟨_, ⟨rfl, rfl⟩, (by (repeat (first | (apply prm_cons; (· (repeat (first | apply sel_here )))) | apply List.Perm.nil )); done)⟩) a ha) (fun v M h => ⟨[M], And.intro h.1 (congrArg (fun x => [x]) h.2), rfl, by simp⟩)) (⟨_, _, And.intro rfl rfl, rfl⟩) ?_; rintro v Ms ⟨rfl, rfl⟩ _; simp only [setls, setl, reduceIte, Nat.reduceEqDiff]; (repeat (first | (apply HdM.val; rfl; rfl; (· first | fail ); (· first | fail )) )))
        (refine hm_eff (cs := [1]) rfl (by decide) rfl rfl (by first | exact gok_none | exact gok_run rfl rfl) (fun a ha => outc_mono (outc_bsl (by (repeat (first | apply Rws'.nil | (apply Rws'.one; rfl; rfl; rfl) )); done) rfl rfl rfl a ha) (fun v M h => Exists.elim h fun b h => ⟨[M], Exists.intro b (And.intro h.1 (congrArg (fun x => [x]) h.2)), rfl, by simp⟩)) (⟨_, _, Exists.intro 0 (And.intro rfl rfl), rfl⟩) ?_; rintro v Ms ⟨b9, rfl, rfl⟩ _; simp only [setls, setl, reduceIte, Nat.reduceEqDiff]; (repeat (first | (apply HdM.val; rfl; rfl; (· first | fail ); (· first | fail )) )))
        (refine hm_eff (cs := [2, 1]) rfl (by decide) rfl rfl (by first | exact gok_none | exact gok_run rfl rfl) (fun a ha => outc_mono (outc_app rfl rfl (by unfold maxLen; omega) (by omega) a ha) (fun v M h => by obtain ⟨b, c, h1, h2⟩ := h; exact ⟨[[_], [_]], ⟨b, c, h1, rfl⟩, rfl, h2⟩)) (⟨_, _, ⟨none, 0, rfl, rfl⟩, rfl⟩) ?_; rintro v Ms ⟨ao2, c2, rfl, rfl⟩ _; simp only [setls, setl, reduceIte, Nat.reduceEqDiff]; (repeat (first | (apply HdM.val; rfl; rfl; (· first | apply gok_none ); (· first | (apply pv_ev; rfl) | (apply pv_fld; rfl) )) )))
        (refine hm_eff (cs := [2, 3]) rfl (by decide) rfl rfl (by first | exact gok_none | exact gok_run rfl rfl) (fun a ha => outc_mono (outc_frmA (X := [csO' ao2 (l.length + 1) c2 (crs l ++ crs [x])]) (L := [rpI bp mrk kd sq t ss (.slice ao l.length c) ex 0 ByteArray.empty ByteArray.empty 0]) (outc_st rfl rfl rfl (by (repeat (first | apply SetAt.here | apply SetAt.there)); done)) a ha) (fun v M h => by obtain ⟨M0, ⟨h1, h2⟩, h3⟩ := h; exact ⟨[[_], [_]], ⟨h1, rfl⟩, rfl, by rw [h3, h2]; rfl⟩)) (⟨_, _, ⟨rfl, rfl⟩, rfl⟩) ?_; rintro v Ms ⟨rfl, rfl⟩ _; simp only [setls, setl, reduceIte, Nat.reduceEqDiff]; (repeat (first | fail )))
        (refine HdM.nil ?_; intro H hH; simp only [Hp, fm, look, setl, List.flatMap_cons, List.flatMap_nil, reduceIte, Nat.reduceEqDiff, Option.getD_some, List.append_nil, List.cons_append, List.nil_append] at hH; subst hH)
        (repeat (first | ((first | (apply wo_v; rfl) ); (· first | (apply pv_ev; rfl) | (apply g_bin; first | (apply a_add; rfl; rfl; infer_instance; omega) ) )) | apply wo_nil | apply wc_region ))
        exact loop_end ⟨i + 1, ao2, c2, l ++ [x], rr, rfl, by omega, e1.symm, e2.symm, by rw [List.length_append, List.length_singleton, csO_snoc]⟩ (by omega) (wk_mk (by (repeat (first | apply wkf_nil | (apply wkf_cons; rfl))); done) (by (repeat (first | apply sub_nil | (apply sub_cons; (· (repeat (first | apply sel_here | apply sel_there)))))); done) (by first | exact fun _ h => h | (intro r hr; cases hr; done) | (simp; done) | exact fun _ h => List.mem_append_left _ h | (intro r hr; simp [hr]; done)))
      · have e : i = N := by omega
        subst e
        subst hl hrr
        (repeat (first | ((first | (apply wo_v; rfl) ); (· first | (apply pv_ev; rfl) )) | apply wo_nil | apply wc_seq | apply wc_region | (apply wc_exit; rfl) | (apply wc_true; rfl) | (apply wc_false; rfl) | (apply a_dec_t; rfl; (· first | assumption | omega)) | (apply a_dec_f; rfl; (· first | assumption | omega)) ))
        exact cut_end ⟨ao, c, rfl⟩ (wk_mk (by (repeat (first | apply wkf_nil | (apply wkf_cons; rfl))); done) (by (repeat (first | apply sub_nil )); done) (by first | exact fun _ h => h | (intro r hr; cases hr; done) | (simp; done) | exact fun _ h => List.mem_append_left _ h | (intro r hr; simp [hr]; done)))
    rintro st ⟨ao, c, rfl⟩
    have hcl := csN_len r5 N
    generalize csN r5 N = y at s6 hcl ⊢
    obtain ⟨cs, r6⟩ := y
    dsimp only at s6 hcl ⊢
    apply wc_seq
    refine wc_join0 (fun st => st = ⟨[(2, .pointer (some ⟨bq, 0, none⟩)), (4, .pointer (some ⟨g, 0, none⟩)), (5, .int .u8 a), (7, .pointer (some ⟨bp, 0, none⟩))], [rdO g (exR ex r6).2.2.1 (exR ex r6).2.2.2, rpI bp mrk kd sq t ss (.slice ao cs.length c) ex (exR ex r6).1 (exR ex r6).2.1 ByteArray.empty 0, csO ao cs.length c cs, rpZ bq], []⟩) ?_ ?_
    · clear hex x1
      cases ex with
      | false =>
        (repeat (first | ((first | (apply wo_v; rfl) ); (· first | (apply pv_ev; rfl) | (apply pv_fld; rfl) | (apply g_load; first | (apply pv_ld; rfl; (· (repeat (first | apply sel_here | apply sel_there))); rfl) ) )) | apply wo_nil | apply wc_seq | apply wc_region | apply wc_skip | (apply wc_true; rfl) | (apply wc_false; rfl) ))
        exact cut_end rfl (wk_mk (by (repeat (first | apply wkf_nil | (apply wkf_cons; rfl))); done) (by (repeat (first | apply sub_nil )); done) (by first | exact fun _ h => h | (intro r hr; cases hr; done) | (simp; done) | exact fun _ h => List.mem_append_left _ h | (intro r hr; simp [hr]; done)))
      | true =>
        have w1 := pU16 g r6 (by omega)
        have s7 := tK_size 2 r6
        have w2 := pU16 g (tK 2 r6).2 (by omega)
        have s8 := tK_size 2 (tK 2 r6).2
        have hv := tK2_b (tK 2 r6).2
        have e1 : exR true r6 = ((tK 2 r6).1, (rdB (tK 2 (tK 2 r6).2).2.1 (tK 2 (tK 2 r6).2).2.2 (4 * (tK 2 (tK 2 r6).2).1)).1, (rdB (tK 2 (tK 2 r6).2).2.1 (tK 2 (tK 2 r6).2).2.2 (4 * (tK 2 (tK 2 r6).2).1)).2) := rfl
        rw [e1]
        generalize tK 2 (tK 2 r6).2 = y2 at w2 s8 hv ⊢
        generalize tK 2 r6 = y1 at w1 w2 s7 s8 ⊢
        obtain ⟨pf, r7⟩ := y1
        obtain ⟨ln, r8⟩ := y2
        dsimp only at w1 w2 s7 s8 hv ⊢
        have w3 := octBytes g r8.1 r8.2 (4 * ln) (by omega)
        (repeat (first | ((first | (apply wo_v; rfl) ); (· first | (apply pv_ev; rfl) | (apply pv_fld; rfl) | (apply g_load; first | (apply pv_ld; rfl; (· (repeat (first | apply sel_here | apply sel_there))); rfl) ) )) | apply wo_nil | apply wc_seq | apply wc_region | (apply wc_true; rfl) ))
        (refine wo_call (w1) rfl (by (repeat (first | apply sub_nil )); done) (by first | exact fun _ h => h | (intro r hr; cases hr; done) | (simp; done) | exact fun _ h => List.mem_append_left _ h | (intro r hr; simp [hr]; done)) rfl ?_; rintro v L' R' ⟨rfl, rfl, rfl⟩ H' hH RR hR; simp only [List.cons_append, List.nil_append] at hH hR; subst hH; have hR := hR.symm; subst hR)
        (repeat (first | ((first | (apply wo_v; rfl) ); (· first | (apply pv_ev; rfl) | (apply pv_fld; rfl) )) | apply wo_nil | apply wc_region | (apply wo_st; rfl; rfl; rfl; (· (repeat (first | apply sel_here | apply sel_there))); (· (repeat (first | apply SetAt.here | apply SetAt.there))); rfl) ))
        (refine wo_call (w2) rfl (by (repeat (first | apply sub_nil | (apply sub_cons; (· (repeat (first | apply sel_here | apply sel_there)))))); done) (by first | exact fun _ h => h | (intro r hr; cases hr; done) | (simp; done) | exact fun _ h => List.mem_append_left _ h | (intro r hr; simp [hr]; done)) rfl ?_; rintro v L' R' ⟨rfl, rfl, rfl⟩ H' hH RR hR; simp only [List.cons_append, List.nil_append] at hH hR; subst hH; have hR := hR.symm; subst hR)
        (repeat (first | ((first | (apply wo_v; rfl) ); (· first | (apply pv_ev; rfl) | (apply g_bin; first | (apply a_mul; rfl; rfl; infer_instance; omega) ) | (apply g_conv; first | (apply a_conv; rfl; infer_instance; infer_instance; infer_instance; omega) ) )) ))
        (refine wo_call (w3) rfl (by (repeat (first | apply sub_nil )); done) (by first | exact fun _ h => h | (intro r hr; cases hr; done) | (simp; done) | exact fun _ h => List.mem_append_left _ h | (intro r hr; simp [hr]; done)) rfl ?_; rintro v L' R' ⟨rfl, rfl, rfl⟩ H' hH RR hR; simp only [List.cons_append, List.nil_append] at hH hR; subst hH; have hR := hR.symm; subst hR)
        (repeat (first | ((first | (apply wo_v; rfl) ); (· first | (apply pv_ev; rfl) | (apply pv_fld; rfl) )) | apply wo_nil | (apply wo_st; rfl; rfl; rfl; (· (repeat (first | apply sel_here | apply sel_there))); (· (repeat (first | apply SetAt.here | apply SetAt.there))); rfl) ))
        exact cut_end rfl (wk_mk (by (repeat (first | apply wkf_nil | (apply wkf_cons; rfl))); done) (by (repeat (first | apply sub_nil | (apply sub_cons; (· (repeat (first | apply sel_here | apply sel_there)))))); done) (by first | exact fun _ h => h | (intro r hr; cases hr; done) | (simp; done) | exact fun _ h => List.mem_append_left _ h | (intro r hr; simp [hr]; done)))
    rintro st rfl
    have s9 : (exR ex r6).2.2.1.size ≤ 100000 := by
      unfold exR
      split
      · have := rdB_size2 (tK 2 (tK 2 r6).2).2.1 (tK 2 (tK 2 r6).2).2.2 (4 * (tK 2 (tK 2 r6).2).1)
        have h7 := tK_size 2 r6
        have h8 := tK_size 2 (tK 2 r6).2
        dsimp only
        omega
      · dsimp only; omega
    generalize exR ex r6 = y at s9 ⊢
    obtain ⟨pf, dt, r9⟩ := y
    dsimp only at s9 ⊢
    have w4 := octRest g r9.1 r9.2 (by omega)
    unfold enR
    have s10 : (rdB r9.1 r9.2 r9.1.size).1.size ≤ 100000 := by have := rdB_size r9.1 r9.2 r9.1.size (by omega); omega
    generalize rdB r9.1 r9.2 r9.1.size = y at w4 s10 ⊢
    obtain ⟨pl, r10⟩ := y
    dsimp only at w4 s10 ⊢
    (repeat (first | ((first | (apply wo_v; rfl) ); (· first | (apply pv_ev; rfl) )) | apply wc_seq | apply wc_region ))
    (refine wo_call (w4) rfl (by (repeat (first | apply sub_nil )); done) (by first | exact fun _ h => h | (intro r hr; cases hr; done) | (simp; done) | exact fun _ h => List.mem_append_left _ h | (intro r hr; simp [hr]; done)) rfl ?_; rintro v L' R' ⟨rfl, rfl, rfl⟩ H' hH RR hR; simp only [List.cons_append, List.nil_append] at hH hR; subst hH; have hR := hR.symm; subst hR)
    (repeat (first | ((first | (apply wo_v; rfl) ); (· first | (apply pv_ev; rfl) | (apply pv_fld; rfl) )) | apply wo_nil | apply wc_seq | apply wc_region | (apply wo_st; rfl; rfl; rfl; (· (repeat (first | apply sel_here | apply sel_there))); (· (repeat (first | apply SetAt.here | apply SetAt.there))); rfl) ))
    (refine wo_call (octErr g r10.1 r10.2) rfl (by (repeat (first | apply sub_nil | (apply sub_cons; (· (repeat (first | apply sel_here | apply sel_there)))))); done) (by first | exact fun _ h => h | (intro r hr; cases hr; done) | (simp; done) | exact fun _ h => List.mem_append_left _ h | (intro r hr; simp [hr]; done)) rfl ?_; rintro v L' R' ⟨rfl, rfl, rfl⟩ H' hH RR hR; simp only [List.cons_append, List.nil_append] at hH hR; subst hH; have hR := hR.symm; subst hR)
    by_cases he : r10.2 = 0
    · rw [if_neg (by simp [he])]
      clear hpa
      cases pa with
      | false =>
        rw [if_neg (by simp)]
        (repeat (first | ((first | (apply wo_v; rfl) ); (· first | (apply pv_ev; rfl) | (apply g_pick; first | (apply pv_pick_t; rfl; rfl) ) | (apply g_bin; first | (apply pv_and; rfl; rfl) ) )) | apply wo_nil | (apply wc_true; rfl) | (apply wc_false; rfl) | (apply a_dec_t; rfl; (· first | assumption | omega)) | (apply a_dec_f; rfl; (· first | assumption | omega)) | (apply a_dec_t; rfl; (· first | (simp; done) | (simp; omega))) | (apply a_dec_f; rfl; (· first | (simp; done) | (simp; omega))) | (apply wo_run; rfl; rfl) | (apply wo_skip; rfl; rfl; rfl; rfl) | (apply wo_skip_u; rfl; rfl; rfl) | (apply a_gt; rfl; rfl; (· first | assumption | omega)) ))
        rw [x2]
        (repeat (first | ((first | (apply wo_v; rfl) ); (· first | (apply pv_ev; rfl) )) | apply wc_seq | apply wc_region | apply wc_skip | (apply wc_true; rfl) | (apply wc_false; rfl) ))
        (refine wo_call (octErr g r10.1 r10.2) rfl (by (repeat (first | apply sub_nil )); done) (by first | exact fun _ h => h | (intro r hr; cases hr; done) | (simp; done) | exact fun _ h => List.mem_append_left _ h | (intro r hr; simp [hr]; done)) rfl ?_; rintro v L' R' ⟨rfl, rfl, rfl⟩ H' hH RR hR; simp only [List.cons_append, List.nil_append] at hH hR; subst hH; have hR := hR.symm; subst hR)
        (repeat (first | ((first | (apply wo_v; rfl) ); (· first | (apply pv_ev; rfl) | (apply g_load; first | (apply pv_lda; rfl; (· (repeat (first | apply sel_here | apply sel_there))); (· (repeat (first | apply Cut.here0 | apply Cut.here )))) ) )) | apply wo_nil | apply wc_seq | apply wc_region | apply wc_skip | apply wc_ret | (apply wc_true; rfl) | (apply wc_false; rfl) | (apply a_dec_t; rfl; (· first | assumption | omega)) | (apply a_dec_f; rfl; (· first | assumption | omega)) | (apply wo_sta; rfl; rfl; rfl; rfl; (· (repeat (first | apply sel_here | apply sel_there))); (· (repeat (first | apply LayAt.nil | apply LayAt.here ))); rfl) ))
        exact retv rfl (by (repeat (first | apply RV.nil | (apply RV.tmp; rfl) | (apply RV.agg; rfl; (· (repeat (first | apply sel_here ))); infer_instance; (· (repeat (first | apply Cut.here0 | apply Cut.here )))) )); done) (⟨ao, c, rfl, rfl, rfl⟩) (by (repeat (first | apply sub_nil | (apply sub_cons; (· (repeat (first | apply sel_here | apply sel_there)))))); done) (by first | exact fun _ h => h | (intro r hr; cases hr; done) | (simp; done) | exact fun _ h => List.mem_append_left _ h | (intro r hr; simp [hr]; done))
      | true =>
        rw [if_pos rfl]
        have w5 := pPad pl (by omega)
        have hpm := padM_b pl
        generalize padM pl = y at w5 hpm ⊢
        obtain ⟨pn, pe⟩ := y
        dsimp only at w5 hpm ⊢
        (repeat (first | ((first | (apply wo_v; rfl) ); (· first | (apply pv_ev; rfl) | (apply g_pick; first | (apply pv_pick_t; rfl; rfl) ) | (apply g_bin; first | (apply pv_and; rfl; rfl) ) )) | apply wo_nil | (apply wc_true; rfl) | (apply wc_false; rfl) | (apply a_dec_t; rfl; (· first | assumption | omega)) | (apply a_dec_f; rfl; (· first | assumption | omega)) | (apply a_dec_t; rfl; (· first | (simp; done) | (simp; omega))) | (apply a_dec_f; rfl; (· first | (simp; done) | (simp; omega))) | (apply wo_run; rfl; rfl) | (apply wo_skip; rfl; rfl; rfl; rfl) | (apply wo_skip_u; rfl; rfl; rfl) | (apply a_gt; rfl; rfl; (· first | assumption | omega)) ))
        rw [x2]
        (repeat (first | ((first | (apply wo_v; rfl) ); (· first | (apply pv_ev; rfl) | (apply pv_fld; rfl) | (apply g_load; first | (apply pv_ld; rfl; (· (repeat (first | apply sel_here | apply sel_there))); rfl) ) )) | apply wc_seq | apply wc_region | (apply wc_true; rfl) ))
        (refine wo_call (w5) rfl (by (repeat (first | apply sub_nil )); done) (by first | exact fun _ h => h | (intro r hr; cases hr; done) | (simp; done) | exact fun _ h => List.mem_append_left _ h | (intro r hr; simp [hr]; done)) rfl ?_; rintro v L' R' ⟨rfl, rfl, rfl⟩ H' hH RR hR; simp only [List.cons_append, List.nil_append] at hH hR; subst hH; have hR := hR.symm; subst hR)
        (repeat (first | ((first | (apply wo_v; rfl) ); (· first | (apply pv_ev; rfl) )) | apply wo_nil | apply wc_seq | apply wc_region ))
        (refine wo_call (octFail g r10.1 r10.2 pe) rfl (by (repeat (first | apply sub_nil )); done) (by first | exact fun _ h => h | (intro r hr; cases hr; done) | (simp; done) | exact fun _ h => List.mem_append_left _ h | (intro r hr; simp [hr]; done)) rfl ?_; rintro v L' R' ⟨rfl, rfl, rfl⟩ H' hH RR hR; simp only [List.cons_append, List.nil_append] at hH hR; subst hH; have hR := hR.symm; subst hR)
        (repeat (first | apply wo_nil ))
        (refine wc_regR [2, 4] [0] (aslL [(2, [0]), (4, [0]), (10, [0]), (12, [0])]) (tblP pn pl bp mrk kd sq t ss (.slice ao cs.length c) ex pf dt) ([rdO g (rdF r10.1 r10.2 pe).1 (rdF r10.1 r10.2 pe).2, csO ao cs.length c cs, rpZ bq]) (fm [(0, [rpI bp mrk kd sq t ss (.slice ao cs.length c) ex pf dt pl 0])]) mixed (by kernel_rfl) (by kernel_rfl) (tblP_rd) (by decide) (aslL_ok (by decide)) (by (repeat (first | (apply prm_cons; (· (repeat (first | apply sel_here | apply sel_there)))) | apply List.Perm.nil )); done) ?_; (repeat (first | (apply HdM.val; rfl; rfl; (· first | apply gok_none ); (· first | (apply pv_ev; rfl) | (apply pv_fld; rfl) )) )))
        (refine hm_eff (cs := [0]) rfl (by decide) rfl rfl (by first | exact gok_none | exact gok_run rfl rfl) (fun a ha => outc_mono (outc_pv (L := [rpI bp mrk kd sq t ss (.slice ao cs.length c) ex pf dt pl 0]) (pv_ld rfl (by (repeat (first | apply sel_here )); done) rfl) a ha) (fun v M h => ⟨[M], And.intro h.1 (congrArg (fun x => [x]) h.2), rfl, by simp⟩)) (⟨_, _, And.intro rfl rfl, rfl⟩) ?_; rintro v Ms ⟨rfl, rfl⟩ _; simp only [setls, setl, reduceIte, Nat.reduceEqDiff]; (repeat (first | (apply HdM.val; rfl; rfl; (· first | apply gok_none ); (· first | (apply pv_ev; rfl) | (apply pv_fld; rfl) )) )))
        (refine hm_eff (cs := [0]) rfl (by decide) rfl rfl (by first | exact gok_none | exact gok_run rfl rfl) (fun a ha => outc_mono (outc_pv (L := [rpI bp mrk kd sq t ss (.slice ao cs.length c) ex pf dt pl 0]) (pv_ld rfl (by (repeat (first | apply sel_here )); done) rfl) a ha) (fun v M h => ⟨[M], And.intro h.1 (congrArg (fun x => [x]) h.2), rfl, by simp⟩)) (⟨_, _, And.intro rfl rfl, rfl⟩) ?_; rintro v Ms ⟨rfl, rfl⟩ _; simp only [setls, setl, reduceIte, Nat.reduceEqDiff]; (repeat (first | (apply HdM.val; rfl; rfl; (· first | apply gok_none ); (· first | (apply pv_ev; rfl) | (apply pv_fld; rfl) | (apply g_bin; first | (apply a_sub; rfl; rfl; infer_instance; omega) ) | (apply g_bi; first | (apply pv_len_str; rfl) ) | (apply pv_cs_hi; rfl; rfl; omega) )) )))
        (refine hm_eff (cs := [0]) rfl (by decide) rfl rfl (by first | exact gok_none | exact gok_run rfl rfl) (fun a ha => outc_mono (outc_st rfl rfl rfl (by (repeat (first | apply SetAt.here | apply SetAt.there)); done) a ha) (fun v M h => ⟨[M], And.intro h.1 (congrArg (fun x => [x]) h.2), rfl, by simp⟩)) (⟨_, _, And.intro rfl rfl, rfl⟩) ?_; rintro v Ms ⟨rfl, rfl⟩ _; simp only [setls, setl, reduceIte, Nat.reduceEqDiff]; (repeat (first | (apply HdM.val; rfl; rfl; (· first | apply gok_none ); (· first | (apply pv_ev; rfl) | (apply pv_fld; rfl) )) )))
        (refine hm_eff (cs := [0]) rfl (by decide) rfl rfl (by first | exact gok_none | exact gok_run rfl rfl) (fun a ha => outc_mono (outc_st rfl rfl rfl (by (repeat (first | apply SetAt.here | apply SetAt.there)); done) a ha) (fun v M h => ⟨[M], And.intro h.1 (congrArg (fun x => [x]) h.2), rfl, by simp⟩)) (⟨_, _, And.intro rfl rfl, rfl⟩) ?_; rintro v Ms ⟨rfl, rfl⟩ _; simp only [setls, setl, reduceIte, Nat.reduceEqDiff]; (repeat (first | fail )))
        (refine HdM.nil ?_; intro H hH; simp only [Hp, fm, look, setl, List.flatMap_cons, List.flatMap_nil, reduceIte, Nat.reduceEqDiff, Option.getD_some, List.append_nil, List.cons_append, List.nil_append] at hH; subst hH)
        by_cases hpe : pe = 0
        · subst hpe
          rw [if_neg (by simp)]
          have ef : rdF r10.1 r10.2 0 = r10 := by unfold rdF; rw [if_neg (by simp)]
          rw [ef]
          (repeat (first | ((first | (apply wo_v; rfl) ); (· first | (apply pv_ev; rfl) )) | apply wc_seq | apply wc_region ))
          (refine wo_call (octErr g r10.1 r10.2) rfl (by (repeat (first | apply sub_nil )); done) (by first | exact fun _ h => h | (intro r hr; cases hr; done) | (simp; done) | exact fun _ h => List.mem_append_left _ h | (intro r hr; simp [hr]; done)) rfl ?_; rintro v L' R' ⟨rfl, rfl, rfl⟩ H' hH RR hR; simp only [List.cons_append, List.nil_append] at hH hR; subst hH; have hR := hR.symm; subst hR)
          (repeat (first | ((first | (apply wo_v; rfl) ); (· first | (apply pv_ev; rfl) | (apply g_load; first | (apply pv_lda; rfl; (· (repeat (first | apply sel_here | apply sel_there))); (· (repeat (first | apply Cut.here0 | apply Cut.here )))) ) )) | apply wo_nil | apply wc_seq | apply wc_region | apply wc_skip | apply wc_ret | (apply wc_true; rfl) | (apply wc_false; rfl) | (apply a_dec_t; rfl; (· first | assumption | omega)) | (apply a_dec_f; rfl; (· first | assumption | omega)) | (apply wo_sta; rfl; rfl; rfl; rfl; (· (repeat (first | apply sel_here | apply sel_there))); (· (repeat (first | apply LayAt.nil | apply LayAt.here ))); rfl) ))
          exact retv rfl (by (repeat (first | apply RV.nil | (apply RV.tmp; rfl) | (apply RV.agg; rfl; (· (repeat (first | apply sel_here ))); infer_instance; (· (repeat (first | apply Cut.here0 | apply Cut.here )))) )); done) (⟨ao, c, rfl, rfl, rfl⟩) (by (repeat (first | apply sub_nil | (apply sub_cons; (· (repeat (first | apply sel_here | apply sel_there)))))); done) (by first | exact fun _ h => h | (intro r hr; cases hr; done) | (simp; done) | exact fun _ h => List.mem_append_left _ h | (intro r hr; simp [hr]; done))
        · rw [if_pos hpe]
          have ef : rdF r10.1 r10.2 pe = (E0, pe) := by unfold rdF; rw [if_pos ⟨he, hpe⟩]
          rw [ef]
          refine wc_own0 30 1 ?_
          (repeat (first | ((first | (apply wo_v; rfl) ); (· first | (apply pv_ev; rfl) )) | apply wc_seq | apply wc_region ))
          (refine wo_call (octErr g E0 pe) rfl (by (repeat (first | apply sub_nil | (apply sub_cons; (· (repeat (first | apply sel_here | apply sel_there)))))); done) (by first | exact fun _ h => h | (intro r hr; cases hr; done) | (simp; done) | exact fun _ h => List.mem_append_left _ h | (intro r hr; simp [hr]; done)) rfl ?_; rintro v L' R' ⟨rfl, rfl, rfl⟩ H' hH RR hR; simp only [List.cons_append, List.nil_append] at hH hR; subst hH; have hR := hR.symm; subst hR)
          (repeat (first | ((first | (apply wo_v; rfl) ); (· first | (apply pv_ev; rfl) | (apply g_build; apply pv_build; (· (repeat (first | apply Bld.nil )))) )) | apply wo_nil | apply wc_seq | apply wc_region | apply wc_ret | (apply wc_true; rfl) | (apply wc_false; rfl) | (apply a_dec_t; rfl; (· first | assumption | omega)) | (apply wo_sta; rfl; rfl; rfl; rfl; (· (repeat (first | apply sel_here | apply sel_there))); (· (repeat (first | apply LayAt.nil | apply LayAt.here ))); rfl) ))
          exact retv rfl (by (repeat (first | apply RV.nil | (apply RV.tmp; rfl) | (apply RV.agg; rfl; (· (repeat (first | apply sel_here ))); infer_instance; (· (repeat (first | apply Cut.here0 | apply Cut.here )))) )); done) (⟨none, 0, rfl, rfl, rfl⟩) (by (repeat (first | apply sub_nil | (apply sub_cons; (· (repeat (first | apply sel_here | apply sel_there)))))); done) (by first | exact fun _ h => h | (intro r hr; cases hr; done) | (simp; done) | exact fun _ h => List.mem_append_left _ h | (intro r hr; simp [hr]; done))
    · rw [if_pos he]
      refine wo_own0 30 1 ?_
      (repeat (first | ((first | (apply wo_v; rfl) ); (· first | (apply pv_ev; rfl) | (apply g_pick; first | (apply pv_pick_t; rfl; rfl) | (apply pv_pick_f; rfl; rfl)) )) | apply wo_nil | apply wc_seq | apply wc_region | apply wc_skip | (apply wc_true; rfl) | (apply wc_false; rfl) | (apply wo_run; rfl; rfl) | (apply wo_skip; rfl; rfl; rfl; rfl) | (apply wo_skip_u; rfl; rfl; rfl) | (apply a_gt; rfl; rfl; (· first | assumption | omega)) | (apply a_gf; rfl; rfl; (· first | assumption | omega)) ))
      (refine wo_call (octErr g r10.1 r10.2) rfl (by (repeat (first | apply sub_nil | (apply sub_cons; (· (repeat (first | apply sel_here | apply sel_there)))))); done) (by first | exact fun _ h => h | (intro r hr; cases hr; done) | (simp; done) | exact fun _ h => List.mem_append_left _ h | (intro r hr; simp [hr]; done)) rfl ?_; rintro v L' R' ⟨rfl, rfl, rfl⟩ H' hH RR hR; simp only [List.cons_append, List.nil_append] at hH hR; subst hH; have hR := hR.symm; subst hR)
      (repeat (first | ((first | (apply wo_v; rfl) ); (· first | (apply pv_ev; rfl) | (apply g_build; apply pv_build; (· (repeat (first | apply Bld.nil )))) )) | apply wo_nil | apply wc_seq | apply wc_region | apply wc_ret | (apply wc_true; rfl) | (apply wc_false; rfl) | (apply a_dec_t; rfl; (· first | assumption | omega)) | (apply wo_sta; rfl; rfl; rfl; rfl; (· (repeat (first | apply sel_here | apply sel_there))); (· (repeat (first | apply LayAt.nil | apply LayAt.here ))); rfl) ))
      exact retv rfl (by (repeat (first | apply RV.nil | (apply RV.tmp; rfl) | (apply RV.agg; rfl; (· (repeat (first | apply sel_here ))); infer_instance; (· (repeat (first | apply Cut.here0 | apply Cut.here )))) )); done) (⟨none, 0, rfl, rfl, rfl⟩) (by (repeat (first | apply sub_nil | (apply sub_cons; (· (repeat (first | apply sel_here | apply sel_there)))))); done) (by first | exact fun _ h => h | (intro r hr; cases hr; done) | (simp; done) | exact fun _ h => List.mem_append_left _ h | (intro r hr; simp [hr]; done))
end Go.Proofs.Ytlhlidmhlhodiaa

/-
  The reference of rtp: ext.
-/
namespace Go.Proofs.Ytlhlidmhlhodiaa
set_option linter.unusedSimpArgs false
set_option linter.unusedVariables false
open Go.RowKit
attribute [local irreducible] Pv WO WC Fn
set_option maxRecDepth 100000
attribute [local irreducible] ByteArray.extract

theorem tK_err {k : Int} {r : Rs} (h : r.2 ≠ 0) : (tK k r).2 = r := by
  unfold tK rdB; rw [if_pos h]
theorem csN_err {r : Rs} (h : r.2 ≠ 0) : ∀ n, (csN r n).2 = r
  | 0 => rfl
  | n + 1 => by
    rw [csN]
    dsimp only
    rw [tK_err (by rw [csN_err h n]; exact h), csN_err h n]
theorem exR_err {b : Bool} {r : Rs} (h : r.2 ≠ 0) : (exR b r).2.2 = r := by
  unfold exR
  split
  · dsimp only
    have e1 := tK_err (k := 2) h
    have e2 : (tK 2 (tK 2 r).2).2 = r := by rw [tK_err (by rw [e1]; exact h), e1]
    rw [e2]; unfold rdB; rw [if_pos h]
  · rfl
theorem tK1_ok {s : ByteArray} (h : 1 ≤ s.size) : (tK 1 (s, 0)).2.2 = 0 := by
  unfold tK rdB
  dsimp only
  rw [if_neg (by simp), if_neg (by omega), if_neg (by omega)]
theorem prR_short {s : ByteArray} (h : s.size < 2) : prR s = (Rp0, 1) := by
  have e1 : (tK 1 (tK 1 (s, 0)).2).2.2 = 1 := by
    rcases t1_e (s, 0) rfl with h1 | h1
    · have h2 := t1_ok (r := (s, 0)) h1
      have h3 : s.size = 1 + (t1 (s, 0)).2.1.size := by
        have := congrArg ByteArray.size h2.2
        simpa [ByteArray.size_append, b1_size] using this
      have h4 : (t1 (s, 0)).2 = ((t1 (s, 0)).2.1, 0) := Prod.ext rfl h1
      show (t1 (t1 (s, 0)).2).2.2 = 1
      rw [h4]
      have h5 : (t1 (s, 0)).2.1 = E0 := ByteArray.size_eq_zero_iff.1 (by omega)
      rw [h5]; exact congrArg (fun x => x.2.2) t1_end
    · show (t1 (t1 (s, 0)).2).2.2 = 1
      rw [t1_err (r := (t1 (s, 0)).2) (by rw [h1]; omega)]; exact h1
  unfold prR
  rw [if_neg (by omega)]
  dsimp only
  rw [if_neg (by rw [e1]; omega)]
  have h0 : (tK 1 (tK 1 (s, 0)).2).2.2 ≠ 0 := by rw [e1]; omega
  generalize (tK 1 (tK 1 (s, 0)).2) = y at e1 h0 ⊢
  have g1 := tK_err (k := 2) h0
  have g2 : (tK 4 (tK 2 y.2).2).2 = y.2 := by rw [tK_err (by rw [g1]; exact h0), g1]
  have g3 : (tK 4 (tK 4 (tK 2 y.2).2).2).2 = y.2 := by rw [tK_err (by rw [g2]; exact h0), g2]
  have g4 : (csN (tK 4 (tK 4 (tK 2 y.2).2).2).2 ((tK 1 (s, 0)).1 % 16).toNat).2 = y.2 := by rw [g3]; exact csN_err h0 _
  unfold enR
  rw [exR_err (by rw [g4]; exact h0), g4]
  have g5 : (rdB y.2.1 y.2.2 y.2.1.size).2.2 = 1 := by unfold rdB; rw [if_pos h0]; exact e1
  rw [if_pos (by rw [g5]; omega), g5]
theorem tK4_b (r : Rs) : 0 ≤ (tK 4 r).1 ∧ (tK 4 r).1 ≤ 4294967295 := by
  have h : (rdB r.1 r.2 4).1.size ≤ 4 := by have := rdB_size r.1 r.2 4 (by omega); omega
  have h1 := valK_b (rdB r.1 r.2 4).1
  obtain ⟨v0, v1, v2, v3, v4, _⟩ := h1
  show 0 ≤ valK _ _ ∧ valK _ _ ≤ 4294967295
  have h2 : (rdB r.1 r.2 4).1.size = 0 ∨ (rdB r.1 r.2 4).1.size = 1 ∨ (rdB r.1 r.2 4).1.size = 2 ∨ (rdB r.1 r.2 4).1.size = 3 ∨ (rdB r.1 r.2 4).1.size = 4 := by omega
  rcases h2 with h2 | h2 | h2 | h2 | h2
  · rw [h2]; simp [valK]
  · rw [h2]; exact ⟨v0 1, by omega⟩
  · rw [h2]; exact ⟨v0 2, by omega⟩
  · rw [h2]; exact ⟨v0 3, by omega⟩
  · rw [h2]; exact ⟨v0 4, v4⟩
theorem sb_b1 {x : Int} (h : 0 ≤ x ∧ x ≤ 255) : sb (b1 x) 0 = x := by
  have := sb_last E0 h
  rwa [E0_append] at this
theorem two_front {s : ByteArray} (h : 2 ≤ s.size) : ∃ r1 : ByteArray, tK 1 (s, 0) = (sb s 0, (r1, 0)) ∧ tK 1 (r1, 0) = (sb s 1, (s.extract 2 s.size, 0)) := by
  have h1 := tK1_ok (s := s) (by omega)
  have hb := t1_b (s, 0)
  have h2 := (t1_ok (r := (s, 0)) h1).2
  rw [show t1 (s, 0) = tK 1 (s, 0) from rfl] at hb h2
  generalize tK 1 (s, 0) = x at h1 h2 hb ⊢
  obtain ⟨a, r1, e1⟩ := x
  dsimp only at h1 h2 hb ⊢
  subst h1
  have hs1 : s.size = 1 + r1.size := by rw [h2, ByteArray.size_append, b1_size]
  have h3 := tK1_ok (s := r1) (by omega)
  have hb2 := t1_b (r1, 0)
  have h4 := (t1_ok (r := (r1, 0)) h3).2
  rw [show t1 (r1, 0) = tK 1 (r1, 0) from rfl] at hb2 h4
  refine ⟨r1, ?_⟩
  generalize tK 1 (r1, 0) = x at h3 h4 hb2 ⊢
  obtain ⟨b, r2, e2⟩ := x
  dsimp only at h3 h4 hb2 ⊢
  subst h3
  have hs : s = b1 a ++ b1 b ++ r2 := by rw [h2, h4, ByteArray.append_assoc]
  have z : (b1 a ++ b1 b).size = 2 := by rw [ByteArray.size_append, b1_size, b1_size]
  have g0 : sb s 0 = a := by rw [h2, sb_left _ _ (by rw [b1_size]; omega), sb_b1 hb]
  have g1 : sb s 1 = b := by
    rw [hs, sb_left _ _ (by rw [z]; omega)]
    have := sb_last (b1 a) hb2
    rwa [b1_size] at this
  have g2 : s.extract 2 s.size = r2 := by
    have := ByteArray.extract_append_eq_right (a := b1 a ++ b1 b) (b := r2) (i := (b1 a ++ b1 b).size) rfl (by rw [ByteArray.size_append])
    rw [z] at this
    rw [hs, show (b1 a ++ b1 b ++ r2).size = 2 + r2.size by rw [ByteArray.size_append, z]]
    simp only [ByteArray.size_append, b1_size] at this
    exact this
  rw [g0, g1, g2]
  exact ⟨rfl, rfl⟩
end Go.Proofs.Ytlhlidmhlhodiaa

/-
  Sparse frames: slices that are only read, whatever they are where they are empty.
-/
namespace Go.Proofs.Ytlhlidmhlhodiaa
set_option linter.unusedSimpArgs false
set_option linter.unusedVariables false
open Go.RowKit

/-- a slice that is only read, of which nothing is known where it is empty -/
structure SQ (R : List Ro) (sz : Nat) (ao : Option Addr) (n c : Nat) (xs : List (List Value)) : Prop where
  len : xs.length = n
  pos : 0 < n → ∃ b o, ao = some ⟨b, o, none⟩ ∧ ⟨b, o, sz, xs⟩ ∈ R
theorem SR.sq {R : List Ro} {sz : Nat} {ao : Option Addr} {n c : Nat} {xs : List (List Value)} (h : SR R sz ao n c xs) : SQ R sz ao n c xs := ⟨h.len, h.pos⟩
theorem SQ.mono {R R' : List Ro} {sz : Nat} {ao : Option Addr} {n c : Nat} {xs : List (List Value)} (h : SQ R sz ao n c xs) (hR : ∀ r ∈ R, r ∈ R') : SQ R' sz ao n c xs :=
  ⟨h.len, fun h0 => by obtain ⟨b, o, e, m⟩ := h.pos h0; exact ⟨b, o, e, hR _ m⟩⟩
theorem SQ.nil (R : List Ro) (sz : Nat) (ao : Option Addr) (c : Nat) : SQ R sz ao 0 c [] := ⟨rfl, fun h => absurd h (by omega)⟩
/-- a callee that only reads a slice, handed an owned one -/
theorem Fn.own {P : Program} {f : FuncId} {args : Array Value} {T sz n c : Nat} {ao : Option Addr} {xs : List (List Value)} {Q : Value → List It → Prop}
    (h : ∀ R, SQ R sz ao n c xs → Fn P f args [] R (fun v L' R' => Q v L' ∧ R' = [])) : Fn P f args [.own T sz ao n c xs] [] (fun v L' R' => ∃ L0, Q v L0 ∧ L' = L0 ++ [.own T sz ao n c xs] ∧ R' = []) := by
  intro w hw
  have hO : OwnSat w T sz ao n c xs := hw.sat _ (.head _)
  have key : ∀ R : List Ro, (∀ r ∈ R, r.sat w) → SQ R sz ao n c xs → Calls P f args w fun e w' => ∃ v L' R', e = .returned v ∧ (∃ L0, Q v L0 ∧ L' = L0 ++ [.own T sz ao n c xs] ∧ R' = []) ∧ Sat w (feet [It.own T sz ao n c xs]) (blks []) L' R' w' := fun R hR hS => by
    have h0 : Sat w (feet []) (blks R) [] R w := ⟨Frm.refl _ _, (fun x hx => by cases hx), (fun x hx => by cases hx), .nil, hR, (fun r hr x hx => by cases hx), fun r hr => .inr (.inl (mem_blks.2 ⟨r, hr, rfl⟩))⟩
    refine (h R hS w h0).mono fun e w' ⟨v, L', R', he, ⟨hq, hR'⟩, hs⟩ => ?_
    subst hR'
    have hs2 : Sat w (feet []) [] L' [] w' := ⟨hs.frm, hs.sat, hs.own, hs.dis, (fun r hr => by cases hr), (fun r hr => by cases hr), (fun r hr => by cases hr)⟩
    have := hw.step (F := [.own T sz ao n c xs]) (.refl _) (fun b hb => by cases hb) hs2
    exact ⟨v, _, _, he, ⟨L', hq, rfl, rfl⟩, by simpa using this⟩
  cases ao with
  | none =>
    have := hO.nil rfl
    have h1 := hO.le
    have h2 := hO.len
    obtain rfl : n = 0 := by omega
    obtain rfl : xs = [] := List.eq_nil_of_length_eq_zero h2
    exact key [] (fun r hr => by cases hr) (SQ.nil _ _ _ _)
  | some a =>
    obtain ⟨hsp, cur, hcur, hfit, hseg⟩ := hO.at_ a rfl
    obtain ⟨b, o, s⟩ := a
    simp only at hsp hcur hseg
    subst hsp
    exact key [⟨b, o, sz, xs⟩] (fun r hr => by rcases List.mem_singleton.1 hr with rfl; exact ⟨hO.rows, cur, T, (0, 0), hcur, hseg⟩) ⟨hO.len, fun _ => ⟨b, o, rfl, .head _⟩⟩
end Go.Proofs.Ytlhlidmhlhodiaa

/-
  The laws of rtp: Same.
-/
namespace Go.Proofs.Ytlhlidmhlhodiaa
set_option linter.unusedSimpArgs false
set_option linter.unusedVariables false
set_option linter.unusedSimpArgs false
set_option linter.unusedVariables false
open Go.RowKit
attribute [local irreducible] Pv WO WC Fn
set_option maxRecDepth 100000

theorem crs_at {l : List Int} {i : Nat} {z : Int} (h : l[i]? = some z) : (crs l)[i]? = some [.int .u32 z] := by simp [crs, h]
def lenM (n : Nat) (ex : Bool) (dt pl : ByteArray) (pd : Int) : Int := 12 + 4 * n + pl.size + pd + (if ex = true then 4 + (dt.size : Int) else 0)
def chkR (kd : Int) (n : Nat) (ex : Bool) (pf : Int) (dt pl : ByteArray) (pd : Int) : Int :=
  if 127 < kd ∨ pd < 0 ∨ 255 < pd then 5 else if 15 < n then 4 else if dt.size % 4 ≠ 0 ∨ (ex = false ∧ (pf ≠ 0 ∨ dt ≠ E0)) then 2 else if 1500 < lenM n ex dt pl pd then 4 else 0
end Go.Proofs.Ytlhlidmhlhodiaa

/-
  The reference of rtp: Head.
-/
namespace Go.Proofs.Ytlhlidmhlhodiaa
set_option linter.unusedSimpArgs false
set_option linter.unusedVariables false
set_option linter.unusedSimpArgs false
set_option linter.unusedVariables false
open Go.RowKit
attribute [local irreducible] Pv WO WC Fn
set_option maxRecDepth 100000
attribute [local irreducible] ByteArray.extract

def bi (c : Bool) (n : Int) : Int := if c = true then n else 0
theorem bi_or (c : Bool) (n : Int) : bi c n = 0 ∨ bi c n = n := by cases c <;> simp [bi]
def csT (cs : List Int) : Nat → ByteArray
  | 0 => E0
  | i + 1 => match cs[i]? with
    | some z => csT cs i ++ numS 4 z
    | none => csT cs i
theorem csT_le (cs : List Int) : ∀ i, (csT cs i).size ≤ 4 * i
  | 0 => Nat.le_refl _
  | i + 1 => by
    have := csT_le cs i
    rw [csT]
    split
    · rw [ByteArray.size_append, numS_size]; omega
    · omega
def hdT (mrk : Bool) (kd sq t ss : Int) (cs : List Int) (ex : Bool) (pf : Int) (dt : ByteArray) (pd : Int) : ByteArray :=
  numS 1 (128 + bi (decide (0 < pd)) 32 + bi ex 16 + cs.length) ++ numS 1 (bi mrk 128 + kd) ++ (numS 2 sq ++ numS 4 t ++ numS 4 ss) ++ csT cs cs.length ++ (if ex = true then numS 2 pf ++ numS 2 (dt.size / 4 : Nat) ++ dt else E0)
def zrT : Nat → ByteArray
  | 0 => E0
  | i + 1 => zrT i ++ ⟨#[0]⟩
theorem zrT_size : ∀ i, (zrT i).size = i
  | 0 => rfl
  | i + 1 => by rw [zrT, ByteArray.size_append, zrT_size i]; rfl
theorem hdT_le (mrk : Bool) (kd sq t ss : Int) (cs : List Int) (ex : Bool) (pf : Int) (dt : ByteArray) (pd : Int) : (hdT mrk kd sq t ss cs ex pf dt pd).size ≤ 16 + 4 * cs.length + dt.size := by
  have h := csT_le cs cs.length
  unfold hdT
  cases ex with
  | true => rw [if_pos rfl]; simp only [ByteArray.size_append, numS_size]; omega
  | false => rw [if_neg (by simp)]; simp only [ByteArray.size_append, numS_size, show E0.size = 0 from rfl]; omega
def txR (mrk : Bool) (kd sq t ss : Int) (cs : List Int) (ex : Bool) (pf : Int) (dt pl : ByteArray) (pd : Int) : ByteArray :=
  hdT mrk kd sq t ss cs ex pf dt pd ++ pl ++ (if 0 < pd then zrT (pd.toNat - 1) ++ numS 1 pd else E0)
end Go.Proofs.Ytlhlidmhlhodiaa

/-
  The reference of rtp: Check.
-/
namespace Go.Proofs.Ytlhlidmhlhodiaa
set_option linter.unusedSimpArgs false
set_option linter.unusedVariables false
open Go.RowKit
attribute [local irreducible] Pv WO WC Fn
set_option maxRecDepth 100000
attribute [local irreducible] ByteArray.extract

theorem csT_size (cs : List Int) : ∀ i, i ≤ cs.length → (csT cs i).size = 4 * i
  | 0, _ => rfl
  | i + 1, h => by
    rw [csT, List.getElem?_eq_getElem (show i < cs.length by omega)]
    simp only
    rw [ByteArray.size_append, numS_size, csT_size cs i (by omega)]; omega
theorem txR_size (mrk : Bool) (kd sq t ss : Int) (cs : List Int) (ex : Bool) (pf : Int) (dt pl : ByteArray) (pd : Int) (hp : 0 ≤ pd) : ((txR mrk kd sq t ss cs ex pf dt pl pd).size : Int) = lenM cs.length ex dt pl pd := by
  have h := csT_size cs cs.length (Nat.le_refl _)
  have e0 : E0.size = 0 := rfl
  unfold txR hdT lenM
  cases ex with
  | true =>
    rw [if_pos rfl, if_pos rfl]
    by_cases h0 : 0 < pd
    · rw [if_pos h0]; simp only [ByteArray.size_append, numS_size, zrT_size, h]; omega
    · rw [if_neg h0]; simp only [ByteArray.size_append, numS_size, h, e0]; omega
  | false =>
    simp only [Bool.false_eq_true, if_false]
    by_cases h0 : 0 < pd
    · rw [if_pos h0]; simp only [ByteArray.size_append, numS_size, zrT_size, h, e0]; omega
    · rw [if_neg h0]; simp only [ByteArray.size_append, numS_size, h, e0]; omega
end Go.Proofs.Ytlhlidmhlhodiaa

/-
  The laws of rtp: Few.
-/
namespace Go.Proofs.Ytlhlidmhlhodiaa
set_option linter.unusedSimpArgs false
set_option linter.unusedVariables false
set_option linter.unusedSimpArgs false
set_option linter.unusedVariables false
open Go.RowKit
attribute [local irreducible] Pv WO WC Fn
set_option maxRecDepth 100000
attribute [local irreducible] ByteArray.extract

def tblFw (d0 p0 d1 p1 : ByteArray) (x y : It) : Nat → List (List It) → Value → List (List It) → Prop := fun k Ls v Ms => match k with
  | 1 => v = .string d0 ∧ Ms = Ls
  | 4 => v = .string p0 ∧ Ms = Ls
  | 2 => v = .string d1 ∧ Ms = [[]]
  | 5 => v = .string p1 ∧ Ms = [[]]
  | 7 => v = undef ∧ Ms = [[x]]
  | _ => v = undef ∧ Ms = [[y]]
theorem tblFw_rd {d0 p0 d1 p1 : ByteArray} {x y : It} : ∀ k ∈ [1, 4], Rdr (tblFw d0 p0 d1 p1 x y) k := fun k hk L v Ms h => by
  simp only [List.mem_cons, List.not_mem_nil, or_false] at hk
  rcases hk with rfl | rfl
  · exact h.2
  · exact h.2
theorem gFlag (b : Bool) (x r : Int) (h : (if b = true then x else 0) = r) : Fn Try.prog 71 #[.bool b, .int .u8 x] [] [] (fun v L' R' => v = .int .u8 r ∧ L' = [] ∧ R' = []) := by
  subst h
  cases b with
  | true =>
    refine fn_intro Try.func71 rfl Try.ntmps71 rfl (fun E => ?_)
    (repeat (first | ((first | (apply wo_v; rfl) ); (· first | (apply pv_ev; rfl) )) | apply wo_nil | apply wc_seq | apply wc_region | apply wc_ret | (apply wc_true; rfl) ))
    exact ret1 rfl rfl ⟨rfl, rfl, rfl⟩ ((by (repeat (first | apply sub_nil )); done) : List.Perm _ ([] ++ _)) (by first | exact fun _ h => h | (intro r hr; cases hr; done) | (simp; done) | exact fun _ h => List.mem_append_left _ h | (intro r hr; simp [hr]; done))
  | false =>
    refine fn_intro Try.func71 rfl Try.ntmps71 rfl (fun E => ?_)
    (repeat (first | ((first | (apply wo_v; rfl) ); (· first | (apply pv_ev; rfl) )) | apply wo_nil | apply wc_seq | apply wc_region | apply wc_skip | apply wc_ret | (apply wc_true; rfl) | (apply wc_false; rfl) ))
    exact ret1 rfl rfl ⟨rfl, rfl, rfl⟩ ((by (repeat (first | apply sub_nil )); done) : List.Perm _ ([] ++ _)) (by first | exact fun _ h => h | (intro r hr; cases hr; done) | (simp; done) | exact fun _ h => List.mem_append_left _ h | (intro r hr; simp [hr]; done))
end Go.Proofs.Ytlhlidmhlhodiaa
