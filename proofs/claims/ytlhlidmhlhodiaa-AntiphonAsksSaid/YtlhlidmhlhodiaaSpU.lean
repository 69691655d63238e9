/-
  Sparse frames: structures compared, slices that are only read (cut, appended, appended to), items that are only read from now on. No program in sight.
-/
import Derived.Test.YtlhlidmhlhodiaaSpT
import Derived.Test.YtlhlidmhlhodiaaSpL
import Derived.Laws.StructEq
namespace Go.Proofs.Ytlhlidmhlhodiaa
set_option linter.unusedSimpArgs false
set_option linter.unusedVariables false
open Go.RowKit

/-! ## structures of plain fields compared -/
inductive Kd where
  | i (k : IntKind)
  | b
  | s
def kdOf : TypeDesc → Option Kd
  | .int k => some (.i k)
  | .bool => some .b
  | .string => some .s
  | _ => none
def chkF (P : Program) : Nat → List Field → Option (List Kd)
  | _, [] => some []
  | n, f :: fs => match P.underlying f.type, P.info? f.type with
    | some d, some i => match kdOf d, chkF P (n + 1) fs with
      | some k, some ks => if f.name ≠ "_" ∧ f.offset = n ∧ i.size = 1 then some (k :: ks) else none
      | _, _ => none
    | _, _ => none
def eqB (P : Program) (T : TypeId) : Option (List Kd) := match P.underlying T with
  | some (.struct fs) => if P.stoodInHeld T = false ∧ P.eqGuardType P.depth T = false then chkF P 0 fs.toList else none
  | _ => none
class TEq (P : Program) (T : TypeId) (ks : outParam (List Kd)) : Prop where h : eqB P T = some ks
def fits : List Kd → List Value → Bool
  | [], [] => true
  | .i k :: ks, .int k' _ :: l => decide (k = k') && fits ks l
  | .b :: ks, .bool _ :: l => fits ks l
  | .s :: ks, .string _ :: l => fits ks l
  | _, _ => false
def eqRow : List Value → List Value → Bool
  | .int _ a :: l, .int _ b :: m => decide (a = b) && eqRow l m
  | .bool a :: l, .bool b :: m => decide (a = b) && eqRow l m
  | .string a :: l, .string b :: m => decide (a = b) && eqRow l m
  | [], [] => true
  | _, _ => false
theorem eqRow_refl : ∀ (ks : List Kd) (l : List Value), fits ks l = true → eqRow l l = true
  | [], [], _ => rfl
  | [], v :: _, h => by cases v <;> simp [fits] at h
  | .i k :: ks, v :: l, h => by
    cases v <;> simp only [fits, Bool.false_eq_true] at h
    simp only [Bool.and_eq_true] at h
    simp [eqRow, eqRow_refl ks l h.2]
  | .b :: ks, v :: l, h => by
    cases v <;> simp only [fits, Bool.false_eq_true] at h
    simp [eqRow, eqRow_refl ks l h]
  | .s :: ks, v :: l, h => by
    cases v <;> simp only [fits, Bool.false_eq_true] at h
    simp [eqRow, eqRow_refl ks l h]
  | .i _ :: _, [], h => by simp [fits] at h
  | .b :: _, [], h => by simp [fits] at h
  | .s :: _, [], h => by simp [fits] at h
def EqRow (l m : List Value) : Prop := eqRow l m = true
instance (l m : List Value) : Decidable (EqRow l m) := inferInstanceAs (Decidable (eqRow l m = true))
theorem eqRow_dec (l m : List Value) : eqRow l m = decide (EqRow l m) := by
  rw [Bool.eq_iff_iff, decide_eq_true_eq]; rfl

theorem run_part1 {P : Program} {w : World} {t : TypeId} {cs : Array Value} {n : Nat} {v : Value} {d : TypeDesc} {i : TypeInfo} {k : Kd} (hu : P.underlying t = some d) (hi : P.info? t = some i) (hk : kdOf d = some k) (h1 : i.size = 1) (h : cs[n]? = some v) : (part t cs n).run P w = .ok v w := by
  have : TOne P t := ⟨by unfold oneB; rw [hu, hi]; cases d <;> simp [kdOf] at hk <;> simp [plainD, h1]⟩
  unfold part
  simp only [Sem.run_bind, run_isAgg_one, Result.andThen_ok, Bool.false_eq_true, if_false]
  rw [h]; rfl
theorem run_eqFields_row {P : Program} {w : World} {d : Nat} {r1 r2 : Array Value} : ∀ (fs : List Field) (n : Nat) (ks : List Kd) (l m : List Value), chkF P n fs = some ks → r1.toList.drop n = l → r2.toList.drop n = m → fits ks l = true → fits ks m = true →
    (Op.eqFields (d + 1) r1 r2 fs).run P w = .ok (eqRow l m) w
  | [], n, ks, l, m, hc, h1, h2, f1, f2 => by
    simp only [chkF, Option.some.injEq] at hc
    subst hc
    cases l with
    | cons v l => cases v <;> simp [fits] at f1
    | nil =>
      cases m with
      | cons v l => cases v <;> simp [fits] at f2
      | nil => simp [Op.eqFields, eqRow]
  | f :: fs, n, ks, l, m, hc, h1, h2, f1, f2 => by
    unfold chkF at hc
    split at hc
    · rename_i dd i hu hi
      split at hc
      · rename_i k ks' hk hks
        split at hc
        · rename_i hcond
          simp only [Option.some.injEq] at hc
          subst hc
          cases l with
          | nil => cases k <;> simp [fits] at f1
          | cons u l =>
            cases m with
            | nil => cases k <;> simp [fits] at f2
            | cons v m =>
              have g1 : r1[n]? = some u := by
                have := congrArg (fun z : List Value => z[0]?) h1
                simpa using this
              have g2 : r2[n]? = some v := by
                have := congrArg (fun z : List Value => z[0]?) h2
                simpa using this
              have d1 : r1.toList.drop (n + 1) = l := by rw [← List.drop_drop, h1]; rfl
              have d2 : r2.toList.drop (n + 1) = m := by rw [← List.drop_drop, h2]; rfl
              unfold Op.eqFields
              rw [if_pos hcond.1]
              simp only [Sem.run_bind, hcond.2.1, run_part1 hu hi hk hcond.2.2 g1, run_part1 hu hi hk hcond.2.2 g2, Result.andThen_ok]
              have key : ∀ b : Bool, (Op.equalIn (d + 1) f.type u v).run P w = .ok b w → eqRow (u :: l) (v :: m) = (b && eqRow l m) → (fits ks' l = true ∧ fits ks' m = true) → ((Op.equalIn (d + 1) f.type u v).run P w).andThen (fun r w' => (if (!r) = true then pure false else Op.eqFields (d + 1) r1 r2 fs : Sem Bool).run P w') = .ok (eqRow (u :: l) (v :: m)) w := by
                intro b hb he hf
                rw [hb, he, Result.andThen_ok]
                cases b with
                | false => simp
                | true =>
                  simp only [Bool.not_true, Bool.false_eq_true, if_false, Bool.true_and]
                  exact run_eqFields_row fs (n + 1) ks' l m hks d1 d2 hf.1 hf.2
              cases k with
              | i k =>
                have hdd : dd = .int k := by cases dd <;> simp [kdOf] at hk; rw [hk]
                subst hdd
                cases u <;> simp only [fits, Bool.false_eq_true] at f1
                cases v <;> simp only [fits, Bool.false_eq_true] at f2
                simp only [Bool.and_eq_true, decide_eq_true_eq] at f1 f2
                obtain ⟨rfl, f1⟩ := f1
                obtain ⟨rfl, f2⟩ := f2
                refine key _ (run_equalIn_int w d f.type _ _ _ _ hu) ?_ ⟨f1, f2⟩
                simp only [eqRow]
                congr 1
              | b =>
                have hdd : dd = .bool := by cases dd <;> simp [kdOf] at hk; rfl
                subst hdd
                cases u <;> simp only [fits, Bool.false_eq_true] at f1
                cases v <;> simp only [fits, Bool.false_eq_true] at f2
                refine key _ (run_equalIn_bool' w d f.type _ _ hu) ?_ ⟨f1, f2⟩
                simp only [eqRow]
                congr 1
              | s =>
                have hdd : dd = .string := by cases dd <;> simp [kdOf] at hk; rfl
                subst hdd
                cases u <;> simp only [fits, Bool.false_eq_true] at f1
                cases v <;> simp only [fits, Bool.false_eq_true] at f2
                refine key _ (run_equalIn_string w d f.type _ _ hu) ?_ ⟨f1, f2⟩
                simp only [eqRow, str_beq]
        · cases hc
      · cases hc
    · cases hc
section
variable {P : Program} {fr : List (Nat × Value)} {hp : List It} {ro : List Ro} {T t t' : TypeId} {x y c : Operand} {v u : Value} {F : List It}
theorem run_eq_row {w : World} {ks : List Kd} {r1 r2 : List Value} (h : TEq P t ks) (h1 : fits ks r1 = true) (h2 : fits ks r2 = true) : (Op.equalIn 10000 t (.agg r1.toArray) (.agg r2.toArray)).run P w = .ok (eqRow r1 r2) w ∧ P.eqGuardType P.depth t = false := by
  have h := h.h
  unfold eqB at h
  split at h
  · rename_i fs hu
    split at h
    · rename_i hg
      have hf : P.fieldsOf t = fs := by unfold Program.fieldsOf; rw [hu]
      rw [run_equalIn_struct w 9999 t _ _ (by rw [hf]; exact hu) hg.1, hf]
      exact ⟨run_eqFields_row fs.toList 0 ks r1 r2 h rfl rfl h1 h2, hg.2⟩
    · cases h
  · cases h
theorem pv_eql_a {ks : List Kd} {r1 r2 : List Value} (hx : opd fr x = some (.agg r1.toArray)) (hy : opd fr y = some (.agg r2.toArray)) (h : TEq P t ks) (h1 : fits ks r1 = true) (h2 : fits ks r2 = true) : Pv P ⟨fr, hp, ro⟩ (.binOp .eql t x y t') (.bool (decide (EqRow r1 r2))) := fun N E ac w dst ty pos af g ok => by
  obtain ⟨e1, e2⟩ := run_eq_row (w := w) h h1 h2
  simp only [execOp, ok.h.eval hx, ok.h.eval hy, Sem.run_bind, run_eqGuard_agg w .eql t x y _ _ e2, Result.andThen_ok, run_eql_struct, e1, Sem.run_pure, eqRow_dec]
theorem pv_neq_a {ks : List Kd} {r1 r2 : List Value} (hx : opd fr x = some (.agg r1.toArray)) (hy : opd fr y = some (.agg r2.toArray)) (h : TEq P t ks) (h1 : fits ks r1 = true) (h2 : fits ks r2 = true) : Pv P ⟨fr, hp, ro⟩ (.binOp .neq t x y t') (.bool (decide (¬ EqRow r1 r2))) := fun N E ac w dst ty pos af g ok => by
  obtain ⟨e1, e2⟩ := run_eq_row (w := w) h h1 h2
  simp only [execOp, ok.h.eval hx, ok.h.eval hy, Sem.run_bind, run_eqGuard_agg w .neq t x y _ _ e2, Result.andThen_ok, run_neq_struct, e1, Sem.run_pure, eqRow_dec, decide_not]
end

/-! ## slices that are only read -/
structure SR (R : List Ro) (sz : Nat) (ao : Option Addr) (n c : Nat) (xs : List (List Value)) : Prop where
  len : xs.length = n
  le : n ≤ c
  mx : c ≤ maxLen
  rows : RowsOk sz xs
  at_ : (ao = none ∧ c = 0) ∨ ∃ b o, ao = some ⟨b, o, none⟩ ∧ (0 < n → ⟨b, o, sz, xs⟩ ∈ R)
theorem SR.mono {R R' : List Ro} {sz : Nat} {ao : Option Addr} {n c : Nat} {xs : List (List Value)} (h : SR R sz ao n c xs) (hR : ∀ r ∈ R, r ∈ R') : SR R' sz ao n c xs :=
  ⟨h.len, h.le, h.mx, h.rows, h.at_.imp id (fun ⟨b, o, e, m⟩ => ⟨b, o, e, fun h0 => hR _ (m h0)⟩)⟩
theorem SR.pos {R : List Ro} {sz : Nat} {ao : Option Addr} {n c : Nat} {xs : List (List Value)} (h : SR R sz ao n c xs) (h0 : 0 < n) : ∃ b o, ao = some ⟨b, o, none⟩ ∧ ⟨b, o, sz, xs⟩ ∈ R := by
  rcases h.at_ with ⟨_, h1⟩ | ⟨b, o, e, m⟩
  · have := h.le; omega
  · exact ⟨b, o, e, m h0⟩
theorem SR.nil (R : List Ro) (sz : Nat) : SR R sz none 0 0 [] := ⟨rfl, Nat.le_refl _, Nat.zero_le _, (fun r h => by cases h), .inl ⟨rfl, rfl⟩⟩
theorem SR.cut {R : List Ro} {sz b o n c l h m : Nat} {xs : List (List Value)} (hS : SR R sz (some ⟨b, o, none⟩) n c xs) (hlh : l ≤ h ∧ h ≤ n ∧ h ≤ m ∧ m ≤ c) :
    SR (⟨b, elt o l sz, sz, (xs.take h).drop l⟩ :: R) sz (if m = l then some ⟨b, o, none⟩ else (some (⟨b, o, none⟩ : Addr)).map (·.add (l * sz))) (h - l) (m - l) ((xs.take h).drop l) := by
  refine ⟨by simp [hS.len]; omega, by omega, Nat.le_trans (Nat.sub_le _ _) (Nat.le_trans hlh.2.2.2 hS.mx), fun r hr => hS.rows r (List.mem_of_mem_take (List.mem_of_mem_drop hr)), .inr ?_⟩
  by_cases c1 : m = l
  · exact ⟨b, o, by rw [if_pos c1], fun h0 => by omega⟩
  · exact ⟨b, elt o l sz, by rw [if_neg c1, Option.map_some, Addr.add_lit]; rfl, fun _ => .head _⟩
section
variable {P : Program} {N : Nat} {E : Env} {fr : List (Nat × Value)} {hp F : List It} {ro : List Ro} {T : TypeId} {x y : Operand} {ops : Array Oper} {rest : List Oper} {Kn Kr : St → Prop} {Kx : List (Nat × (St → Prop))} {ty : TypeId} {pos : String} {af : Array Edge}
/-- a cut's value; what is read behind it: wo_ro, wc_ro -/
theorem pv_cut {e sz by_ n c l h m : Nat} {ao : Option Addr} {lo hi mx : Option Operand} (hT : TSl P T e sz by_) (hx : opd fr x = some (.slice ao n c)) (hb : Bnds fr n c lo hi mx l h m) :
    Pv P ⟨fr, hp, ro⟩ (.slice T x lo hi mx) (.slice (if m = l then ao else ao.map (·.add (l * sz))) (h - l) (m - l)) := fun N E a w dst ty pos af g ok => exec_cut ok.h hx hb
theorem Sat.more {B : World} {S T : List Nat} {w : World} {b o sz l h : Nat} {xs : List (List Value)} (hs : Sat B S T hp ro w) (hr : ⟨b, o, sz, xs⟩ ∈ ro) : Sat B S T hp (⟨b, elt o l sz, sz, (xs.take h).drop l⟩ :: ro) w := by
  refine ⟨hs.frm, hs.sat, hs.own, hs.dis, fun r hr' => ?_, fun r hr' => ?_, fun r hr' => ?_⟩
  · rcases List.mem_cons.1 hr' with rfl | hr'
    · exact Ro.cut (hs.rds _ hr)
    · exact hs.rds r hr'
  · rcases List.mem_cons.1 hr' with rfl | hr'
    · exact hs.rod ⟨b, o, sz, xs⟩ hr
    · exact hs.rod r hr'
  · rcases List.mem_cons.1 hr' with rfl | hr'
    · exact hs.rok ⟨b, o, sz, xs⟩ hr
    · exact hs.rok r hr'
theorem wo_ro {b o sz : Nat} {xs : List (List Value)} (l h : Nat) (hr : ⟨b, o, sz, xs⟩ ∈ ro) (hk : WO P N E ops rest ⟨fr, hp, ⟨b, elt o l sz, sz, (xs.take h).drop l⟩ :: ro⟩ Kn) : WO P N E ops rest ⟨fr, hp, ro⟩ Kn := fun Q hQ a w ok => hk Q hQ a w ⟨ok.h, ok.s.more hr⟩
theorem wc_ro {c : Code} {b o sz : Nat} {xs : List (List Value)} (l h : Nat) (hr : ⟨b, o, sz, xs⟩ ∈ ro) (hk : WC P N E c ⟨fr, hp, ⟨b, elt o l sz, sz, (xs.take h).drop l⟩ :: ro⟩ Kn Kx Kr) : WC P N E c ⟨fr, hp, ro⟩ Kn Kx Kr := fun a w ok => hk a w ⟨ok.h, ok.s.more hr⟩
/-- an owned slice is only read from now on -/
theorem Sat.still {B : World} {S T : List Nat} {w : World} {e sz n c : Nat} {ao : Option Addr} {xs : List (List Value)} (hs : Sat B S T hp ro w) (hpm : hp.Perm (.own e sz ao n c xs :: F)) : ∃ R, (R = [] ∨ ∃ r, R = [r]) ∧ SR (R ++ ro) sz ao n c xs ∧ Sat B S T F (R ++ ro) w := by
  have h := hs.perm hpm
  have hO : OwnSat w e sz ao n c xs := h.sat _ (.head _)
  have hF : Sat B S T F ro w := ⟨h.frm, fun x hx => h.sat x (.tail _ hx), fun x hx => h.own x (.tail _ hx), (List.pairwise_cons.1 h.dis).2, h.rds, fun r hr x hx => h.rod r hr x (.tail _ hx), h.rok⟩
  cases ao with
  | none => exact ⟨[], .inl rfl, ⟨hO.len, hO.le, hO.max, hO.rows, .inl ⟨rfl, hO.nil rfl⟩⟩, hF⟩
  | some a =>
    obtain ⟨hsp, cur, hcur, hfit, hseg⟩ := hO.at_ a rfl
    obtain ⟨b, o, s⟩ := a
    simp only at hsp hcur hseg
    subst hsp
    refine ⟨[⟨b, o, sz, xs⟩], .inr ⟨_, rfl⟩, ⟨hO.len, hO.le, hO.max, hO.rows, .inr ⟨b, o, rfl, fun _ => .head _⟩⟩, ⟨hF.frm, hF.sat, hF.own, hF.dis, fun r hr => ?_, fun r hr x hx => ?_, fun r hr => ?_⟩⟩
    · rcases List.mem_cons.1 hr with rfl | hr
      · exact ⟨hO.rows, cur, e, (0, 0), hcur, hseg⟩
      · exact hF.rds r hr
    · rcases List.mem_cons.1 hr with rfl | hr
      · exact fun hx' => (List.pairwise_cons.1 h.dis).1 x hx b rfl hx'
      · exact hF.rod r hr x hx
    · rcases List.mem_cons.1 hr with rfl | hr
      · rcases h.own _ (.head _) b rfl with h1 | h1
        · exact .inl h1
        · exact .inr (.inr h1)
      · exact hF.rok r hr
theorem wo_still {e sz n c : Nat} {ao : Option Addr} {xs : List (List Value)} (hpm : hp.Perm (.own e sz ao n c xs :: F)) (hk : ∀ R, SR (R ++ ro) sz ao n c xs → WO P N E ops rest ⟨fr, F, R ++ ro⟩ Kn) : WO P N E ops rest ⟨fr, hp, ro⟩ Kn := fun Q hQ a w ok => by
  obtain ⟨R, _, h1, h2⟩ := ok.s.still hpm
  exact hk R h1 Q hQ a w ⟨ok.h, h2⟩
theorem wc_still {cd : Code} {e sz n c : Nat} {ao : Option Addr} {xs : List (List Value)} (hpm : hp.Perm (.own e sz ao n c xs :: F)) (hk : ∀ R, SR (R ++ ro) sz ao n c xs → WC P N E cd ⟨fr, F, R ++ ro⟩ Kn Kx Kr) : WC P N E cd ⟨fr, hp, ro⟩ Kn Kx Kr := fun a w ok => by
  obtain ⟨R, _, h1, h2⟩ := ok.s.still hpm
  exact hk R h1 a w ⟨ok.h, h2⟩
/-- append of a slice that is only read -/
theorem app_sr_run {w : World} {t e sz by_ n c m c2 : Nat} {ao ao2 : Option Addr} {xs ys : List (List Value)} [TSl P t e sz by_] (hS : OwnSat w e sz ao n c xs) (hr : SR ro sz ao2 m c2 ys) (hrd : ∀ r ∈ ro, r.sat w) (b1 : n + m ≤ maxLen) (b2 : (n + m) * by_ ≤ 140737488355328) :
    ∃ ao' c' w', (Builtin.append_ #[t, t] ty #[.slice ao n c, .slice ao2 m c2]).run P w = .ok (.slice ao' (n + m) c') w' ∧ OwnSat w' e sz ao' (n + m) c' (xs ++ ys) ∧ Frm (feet [It.own e sz ao n c xs]) w w' ∧
      (∀ b, (It.own e sz ao' (n + m) c' (xs ++ ys)).foot = some b → b ∈ feet [It.own e sz ao n c xs] ∨ w.heap.size ≤ b) := by
  rcases hr.at_ with ⟨rfl, h0⟩ | ⟨b, o, rfl, hm⟩
  · obtain ⟨i, z, h1, h2, h3, h4, h5, h6, h7⟩ := sl_und (TSl.h (P := P) (T := t))
    have hle := hr.le
    have hm0 : m = 0 := by omega
    subst hm0
    obtain rfl : ys = [] := List.eq_nil_of_length_eq_zero hr.len
    refine ⟨ao, c, w, ?_, by simpa using hS, Frm.refl _ _, fun b hb => .inl (mem_feet.2 ⟨_, .head _, by simpa using hb⟩)⟩
    have hn0 : n + 0 ≤ c := by have := hS.le; omega
    cases ao <;> simp [Builtin.append_, run_underlying h1, sizeOf, typeInfo, h2, Builtin.lenOf, hn0, Builtin.firstCells, storeCells, go_sem] <;> (have := hS.le; omega)
  · have hc : ∀ j u, ys.flatten[j]? = some u → w.cell? ((⟨b, o, none⟩ : Addr).add j) = some u := fun j u hj => by
      by_cases h0 : 0 < m
      · obtain ⟨hro, cur, tt, fz, hcur, hseg⟩ := hrd _ (hm h0)
        simp only at hcur hseg
        rw [Addr.add_lit]; simp only [World.cell?, hcur]; exact hseg j u hj
      · obtain rfl : ys = [] := List.eq_nil_of_length_eq_zero (by rw [hr.len]; omega)
        simp at hj
    obtain ⟨ao', c', w', h1, h2, h3, h4, h5⟩ := run_append_sl (P := P) (t := t) (ty := ty) (ad := ⟨b, o, none⟩) (c2 := c2) hS hr.rows hr.len hc b1 b2
    exact ⟨ao', c', w', h1, h2, h3, h4⟩
theorem wo_app_sr {d t e sz by_ n c m c2 : Nat} {ao ao2 : Option Addr} {xs ys : List (List Value)} [TSl P t e sz by_] (hx : opd fr x = some (.slice ao n c)) (hy : opd fr y = some (.slice ao2 m c2))
    (hs : hp.Perm (.own e sz ao n c xs :: F)) (hr : SR ro sz ao2 m c2 ys) (b1 : n + m ≤ maxLen) (b2 : (n + m) * by_ ≤ 140737488355328) (hd : Nat.ble (d + 1) N = true)
    (h : ∀ ao' c', WO P N E ops rest ⟨(d, .slice ao' (n + m) c') :: fr, .own e sz ao' (n + m) c' (xs ++ ys) :: F, ro⟩ Kn) : WO P N E ops (⟨some d, .call ⟨.builtin .append, #[x, y], #[t, t]⟩, ty, pos, af, none⟩ :: rest) ⟨fr, hp, ro⟩ Kn :=
  wo_eff (L := [_]) hs hd fun a w ok => by
    obtain ⟨ao', c', w', h1, h2, h3, h4⟩ := app_sr_run (P := P) (t := t) (ty := ty) (ok.s.get hs) hr ok.s.rds b1 b2
    exact ⟨_, [.own e sz ao' (n + m) c' (xs ++ ys)], w', exec_append (ok.h.eval hx) (ok.h.eval hy) h1, Sat.regrow h3 h2 h4, by simpa [putF] using h ao' c'⟩
/-- append to a slice that is only read and full: a block of its own -/
theorem app_full_run {w : World} {t e sz by_ n m c2 b2 o2 : Nat} {ao : Option Addr} {xs ys : List (List Value)} [TSl P t e sz by_] (hr : SR ro sz ao n n xs) (hrd : ∀ r ∈ ro, r.sat w) (hS : OwnSat w e sz (some ⟨b2, o2, none⟩) m c2 ys) (h0 : 0 < m) (hb1 : n + m ≤ maxLen) (hb2 : (n + m) * by_ ≤ 140737488355328) :
    ∃ ao' c' w', (Builtin.append_ #[t, t] ty #[.slice ao n n, .slice (some ⟨b2, o2, none⟩) m c2]).run P w = .ok (.slice ao' (n + m) c') w' ∧ (It.own e sz ao' (n + m) c' (xs ++ ys)).sat w' ∧ Frm [] w w' ∧ ∀ b, (It.own e sz ao' (n + m) c' (xs ++ ys)).foot = some b → w.heap.size ≤ b := by
  obtain ⟨_, cur2, hcur2, _, hseg2⟩ := hS.at_ _ rfl
  simp only at hcur2 hseg2
  have hny : ∀ j u, ys.flatten[j]? = some u → w.cell? ((⟨b2, o2, none⟩ : Addr).add j) = some u := fun j u hj => by
    rw [Addr.add_lit]; simp only [World.cell?, hcur2]; exact hseg2 j u hj
  obtain ⟨i, z, h1, h2, h3, h4, h5, h6, h7⟩ := sl_und (TSl.h (P := P) (T := t))
  have hxl : xs.flatten.length = n * sz := by rw [flat_len hr.rows.lens, hr.len]
  have hyl : ys.flatten.length = m * sz := by rw [flat_len hS.rows.lens, hS.len]
  have hone : ∀ u ∈ ys.flatten, u.oneCell' = true := fun u hu => by
    obtain ⟨r, hr, hu⟩ := List.mem_flatten.1 hu
    exact (hS.rows r hr).2 u hu
  have hrows : RowsOk sz (xs ++ ys) := fun r hr' => by
    rcases List.mem_append.1 hr' with hr' | hr'
    · exact hr.rows r hr'
    · exact hS.rows r hr'
  have hlen : (xs ++ ys).length = n + m := by simp [hr.len, hS.len]
  obtain ⟨v', w', hrun, hO, hg⟩ : ∃ v' w', (Builtin.append_ #[t, t] ty #[.slice ao n n, .slice (some ⟨b2, o2, none⟩) m c2]).run P w = .ok v' w' ∧ w'.ownsRow w.heap.size e sz v' (n + m) (xs.flatten ++ ys.flatten) ∧ w.grownBy w' none := by
    rcases hr.at_ with ⟨rfl, hn0⟩ | ⟨b, o, rfl, hm⟩
    · subst hn0
      obtain rfl : xs = [] := List.eq_nil_of_length_eq_zero hr.len
      obtain ⟨v', w', hr, ho, hg, _⟩ := run_append_own (P := P) w w.heap.size t ty e i z sz by_ h1 h2 h3 h5 h6 h4 h7 (.slice none 0 0) 0 [] (World.ownsRow_nil w _ e sz) ⟨b2, o2, none⟩ m c2 ys.flatten hyl hny hone hb1 hb2 (Nat.le_refl _)
      exact ⟨v', w', hr, by simpa using ho, hg⟩
    · exact run_append_arg_grows (P := P) w t ty e i z sz by_ h1 h2 h3 h5 h6 h4 h7 ⟨b, o, none⟩ n n xs.flatten hxl (fun j u hj => by
        have hn : 0 < n := by
          rcases Nat.eq_zero_or_pos n with h' | h'
          · obtain rfl : xs = [] := List.eq_nil_of_length_eq_zero (by rw [hr.len]; omega)
            simp at hj
          · exact h'
        obtain ⟨_, cur, tt, fz, hcur, hseg⟩ := hrd _ (hm hn)
        simp only at hcur hseg
        rw [Addr.add_lit]; simp only [World.cell?, hcur]; exact hseg j u hj) ⟨b2, o2, none⟩ m c2 ys.flatten hyl hny (by omega) hb1 hb2
  rw [← List.flatten_append] at hO
  obtain ⟨ao', c', rfl, hO2, hB⟩ := own_of_row hrows hlen hO
  refine ⟨ao', c', w', hrun, hO2, ⟨hg.os, hg.tape, hg.output, hg.size, fun k hk _ => hg.block k hk (by simp)⟩, fun b hb => ?_⟩
  cases ao' with
  | none => cases hb
  | some a =>
    simp only [It.foot, Option.map_some, Option.some.injEq] at hb
    subst hb
    exact (hB a rfl).1
theorem wo_app_full {d t e sz by_ n m c2 b2 o2 : Nat} {ao : Option Addr} {xs ys : List (List Value)} [TSl P t e sz by_] (hx : opd fr x = some (.slice ao n n)) (hy : opd fr y = some (.slice (some ⟨b2, o2, none⟩) m c2))
    (hr : SR ro sz ao n n xs) (hs : hp.Perm (.own e sz (some ⟨b2, o2, none⟩) m c2 ys :: F)) (h0 : 0 < m) (hb1 : n + m ≤ maxLen) (hb2 : (n + m) * by_ ≤ 140737488355328) (hd : Nat.ble (d + 1) N = true)
    (h : ∀ ao' c', WO P N E ops rest ⟨(d, .slice ao' (n + m) c') :: fr, .own e sz ao' (n + m) c' (xs ++ ys) :: hp, ro⟩ Kn) : WO P N E ops (⟨some d, .call ⟨.builtin .append, #[x, y], #[t, t]⟩, ty, pos, af, none⟩ :: rest) ⟨fr, hp, ro⟩ Kn :=
  wo_eff (L := []) (.refl _) hd fun a w ok => by
    obtain ⟨ao', c', w', h1, h2, h3, h4⟩ := app_full_run (P := P) (t := t) (ty := ty) hr ok.s.rds (ok.s.get hs) h0 hb1 hb2
    exact ⟨_, [.own e sz ao' (n + m) c' (xs ++ ys)], w', exec_append (ok.h.eval hx) (ok.h.eval hy) h1, Sat.one h3 h2 (fun b hb => .inr (h4 b hb)), by simpa [putF] using h ao' c'⟩
end
end Go.Proofs.Ytlhlidmhlhodiaa
